/- Proofs about the given program, joined out of the texts E2, E3, E4, E5. -/
import Derived.Test.YtccnemmlkcmceaaGreatDoorHC14
set_option linter.unusedVariables false
set_option linter.unusedSimpArgs false
set_option maxRecDepth 100000
set_option maxHeartbeats 6400000
namespace Go.Proofs.YtccnemmlkcmceaaGreatDoor
open Go.RowKit
def Chain (v:V):List Nat → Nat → Bs → Prop
 | [],id,b=>id = 0 ∧ b = []
 | p :: ps,id,b=>id = p ∧ p ≠ 0 ∧ ∃ nx s b',v.link p = some (nx,s) ∧ b = s ++ b' ∧ Chain v ps nx b'
theorem V.link_pos {v:V} {id:Nat} {n:Nat} {s:Bs} (h:v.link id = some (n,s)):1 ≤ s.length ∧ 1 ≤ id:=by
 have hu:=(V.err_iff v id).1 (V.link_us h)
 unfold V.link at h
 split at h
 ·split at h
  ·rename_i hk
   injection h with h;injection h with h1 h2
   rw [← h2,List.length_drop]
   omega
  ·cases h
 ·cases h
theorem Chain.us {v:V}:∀ {ps:List Nat} {id:Nat} {b:Bs},Chain v ps id b → ∀ p ∈ ps,v.err p = 0 ∧ (v.pg p).kind = 3
 | [],_,_,_,p,hp=>by simp at hp
 | q :: ps,id,b,h,p,hp=>by
  obtain ⟨rfl,_,nx,s,b',hl,rfl,hc⟩:=h
  rcases List.mem_cons.1 hp with rfl | hp
  ·refine ⟨V.link_us hl,?_⟩
   unfold V.link at hl
   split at hl
   ·split at hl
    ·rename_i hk;exact hk.1
    ·cases hl
   ·cases hl
  ·exact hc.us p hp
theorem Chain.same {v v':V}:∀ {ps:List Nat} {id:Nat} {b:Bs},Chain v ps id b → (∀ p ∈ ps,v.err p = 0 → v'.err p = 0 ∧ v'.pg p = v.pg p) → Chain v' ps id b
 | [],_,_,h,_=>h
 | q :: ps,id,b,h,hs=>by
  obtain ⟨rfl,h0,nx,s,b',hl,rfl,hc⟩:=h
  have:=hs id (by simp) (V.link_us hl)
  exact ⟨rfl,h0,nx,s,b',V.link_same this.1 this.2 hl,rfl,hc.same (fun p hp=>hs p (by simp [hp]))⟩
theorem Chain.det {v:V}:∀ {ps ps':List Nat} {id:Nat} {b b':Bs},Chain v ps id b → Chain v ps' id b' → ps = ps' ∧ b = b'
 | [],[],_,_,_,h,h'=>⟨rfl,h.2.trans h'.2.symm⟩
 | [],_ :: _,_,_,_,h,h'=>by obtain ⟨rfl,h0,_⟩:=h';exact absurd h.1 h0
 | _ :: _,[],_,_,_,h,h'=>by obtain ⟨rfl,h0,_⟩:=h;exact absurd h'.1 h0
 | p :: ps,q :: ps',id,b,b',h,h'=>by
  obtain ⟨rfl,h0,nx,s,c,hl,rfl,hc⟩:=h
  obtain ⟨rfl,_,nx',s',c',hl',rfl,hc'⟩:=h'
  rw [hl] at hl'
  injection hl' with e;injection e with e1 e2
  subst e1;subst e2
  obtain ⟨rfl,rfl⟩:=hc.det hc'
  exact ⟨rfl,rfl⟩
theorem Chain.tail {v:V}:∀ {ps:List Nat} {qs:List Nat} {id p:Nat} {b:Bs},Chain v (qs ++ p :: ps) id b → ∃ b',Chain v (p :: ps) p b'
 | ps,[],id,p,b,h=>by obtain ⟨rfl,h⟩:=h;exact ⟨b,rfl,h⟩
 | ps,q :: qs,id,p,b,h=>by
  obtain ⟨rfl,h0,nx,s,b',hl,rfl,hc⟩:=h
  exact hc.tail
theorem Chain.nodup {v:V}:∀ {ps:List Nat} {id:Nat} {b:Bs},Chain v ps id b → ps.Nodup
 | [],_,_,_=>List.nodup_nil
 | p :: ps,id,b,h=>by
  have h':=h
  obtain ⟨rfl,h0,nx,s,b',hl,rfl,hc⟩:=h'
  refine List.nodup_cons.2 ⟨fun hm=>?_,hc.nodup⟩
  obtain ⟨xs,ys,e⟩:=List.append_of_mem hm
  rw [e] at h hc
  obtain ⟨c,h2⟩:=hc.tail
  have:=(h.det h2).1
  have:=congrArg List.length this
  simp at this
  omega
theorem Chain.len {v:V}:∀ {ps:List Nat} {id:Nat} {b:Bs},Chain v ps id b → ps.length ≤ b.length
 | [],_,_,_=>by simp
 | p :: ps,id,b,h=>by
  obtain ⟨rfl,h0,nx,s,b',hl,rfl,hc⟩:=h
  have:=hc.len
  have:=(V.link_pos hl).1
  rw [List.length_append,List.length_cons]
  omega
theorem Chain.val {v:V} (len:Nat):∀ {ps:List Nat} {id:Nat} {b:Bs} (k:Nat) (b0:Bs),Chain v ps id b → b0.length + b.length ≤ len → v.valLoop len (ps.length + k) id b0 = some (b0 ++ b)
 | [],id,b,k,b0,h,hl=>by
  obtain ⟨rfl,rfl⟩:=h
  match k with
  | 0=>simp [V.valLoop]
  | k + 1=>simp [V.valLoop]
 | p :: ps,id,b,k,b0,h,hl=>by
  obtain ⟨rfl,h0,nx,s,b',hk,rfl,hc⟩:=h
  rw [List.length_append] at hl
  rw [show (id :: ps).length + k = (ps.length + k) + 1 from by simp;omega]
  rw [V.valLoop,if_neg (by omega),hk]
  simp only
  rw [hc.val len k (b0 ++ s) (by rw [List.length_append];omega),List.append_assoc]
def CellAt (g:Bool) (v:V) (c:Cell) (P:List Nat) (b:Bs):Prop :=
 (c.over = 0 ∧ P = [] ∧ b = c.val) ∨ (c.over ≠ 0 ∧ Chain v P c.over b ∧ b.length = c.len ∧ (g = true → P.length = (c.len + 495) / 496 ∧ 1 ≤ c.len))
theorem CellAt.same {g:Bool} {v v':V} {c:Cell} {P:List Nat} {b:Bs} (h:CellAt g v c P b) (hs:∀ p ∈ P,v.err p = 0 → v'.err p = 0 ∧ v'.pg p = v.pg p):CellAt g v' c P b:=by
 rcases h with h | ⟨h1,h2,h3⟩
 ·exact .inl h
 ·exact .inr ⟨h1,h2.same hs,h3⟩
theorem CellAt.us {g:Bool} {v:V} {c:Cell} {P:List Nat} {b:Bs} (h:CellAt g v c P b):∀ p ∈ P,v.err p = 0 ∧ (v.pg p).kind = 3:=by
 rcases h with ⟨_,rfl,_⟩ | ⟨_,h2,_⟩
 ·simp
 ·exact h2.us
theorem CellAt.val {g:Bool} {v:V} {c:Cell} {P:List Nat} {b:Bs} (h:CellAt g v c P b):v.value c = some b:=by
 rcases h with ⟨h1,rfl,rfl⟩ | ⟨h1,h2,h3,_⟩
 ·unfold V.value;rw [if_pos h1]
 ·unfold V.value
  rw [if_neg h1]
  have hl:=h2.len
  have:=h2.val c.len (c.len + 2 - P.length) [] (by simp;omega)
  rw [show P.length + (c.len + 2 - P.length) = c.len + 2 from by omega,List.nil_append] at this
  rw [this]
  simp [h3]
theorem nodup_lt (l:List Nat) (n:Nat) (h:l.Nodup) (hb:∀ a ∈ l,1 ≤ a ∧ a < n) (hn:1 ≤ n):l.length < n:=nodup_len n l h hb hn
theorem Chain.drop (cap:Nat):∀ {ps:List Nat} {id:Nat} {b:Bs} (k:Nat) (v:V) (A B:List Nat) (K:Nat → Prop),v.Sane cap → Chain v ps id b → (∀ p ∈ A,v.err p = 0) → (∀ p ∈ ps,p ∈ A) → (∀ p,p ∈ B ↔ p ∈ A ∧ p ∉ ps) →
  ∃ v',V.dropLoop (ps.length + k) id v = (0,v') ∧ Tr K v v' A B ∧ v'.Sane cap ∧ v'.room cap = v.room cap + ps.length ∧ v'.r = v.r ∧ v'.high = v.high
 | [],id,b,k,v,A,B,K,hg,h,hA,hP,hB=>by
  obtain ⟨rfl,rfl⟩:=h
  refine ⟨v,?_,(Tr.refl K v A hA).congr (fun _=>Iff.rfl) (fun p=>by rw [hB p];simp),hg,by simp,rfl,rfl⟩
  cases k <;> simp [V.dropLoop]
 | p :: ps,id,b,k,v,A,B,K,hg,h,hA,hP,hB=>by
  have hnd:=h.nodup
  obtain ⟨rfl,h0,nx,s,b',hl,rfl,hc⟩:=h
  have hu:=V.link_us hl
  have hnd':=List.nodup_cons.1 hnd
  have hid:id ∈ A:=hP id (by simp)
  have hA1:∀ p,p ∈ A.filter (fun p=>p ≠ id) ↔ p ∈ A ∧ p ≠ id:=fun p=>by simp
  have hT:=Tr.drop hu hA hid hA1 K
  have hc':Chain (v.drop id).2 ps nx b':=hc.same (fun p hp he=>by
   have hne:p ≠ id:=fun e=>hnd'.1 (e ▸ hp)
   exact ⟨(V.drop_err hu p).2 ⟨he,hne⟩,V.drop_pg p hne⟩)
  obtain ⟨v',h1,h2,h3,h4,h5,h6⟩:=Chain.drop cap k (v.drop id).2 _ B K (hg.drop id) hc' hT.had (fun p hp=>by
   rw [hA1];exact ⟨hP p (by simp [hp]),fun e=>hnd'.1 (e ▸ hp)⟩) (fun p=>by rw [hB p,hA1];simp [and_assoc])
  refine ⟨v',?_,hT.trans h2,h3,by rw [h4,V.drop_room hu];simp;omega,by rw [h5,V.drop_r],by rw [h6,V.drop_high]⟩
  rw [show (id :: ps).length + k = (ps.length + k) + 1 from by simp;omega,V.dropLoop,if_neg h0,hl]
  simp only
  rw [if_pos (by rw [V.drop_code];exact hu),h1]
theorem CellAt.letGo {g:Bool} {cap:Nat} {v:V} {c:Cell} {P:List Nat} {b:Bs} (h:CellAt g v c P b) (hg:v.Sane cap) (A B:List Nat) (K:Nat → Prop) (hA:∀ p ∈ A,v.err p = 0) (hP:∀ p ∈ P,p ∈ A) (hB:∀ p,p ∈ B ↔ p ∈ A ∧ p ∉ P) :
  (v.letGo c).1 = 0 ∧ Tr K v (v.letGo c).2 A B ∧ (v.letGo c).2.Sane cap ∧ (v.letGo c).2.room cap = v.room cap + P.length ∧ (v.letGo c).2.r = v.r ∧ (v.letGo c).2.high = v.high:=by
 unfold V.letGo
 rcases h with ⟨h1,rfl,_⟩ | ⟨h1,h2,_⟩
 ·have e:V.dropLoop (v.high + 1) c.over v = (0,v):=by rw [h1];simp [V.dropLoop]
  rw [e]
  exact ⟨rfl,(Tr.refl K v A hA).congr (fun _=>Iff.rfl) (fun p=>by rw [hB p];simp),hg,rfl,rfl,rfl⟩
 ·have hl:=nodup_lt P v.high h2.nodup (fun a ha=>by have:=(V.err_iff v a).1 (h2.us a ha).1;exact ⟨this.1,this.2.1⟩) (by obtain ⟨⟨l,hl⟩,_⟩:=hg;exact hl.h1)
  obtain ⟨v',e,h3⟩:=h2.drop cap (v.high + 1 - P.length) v A B K hg hA hP hB
  rw [show P.length + (v.high + 1 - P.length) = v.high + 1 from by omega] at e
  rw [e]
  exact ⟨rfl,h3⟩
theorem link_put {v:V} {id nx:Nat} {s:Bs} (he:v.err id = 0) (hn:nx < 4294967296) (hs:1 ≤ s.length):(v.put id ⟨3,n4 nx ++ s⟩).link id = some (nx,s):=by
 unfold V.link
 rw [if_pos ((V.put_err v id _ (by simp) he id).2 he)]
 simp only [V.put,if_true]
 rw [if_pos ⟨trivial,by rw [List.length_append,n4_len];omega⟩,v4_n4 nx hn]
 simp [n4]
theorem chain_told (cap:Nat) (val:Bs) (K:Nat → Prop):∀ (k next:Nat) (v:V) (ps A:List Nat),v.Sane cap → Chain v ps next (val.drop (k * 496)) → (k ≠ 0 → (k - 1) * 496 < val.length) → next < 65536 → (∀ p ∈ A,v.err p = 0) → (∀ p ∈ ps,p ∈ A) → A.Nodup →
  (chainLoop cap val k next v).2.2.Sane cap ∧ (((chainLoop cap val k next v).2.1 = 7 ∧ v.room cap < k ∧ (∃ C,Tr K v (chainLoop cap val k next v).2.2 A (C ++ A))) ∨
  ((
   chainLoop cap val k next v).2.1 = 0 ∧ ∃ ns,ns.length = k ∧ Chain (chainLoop cap val k next v).2.2 (ns ++ ps) (chainLoop cap val k next v).1 val ∧ Tr K v (chainLoop cap val k next v).2.2 A (ns ++ A) ∧ (ns ++ A).Nodup ∧ (∀ p ∈ ns,v.err p ≠ 0) ∧
   (chainLoop cap val k next v).2.2.room cap + k = v.room cap ∧ (chainLoop cap val k next v).1 < 65536 ∧ (chainLoop cap val k next v).2.2.r = v.r))
 | 0,next,v,ps,A,hg,hc,_,hn,hA,hP,hnd=>by
  rw [chainLoop]
  exact ⟨hg,.inr ⟨rfl,[],rfl,by simpa using hc,Tr.refl K v A hA,by simpa using hnd,by simp,rfl,hn,rfl⟩⟩
 | k + 1,next,v,ps,A,hg,hc,hk,hn,hA,hP,hnd=>by
  have hk':=hk (by omega)
  rw [Nat.add_sub_cancel] at hk'
  have hk2:k ≠ 0 → (k - 1) * 496 < val.length:=fun _=>Nat.lt_of_le_of_lt (Nat.mul_le_mul_right 496 (Nat.sub_le k 1)) hk'
  rcases V.alloc_told hg with ⟨h1,h2,h3⟩ | ⟨h1,h2,h3,h4,h5,h6,h7,h8,_⟩
  ·have e:chainLoop cap val (k + 1) next v = (0,7,v):=by rw [chainLoop,if_neg (by omega),h1,h3]
   rw [e]
   exact ⟨hg,.inl ⟨rfl,by omega,[],Tr.refl K v A hA⟩⟩
  ·have hT:=Tr.alloc hg h1 A hA K
   have hS:=hg.alloc
   generalize hid:(v.alloc cap).1 = id at *
   generalize hv1:(v.alloc cap).2.2 = v1 at *
   have he:v1.err id = 0:=(h7 id).2 (.inr rfl)
   have es:v1.set id 3 (n4 next ++ (val.drop (k * 496)).take 496) = (0,v1.put id ⟨3,n4 next ++ (val.drop (k * 496)).take 496⟩):=V.set_ok he 3 _
   have hbl:(n4 next ++ (val.drop (k * 496)).take 496).length ≤ 500:=by rw [List.length_append,n4_len,List.length_take];omega
   have hS2:(v1.put id ⟨3,n4 next ++ (val.drop (k * 496)).take 496⟩).Sane cap:=by have:=hS.set id 3 _ (by decide) hbl;rw [es] at this;exact this
   obtain ⟨v2,hv2⟩:∃ v2,v2 = v1.put id ⟨3,n4 next ++ (val.drop (k * 496)).take 496⟩:=⟨_,rfl⟩
   have hT2:Tr K v1 v2 (id :: A) (id :: A):=by rw [hv2];exact Tr.put (by simp) he hT.had (by simp) K
   have hT':=hT.trans hT2
   have hidA:id ∉ A:=fun hm=>h2 (hA id hm)
   have hlk:v2.link id = some (next,(val.drop (k * 496)).take 496):=by
    rw [hv2];exact link_put he (by omega) (by rw [List.length_take,List.length_drop];omega)
   have hch:Chain v2 (id :: ps) id (val.drop (k * 496)):=by
    refine ⟨rfl,h5,next,_,val.drop ((k + 1) * 496),hlk,?_,hc.same (fun p hp he'=>?_)⟩
    ·rw [show (k + 1) * 496 = k * 496 + 496 from by omega,← List.drop_drop]
     exact (List.take_append_drop _ _).symm
    ·have hne:p ≠ id:=fun e=>h2 (e ▸ he')
     refine ⟨hT'.had p (by simp [hP p hp]),?_⟩
     have e2:v2.pg p = v1.pg p:=by rw [hv2];simp [V.put,hne]
     rw [e2,h8 p hne]
   have er:chainLoop cap val (k + 1) next v = chainLoop cap val k id v2:=by
    rw [chainLoop,hid,hv1,if_pos h1,es,if_pos rfl,hv2]
   rw [← hv2] at hS2
   have hrm:v2.room cap + 1 = v.room cap:=by
    have:v2.room cap = v1.room cap:=by rw [hv2];rfl
    omega
   have hr2:v2.r = v.r:=by rw [hv2];exact h4
   rw [er]
   obtain ⟨i1,i2⟩:=chain_told cap val K k id v2 (id :: ps) (id :: A) hS2 hch hk2 h6 hT'.had (by
    intro p hp
    rcases List.mem_cons.1 hp with rfl | hp
    ·simp
    ·simp [hP p hp]) (List.nodup_cons.2 ⟨hidA,hnd⟩)
   refine ⟨i1,?_⟩
   rcases i2 with ⟨j1,j2,C,j3⟩ | ⟨j1,ns,j2,j3,j4,j5,j6,j7,j8,j9⟩
   ·exact .inl ⟨j1,by omega,C ++ [id],(hT'.trans j3).congr (fun _=>Iff.rfl) (fun p=>by simp)⟩
   ·refine .inr ⟨j1,ns ++ [id],by simp [j2],by simpa using j3,(hT'.trans j4).congr (fun _=>Iff.rfl) (fun p=>by simp),by simpa using j5,?_,by omega,j8,by rw [j9,hr2]⟩
    intro p hp
    rcases List.mem_append.1 hp with hp | hp
    ·intro h0
     exact j6 p hp ((hT'.us p).2 (by by_cases hpa:p ∈ A;exact .inr (by simp [hpa]);exact .inl ⟨h0,hpa⟩))
    ·have:p = id:=by simpa using hp
     rw [this];exact h2
theorem mkCell_told {cap:Nat} {v:V} (hg:v.Sane cap) (key val:Bs) (hm:may key val = 0) (K:Nat → Prop) (A:List Nat) (hA:∀ p ∈ A,v.err p = 0) (hnd:A.Nodup) :
  (v.mkCell cap key val).2.2.Sane cap ∧ (((v.mkCell cap key val).2.1 = 7 ∧ v.room cap < (val.length + 495) / 496 ∧ (∃ C,Tr K v (v.mkCell cap key val).2.2 A (C ++ A))) ∨
  ((
   v.mkCell cap key val).2.1 = 0 ∧ ∃ ns,ns.length ≤ (val.length + 495) / 496 ∧ CellAt true (v.mkCell cap key val).2.2 (v.mkCell cap key val).1 ns val ∧ Tr K v (v.mkCell cap key val).2.2 A (ns ++ A) ∧ (ns ++ A).Nodup ∧
   (v.mkCell cap key val).2.2.room cap + ns.length = v.room cap ∧ (v.mkCell cap key val).1.key = key ∧ (v.mkCell cap key val).1.ok = true ∧ (v.mkCell cap key val).2.2.r = v.r)):=by
 have hk:1 ≤ key.length ∧ key.length ≤ 140 ∧ val.length ≤ 16384:=by
  unfold may at hm
  split at hm
  ·omega
  ·split at hm
   ·omega
   ·rename_i h1 h2
    have:key.length ≠ 0:=fun e=>h1 (List.length_eq_zero_iff.1 e)
    omega
 unfold V.mkCell
 by_cases hs:3 + key.length + val.length ≤ 160
 ·rw [if_pos hs]
  refine ⟨hg,.inr ⟨rfl,[],by simp,.inl ⟨rfl,rfl,rfl⟩,Tr.refl K v A hA,by simpa using hnd,rfl,rfl,?_,rfl⟩⟩
  simp [Cell.ok,keyOk,Cell.size,hk];omega
 ·rw [if_neg hs]
  have hc0:Chain v [] 0 (val.drop (((val.length - 1) / 496 + 1) * 496)):=⟨rfl,List.drop_eq_nil_of_le (by omega)⟩
  obtain ⟨i1,i2⟩:=chain_told cap val K ((val.length - 1) / 496 + 1) 0 v [] A hg hc0 (fun _=>by rw [Nat.add_sub_cancel];omega) (by omega) hA (by simp) hnd
  have hq:(val.length - 1) / 496 + 1 = (val.length + 495) / 496:=by omega
  unfold V.chain
  rw [hq] at i1 i2 ⊢
  refine ⟨i1,?_⟩
  rcases i2 with ⟨j1,j2,C,j3⟩ | ⟨j1,ns,j2,j3,j4,j5,j6,j7,j8,j9⟩
  ·exact .inl ⟨j1,j2,C,j3⟩
  ·rw [List.append_nil] at j3
   have hpos:(chainLoop cap val ((val.length + 495) / 496) 0 v).1 ≠ 0:=by
    match ns,j2,j3 with
    | [],j2,_=>simp at j2;omega
    | p :: ns,_,j3=>obtain ⟨e,h0,_⟩:=j3;rw [e];exact h0
   refine .inr ⟨j1,ns,by omega,.inr ⟨hpos,j3,rfl,fun _=>⟨j2,by show 1 ≤ val.length;omega⟩⟩,j4,j5,(by rw [j2];exact j7),rfl,?_,j9⟩
   simp only [Cell.ok,if_neg hpos,keyOk,idOk]
   simp [hk]
   omega
abbrev Ent:=Bs × Bs
def CellsAt (g:Bool) (v:V):List Cell → List Nat → List Ent → Prop
 | [],P,E=>P = [] ∧ E = []
 | c :: cs,P,E=>∃ P1 P2 b E2,CellAt g v c P1 b ∧ CellsAt g v cs P2 E2 ∧ P.Perm (P1 ++ P2) ∧ E = (c.key,b) :: E2
def Run (S:Nat → Bs → Bs → List Nat → List Ent → Prop):Bs → List (Nat × Bs) → List Nat → List Ent → Prop
 | _,[],P,E=>P = [] ∧ E = []
 | lo,(k,x) :: l,P,E=>∃ P1 P2 E1 E2,S k lo x P1 E1 ∧ Run S x l P2 E2 ∧ P.Perm (P1 ++ P2) ∧ E = E1 ++ E2
def inS (lo hi k:Bs):Prop:=klt lo k = true ∧ (hi = [] ∨ klt k hi = true)
theorem inS.inB {lo hi k:Bs} (h:inS lo hi k):inB lo hi k = true:=by
 have h1:=klt_asymm h.1
 unfold YtccnemmlkcmceaaGreatDoor.inB
 rw [h1]
 rcases h.2 with rfl | h2
 ·rfl
 ·rw [h2];simp
def Nd.Keys (n:Nd) (lo hi:Bs):Prop:=(∀ c ∈ n.cells,inB lo hi c.key = true) ∧ (∀ k ∈ n.keys,inS lo hi k)
def Min (g rt:Bool) (n:Nd):Prop:=(n.leaf = true → n.cells ≠ [] ∧ (g = true → rt = false → 2 ≤ n.cells.length)) ∧ (n.leaf = false → g = true → n.keys ≠ [])
def LeafB (g:Bool) (v:V) (n:Nd) (Q:List Nat) (E:List Ent):Prop:=n.leaf = true ∧ CellsAt g v n.cells Q E
def BranchB (S:Nat → Bs → Bs → List Nat → List Ent → Prop) (n:Nd) (lo hi:Bs) (Q:List Nat) (E:List Ent):Prop :=
 n.leaf = false ∧ ∃ l:List (Nat × Bs),n.kids = l.map (·.1) ∧ n.keys ++ [hi] = l.map (·.2) ∧ Run S lo l Q E
def Sub (g:Bool) (v:V):Nat → Bool → Nat → Bs → Bs → List Nat → List Ent → Prop
 | 0,rt,id,lo,hi,P,E=>∃ n Q,v.node id = some n ∧ Min g rt n ∧ P.Perm (id :: Q) ∧ n.Keys lo hi ∧ LeafB g v n Q E
 | h + 1,rt,id,lo,hi,P,E=>∃ n Q,v.node id = some n ∧ Min g rt n ∧ P.Perm (id :: Q) ∧ n.Keys lo hi ∧ BranchB (Sub g v h false) n lo hi Q E
def Body (g:Bool) (v:V) (h:Nat) (n:Nd) (lo hi:Bs) (Q:List Nat) (E:List Ent):Prop :=
 n.Keys lo hi ∧ match h with
  | 0=>LeafB g v n Q E
  | h + 1=>BranchB (Sub g v h false) n lo hi Q E
theorem Sub.iff {g:Bool} {v:V} {h:Nat} {rt:Bool} {id:Nat} {lo hi:Bs} {P:List Nat} {E:List Ent} :
  Sub g v h rt id lo hi P E ↔ ∃ n Q,v.node id = some n ∧ Min g rt n ∧ P.Perm (id :: Q) ∧ Body g v h n lo hi Q E:=by
 cases h <;> exact Iff.rfl
def lastB:Bs → List (Nat × Bs) → Bs
 | lo,[]=>lo
 | _,(_,x) :: l=>lastB x l
theorem lastB_eq (lo:Bs) (a:List (Nat × Bs)):lastB lo a = ((a.map (·.2)).getLast?).getD lo:=by
 induction a generalizing lo with
 | nil=>rfl
 | cons p a ih =>
  rw [lastB,ih]
  cases a with
  | nil=>rfl
  | cons q a=>simp [List.getLast?_cons]
section
variable {g:Bool} {v v':V} {S S':Nat → Bs → Bs → List Nat → List Ent → Prop} {lo hi:Bs} {P Q P':List Nat} {E:List Ent}
theorem CellsAt.perm {cs:List Cell} (h:CellsAt g v cs P E) (hp:P'.Perm P):CellsAt g v cs P' E:=by
 cases cs with
 | nil=>obtain ⟨rfl,rfl⟩:=h;exact ⟨hp.eq_nil,rfl⟩
 | cons c cs=>obtain ⟨P1,P2,b,E2,h1,h2,h3,h4⟩:=h;exact ⟨P1,P2,b,E2,h1,h2,hp.trans h3,h4⟩
theorem Run.perm {l:List (Nat × Bs)} (h:Run S lo l P E) (hp:P'.Perm P):Run S lo l P' E:=by
 cases l with
 | nil=>obtain ⟨rfl,rfl⟩:=h;exact ⟨hp.eq_nil,rfl⟩
 | cons c cs=>obtain ⟨P1,P2,b,E2,h1,h2,h3,h4⟩:=h;exact ⟨P1,P2,b,E2,h1,h2,hp.trans h3,h4⟩
theorem Sub.perm {h:Nat} {rt:Bool} {id:Nat} (hh:Sub g v h rt id lo hi P E) (hp:P'.Perm P):Sub g v h rt id lo hi P' E:=by
 rw [Sub.iff] at hh ⊢
 obtain ⟨n,Q,h1,h2,h3,h4⟩:=hh
 exact ⟨n,Q,h1,h2,hp.trans h3,h4⟩
theorem CellsAt.append {a b:List Cell}:CellsAt g v (a ++ b) P E ↔ ∃ P1 P2 E1 E2,CellsAt g v a P1 E1 ∧ CellsAt g v b P2 E2 ∧ P.Perm (P1 ++ P2) ∧ E = E1 ++ E2:=by
 induction a generalizing P E with
 | nil =>
  constructor
  ·intro h;exact ⟨[],P,[],E,⟨rfl,rfl⟩,h,List.Perm.refl _,rfl⟩
  ·rintro ⟨P1,P2,E1,E2,⟨rfl,rfl⟩,h,h3,rfl⟩;exact h.perm h3
 | cons c a ih =>
  constructor
  ·rintro ⟨P1,P2,x,E2,h1,h2,h3,rfl⟩
   obtain ⟨Q1,Q2,F1,F2,k1,k2,k3,rfl⟩:=ih.1 h2
   exact ⟨P1 ++ Q1,Q2,(c.key,x) :: F1,F2,⟨P1,Q1,x,F1,h1,k1,List.Perm.refl _,rfl⟩,k2,by rw [List.append_assoc];exact h3.trans (k3.append_left _),rfl⟩
  ·rintro ⟨P1,P2,E1,E2,⟨Q1,Q2,x,F2,h1,h2,h3,rfl⟩,k2,k3,rfl⟩
   refine ⟨Q1,Q2 ++ P2,x,F2 ++ E2,h1,ih.2 ⟨_,_,_,_,h2,k2,List.Perm.refl _,rfl⟩,?_,rfl⟩
   rw [← List.append_assoc]
   exact k3.trans (h3.append_right _)
theorem Run.append {a b:List (Nat × Bs)}:Run S lo (a ++ b) P E ↔ ∃ P1 P2 E1 E2,Run S lo a P1 E1 ∧ Run S (lastB lo a) b P2 E2 ∧ P.Perm (P1 ++ P2) ∧ E = E1 ++ E2:=by
 induction a generalizing lo P E with
 | nil =>
  constructor
  ·intro h;exact ⟨[],P,[],E,⟨rfl,rfl⟩,h,List.Perm.refl _,rfl⟩
  ·rintro ⟨P1,P2,E1,E2,⟨rfl,rfl⟩,h,h3,rfl⟩;exact h.perm h3
 | cons c a ih =>
  obtain ⟨k,x⟩:=c
  constructor
  ·rintro ⟨P1,P2,F,E2,h1,h2,h3,rfl⟩
   obtain ⟨Q1,Q2,F1,F2,k1,k2,k3,rfl⟩:=ih.1 h2
   exact ⟨P1 ++ Q1,Q2,F ++ F1,F2,⟨P1,Q1,F,F1,h1,k1,List.Perm.refl _,rfl⟩,k2,by rw [List.append_assoc];exact h3.trans (k3.append_left _),by rw [List.append_assoc]⟩
  ·rintro ⟨P1,P2,E1,E2,⟨Q1,Q2,F,F2,h1,h2,h3,rfl⟩,k2,k3,rfl⟩
   refine ⟨Q1,Q2 ++ P2,F,F2 ++ E2,h1,ih.2 ⟨_,_,_,_,h2,k2,List.Perm.refl _,rfl⟩,?_,by rw [List.append_assoc]⟩
   rw [← List.append_assoc]
   exact k3.trans (h3.append_right _)
theorem Run.one {k:Nat} {x:Bs}:Run S lo [(k,x)] P E ↔ ∃ P',S k lo x P' E ∧ P.Perm P':=by
 constructor
 ·rintro ⟨P1,P2,E1,E2,h1,⟨rfl,rfl⟩,h3,rfl⟩
  exact ⟨P1,by simpa using h1,by simpa using h3⟩
 ·rintro ⟨P',h1,h3⟩
  exact ⟨P',[],E,[],h1,⟨rfl,rfl⟩,by simpa using h3,by simp⟩
theorem Run.mono {l:List (Nat × Bs)} (h:Run S lo l P E) (hs:∀ k a b Q F,(∀ p ∈ Q,p ∈ P) → S k a b Q F → S' k a b Q F):Run S' lo l P E:=by
 induction l generalizing lo P E with
 | nil=>exact h
 | cons c l ih =>
  obtain ⟨k,x⟩:=c
  obtain ⟨P1,P2,E1,E2,h1,h2,h3,rfl⟩:=h
  exact ⟨P1,P2,E1,E2,hs _ _ _ _ _ (fun p hp=>h3.mem_iff.2 (by simp [hp])) h1,ih h2 (fun k a b Q F hq=>hs k a b Q F (fun p hp=>h3.mem_iff.2 (by simp [hq p hp]))),h3,rfl⟩
theorem CellsAt.us {cs:List Cell} (h:CellsAt g v cs P E):∀ p ∈ P,v.err p = 0 ∧ (v.pg p).kind = 3:=by
 induction cs generalizing P E with
 | nil=>obtain ⟨rfl,_⟩:=h;simp
 | cons c cs ih =>
  obtain ⟨P1,P2,b,E2,h1,h2,h3,rfl⟩:=h
  intro p hp
  rcases List.mem_append.1 (h3.mem_iff.1 hp) with hp | hp
  ·exact h1.us p hp
  ·exact ih h2 p hp
theorem Run.us {l:List (Nat × Bs)} (h:Run S lo l P E) (hs:∀ k a b Q F,S k a b Q F → ∀ p ∈ Q,v.err p = 0):∀ p ∈ P,v.err p = 0:=by
 induction l generalizing lo P E with
 | nil=>obtain ⟨rfl,_⟩:=h;simp
 | cons c l ih =>
  obtain ⟨k,x⟩:=c
  obtain ⟨P1,P2,E1,E2,h1,h2,h3,rfl⟩:=h
  intro p hp
  rcases List.mem_append.1 (h3.mem_iff.1 hp) with hp | hp
  ·exact hs _ _ _ _ _ h1 p hp
  ·exact ih h2 p hp
theorem Sub.us:∀ {h:Nat} {rt:Bool} {id:Nat} {lo hi:Bs} {P:List Nat} {E:List Ent},Sub g v h rt id lo hi P E → ∀ p ∈ P,v.err p = 0
 | 0,rt,id,lo,hi,P,E,hh,p,hp=>by
  obtain ⟨n,Q,h1,h2,h3,h4,h5⟩:=hh
  rcases List.mem_cons.1 (h3.mem_iff.1 hp) with rfl | hp
  ·exact V.node_us h1
  ·exact (h5.2.us p hp).1
 | h + 1,rt,id,lo,hi,P,E,hh,p,hp=>by
  obtain ⟨n,Q,h1,h2,h3,h4,h5,l,_,_,h6⟩:=hh
  rcases List.mem_cons.1 (h3.mem_iff.1 hp) with rfl | hp
  ·exact V.node_us h1
  ·exact h6.us (fun _ _ _ _ _ hs=>Sub.us hs) p hp
theorem Body.us {h:Nat} {n:Nd} (hh:Body g v h n lo hi P E):∀ p ∈ P,v.err p = 0:=by
 cases h with
 | zero=>exact fun p hp=>(hh.2.2.us p hp).1
 | succ h=>obtain ⟨_,_,l,_,_,h6⟩:=hh;exact h6.us (fun _ _ _ _ _ hs=>Sub.us hs)
theorem CellsAt.same {cs:List Cell} (h:CellsAt g v cs P E) (hs:∀ p ∈ P,v.err p = 0 → v'.err p = 0 ∧ v'.pg p = v.pg p):CellsAt g v' cs P E:=by
 induction cs generalizing P E with
 | nil=>exact h
 | cons c cs ih =>
  obtain ⟨P1,P2,b,E2,h1,h2,h3,rfl⟩:=h
  exact ⟨P1,P2,b,E2,h1.same (fun p hp=>hs p (h3.mem_iff.2 (by simp [hp]))),ih h2 (fun p hp=>hs p (h3.mem_iff.2 (by simp [hp]))),h3,rfl⟩
theorem Sub.same:∀ {h:Nat} {rt:Bool} {id:Nat} {lo hi:Bs} {P:List Nat} {E:List Ent},Sub g v h rt id lo hi P E → (∀ p ∈ P,v.err p = 0 → v'.err p = 0 ∧ v'.pg p = v.pg p) → Sub g v' h rt id lo hi P E
 | 0,rt,id,lo,hi,P,E,hh,hs=>by
  obtain ⟨n,Q,h1,h2,h3,h4,h5⟩:=hh
  have:=hs id (h3.mem_iff.2 (by simp)) (V.node_us h1)
  exact ⟨n,Q,V.node_same this.1 this.2 h1,h2,h3,h4,h5.1,h5.2.same (fun p hp=>hs p (h3.mem_iff.2 (by simp [hp])))⟩
 | h + 1,rt,id,lo,hi,P,E,hh,hs=>by
  obtain ⟨n,Q,h1,h2,h3,h4,h5,l,l1,l2,h6⟩:=hh
  have:=hs id (h3.mem_iff.2 (by simp)) (V.node_us h1)
  exact ⟨n,Q,V.node_same this.1 this.2 h1,h2,h3,h4,h5,l,l1,l2,h6.mono (fun k a b Q' F hq hS=>hS.same (fun p hp=>hs p (h3.mem_iff.2 (by simp [hq p hp]))))⟩
theorem Body.same {h:Nat} {n:Nd} (hh:Body g v h n lo hi P E) (hs:∀ p ∈ P,v.err p = 0 → v'.err p = 0 ∧ v'.pg p = v.pg p):Body g v' h n lo hi P E:=by
 refine ⟨hh.1,?_⟩
 cases h with
 | zero=>exact ⟨hh.2.1,hh.2.2.same hs⟩
 | succ h=>obtain ⟨_,h5,l,l1,l2,h6⟩:=hh;exact ⟨h5,l,l1,l2,h6.mono (fun k a b Q' F hq hS=>hS.same (fun p hp=>hs p (hq p hp)))⟩
end
theorem inB_iff {lo hi k:Bs}:inB lo hi k = true ↔ klt k lo = false ∧ (hi = [] ∨ klt k hi = true):=by
 unfold inB;cases hi <;> simp
theorem inB_full (k:Bs):inB [] [] k = true:=by rw [inB_iff];exact ⟨klt_nil_right k,.inl rfl⟩
abbrev SortedE (E:List Ent):Prop:=E.Pairwise fun a b=>klt a.1 b.1 = true
theorem CellsAt.keys {g:Bool} {v:V} {cs:List Cell} {P:List Nat} {E:List Ent} (h:CellsAt g v cs P E):E.map (·.1) = cs.map Cell.key:=by
 induction cs generalizing P E with
 | nil=>obtain ⟨_,rfl⟩:=h;rfl
 | cons c cs ih=>obtain ⟨P1,P2,b,E2,h1,h2,h3,rfl⟩:=h;simp [ih h2]
theorem CellsAt.len {g:Bool} {v:V} {cs:List Cell} {P:List Nat} {E:List Ent} (h:CellsAt g v cs P E):E.length = cs.length:=by
 have:=congrArg List.length h.keys;simpa using this
theorem SortedE.of {E:List Ent} (h:Sorted (E.map (·.1))):SortedE E:=List.pairwise_map.1 h
def Told2 (lo hi:Bs) (E:List Ent):Prop:=E ≠ [] ∧ (∀ e ∈ E,inB lo hi e.1 = true) ∧ SortedE E
theorem kle_lt {a b c:Bs} (h1:klt b a = false) (h2:klt b c = true):klt a c = true:=kle_trans h1 h2
theorem lt_kle {a b c:Bs} (h1:klt a b = true) (h2:klt c b = false):klt a c = true:=by
 cases h:klt a c
 ·cases h3:klt c a
  ·have:=klt_tri a c h h3;subst this;rw [h1] at h2;cases h2
  ·have:=klt_trans h3 h1;rw [this] at h2;cases h2
 ·rfl
theorem not_klt_of {a b:Bs} (h:klt a b = true):klt b a = false:=klt_asymm h
theorem Run.told {S:Nat → Bs → Bs → List Nat → List Ent → Prop} (hS:∀ k a b Q F,S k a b Q F → Told2 a b F) :
  ∀ {l:List (Nat × Bs)} {lo:Bs} {P:List Nat} {E:List Ent},Run S lo l P E → (∀ x ∈ (l.map (·.2)).dropLast,x ≠ []) → (∀ e ∈ E,inB lo (lastB lo l) e.1 = true) ∧ SortedE E ∧ (l ≠ [] → E ≠ [])
 | [],lo,P,E,h,_=>by obtain ⟨_,rfl⟩:=h;exact ⟨by simp,List.Pairwise.nil,fun h=>absurd rfl h⟩
 | (k,x) :: l,lo,P,E,h,hx=>by
  obtain ⟨P1,P2,E1,E2,h1,h2,h3,rfl⟩:=h
  obtain ⟨a1,a2,a3⟩:=hS _ _ _ _ _ h1
  obtain ⟨b1,b2,b3⟩:=Run.told hS h2 (fun y hy=>hx y (by
   cases l with
   | nil=>simp at hy
   | cons q l=>simp only [List.map_cons] at hy ⊢;rw [List.dropLast_cons_of_ne_nil (by simp)];exact List.mem_cons_of_mem _ hy))
  cases l with
  | nil =>
   obtain ⟨_,rfl⟩:=h2
   simp only [List.append_nil]
   exact ⟨a2,a3,fun _=>a1⟩
  | cons q l =>
   have hxn:x ≠ []:=hx x (by simp only [List.map_cons];rw [List.dropLast_cons_of_ne_nil (by simp)];simp)
   have hE2:=b3 (by simp)
   obtain ⟨e2,E2',rfl⟩:=List.exists_cons_of_ne_nil hE2
   obtain ⟨e1,E1',rfl⟩:=List.exists_cons_of_ne_nil a1
   have c1:=inB_iff.1 (a2 e1 (by simp))
   have c2:=inB_iff.1 (b1 e2 (by simp))
   refine ⟨fun e he=>?_,List.pairwise_append.2 ⟨a3,b2,fun e he f hf=>?_⟩,fun _=>by simp⟩
   ·rw [inB_iff]
    rcases List.mem_append.1 he with he | he
    ·have d:=inB_iff.1 (a2 e he)
     have d2:=d.2.resolve_left hxn
     refine ⟨d.1,?_⟩
     have d3:klt e.1 e2.1 = true:=lt_kle d2 c2.1
     rcases c2.2 with c | c
     ·exact .inl c
     ·exact .inr (klt_trans d3 c)
    ·have d:=inB_iff.1 (b1 e he)
     refine ⟨?_,d.2⟩
     have d1:=c1.2.resolve_left hxn
     exact not_klt_of (kle_lt c1.1 (lt_kle d1 d.1))
   ·have d:=inB_iff.1 (a2 e he)
    have d2:=inB_iff.1 (b1 f hf)
    exact lt_kle (d.2.resolve_left hxn) d2.1
theorem keys_ne {n:Nd} (h:n.ok = true):∀ k ∈ n.keys,k ≠ []:=by
 intro k hk e
 have:=keyOk_len ((Nd.Ok.of h).k k hk)
 rw [e] at this;simp at this
theorem drop_last_keys {n:Nd} {hi:Bs} {l:List (Nat × Bs)} (h2:n.keys ++ [hi] = l.map (·.2)):(l.map (·.2)).dropLast = n.keys:=by
 rw [← h2];simp
theorem last_keys {n:Nd} {hi lo:Bs} {l:List (Nat × Bs)} (h2:n.keys ++ [hi] = l.map (·.2)):lastB lo l = hi:=by
 rw [lastB_eq,← h2];simp
theorem pairs_ne {n:Nd} {hi:Bs} {l:List (Nat × Bs)} (h2:n.keys ++ [hi] = l.map (·.2)):l ≠ []:=by
 rintro rfl;simp at h2
theorem Body.told_leaf {g:Bool} {v:V} {n:Nd} {lo hi:Bs} {P:List Nat} {E:List Ent} (hok:n.ok = true) (hb:Body g v 0 n lo hi P E):(∀ e ∈ E,inB lo hi e.1 = true) ∧ SortedE E:=by
 have hk:=hb.2.2.keys
 refine ⟨fun e he=>?_,SortedE.of (by rw [hk];exact Nd.Ok.sortedC hok)⟩
 have:e.1 ∈ n.cells.map Cell.key:=by rw [← hk];exact List.mem_map.2 ⟨e,he,rfl⟩
 obtain ⟨c,hc,e1⟩:=List.mem_map.1 this
 rw [← e1]
 exact hb.1.1 c hc
theorem Sub.told {g:Bool} {v:V}:∀ {h:Nat} {rt:Bool} {id:Nat} {lo hi:Bs} {P:List Nat} {E:List Ent},Sub g v h rt id lo hi P E → Told2 lo hi E
 | 0,rt,id,lo,hi,P,E,hh=>by
  obtain ⟨n,Q,h1,h2,h3,h4,h5⟩:=hh
  have:=Body.told_leaf (V.node_ok h1) ⟨h4,h5⟩
  refine ⟨?_,this⟩
  rintro rfl
  have:=h5.2.len
  have h6:=(h2.1 h5.1).1
  simp at this
  exact h6 (List.length_eq_zero_iff.1 this.symm)
 | h + 1,rt,id,lo,hi,P,E,hh=>by
  obtain ⟨n,Q,h1,h2,h3,h4,h5,l,l1,l2,h6⟩:=hh
  obtain ⟨r1,r2,r3⟩:=h6.told (fun _ _ _ _ _ hs=>Sub.told hs) (by rw [drop_last_keys l2];exact keys_ne (V.node_ok h1))
  rw [last_keys l2] at r1
  exact ⟨r3 (pairs_ne l2),r1,r2⟩
inductive Hole (g:Bool) (v:V) (root:Nat):List Stp → Nat → Nat → Bool → Bs → Bs → List Nat → List Ent → List Ent → Prop
 | top (h id:Nat):id = v.r root → Hole g v root [] h id true [] [] [] [] []
 | down {ups:List Stp} {h:Nat} {rt:Bool} {lo' hi':Bs} {P':List Nat} {L' R':List Ent} {p:Stp} {id:Nat} {x:Bs} {a b:List (Nat × Bs)} {Pa Pb:List Nat} {Ea Eb:List Ent} {lo:Bs} {P:List Nat} {L R:List Ent} :
   Hole g v root ups (h + 1) p.id rt lo' hi' P' L' R' → v.node p.id = some p.n → Min g rt p.n → p.n.leaf = false → p.n.Keys lo' hi' → p.n.kids = a.map (·.1) ++ id :: b.map (·.1) → p.n.keys ++ [hi'] = a.map (·.2) ++ x :: b.map (·.2) → a.length = p.i →
   Run (Sub g v h false) lo' a Pa Ea → Run (Sub g v h false) x b Pb Eb → P.Perm (p.id :: (P' ++ (Pa ++ Pb))) → L = L' ++ Ea → R = Eb ++ R' → lo = lastB lo' a → Hole g v root (p :: ups) h id false lo x P L R
section
variable {g:Bool} {v v':V} {root:Nat} {ups:List Stp} {h id:Nat} {rt:Bool} {lo hi:Bs} {P Q P':List Nat} {L R E:List Ent}
theorem Hole.us (hh:Hole g v root ups h id rt lo hi P L R):∀ p ∈ P,v.err p = 0:=by
 induction hh with
 | top=>simp
 | down h1 h2 h3 h4 h5 h6 h7 h8 h9 h10 h11 h12 h13 h14 ih =>
  intro p hp
  have:=h11.mem_iff.1 hp
  rcases List.mem_cons.1 this with rfl | hp
  ·exact V.node_us h2
  rcases List.mem_append.1 hp with hp | hp
  ·exact ih p hp
  rcases List.mem_append.1 hp with hp | hp
  ·exact h9.us (fun _ _ _ _ _ hs=>Sub.us hs) p hp
  ·exact h10.us (fun _ _ _ _ _ hs=>Sub.us hs) p hp
theorem Hole.same (hh:Hole g v root ups h id rt lo hi P L R) (hr:v'.r root = v.r root) (hs:∀ p ∈ P,v.err p = 0 → v'.err p = 0 ∧ v'.pg p = v.pg p):Hole g v' root ups h id rt lo hi P L R:=by
 induction hh with
 | top h id e=>exact .top h id (e.trans hr.symm)
 | down h1 h2 h3 h4 h5 h6 h7 h8 h9 h10 h11 h12 h13 h14 ih =>
  have hs':=fun p hp=>hs p (h11.mem_iff.2 hp)
  have k:=hs' _ (by simp) (V.node_us h2)
  exact .down (ih (fun p hp=>hs' p (by simp [hp]))) (V.node_same k.1 k.2 h2) h3 h4 h5 h6 h7 h8
   (h9.mono (fun _ _ _ _ _ hq hS=>hS.same (fun p hp=>hs' p (by simp [hq p hp])))) (h10.mono (fun _ _ _ _ _ hq hS=>hS.same (fun p hp=>hs' p (by simp [hq p hp])))) h11 h12 h13 h14
theorem perm_of_count {l1 l2:List Nat} (h:∀ a,l1.count a = l2.count a):l1.Perm l2:=List.perm_iff_count.2 h
theorem Hole.plug (hh:Hole g v root ups h id rt lo hi P L R) (hs:Sub g v h rt id lo hi Q E):Sub g v (h + ups.length) true (v.r root) [] [] (P ++ Q) (L ++ (E ++ R)):=by
 induction hh generalizing Q E with
 | top h id e=>subst e;simpa using hs
 | @down ups h rt lo' hi' P' L' R' p id x a b Pa Pb Ea Eb lo P L R h1 h2 h3 h4 h5 h6 h7 h8 h9 h10 h11 h12 h13 h14 ih =>
  subst h14
  have hR:Run (Sub g v h false) lo' (a ++ (id,x) :: b) (Pa ++ (Q ++ Pb)) (Ea ++ (E ++ Eb)) :=
   Run.append.2 ⟨_,_,_,_,h9,⟨_,_,_,_,hs,h10,List.Perm.refl _,rfl⟩,List.Perm.refl _,rfl⟩
  have:=ih (Q:=p.id :: (Pa ++ (Q ++ Pb))) (E:=Ea ++ (E ++ Eb)) ⟨p.n,_,h2,h3,List.Perm.refl _,h5,h4,a ++ (id,x) :: b,by simp [h6],by simp [h7],hR⟩
  subst h12;subst h13
  have e:h + 1 + ups.length = h + (p :: ups).length:=by simp;omega
  rw [e] at this
  have e2:L' ++ (Ea ++ (E ++ Eb) ++ R') = L' ++ Ea ++ (E ++ (Eb ++ R')):=by simp
  rw [e2] at this
  refine this.perm (perm_of_count fun z=>?_)
  have:=h11.count_eq z
  simp [List.count_cons] at this ⊢
  omega
end
theorem split_keys {ks A B:List Bs} {hi x:Bs} (h:ks ++ [hi] = A ++ x :: B):ks = A ++ (x :: B).dropLast ∧ (B ≠ [] → x ∈ ks) ∧ (B = [] → x = hi) ∧ ∀ y ∈ A,y ∈ ks:=by
 have h1:ks = A ++ (x :: B).dropLast:=by
  have:=congrArg List.dropLast h
  rw [List.dropLast_concat,List.dropLast_append_of_ne_nil (by simp)] at this
  exact this
 refine ⟨h1,fun hB=>?_,fun hB=>?_,fun y hy=>by rw [h1];exact List.mem_append_left _ hy⟩
 ·rw [h1,List.dropLast_cons_of_ne_nil hB];simp
 ·subst hB
  have:=congrArg List.getLast? h
  simpa using this.symm
theorem lastB_mem {lo:Bs} {a:List (Nat × Bs)} (h:a ≠ []):lastB lo a ∈ a.map (·.2):=by
 rw [lastB_eq]
 obtain ⟨y,hy⟩:∃ y,(a.map (·.2)).getLast? = some y:=by
  cases a with
  | nil=>exact absurd rfl h
  | cons p a=>simp [List.getLast?_cons]
 rw [hy]
 exact List.mem_of_getLast? hy
theorem Hole.out {g:Bool} {v:V} {root:Nat} {ups:List Stp} {h id:Nat} {rt:Bool} {lo hi:Bs} {P:List Nat} {L R:List Ent} (hh:Hole g v root ups h id rt lo hi P L R) :
  (∀ e ∈ L,klt e.1 lo = true) ∧ (∀ e ∈ R,hi ≠ [] ∧ klt e.1 hi = false):=by
 induction hh with
 | top=>simp
 | @down ups h rt lo' hi' P' L' R' p id x a b Pa Pb Ea Eb lo P L R h1 h2 h3 h4 h5 h6 h7 h8 h9 h10 h11 h12 h13 h14 ih =>
  subst h12;subst h13;subst h14
  obtain ⟨k1,k2,k3,k4⟩:=split_keys h7
  have hne:=keys_ne (V.node_ok h2)
  have hT:∀ k a b Q F,Sub g v h false k a b Q F → Told2 a b F:=fun _ _ _ _ _ hs=>Sub.told hs
  have ta:=Run.told hT h9 (fun y hy=>hne y (k4 y (List.dropLast_sublist _ |>.subset hy)))
  have tb:=Run.told hT h10 (fun y hy=>hne y (by
   rw [k1]
   refine List.mem_append_right _ ?_
   cases b with
   | nil=>simp at hy
   | cons q b=>rw [List.map_cons,List.dropLast_cons_of_ne_nil (by simp)];exact List.mem_cons_of_mem _ hy))
  have hlo:a = [] ∨ lastB lo' a ∈ p.n.keys:=by
   by_cases ha:a = []
   ·exact .inl ha
   ·exact .inr (k4 _ (lastB_mem ha))
  refine ⟨fun e he=>?_,fun e he=>?_⟩
  ·rcases List.mem_append.1 he with he | he
   ·have:=ih.1 e he
    rcases hlo with rfl | hm
    ·exact this
    ·exact lt_kle this (inB_iff.1 (h5.2 _ hm).inB).1
   ·have:=inB_iff.1 (ta.1 e he)
    rcases hlo with rfl | hm
    ·obtain ⟨_,rfl⟩:=h9;simp at he
    ·exact this.2.resolve_left (hne _ hm)
  ·rcases List.mem_append.1 he with he | he
   ·have hb:b ≠ []:=by rintro rfl;obtain ⟨_,rfl⟩:=h10;simp at he
    have hm:=k2 (by simpa using hb)
    exact ⟨hne _ hm,(inB_iff.1 (tb.1 e he)).1⟩
   ·have:=ih.2 e he
    by_cases hb:b = []
    ·rw [k3 (by simp [hb])];exact this
    ·have hm:=k2 (by simpa using hb)
     have hx:=(inB_iff.1 (h5.2 _ hm).inB).2.resolve_left this.1
     refine ⟨hne _ hm,?_⟩
     cases hc:klt e.1 x
     ·rfl
     ·have h1:=klt_trans hc hx;rw [this.2] at h1;cases h1
theorem find_branch {n:Nd} (hl:n.leaf = false) (hs:Sorted n.keys) (key:Bs):∃ A B,n.keys = A ++ B ∧ A.length = (n.find key).1 ∧ (∀ k ∈ A,klt key k = false) ∧ (∀ k ∈ B,klt key k = true):=by
 have hp:=Place.of_sorted hs key
 have e:(n.find key).1 = rank n.keys key + (if n.keys[rank n.keys key]? = some key then 1 else 0):=by unfold Nd.find;simp [hl]
 rw [e]
 generalize rank n.keys key = r at *
 have hlt:∀ k ∈ n.keys.take r,klt k key = true:=by
  intro k hk
  obtain ⟨j,hj⟩:=List.getElem?_of_mem hk
  rw [List.getElem?_take] at hj
  split at hj
  ·rename_i h;rw [hp.at_ j k hj];simpa using h
  ·cases hj
 have hge:∀ k ∈ n.keys.drop r,klt k key = false:=by
  intro k hk
  obtain ⟨j,hj⟩:=List.getElem?_of_mem hk
  rw [List.getElem?_drop] at hj
  rw [hp.at_ _ k hj];simp
 cases hd:n.keys.drop r with
 | nil =>
  have hr:n.keys[r]? = none:=by
   have:=congrArg List.length hd
   rw [List.length_drop] at this
   exact List.getElem?_eq_none (by simp at this;omega)
  refine ⟨n.keys.take r,[],by rw [← hd,List.take_append_drop],?_,fun k hk=>klt_asymm (hlt k hk),by simp⟩
  rw [List.length_take,hr];simp;exact Nat.min_eq_left hp.le
 | cons c B =>
  have hr:n.keys[r]? = some c:=by
   have:(n.keys.drop r)[0]? = some c:=by rw [hd];rfl
   simpa using this
  have hn:n.keys = n.keys.take r ++ c :: B:=by rw [← hd,List.take_append_drop]
  have hsd:Sorted (c :: B):=by rw [← hd];exact hs.sublist (List.drop_sublist _ _)
  rw [hd] at hge
  rw [hr]
  by_cases hc:c = key
  ·subst hc
   refine ⟨n.keys.take r ++ [c],B,by simpa using hn,?_,?_,?_⟩
   ·rw [List.length_append,List.length_take];simp;exact Nat.min_eq_left hp.le
   ·intro k hk
    rcases List.mem_append.1 hk with hk | hk
    ·exact klt_asymm (hlt k hk)
    ·have:k = c:=by simpa using hk
     rw [this];exact klt_irrefl c
   ·intro k hk;exact (List.pairwise_cons.1 hsd).1 k hk
  ·refine ⟨n.keys.take r,c :: B,hn,?_,fun k hk=>klt_asymm (hlt k hk),?_⟩
   ·rw [List.length_take];simp [hc];exact Nat.min_eq_left hp.le
   ·intro k hk
    have h1:=hge k hk
    cases h2:klt key k
    ·have h3:=klt_tri k key h1 h2
     subst h3
     rcases List.mem_cons.1 hk with rfl | hk
     ·exact absurd rfl hc
     ·have:=(List.pairwise_cons.1 hsd).1 k hk
      have h4:=hge c (by simp)
      rw [this] at h4;cases h4
    ·rfl
theorem find_leaf {n:Nd} (hl:n.leaf = true) (hs:Sorted (n.cells.map Cell.key)) (key:Bs):∃ A B,n.cells = A ++ B ∧ A.length = (n.find key).1 ∧ (∀ c ∈ A,klt c.key key = true) ∧ (∀ c ∈ B,klt c.key key = false) ∧ ((n.find key).2 = decide (B.head?.map Cell.key = some key)) ∧
  (∀ c ∈ B.tail,klt key c.key = true) ∧ (B.head?.map Cell.key ≠ some key → ∀ c ∈ B,klt key c.key = true):=by
 have hp:=Place.of_sorted hs key
 have e:n.find key = (rank (n.cells.map Cell.key) key,decide ((n.cells[rank (n.cells.map Cell.key) key]?).map Cell.key = some key)):=by unfold Nd.find;simp [hl]
 rw [e]
 generalize rank (n.cells.map Cell.key) key = r at *
 have hle:=hp.le
 rw [List.length_map] at hle
 have hge:∀ c ∈ n.cells.drop r,klt c.key key = false:=by
  intro c hc
  obtain ⟨j,hj⟩:=List.getElem?_of_mem hc
  rw [List.getElem?_drop] at hj
  rw [hp.at_ (r + j) c.key (by rw [List.getElem?_map,hj];rfl)];simp
 have hsd:Sorted ((n.cells.drop r).map Cell.key):=hs.sublist ((List.drop_sublist _ _).map _)
 have htl:∀ c ∈ (n.cells.drop r).tail,klt key c.key = true:=by
  intro c hc
  cases hd:n.cells.drop r with
  | nil=>rw [hd] at hc;simp at hc
  | cons d B =>
   rw [hd] at hc hsd hge
   simp only [List.tail_cons] at hc
   have h1:=(List.pairwise_cons.1 hsd).1 c.key (List.mem_map.2 ⟨c,hc,rfl⟩)
   have h2:=hge d (by simp)
   exact kle_lt h2 h1
 refine ⟨n.cells.take r,n.cells.drop r,(List.take_append_drop _ _).symm,by rw [List.length_take];omega,?_,hge,by rw [List.head?_drop],htl,fun hne c hc=>?_⟩
 ·intro c hc
  obtain ⟨j,hj⟩:=List.getElem?_of_mem hc
  rw [List.getElem?_take] at hj
  split at hj
  ·rename_i h;rw [hp.at_ j c.key (by rw [List.getElem?_map,hj];rfl)];simpa using h
  ·cases hj
 ·cases hd:n.cells.drop r with
  | nil=>rw [hd] at hc;simp at hc
  | cons d B =>
   rw [hd] at hc htl hge hne
   rcases List.mem_cons.1 hc with rfl | hc
   ·have h1:=hge c (by simp)
    cases h2:klt key c.key
    ·have:=klt_tri _ _ h1 h2
     exact absurd (by simp [this]) hne
    ·rfl
   ·exact htl c (by simpa using hc)
theorem pair_split:∀ (l:List (Nat × Bs)) (A B:List Bs),l.map (·.2) = A ++ B → ∃ a b,l = a ++ b ∧ a.map (·.2) = A ∧ b.map (·.2) = B
 | l,[],B,h=>⟨[],l,rfl,rfl,h⟩
 | [],_ :: _,B,h=>by simp at h
 | p :: l,x :: A,B,h=>by
  rw [List.map_cons,List.cons_append] at h
  injection h with h1 h2
  obtain ⟨a,b,rfl,h3,h4⟩:=pair_split l A B h2
  exact ⟨p :: a,b,rfl,by simp [h1,h3],h4⟩
theorem descend {g:Bool} {v:V} {root:Nat} {key:Bs}:∀ (h:Nat) {ups:List Stp} {id:Nat} {rt:Bool} {lo hi:Bs} {P0 P:List Nat} {L R E:List Ent} (fuel:Nat),Hole g v root ups h id rt lo hi P0 L R → Sub g v h rt id lo hi P E → inB lo hi key = true → h < fuel → ups.length + h < 40 →
  ∃ (ups':List Stp) (st:Stp) (rt':Bool) (lo' hi':Bs) (P' Q':List Nat) (L' R' E':List Ent),v.wayLoop key fuel id ups.reverse = some ((st :: ups').reverse) ∧ Hole g v root ups' 0 st.id rt' lo' hi' P' L' R' ∧ v.node st.id = some st.n ∧ Min g rt' st.n ∧ Body g v 0 st.n lo' hi' Q' E' ∧ st.i = (st.n.find key).1 ∧
   inB lo' hi' key = true ∧ (P0 ++ P).Perm (P' ++ st.id :: Q') ∧ L ++ (E ++ R) = L' ++ (E' ++ R') ∧ ups'.length = ups.length + h
 | 0,ups,id,rt,lo,hi,P0,P,L,R,E,fuel + 1,hH,hS,hk,hf,hl=>by
  obtain ⟨n,Q,h1,h2,h3,h4,h5⟩:=hS
  have hu:=(V.err_iff v id).1 (V.node_us h1)
  refine ⟨ups,⟨id,n,(n.find key).1⟩,rt,lo,hi,P0,Q,L,R,E,?_,hH,h1,h2,⟨h4,h5⟩,rfl,hk,h3.append_left _,rfl,rfl⟩
  rw [V.wayLoop,if_neg (by omega),h1]
  simp only
  rw [if_neg (by simp;omega),h5.1]
  simp
 | h + 1,ups,id,rt,lo,hi,P0,P,L,R,E,fuel + 1,hH,hS,hk,hf,hl=>by
  obtain ⟨n,Q,h1,h2,h3,h4,h5,l,l1,l2,h6⟩:=hS
  have hu:=(V.err_iff v id).1 (V.node_us h1)
  obtain ⟨A,B,e1,e2,e3,e4⟩:=find_branch h5 (Nd.Ok.sortedK (V.node_ok h1)) key
  have l2':l.map (·.2) = A ++ (B ++ [hi]):=by rw [← l2,e1,List.append_assoc]
  obtain ⟨a,b',rfl,ha,hb⟩:=pair_split l _ _ l2'
  obtain ⟨⟨kid,x⟩,b,rfl⟩:∃ q b,b' = q :: b:=by cases b' with | nil=>simp at hb | cons q b=>exact ⟨q,b,rfl⟩
  obtain ⟨Pa,P2,Ea,E2,r1,⟨Pk,Pb,Ek,Eb,r2,r3,r4,rfl⟩,r5,rfl⟩:=Run.append.1 h6
  have hal:a.length = (n.find key).1:=by rw [← e2,← ha];simp
  have hkid:n.kids.getD (n.find key).1 0 = kid:=by
   rw [l1,← hal,List.getD_eq_getElem?_getD]
   simp
  have hbk:inB (lastB lo a) x key = true:=by
   rw [inB_iff]
   have hk':=inB_iff.1 hk
   constructor
   ·by_cases h0:a = []
    ·subst h0;exact hk'.1
    ·exact e3 _ (by rw [← ha];exact lastB_mem h0)
   ·cases B with
    | nil =>
     have:x = hi:=by simp at hb;exact hb.1
     rw [this];exact hk'.2
    | cons y B =>
     have:x = y:=by simp at hb;exact hb.1
     rw [this];exact .inr (e4 y (by simp))
  have hH':Hole g v root (⟨id,n,(n.find key).1⟩ :: ups) h kid false (lastB lo a) x (id :: (P0 ++ (Pa ++ Pb))) (L ++ Ea) (Eb ++ R) :=
   .down (p:=⟨id,n,(n.find key).1⟩) hH h1 h2 h5 h4 (by rw [l1];simp) (by rw [l2];simp) hal r1 r3 (List.Perm.refl _) rfl rfl rfl
  obtain ⟨ups',st,rt',lo',hi',P',Q',L',R',E',d1,d2,d3,d4,d5,d6,d7,d8,d9,d10⟩:=descend h fuel hH' r2 hbk (by omega) (by simp;omega)
  refine ⟨ups',st,rt',lo',hi',P',Q',L',R',E',?_,d2,d3,d4,d5,d6,d7,?_,?_,by rw [d10];simp;omega⟩
  ·rw [V.wayLoop,if_neg (by omega),h1]
   simp only
   rw [if_neg (by simp;omega),h5,hkid]
   simpa using d1
  ·refine List.Perm.trans (perm_of_count fun z=>?_) d8
   have q1:=h3.count_eq z
   have q2:=r5.count_eq z
   have q3:=r4.count_eq z
   simp [List.count_cons] at q1 q2 q3 ⊢
   omega
  ·rw [← d9];simp
theorem okC_of (cs:List Cell) (h1:∀ c ∈ cs,c.ok = true) (h2:Sorted (cs.map Cell.key)):∀ k,k ≤ cs.length → okC cs k = true
 | 0,_=>rfl
 | k + 1,hk=>by
  have hc:cs[k]? = some cs[k]:=List.getElem?_eq_getElem (by omega)
  rw [okC,okC_of cs h1 h2 k (by omega),hc]
  simp only [Bool.true_and,Bool.and_eq_true]
  refine ⟨h1 _ (List.getElem_mem _),?_⟩
  match k,hk,hc with
  | 0,_,_=>rfl
  | j + 1,hk,hc =>
   have hd:cs[j]? = some cs[j]:=List.getElem?_eq_getElem (by omega)
   simp only [hd]
   have:=List.pairwise_iff_getElem.1 h2 j (j + 1) (by simp;omega) (by simp;omega) (by omega)
   simpa using this
theorem okK_of (cs:List Bs) (h1:∀ c ∈ cs,keyOk c = true) (h2:Sorted cs):∀ k,k ≤ cs.length → okK cs k = true
 | 0,_=>rfl
 | k + 1,hk=>by
  have hc:cs[k]? = some cs[k]:=List.getElem?_eq_getElem (by omega)
  rw [okK,okK_of cs h1 h2 k (by omega),hc]
  simp only [Bool.true_and,Bool.and_eq_true]
  refine ⟨h1 _ (List.getElem_mem _),?_⟩
  match k,hk,hc with
  | 0,_,_=>rfl
  | j + 1,hk,hc =>
   have hd:cs[j]? = some cs[j]:=List.getElem?_eq_getElem (by omega)
   simp only [hd]
   exact List.pairwise_iff_getElem.1 h2 j (j + 1) (by omega) (by omega) (by omega)
theorem ok_leaf {cs:List Cell} (h0:cs.length ≤ 255) (h1:∀ c ∈ cs,c.ok = true) (h2:Sorted (cs.map Cell.key)):(⟨true,cs,[],[]⟩:Nd).ok = true:=by
 unfold Nd.ok Nd.shape
 simp only [okC_of cs h1 h2 _ (Nat.le_refl _),okK,List.length_nil,List.all_nil]
 simp [h0]
theorem ok_branch {ks:List Bs} {is:List Nat} (h0:ks.length ≤ 255) (h1:∀ c ∈ ks,keyOk c = true) (h2:Sorted ks) (h3:is.length = ks.length + 1) (h4:∀ i ∈ is,idOk i = true):(⟨false,[],ks,is⟩:Nd).ok = true:=by
 unfold Nd.ok Nd.shape
 simp only [okK_of ks h1 h2 _ (Nat.le_refl _),okC,List.length_nil]
 simp [h0,h3]
 exact h4
theorem Nd.eq_leaf {n:Nd} (h:n.ok = true) (hl:n.leaf = true):n = ⟨true,n.cells,[],[]⟩:=by
 have:=(Nd.Ok.of h).lf hl
 obtain ⟨a,b,c,d⟩:=n
 simp at hl this
 rw [hl,this.1,this.2]
theorem Nd.eq_branch {n:Nd} (h:n.ok = true) (hl:n.leaf = false):n = ⟨false,[],n.keys,n.kids⟩:=by
 have:=(Nd.Ok.of h).br hl
 obtain ⟨a,b,c,d⟩:=n
 simp at hl this
 rw [hl,this.1]
theorem size_leaf (cs:List Cell):(⟨true,cs,[],[]⟩:Nd).size = 2 + sumC cs:=by simp [Nd.size,sumK]
theorem size_branch (ks:List Bs) (is:List Nat):(⟨false,[],ks,is⟩:Nd).size = 6 + sumK ks:=by simp [Nd.size,sumC];omega
theorem cell_size {c:Cell} (h:c.ok = true):4 ≤ c.size ∧ c.size ≤ 160:=by
 have hb:=Cell.ok_bounds h
 unfold Cell.ok at h
 split at h
 ·rename_i h0
  simp only [Bool.and_eq_true,decide_eq_true_eq] at h
  refine ⟨?_,h.2⟩
  unfold Cell.size;split <;> omega
 ·rename_i h0
  unfold Cell.size
  rw [if_pos (by omega)]
  omega
theorem sumC_append (a b:List Cell):sumC (a ++ b) = sumC a + sumC b:=by simp [sumC]
theorem sumK_append (a b:List Bs):sumK (a ++ b) = sumK a + sumK b:=by simp [sumK]
theorem sumC_ge (cs:List Cell) (h:∀ c ∈ cs,c.ok = true):4 * cs.length ≤ sumC cs ∧ sumC cs ≤ 160 * cs.length:=by
 induction cs with
 | nil=>simp [sumC]
 | cons c cs ih =>
  have h1:=ih (fun c hc=>h c (by simp [hc]))
  have h2:=cell_size (h c (by simp))
  simp only [sumC,List.map_cons,List.sum_cons,List.length_cons] at *
  omega
theorem sumK_ge (ks:List Bs) (h:∀ c ∈ ks,keyOk c = true):6 * ks.length ≤ sumK ks ∧ sumK ks ≤ 145 * ks.length:=by
 induction ks with
 | nil=>simp [sumK]
 | cons c cs ih =>
  have h1:=ih (fun c hc=>h c (by simp [hc]))
  have h2:=keyOk_len (h c (by simp))
  simp only [sumK,List.map_cons,List.sum_cons,List.length_cons] at *
  omega
theorem halfway (m:Nat):∀ (ws:List Nat) (acc S:Nat),(∀ a ∈ ws,a ≤ m) → 2 * acc ≤ S + m → S + m < 2 * (acc + ws.sum) → ∃ k,k < ws.length ∧ 2 * (acc + (ws.take k).sum) ≤ S + m ∧ S ≤ 2 * (acc + (ws.take k).sum) + m
 | [],acc,S,_,h1,h2=>by simp at h2;omega
 | w :: ws,acc,S,h,h1,h2=>by
  have hw:=h w (by simp)
  by_cases hc:2 * (acc + w) ≤ S + m
  ·obtain ⟨k,k1,k2,k3⟩:=halfway m ws (acc + w) S (fun a ha=>h a (by simp [ha])) hc (by simp at h2;omega)
   exact ⟨k + 1,by simp;exact k1,by simp;omega,by simp;omega⟩
  ·exact ⟨0,by simp,by simp;omega,by simp;omega⟩
theorem bestLoop_told (n:Nd):∀ (f i:Nat) (r:Nat × Nat),(n.bestLoop f i r).2 ≤ r.2 ∧ (∀ j,i ≤ j → j < i + f → (n.bestLoop f i r).2 ≤ n.worse j) ∧ (n.bestLoop f i r = r ∨ ((n.bestLoop f i r).2 = n.worse (n.bestLoop f i r).1 ∧ i ≤ (n.bestLoop f i r).1 ∧ (n.bestLoop f i r).1 < i + f))
 | 0,i,r=>⟨Nat.le_refl _,fun j h1 h2=>by omega,.inl rfl⟩
 | f + 1,i,r=>by
  rw [Nd.bestLoop]
  by_cases hw:n.worse i < r.2
  ·rw [if_pos hw]
   obtain ⟨h1,h2,h3⟩:=bestLoop_told n f (i + 1) (i,n.worse i)
   refine ⟨Nat.le_trans h1 (by simp;omega),fun j j1 j2=>?_,?_⟩
   ·by_cases hj:j = i
    ·subst hj;exact h1
    ·exact h2 j (by omega) (by omega)
   ·right
    rcases h3 with h3 | ⟨h3,h4,h5⟩
    ·rw [h3];exact ⟨rfl,Nat.le_refl _,by simp⟩
    ·exact ⟨h3,by omega,by omega⟩
  ·rw [if_neg hw]
   obtain ⟨h1,h2,h3⟩:=bestLoop_told n f (i + 1) r
   refine ⟨h1,fun j j1 j2=>?_,?_⟩
   ·by_cases hj:j = i
    ·subst hj;omega
    ·exact h2 j (by omega) (by omega)
   ·rcases h3 with h3 | ⟨h3,h4,h5⟩
    ·exact .inl h3
    ·exact .inr ⟨h3,by omega,by omega⟩
theorem best_told (n:Nd) (h:2 + n.gap ≤ n.all) (hw:n.worse 1 < 1073741824):1 ≤ n.best ∧ n.best + n.gap < n.all ∧ ∀ j,1 ≤ j → j + n.gap < n.all → n.worse n.best ≤ n.worse j:=by
 unfold Nd.best
 obtain ⟨h1,h2,h3⟩:=bestLoop_told n (n.all - n.gap - 1) 1 (1,1073741824)
 rcases h3 with h3 | ⟨h3,h4,h5⟩
 ·have:=h2 1 (Nat.le_refl _) (by omega)
  rw [h3] at this
  simp at this
  omega
 ·refine ⟨h4,by omega,fun j j1 j2=>?_⟩
  rw [← h3]
  exact h2 j j1 (by omega)
theorem take_sum (cs:List Cell) (k:Nat):sumC (cs.take k) = ((cs.map Cell.size).take k).sum:=by simp [sumC,List.map_take]
theorem takeK_sum (cs:List Bs) (k:Nat):sumK (cs.take k) = ((cs.map fun k=>5 + k.length).take k).sum:=by simp [sumK,List.map_take]
structure SplitIs (n l r:Nd) (key:Bs):Prop where
 eq:n.split = some (l,r,key)
 lo:l.ok = true
 ro:r.ok = true
 ls:l.size ≤ 500
 rs:r.size ≤ 500
 ll:l.leaf = n.leaf
 rl:r.leaf = n.leaf
 lm:∀ g rt,Min g rt l
 rm:∀ g rt,Min g rt r
 lf:n.leaf = true → n.cells = l.cells ++ r.cells ∧ (∃ c,r.cells.head? = some c ∧ c.key = key)
 br:n.leaf = false → n.keys = l.keys ++ key :: r.keys ∧ n.kids = l.kids ++ r.kids
theorem split_leaf_is {n:Nd} (hok:n.ok = true) (hlf:n.leaf = true) (h1:500 < n.size) (h2:n.size ≤ 804):∃ l r key,SplitIs n l r key:=by
 have hO:=Nd.Ok.of hok
 have hs:=Nd.Ok.sortedC hok
 obtain ⟨cs,hcs⟩:∃ cs,cs = n.cells:=⟨_,rfl⟩
 have hn:=Nd.eq_leaf hok hlf
 have hoc:=hO.c
 have ha1:=hO.a1
 rw [← hcs] at hn hs hoc ha1
 subst hn
 clear hcs hO hlf
 rw [size_leaf] at h1 h2
 have hge:=sumC_ge cs hoc
 have hall:Nd.all ⟨true,cs,[],[]⟩ = cs.length:=rfl
 have hgap:Nd.gap ⟨true,cs,[],[]⟩ = 0:=rfl
 have hw:∀ i,Nd.worse ⟨true,cs,[],[]⟩ i = max (2 + sumC (cs.take i)) (2 + sumC (cs.drop i)):=by
  intro i
  unfold Nd.worse
  rw [hall,hgap]
  simp only [Nd.part,if_true,Nat.sub_zero,List.drop_zero,Nat.add_zero,size_leaf]
  rw [show List.take (cs.length - i) (List.drop i cs) = List.drop i cs from List.take_of_length_le (by simp)]
 have hsum:∀ i,sumC (cs.take i) + sumC (cs.drop i) = sumC cs:=by intro i;rw [← sumC_append,List.take_append_drop]
 obtain ⟨k,k1,k2,k3⟩:=halfway 160 (cs.map Cell.size) 0 (sumC cs) (fun a ha=>by
  obtain ⟨c,hc,rfl⟩:=List.mem_map.1 ha;exact (cell_size (hoc c hc)).2) (by omega) (by simp only [sumC] at *;omega)
 rw [List.length_map] at k1
 simp only [Nat.zero_add,← take_sum] at k2 k3
 have hk0:k ≠ 0:=by rintro rfl;simp [sumC] at k3;simp [sumC] at h1;omega
 have hb:=best_told ⟨true,cs,[],[]⟩ (by rw [hall,hgap];omega) (by rw [hw];have:=hsum 1;omega)
 rw [hall,hgap] at hb
 obtain ⟨b1,b2,b3⟩:=hb
 have hwk:=b3 k (by omega) (by omega)
 rw [hw,hw] at hwk
 generalize hbest:Nd.best ⟨true,cs,[],[]⟩ = b at *
 have s1:=hsum k
 have s2:=hsum b
 have hx1:2 + sumC (cs.take b) ≤ 2 + (sumC cs + 160) / 2:=by omega
 have hx2:2 + sumC (cs.drop b) ≤ 2 + (sumC cs + 160) / 2:=by omega
 have t1:=sumC_ge (cs.take b) (fun c hc=>hoc c (List.mem_of_mem_take hc))
 have t2:=sumC_ge (cs.drop b) (fun c hc=>hoc c (List.mem_of_mem_drop hc))
 rw [List.length_take,Nat.min_eq_left (by omega)] at t1
 rw [List.length_drop] at t2
 clear hwk k3 k2
 have hsp:Nd.split ⟨true,cs,[],[]⟩ = some (⟨true,cs.take b,[],[]⟩,⟨true,cs.drop b,[],[]⟩,(cs.map Cell.key).getD b []):=by
  unfold Nd.split
  rw [if_neg (by rw [hall,hgap,hok];simp only [Bool.true_eq_false,false_or];omega),hbest]
  simp only [Nd.part,Nd.mid,if_true,hall,hgap,Nat.sub_zero,List.drop_zero,Nat.add_zero]
  rw [show List.take (cs.length - b) (List.drop b cs) = List.drop b cs from List.take_of_length_le (by simp)]
 refine ⟨_,_,_,hsp,ok_leaf (by rw [List.length_take];omega) (fun c hc=>hoc c (List.mem_of_mem_take hc)) (hs.sublist ((List.take_sublist _ _).map _)),
  ok_leaf (by rw [List.length_drop];omega) (fun c hc=>hoc c (List.mem_of_mem_drop hc)) (hs.sublist ((List.drop_sublist _ _).map _)),Nat.le_trans (Nat.le_of_eq (size_leaf _)) (by omega),Nat.le_trans (Nat.le_of_eq (size_leaf _)) (by omega),rfl,rfl,?_,?_,fun _=>⟨(List.take_append_drop _ _).symm,?_⟩,(fun h=>by cases h)⟩
 ·intro g rt
  refine ⟨fun _=>⟨?_,fun _ _=>?_⟩,fun h=>by cases h⟩
  ·intro e
   have e':cs.take b = []:=e
   have h9:(cs.take b).length = 0:=by rw [e'];rfl
   rw [List.length_take] at h9;omega
  ·show 2 ≤ (cs.take b).length;rw [List.length_take];omega
 ·intro g rt
  refine ⟨fun _=>⟨?_,fun _ _=>?_⟩,fun h=>by cases h⟩
  ·intro e
   have e':cs.drop b = []:=e
   have h9:(cs.drop b).length = 0:=by rw [e'];rfl
   rw [List.length_drop] at h9;omega
  ·show 2 ≤ (cs.drop b).length;rw [List.length_drop];omega
 ·refine ⟨cs[b],?_,?_⟩
  ·show (cs.drop b).head? = _
   rw [List.head?_drop]
   exact List.getElem?_eq_getElem (by omega)
  ·rw [List.getD_eq_getElem?_getD,List.getElem?_map,List.getElem?_eq_getElem (by omega)];rfl
theorem split_branch_is {n:Nd} (hok:n.ok = true) (hlf:n.leaf = false) (h1:500 < n.size) (h2:n.size ≤ 804):∃ l r key,SplitIs n l r key:=by
 have hO:=Nd.Ok.of hok
 have hs:=Nd.Ok.sortedK hok
 have hn:=Nd.eq_branch hok hlf
 have hok1:=hO.k
 have ha1:=hO.a2
 have hkk:=(hO.br hlf).2
 have hid:=hO.i
 generalize n.keys = ks at *
 generalize n.kids = is at *
 subst hn
 clear hO hlf
 rw [size_branch] at h1 h2
 have hge:=sumK_ge ks hok1
 have hall:Nd.all ⟨false,[],ks,is⟩ = ks.length:=rfl
 have hgap:Nd.gap ⟨false,[],ks,is⟩ = 1:=rfl
 have hw:∀ i,Nd.worse ⟨false,[],ks,is⟩ i = max (6 + sumK (ks.take i)) (6 + sumK (ks.drop (i + 1))):=by
  intro i
  unfold Nd.worse
  rw [hall,hgap]
  simp only [Nd.part,Bool.false_eq_true,if_false,Nat.sub_zero,List.drop_zero,size_branch]
  rw [show List.take (ks.length - (i + 1)) (List.drop (i + 1) ks) = List.drop (i + 1) ks from List.take_of_length_le (by simp)]
 have hsum:∀ i,sumK (ks.take i) + sumK (ks.drop i) = sumK ks:=by intro i;rw [← sumK_append,List.take_append_drop]
 have hstep:∀ i,i < ks.length → sumK (ks.drop i) ≤ sumK (ks.drop (i + 1)) + 145:=by
  intro i hi
  rw [List.drop_eq_getElem_cons hi]
  have:=keyOk_len (hok1 _ (List.getElem_mem hi))
  simp only [sumK,List.map_cons,List.sum_cons]
  omega
 have hle:∀ i,sumK (ks.drop (i + 1)) ≤ sumK (ks.drop i):=by
  intro i
  rcases Nat.lt_or_ge i ks.length with hi | hi
  ·rw [List.drop_eq_getElem_cons hi];simp only [sumK,List.map_cons,List.sum_cons];omega
  ·rw [List.drop_eq_nil_of_le (by omega),List.drop_eq_nil_of_le (by omega)];exact Nat.le_refl _
 obtain ⟨k,k1,k2,k3⟩:=halfway 145 (ks.map fun k=>5 + k.length) 0 (sumK ks) (fun a ha=>by
  obtain ⟨c,hc,rfl⟩:=List.mem_map.1 ha;have:=keyOk_len (hok1 c hc);omega) (by omega) (by simp only [sumK] at *;omega)
 rw [List.length_map] at k1
 simp only [Nat.zero_add,← takeK_sum] at k2 k3
 have hk0:k ≠ 0:=by rintro rfl;simp [sumK] at k3;simp [sumK] at h1;omega
 have s1:=hsum k
 have hk1:k + 1 ≠ ks.length:=by
  intro e
  have:=hstep k k1
  rw [e,List.drop_length] at this
  simp [sumK] at this s1 k2 h1
  omega
 have hb:=best_told ⟨false,[],ks,is⟩ (by rw [hall,hgap];omega) (by rw [hw];have:=hsum 1;have:=hle 1;omega)
 rw [hall,hgap] at hb
 obtain ⟨b1,b2,b3⟩:=hb
 have hwk:=b3 k (by omega) (by omega)
 rw [hw,hw] at hwk
 generalize hbest:Nd.best ⟨false,[],ks,is⟩ = b at *
 have s2:=hsum b
 have l1:=hle k
 have hsp:Nd.split ⟨false,[],ks,is⟩ = some (⟨false,[],ks.take b,is.take (b + 1)⟩,⟨false,[],ks.drop (b + 1),is.drop (b + 1)⟩,ks.getD b []):=by
  unfold Nd.split
  rw [if_neg (by rw [hall,hgap,hok];simp only [Bool.true_eq_false,false_or];omega),hbest]
  simp only [Nd.part,Nd.mid,Bool.false_eq_true,if_false,hall,hgap,Nat.sub_zero,List.drop_zero]
  rw [show List.take (ks.length - (b + 1)) (List.drop (b + 1) ks) = List.drop (b + 1) ks from List.take_of_length_le (by simp),show List.take (ks.length + 1 - (b + 1)) (List.drop (b + 1) is) = List.drop (b + 1) is from List.take_of_length_le (by simp;omega)]
 have hbl:b < ks.length:=by omega
 refine ⟨_,_,_,hsp,ok_branch (by rw [List.length_take];omega) (fun c hc=>hok1 c (List.mem_of_mem_take hc)) (hs.sublist (List.take_sublist _ _)) (by rw [List.length_take,List.length_take];omega) (fun c hc=>hid c (List.mem_of_mem_take hc)),
  ok_branch (by rw [List.length_drop];omega) (fun c hc=>hok1 c (List.mem_of_mem_drop hc)) (hs.sublist (List.drop_sublist _ _)) (by rw [List.length_drop,List.length_drop];omega) (fun c hc=>hid c (List.mem_of_mem_drop hc)),
  by rw [size_branch];omega,by rw [size_branch];omega,rfl,rfl,?_,?_,(fun h=>by cases h),fun _=>⟨?_,(List.take_append_drop _ _).symm⟩⟩
 ·intro g rt
  refine ⟨fun h=>(by cases h),fun _ _ e=>?_⟩
  have e':ks.take b = []:=e
  have h9:(ks.take b).length = 0:=by rw [e'];rfl
  rw [List.length_take] at h9;omega
 ·intro g rt
  refine ⟨fun h=>(by cases h),fun _ _ e=>?_⟩
  have e':ks.drop (b + 1) = []:=e
  have h9:(ks.drop (b + 1)).length = 0:=by rw [e'];rfl
  rw [List.length_drop] at h9;omega
 ·show ks = ks.take b ++ ks.getD b [] :: ks.drop (b + 1)
  rw [List.getD_eq_getElem?_getD,List.getElem?_eq_getElem hbl]
  simp only [Option.getD_some]
  rw [← List.drop_eq_getElem_cons hbl,List.take_append_drop]
theorem split_is {n:Nd} (hok:n.ok = true) (h1:500 < n.size) (h2:n.size ≤ 804):∃ l r key,SplitIs n l r key:=by
 cases hl:n.leaf
 ·exact split_branch_is hok hl h1 h2
 ·exact split_leaf_is hok hl h1 h2
end Go.Proofs.YtccnemmlkcmceaaGreatDoor
