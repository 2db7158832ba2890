/- Proofs about the given program, joined out of the texts C7, LP, BL, LN1. -/
import Derived.Test.YtccnemmlkcmceaaGreatDoorHE32
import Derived.Test.YtccnemmlkcmceaaGreatDoorHE33
import Derived.WalkSmall
set_option linter.unusedVariables false
set_option linter.unusedSimpArgs false
set_option maxRecDepth 100000
set_option maxHeartbeats 6400000
namespace Go.Proofs.YtccnemmlkcmceaaGreatDoor
open Go.RowKit
theorem One.start {s:Sys} {w:World} {p:Nat} (hF:Fresh w s p) (h:p ≤ 4000) (h1:1 ≤ p) (i:Nat):One s.cap v0 i [] [] []:=by
 refine ⟨⟨v0_good,by rw [hF.cap];exact h1,by rw [hF.cap];omega⟩,.inl ⟨rfl,rfl,rfl⟩,by simp,fun p=>?_,by simp⟩
 rw [V.err_iff]
 simp only [List.append_nil,List.not_mem_nil,iff_false]
 intro ⟨h1,h2,_⟩
 have:v0.high = 1:=rfl
 omega
def lg:Nat → Nat
 | 0=>0
 | 1=>0
 | n + 2=>lg ((n + 2) / 2) + 1
structure Live (log N:Nat) (b:Db):Prop where
 fine:b.Fine log
 rb:b.recs = [] → b.bytes = []
 near:b.k.Near (131072 * (N + 1))
 ep:b.epoch ≤ N
 rl:b.recs.length ≤ N
theorem Live.fresh (n log:Nat):Live log 0 (freshDb n):=⟨⟨⟨rfl,rfl⟩,by simp [freshDb]⟩,fun _=>rfl,⟨by simp [freshDb],by simp [freshDb],by simp [freshDb]⟩,Nat.le_refl _,Nat.le_refl _⟩
theorem Db.commit_log (cr:Bs → Nat) (log:Nat) (s:Db) (sp:Bool) (l:List (Nat × Bs)) (m:Mt) (hb:s.recs = [] → s.bytes = []):((s.commit cr log sp l m).2.recs = [] → (s.commit cr log sp l m).2.bytes = []) ∧ (s.commit cr log sp l m).2.recs.length ≤ s.recs.length + 1:=by
 have hkeep:∀ s:Db,(s.recs = [] → s.bytes = []) → ((s.keep cr log l m).2.recs = [] → (s.keep cr log l m).2.bytes = []) ∧ (s.keep cr log l m).2.recs.length ≤ s.recs.length + 1:=by
  intro s hs
  have h1:((s.sync cr (encRec l)).2.recs = [] → (s.sync cr (encRec l)).2.bytes = []) ∧ (s.sync cr (encRec l)).2.recs.length ≤ s.recs.length + 1:=by
   rw [Db.sync_eq]
   split
   ·exact ⟨hs,Nat.le_succ _⟩
   ·exact ⟨fun h=>by simp at h,by simp⟩
  unfold Db.keep
  split
  ·exact h1
  ·exact h1
 unfold Db.commit
 split
 ·exact ⟨hb,Nat.le_succ _⟩
 ·split
  ·exact ⟨hb,Nat.le_succ _⟩
  ·split
   ·exact ⟨hb,Nat.le_succ _⟩
   ·split
    ·obtain ⟨h1,_,_⟩:=Db.settle_log cr s
     have hr:((s.settle cr).2.recs = [] → (s.settle cr).2.bytes = []) ∧ (s.settle cr).2.recs.length ≤ s.recs.length:=by
      rcases h1 with ⟨a,b,_⟩ | ⟨a,b,_⟩
      ·rw [a,b];exact ⟨hb,Nat.le_refl _⟩
      ·rw [a,b];exact ⟨fun _=>rfl,Nat.zero_le _⟩
     split
     ·exact ⟨hr.1,Nat.le_succ_of_le hr.2⟩
     ·have:=hkeep _ hr.1
      exact ⟨this.1,by omega⟩
    ·exact hkeep s hb
theorem Live.commit {log N:Nat} {b:Db} (h:Live log N b) (hlog:2 ≤ log) (hlog2:log ≤ 30000) (cr:Bs → Nat) (sp:Bool) (l:List (Nat × Bs)) (m:Mt) (hl:∀ p ∈ l,p.2.length = 512) (hll:l.length ≤ 10000) :
  (sp = true ∧ b.commit cr log sp l m = (9,b)) ∨ (sp = false ∧ l = [] ∧ b.commit cr log sp l m = (0,b)) ∨ (sp = false ∧ l ≠ [] ∧ b.commit cr log sp l m = (7,b) ∧ ((encRec l).length > 65536 ∨ (encRec l).length + 8 > 64 * (log - 1))) ∨
  (sp = false ∧ l ≠ [] ∧ (b.commit cr log sp l m).1 = 0 ∧ Live log (N + 1) (b.commit cr log sp l m).2 ∧ (b.commit cr log sp l m).2.k.n = b.k.n ∧ (b.commit cr log sp l m).2.m = m ∧ ∀ i,pageOf (b.commit cr log sp l m).2.k.cur log i = pages l (pageOf b.k.cur log) i):=by
 cases sp
 ·by_cases h0:l = []
  ·refine .inr (.inl ⟨rfl,h0,?_⟩)
   unfold Db.commit
   rw [if_neg (by simp),if_pos h0]
  ·have h1:=Db.commit_near (cr:=cr) (log:=log) (sp:=false) (m:=m) h.near hll h.rb
   have h2:=Db.commit_log cr log b false l m h.rb
   rcases Db.commit_live (cr:=cr) (m:=m) h.fine hlog hl h0 h.rb with ⟨c1,c2,c9⟩ | ⟨c1,c2,c3,c4,c5,c6⟩
   ·exact .inr (.inr (.inl ⟨rfl,h0,Prod.ext c1 c2,c9⟩))
   ·exact .inr (.inr (.inr ⟨rfl,h0,c1,⟨c2,h2.1,h1.mono (by omega),by have:=h.ep;omega,by have:=h.rl;have:=h2.2;omega⟩,c3,c4,c6⟩))
 ·refine .inl ⟨rfl,?_⟩
  unfold Db.commit
  rw [if_pos rfl]
theorem Images.none {s:Sys} {v:V} {T:Nat → Nat} {ov:List (Nat × Leaf)} (h:Images s v T ov []):v.marked = false ∧ ∀ i,1 ≤ i → i < v.high → i < s.bh ∧ v.pg i = s.base i:=by
 have h1:imgList (crc T) v ov = []:=h.perm.nil_eq.symm
 unfold imgList at h1
 have h2:=List.append_eq_nil_iff.1 h1
 have h3:ov = []:=List.map_eq_nil_iff.1 h2.1
 subst h3
 refine ⟨?_,fun i a b=>?_⟩
 ·cases hm:v.marked
  ·rfl
  ·rw [hm] at h2;simp at h2
 ·obtain ⟨h4,h5⟩:=h.over.pg i a b
  exact ⟨by simpa using h4,h5⟩
theorem TreeOf.rlt {g:Bool} {v:V} {root:Nat} {P:List Nat} {E:List Ent} (h:TreeOf g v root P E):v.r root < v.high ∨ v.r root = 0:=by
 rcases h with ⟨h0,_,_⟩ | ⟨x,_,hS⟩
 ·exact .inr h0
 ·obtain ⟨n,Q,_,_,hp,_⟩:=Sub.iff.1 hS
  have:=hS.us (v.r root) (hp.mem_iff.2 (by simp))
  exact .inl ((V.err_iff v _).1 this).2.1
theorem One.mt {cap root:Nat} {v:V} {X P:List Nat} {E:List Ent} (h:One cap v root X P E) (hr:∀ i,i ≠ root → v.r i < 65536):v.mt.Ok:=by
 obtain ⟨⟨fr,hfr⟩,h1,h2⟩:=h.sane
 have h3:=hfr.cnt
 have h4:=hfr.lt
 refine ⟨fun i=>?_,by show v.high < _;omega,?_,by show v.cnt < _;omega⟩
 ·show v.r i < _
  by_cases hi:i = root
  ·subst hi
   rcases h.tree.rlt with h5 | h5 <;> omega
  ·have:=hr i hi;omega
 ·show v.free < _
  rw [hfr.hd]
  cases fr with
  | nil=>decide
  | cons a l =>
   have:=(hfr.mem a).2 (by simp)
   show a < _
   omega
end Go.Proofs.YtccnemmlkcmceaaGreatDoor
