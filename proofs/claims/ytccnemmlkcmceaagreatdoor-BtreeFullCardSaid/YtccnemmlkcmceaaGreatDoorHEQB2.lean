/- Proofs about the given program, joined out of the texts SS, FU1, FU2. -/
import Derived.Test.YtccnemmlkcmceaaGreatDoorHEQB1
set_option linter.unusedVariables false
set_option linter.unusedSimpArgs false
set_option maxRecDepth 100000
set_option maxHeartbeats 6400000
namespace Go.Proofs.YtccnemmlkcmceaaGreatDoor
open Go.RowKit
structure Open (w0:World) (s:Sys) (a:Dbp) (Dd Dl:Nat → Prop) (T:Nat → Nat) (N:Nat) (b:Db):Prop where
 ok:s.Ok
 sx:s.x = a.x
 log:a.log = 400
 slog:s.log = 400
 nn:s.nsec = b.k.n
 db:∀ w,s.db w → Half w T → DbAt w Dd Dl a (some ⟨s.t,0,none⟩) false T b
 low:∀ g,Dd g ∨ Dl g ∨ g = a.x → g < s.m
 lt:s.m < s.t
 lv:Live a.log N b
 bh:s.bh = b.m.high
 kept:Kept (crc T) (pageOf b.k.cur a.log) s.bh s.base
 new:∀ g,Dd g ∨ Dl g ∨ g = a.x → w0.heap.size ≤ g
 newF:∀ g,s.F g → w0.heap.size ≤ g
 h1:1 ≤ b.m.high
 cap:400 + b.m.high * 8 ≤ b.k.n
 cnt:b.m.cnt ≤ b.m.high
 lw2:∀ g,g < w0.heap.size → g ≠ 0 → ∀ w w',Ext (On g) w w' → s.db w → s.db w'
structure Closed (w0 w:World) (a:Dbp) (Dd Dl:Nat → Prop) (T:Nat → Nat) (N:Nat) (b:Db) (base:Nat → Leaf):Prop where
 log:a.log = 400
 db:DbAt w Dd Dl a none false T b
 lv:Live a.log N b
 kept:Kept (crc T) (pageOf b.k.cur a.log) b.m.high base
 new:∀ g,Dd g ∨ Dl g ∨ g = a.x → w0.heap.size ≤ g
 h1:1 ≤ b.m.high
 cap:400 + b.m.high * 8 ≤ b.k.n
 cnt:b.m.cnt ≤ b.m.high
section
variable {w0 w w':World} {s:Sys} {a:Dbp} {Dd Dl:Nat → Prop} {T:Nat → Nat} {N:Nat} {b:Db} {v:V} {base:Nat → Leaf}
theorem NewAt.opened {p:Nat} (h:NewAt w0 s p) (hok:s.Ok) (hw:s.db w) (hT:Half w T) (h1:4 ≤ p) (h2:p ≤ 4000):∃ a Dd Dl,Open w0 s a Dd Dl T 0 (freshDb (400 + 8 * p)) ∧ s.d = a.d ∧ s.m < s.t ∧ (freshDb (400 + 8 * p)).m.v s.base = v0:=by
 obtain ⟨kb,d,l,x,t,m,rfl,q1,q2,q3,q4,q5,q6,n1,n2,n3,n4,n5,n6,n7,n8,m1,m2,m3,m4,m5⟩:=h.ex
 have hL:=Live.fresh (400 + 8 * p) 400
 refine ⟨⟨d,kb,x,l,400⟩,(fun g=>g = d ∨ g = kb),(fun g=>g = l),⟨hok,rfl,rfl,rfl,rfl,fun w'' hw'' hT''=>NewDb.at_ hw'' hT'' (by omega) (by omega) (by omega) (by omega),?_,m5,hL,rfl,fun i a1 a2=>?_,?_,?_,Nat.le_refl _,by show 400 + 1 * 8 ≤ 400 + 8 * p;omega,by show 0 ≤ 1;omega,fun g hg _ w1 w2 hx hw1=>NewDb.ext (show NewDb w1 kb d l x (400 + 8 * p) 400 (some ⟨t,0,none⟩) from hw1) hx (fun e=>by have e1:kb = g:=e;omega) (fun e=>by have e1:d = g:=e;omega) (fun e=>by have e1:l = g:=e;omega) (fun e=>by have e1:x = g:=e;omega)⟩,rfl,m5,rfl⟩
 ·intro g hg
  rcases hg with (hg | hg) | hg | hg
  ·rw [hg];exact m2
  ·rw [hg];exact m1
  ·have:g = l:=hg
   rw [this];exact m3
  ·rw [hg];exact m4
 ·have a3:i < 1:=a2
  omega
 ·intro g hg
  rcases hg with (hg | hg) | hg | hg
  ·rw [hg];exact q2
  ·rw [hg];exact q1
  ·have:g = l:=hg
   rw [this];exact q3
  ·rw [hg];exact q4
 ·intro g hg
  rcases hg with hg | hg
  ·rw [hg];exact q5
  ·rw [hg];exact q6
theorem Open.off (h:Open w0 s a Dd Dl T N b) {g:Nat} (hg:Dd g ∨ Dl g ∨ g = a.x):¬ s.F g:=fun hf=>by
 have h1:=h.low g hg
 have h2:=h.lt
 rcases hf with hf | hf
 ·have:g = s.t:=hf
  omega
 ·have:g = s.m:=hf
  omega
theorem Open.ready (h:Open w0 s a Dd Dl T N b) (hN:N ≤ 100) (ht:TxAt w s v) (hT:Half w T) (hg:v.Good) (hk:v.Kd) (hm:v.mt.Ok):Ready w s v Dd Dl a T b:=by
 have hlow:=h.low
 have hlt:=h.lt
 refine ⟨h.ok,ht,h.sx,h.db w ht.db hT,fun e=>?_,fun e=>?_,fun e=>?_,fun e=>?_,fun e=>?_,hg,hk,hm,h.lv.near.mono (by omega),by have:=h.lv.ep;omega,by have:=h.lv.rl;omega,h.lv.fine.bytes,h.lv.rb,?_⟩
 ·have:=hlow _ (.inl e);omega
 ·have:=hlow _ (.inr (.inl e));omega
 ·have:=hlow _ (.inl e);omega
 ·have:=hlow _ (.inr (.inl e));omega
 ·have:=hlow _ (.inr (.inr e));omega
 ·have h1:=ht.h2
  unfold Sys.cap at h1
  have h2:=h.nn
  have h3:=h.slog
  have h4:=h.log
  have h5:=h.ok.ll
  omega
structure Ended (w0 w:World) (s:Sys) (v:V) (a:Dbp) (Dd Dl:Nat → Prop) (T:Nat → Nat) (N:Nat) (b:Db) (e:Ending) (w':World):Prop where
 r:∃ code Dd' Dl' b' base',e = .returned (.int .i64 (code:Int)) ∧ Closed w0 w' a Dd' Dl' T (N + 1) b' base' ∧ (code = 9 → v.spoilt = true) ∧ (v.spoilt = true → code = 9) ∧ (code = 0 ∨ code = 7 ∨ code = 9) ∧
  (code = 7 → 508 < v.high * 4 ∨ 25528 < v.high * 516) ∧
  (code = 0 → b'.m.high = v.high ∧ b'.m.free = v.free ∧ b'.m.cnt = v.cnt ∧ b'.m.r = v.r ∧ ∀ i,1 ≤ i → i < v.high → base' i = v.pg i) ∧ (code ≠ 0 → b' = b ∧ base' = s.base) ∧ b'.k.n = b.k.n ∧ ∀ g,Dd' g ∨ Dl' g → (Dd g ∨ Dl g) ∨ w.heap.size ≤ g
 x:Ext (fun g=>Dd g ∨ Dl g ∨ g = a.x) w w'
 sh:Shut w' s
theorem Live.more (h:Live 400 N b):Live 400 (N + 1) b:=⟨h.fine,h.rb,h.near.mono (by omega),by have:=h.ep;omega,by have:=h.rl;omega⟩
theorem Open.commit (h:Open w0 s a Dd Dl T N b) (hN:N ≤ 100) (ht:TxAt w s v) (hT:Half w T) (hg:v.Good) (hk:v.Kd) (hm:v.mt.Ok) (hst:V.Steps s.cap (b.m.v s.base) v) :
  Calls Tryz.prog 32 #[.pointer (some ⟨s.t,0,none⟩)] w (Ended w0 w s v a Dd Dl T N b):=by
 have hR:=h.ready hN ht hT hg hk hm
 refine (commit_any hR).mono ?_
 rintro e w' ⟨ov,im,hI,he,⟨Dd',Dl',hd',hdb',n1,n2⟩,hx⟩
 have hlog:=h.log
 have hhi:v.high ≤ 8192:=by have h1:=ht.h2;have h2:=h.ok.n2;unfold Sys.cap at h1;omega
 have hmem:=fun p hp=>(hI.mem hg ht.h1 (p:=p) hp)
 have hways:=h.lv.commit (by omega) (by omega) (crc T) v.spoilt im v.mt (fun p hp=>(hmem p hp).2) (by have:=hI.len (by omega);omega)
 obtain ⟨R,hRR⟩:∃ R,R = b.commit (crc T) a.log v.spoilt im v.mt:=⟨_,rfl⟩
 rw [← hRR] at he hd' hdb' hways
 subst he
 have hil:im.length ≤ v.high:=by
  have h1:=sub_len hI.nodup (m:=List.range v.high) (fun x hx=>by
   obtain ⟨p,hp,rfl⟩:=List.mem_map.1 hx
   exact List.mem_range.2 (hmem p hp).1)
  rw [List.length_map,List.length_range] at h1
  exact h1
 have hel:=encRec_len (l:=im) (fun p hp=>(hmem p hp).2)
 have hne10:R.1 ≠ 10:=by
  rcases hways with ⟨_,h1⟩ | ⟨_,_,h1⟩ | ⟨_,_,h1,_⟩ | ⟨_,_,h1,_⟩
  ·rw [h1];simp
  ·rw [h1];simp
  ·rw [h1];simp
  ·rw [h1];simp
 have hdb8:=hdb' hne10
 have hnew:∀ g,Dd' g ∨ Dl' g ∨ g = a.x → w0.heap.size ≤ g:=fun g hg=>by
  have hw0:w0.heap.size ≤ w.heap.size:=by
   have h1:=h.newF s.t (.inl rfl)
   have h2:=ht.tx.lt
   omega
  rcases hg with hg | hg | hg
  ·rcases n1 g hg with h1 | h1
   ·exact h.new g (.inl h1)
   ·omega
  ·rcases n2 g hg with h1 | h1
   ·exact h.new g (.inr (.inl h1))
   ·omega
  ·exact h.new g (.inr (.inr hg))
 have htn:¬ (fun g=>Dd g ∨ Dl g ∨ g = a.x) s.t:=fun hg=>h.off hg (.inl rfl)
 have hsh:Shut w' s:=⟨cell_ext hx ht.c0 htn,by rw [h.sx];exact hdb8.db.cell 10⟩
 have hcapb:400 + v.high * 8 ≤ b.k.n:=by have:=hR.cap;rw [hlog] at this;exact this
 have hsame:Kept (crc T) (pageOf b.k.cur a.log) b.m.high s.base:=by rw [← h.bh];exact h.kept
 have hb1:1 ≤ b.m.high ∧ 400 + b.m.high * 8 ≤ b.k.n ∧ b.m.cnt ≤ b.m.high:=⟨h.h1,h.cap,h.cnt⟩
 have hnn:∀ g,Dd' g ∨ Dl' g → (Dd g ∨ Dl g) ∨ w.heap.size ≤ g:=fun g hg=>by
  rcases hg with hg | hg
  ·rcases n1 g hg with h1 | h1
   ·exact .inl (.inl h1)
   ·exact .inr h1
  ·rcases n2 g hg with h1 | h1
   ·exact .inl (.inr h1)
   ·exact .inr h1
 refine ⟨?_,hx,hsh⟩
 rcases hways with ⟨h1,h2⟩ | ⟨h1,h2,h3⟩ | ⟨h1,h2,h3,h4⟩ | ⟨h1,h2,h3,h4,h5,h6,h7⟩
 ·rw [h2] at hdb8 ⊢
  exact ⟨9,Dd',Dl',b,s.base,rfl,⟨hlog,hdb8,by rw [hlog];exact (hlog ▸ h.lv).more,hsame,hnew,hb1.1,hb1.2.1,hb1.2.2⟩,fun _=>h1,fun _=>rfl,.inr (.inr rfl),by omega,by omega,fun _=>⟨rfl,rfl⟩,rfl,hnn⟩
 ·rw [h3] at hdb8 ⊢
  subst h2
  obtain ⟨m1,m2⟩:=hI.none
  obtain ⟨_,m3,m4,m5,m6⟩:=hst.mark m1
  refine ⟨0,Dd',Dl',b,s.base,rfl,⟨hlog,hdb8,by rw [hlog];exact (hlog ▸ h.lv).more,hsame,hnew,hb1.1,hb1.2.1,hb1.2.2⟩,by omega,fun h=>(by rw [h1] at h;cases h),.inl rfl,by omega,fun _=>⟨m4.symm,m5.symm,m6.symm,m3.symm,fun i a1 a2=>(m2 i a1 a2).2.symm⟩,fun h=>absurd rfl h,rfl,hnn⟩
 ·rw [h3] at hdb8 ⊢
  refine ⟨7,Dd',Dl',b,s.base,rfl,⟨hlog,hdb8,by rw [hlog];exact (hlog ▸ h.lv).more,hsame,hnew,hb1.1,hb1.2.1,hb1.2.2⟩,by omega,fun h=>(by rw [h1] at h;cases h),.inr (.inl rfl),fun _=>?_,by omega,fun _=>⟨rfl,rfl⟩,rfl,hnn⟩
  rw [hel,hlog] at h4
  rcases h4 with h4 | h4
  ·right;omega
  ·right;omega
 ·refine ⟨0,Dd',Dl',R.2,v.pg,by rw [h3];rfl,⟨hlog,hdb8,h4,?_,hnew,?_,?_,?_⟩,by omega,fun h=>(by rw [h1] at h;cases h),.inl rfl,by omega,fun _=>by rw [h6];exact ⟨rfl,rfl,rfl,rfl,fun _ _ _=>rfl⟩,fun h=>absurd rfl h,h5,hnn⟩
  ·have h8:(fun i=>pageOf R.2.k.cur a.log i) = pages im (pageOf b.k.cur a.log):=funext h7
   have h9:pageOf R.2.k.cur a.log = pages im (pageOf b.k.cur a.log):=h8
   rw [h9,h6]
   exact hI.kept hg hk h.kept
  ·rw [h6];exact ht.h1
  ·rw [h6,h5];exact hcapb
  ·rw [h6];exact ht.hc
theorem Closed.begin (h:Closed w0 w a Dd Dl T N b base) (hN:N ≤ 100) :
  Calls Tryz.prog 33 #[.pointer (some ⟨a.x,0,none⟩)] w fun e w'=>∃ s,e = .returned (.tuple #[.pointer (some ⟨s.t,0,none⟩),.int .i64 0]) ∧
   Open w0 s a Dd Dl T N b ∧ TxAt w' s (b.m.v base) ∧ s.base = base ∧ Ext (On a.x) w w' ∧ ∀ g,s.F g → w.heap.size ≤ g:=by
 have hd:=h.lv.down
 have hl:=h.log
 have hc:=h.cap
 have hpd:=h.lv.near.2.2
 refine (begin_db base h.db hd h.h1 (by rw [hl];exact hc) h.cnt).mono ?_
 rintro e w' ⟨he,ht,hx⟩
 have hok:=dbSys_ok (base:=base) (t:=w.heap.size + 1) (m:=w.heap.size) h.db (by omega) (by omega) hd (by omega) (by rw [hl];exact hc) h.kept
 have hw0:w0.heap.size ≤ w.heap.size:=by
  have h1:=h.new a.x (.inr (.inr rfl))
  have h2:=h.db.db.lt
  omega
 refine ⟨dbSys a Dd Dl T b base (w.heap.size + 1) w.heap.size,he,⟨hok,rfl,hl,hl,rfl,fun w'' hw'' _=>hw'',?_,Nat.lt_succ_self _,h.lv,rfl,h.kept,h.new,?_,h.h1,hc,h.cnt,fun g hg h0 w1 w2 hx hw1=>DbAt.ext hw1 hx (fun g' hg' e=>by have e1:g' = g:=e;have:=h.new g' (.inl hg');omega) (fun g' hg' e=>by have e1:g' = g:=e;have:=h.new g' (.inr (.inl hg'));omega) (fun e=>by have e1:a.x = g:=e;have:=h.new a.x (.inr (.inr rfl));omega) (fun e=>h0 (by have e1:0 = g:=e;exact e1.symm))⟩,ht,rfl,hx,?_⟩
 ·intro g hg
  rcases hg with hg | hg | hg
  ·exact h.db.disk.old g hg
  ·exact h.db.wal.old g hg
  ·rw [hg];exact h.db.db.lt
 ·intro g hg
  rcases hg with hg | hg
  ·have:g = w.heap.size + 1:=hg
   omega
  ·have:g = w.heap.size:=hg
   omega
 ·intro g hg
  rcases hg with hg | hg
  ·have:g = w.heap.size + 1:=hg
   omega
  ·have:g = w.heap.size:=hg
   omega
end
section
variable {cap:Nat} {u v:V}
theorem V.alloc_r (u:V) (cap:Nat):(u.alloc cap).2.2.r = u.r:=by
 unfold V.alloc
 split
 ·split <;> rfl
 ·rfl
theorem V.set_r (u:V) (id k:Nat) (b:Bs):(u.set id k b).2.r = u.r:=by
 unfold V.set
 split <;> rfl
theorem V.wr_r (u:V) (id:Nat) (n:Nd):(u.wr id n).2.r = u.r:=by
 unfold V.wr
 split
 ·exact u.set_r _ _ _
 ·rfl
theorem V.fresh_r (u:V) (cap:Nat) (n:Nd):(u.fresh cap n).2.2.r = u.r:=by
 unfold V.fresh
 split
 ·exact (V.wr_r _ _ _).trans (u.alloc_r cap)
 ·exact u.alloc_r cap
theorem chainLoop_r (val:Bs):∀ (k next:Nat) (u:V),(chainLoop cap val k next u).2.2.r = u.r
 | 0,next,u=>rfl
 | k + 1,next,u=>by
  rw [chainLoop]
  split
  ·split
   ·exact (chainLoop_r val k _ _).trans ((V.set_r _ _ _ _).trans (u.alloc_r cap))
   ·exact (V.set_r _ _ _ _).trans (u.alloc_r cap)
  ·exact u.alloc_r cap
theorem V.mkCell_r (u:V) (cap:Nat) (key val:Bs):(u.mkCell cap key val).2.2.r = u.r:=by
 unfold V.mkCell V.chain
 split
 ·rfl
 ·exact chainLoop_r val _ _ _
theorem dropLoop_r:∀ (k id:Nat) (u:V),(V.dropLoop k id u).2.r = u.r
 | 0,id,u=>rfl
 | k + 1,id,u=>by
  rw [V.dropLoop]
  split
  ·rfl
  ·split
   ·rfl
   ·split
    ·exact (dropLoop_r k _ _).trans (u.drop_r id)
    ·exact u.drop_r id
theorem V.letGo_r (u:V) (c:Cell):(u.letGo c).2.r = u.r:=dropLoop_r _ _ _
theorem grow_r (root:Nat):∀ (ws:List Stp) (n:Nd) (u:V),(V.grow cap root ws n u).1 ≠ 0 → (V.grow cap root ws n u).2.r = u.r
 | [],n,u=>fun _=>rfl
 | st :: up,n,u=>by
  rw [V.grow]
  split
  ·exact fun _=>u.wr_r _ n
  ·split
   ·exact fun _=>u.wr_r _ n
   ·split
    ·exact fun _=>(V.wr_r _ _ _).trans (u.wr_r _ n)
    ·split
     ·exact fun _=>(V.fresh_r _ _ _).trans ((V.wr_r _ _ _).trans (u.wr_r _ n))
     ·split
      ·split
       ·exact fun _=>(V.fresh_r _ _ _).trans ((V.fresh_r _ _ _).trans ((V.wr_r _ _ _).trans (u.wr_r _ n)))
       ·exact fun h=>absurd rfl h
      ·exact fun h=>(grow_r root _ _ _ h).trans ((V.fresh_r _ _ _).trans ((V.wr_r _ _ _).trans (u.wr_r _ n)))
theorem V.put0_r {root:Nat} {key val:Bs}:(u.put0 cap root key val).1 ≠ 0 → (u.put0 cap root key val).2.r = u.r:=by
 unfold V.put0
 split
 ·exact fun _=>rfl
 ·split
  ·exact fun _=>u.mkCell_r cap key val
  ·split
   ·split
    ·exact fun _=>(V.fresh_r _ _ _).trans (u.mkCell_r cap key val)
    ·exact fun h=>absurd rfl h
   ·split
    ·exact fun h=>(grow_r root _ _ _ h).trans (u.mkCell_r cap key val)
    ·split
     ·exact fun _=>(V.letGo_r _ _).trans (u.mkCell_r cap key val)
     ·exact fun h=>(grow_r root _ _ _ h).trans ((V.letGo_r _ _).trans (u.mkCell_r cap key val))
theorem V.put0_clean {root:Nat} {key val:Bs}:(u.put0 cap root key val).2.spoilt = u.spoilt:=V.StepsB.clean (V.StepsB.put0 .refl root key val)
end
section
variable {cap root:Nat} {v w:V} {X P:List Nat} {E:List Ent}
theorem One.putAny (h:One cap v root X P E) {key val:Bs} (hm:may key val = 0) (hv:val.length ≤ 2000) (hE:E.length < 100) :
  ((v.Put cap root key val).1 = 0 ∧ (v.Put cap root key val).2.spoilt = v.spoilt ∧ ∃ P',One cap (v.Put cap root key val).2 root X P' (ins key val E) ∧ Tr (· = root) v (v.Put cap root key val).2 P P') ∨
  ((v.Put cap root key val).1 = 7 ∧ v.room cap < 15 ∧ (v.Put cap root key val).2.spoilt = true ∧ (v.Put cap root key val).2.r = v.r):=by
 have hr:=h.room
 have hP:v.Put cap root key val = V.sure (v.put0 cap root key val):=by
  unfold V.Put
  rw [if_neg (by omega)]
 by_cases h0:(v.put0 cap root key val).1 = 0
 ·left
  obtain ⟨P',t1,t2,t3,t4⟩:=put0_tree h.sane h.tree (List.nodup_append.1 h.nodup).1 hm (by omega) h0
  have e:v.Put cap root key val = v.put0 cap root key val:=by
   rw [hP]
   unfold V.sure
   rw [if_pos h0]
  rw [e]
  refine ⟨h0,V.put0_clean,P',⟨t3,t4,?_,?_,?_⟩,t1⟩
  ·refine List.nodup_append.2 ⟨t2,(List.nodup_append.1 h.nodup).2.1,?_⟩
   intro a ha b hb e
   subst e
   have h1:v.err a = 0:=(h.us a).2 (by simp [hb])
   have h2:a ∉ P:=fun hp=>(List.nodup_append.1 h.nodup).2.2 a hp a hb rfl
   exact (t1.fr a h1 h2).2 ha
  ·intro p
   rw [t1.us p,h.us p]
   have:=(List.nodup_append.1 h.nodup).2.2
   simp only [List.mem_append]
   constructor
   ·rintro (⟨h1 | h1,h2⟩ | h1)
    ·exact absurd h1 h2
    ·exact .inr h1
    ·exact .inl h1
   ·rintro (h1 | h1)
    ·exact .inr h1
    ·exact .inl ⟨.inr h1,fun hp=>this p hp p h1 rfl⟩
  ·intro x hx
   rcases insE_mem hx with rfl | hx
   ·exact hv
   ·exact h.small x hx
 ·right
  have e:v.Put cap root key val = ((v.put0 cap root key val).1,(v.put0 cap root key val).2.spoil):=by
   rw [hP]
   unfold V.sure
   rw [if_neg h0]
  rw [e]
  rcases put0_codes h.sane h.tree hm with h1 | ⟨h1,h2,h3⟩ | ⟨h1,h2,h3⟩
  ·exact absurd h1 h0
  ·refine ⟨h2,?_,rfl,V.put0_r h0⟩
   rcases h.tree with ⟨h4,_⟩ | ⟨x,hx,hS⟩
   ·exact absurd h4 h1
   ·have h5:=h3 x hS hx
    have h6:=height_lt (H:=7) hS (by omega)
    omega
  ·exact ⟨h2,by omega,rfl,V.put0_r h0⟩
theorem One.turn (h:One cap v root X P E) (hr:w.r = v.r) (hh:w.high = v.high) (hf:w.free = v.free) (hc:w.cnt = v.cnt) (hp:∀ i,1 ≤ i → i < v.high → w.pg i = v.pg i):One cap w root X P E:=by
 have he:∀ p,w.err p = 0 ↔ v.err p = 0:=fun p=>by
  rw [V.err_iff,V.err_iff,hh]
  constructor
  ·rintro ⟨a,b,c⟩
   exact ⟨a,b,by rw [← hp p a b];exact c⟩
  ·rintro ⟨a,b,c⟩
   exact ⟨a,b,by rw [hp p a b];exact c⟩
 obtain ⟨⟨⟨fr,hfr⟩,h1,h2⟩,h3,h4,h5,h6⟩:=h
 refine ⟨⟨⟨fr,?_⟩,by rw [hh];exact h1,h2⟩,h3.kept (by rw [hr]) (fun p _ hq=>?_),h4,fun p=>(he p).trans (h5 p),h6⟩
 ·have hk:∀ a,(1 ≤ a ∧ a < w.high ∧ (w.pg a).kind = 255) ↔ (1 ≤ a ∧ a < v.high ∧ (v.pg a).kind = 255):=fun a=>by
   rw [hh]
   constructor
   ·rintro ⟨x,y,z⟩
    exact ⟨x,y,by rw [← hp a x y];exact z⟩
   ·rintro ⟨x,y,z⟩
    exact ⟨x,y,by rw [hp a x y];exact z⟩
  refine ⟨hfr.nd,hc.trans hfr.cnt,hf.trans hfr.hd,fun a=>(hk a).trans (hfr.mem a),fun k a e=>?_,by rw [hh];exact hfr.top,by rw [hh];exact hfr.h1,fun a x y=>?_⟩
  ·have:=(hfr.mem a).2 (List.mem_of_getElem? e)
   rw [hp a this.1 this.2.1]
   exact hfr.body k a e
  ·rw [hh] at y
   rw [hp a x y]
   exact hfr.bd a x y
 ·have:=(V.err_iff v p).1 hq
  exact ⟨(he p).2 hq,hp p this.1 this.2.1⟩
end
def kf:Bs:=[102,105,114,115,116]
def Ac.key2 (a:Ac):Bs:=107 :: a.key.take 100
theorem Ac.key2_may (a:Ac) (val:Bs) (hv:val.length ≤ 2000):may a.key2 val = 0:=by
 unfold may Ac.key2
 have:(a.key.take 100).length ≤ 100:=by rw [List.length_take];omega
 rw [if_neg (by simp),if_neg (by simp;omega)]
theorem Ac.key2_ne (a:Ac):(a.key2 == kf) = false:=by
 unfold Ac.key2 kf
 simp
theorem kf_may (val:Bs) (hv:val.length ≤ 2000):may kf val = 0:=by
 unfold may kf
 rw [if_neg (by simp),if_neg (by simp;omega)]
theorem first_ok {cap:Nat} (h:One cap v0 0 [] [] []) (hc:4 ≤ cap):(v0.Put cap 0 kf [120]).1 = 0 ∧ (v0.Put cap 0 kf [120]).2.spoilt = false ∧ ∃ P',One cap (v0.Put cap 0 kf [120]).2 0 [] P' [(kf,[120])] ∧ Tr (· = 0) v0 (v0.Put cap 0 kf [120]).2 [] P':=by
 have hm:may kf [120] = 0:=kf_may _ (by simp)
 rcases h.putAny hm (by simp) (by simp) with ⟨h1,h2,P',h3,h4⟩ | ⟨h1,_⟩
 ·exact ⟨h1,h2,P',h3,h4⟩
 ·exfalso
  have hr:=h.room.1
  simp only [List.length_nil] at hr
  have h0:(v0.put0 cap 0 kf [120]).1 ≠ 0:=by
   intro h2
   unfold V.Put at h1
   rw [if_neg (by omega)] at h1
   unfold V.sure at h1
   rw [if_pos h2] at h1
   omega
  rcases put0_codes h.sane h.tree hm with h2 | ⟨h2,_⟩ | ⟨_,_,h2⟩
  ·exact h0 h2
  ·exact h2 rfl
  ·have:v0.room cap < 2:=by simpa using h2
   omega
structure Fu (s:Sys) (wB:World) (vb:V) (k:Nat) (wr:World) (v:V) (P:List Nat) (E:List Ent):Prop where
 tx:TxAt wr s v
 one:One s.cap v 0 [] P E
 st:V.Steps s.cap vb v
 sp:v.spoilt = false
 r:∀ i,i ≠ 0 → v.r i = 0
 le:E.length ≤ k + 1
 ex:Ext s.F wB wr
theorem full_spoilt {w0 w w':World} {s:Sys} {v:V} {a:Dbp} {Dd Dl:Nat → Prop} {T:Nat → Nat} {N:Nat} {b:Db} {e:Ending} (h:Ended w0 w s v a Dd Dl T N b e w') (hs:v.spoilt = true) :
  e = .returned (.int .i64 9) ∧ Shut w' s ∧ Ext (fun g=>Dd g ∨ Dl g ∨ g = a.x) w w' ∧ ∃ Dd' Dl',Closed w0 w' a Dd' Dl' T (N + 1) b s.base:=by
 obtain ⟨⟨code,Dd',Dl',b',base',h1,h2,_,h4,h5,_,_,h8,_⟩,hx,hsh⟩:=h
 have h0:=h4 hs
 subst h0
 obtain ⟨rfl,rfl⟩:=h8 (by decide)
 exact ⟨h1,hsh,hx,Dd',Dl',h2⟩
theorem full_walk (A:Option Addr) (l:List Ac) (c:Nat) (n:Int) (w:World) (T:Nat → Nat) (hT:Half w T) (hl:Rd w (fun b=>w.heap.size ≤ b) 4 A l.length (acVals l)) (hll:l.length < 2^63) (hf:∀ a ∈ l,a.fits) :
  Calls Tryz.prog 7 #[.slice A l.length c,.int .i64 n] w fun e w'=>e = .returned (.bool true) ∧ Ext No w w':=by
 obtain ⟨q,hq8,hq,hn1,hn2⟩:=rem_of n 8 (by decide)
 obtain ⟨p,hp⟩:∃ p,p = 4 + q:=⟨_,rfl⟩
 have hp4:4 ≤ p:=by omega
 have hp11:p ≤ 11:=by omega
 have HP:=Lib.hid (show 4 ≤ p ∧ p ≤ 11 from ⟨hp4,hp11⟩)
 have HB:=Lib.hid (begin_any p hp4 (by omega) w)
 have HW:=Lib.hid works_any
 have HL:=Lib.hid hl
 have HLL:=Lib.hid hll
 have HFT:=Lib.hid hf
 have HTT:=Lib.hid hT
 have hn1:-(8:Int) < n.tmod 8:=hn1
 have hn2:n.tmod 8 < (8:Int):=hn2
 have hwr1:IntKind.i64.wrap (n.tmod 8) = n.tmod 8:=by rw [wrapEq];unfold wrap64;omega
 have hwr2:IntKind.i64.wrap (n.tmod 8 + 8) = n.tmod 8 + 8:=by rw [wrapEq];unfold wrap64;omega
 have hwr3:IntKind.i64.wrap (q:Int) = (q:Int):=wrap_tiny _ (by omega) (by omega)
 have hwr4:IntKind.i64.wrap (4 + (q:Int)) = (p:Int):=by rw [show 4 + (q:Int) = (p:Int) by omega];exact wrap_tiny _ (by omega) (by omega)
 have hq':(n.tmod 8 + 8).tmod 8 = (q:Int):=hq
 clear hl hll hf hT hq hq8 hn1 hn2 hp hp4 hp11
 go_enter Tryz.func7,Tryz.ntmps7
 go_wp2_with fail
 refine (HB.out).mono ?_
 rintro e w1 ⟨s,hF,rfl,hx1,ht,hm,hxx,_,hNA⟩
 clear hwr1 hwr2 hwr3 hwr4 hq'
 have HS:=Lib.hid hF.ok
 have HFF:Hid (∀ b,s.F b → w.heap.size ≤ b):=Lib.hid (fun b hb=>by
  rcases hb with rfl | rfl
  ·exact ht
  ·exact hm)
 have HOF:=Lib.hid (of_any (some ⟨s.t,0,none⟩) 0 (by decide) w1)
 obtain ⟨W2,hW2⟩:∃ W2,W2 = w1.alloc (.cells #[.pointer (some ⟨s.t,0,none⟩),.int .i64 0] 70):=⟨_,rfl⟩
 have HX2:=Lib.hid (show Blk W2 w1.heap.size 70 (treeCells s 0) from hW2 ▸ Blk.new w1 70 _)
 have HT2:=Lib.hid (show TxAt W2 s v0 from hW2 ▸ hF.tx.no hF.ok ((Ext.refl _ _).alloc _))
 have HE2:=Lib.hid (show Ext No w W2 from hW2 ▸ hx1.alloc _)
 have hcap:s.cap = p:=hF.cap
 obtain ⟨a,Dd,Dl,hop,_,_,hbv⟩:=hNA.opened hF.ok HT2.out.db (HTT.out.ext HE2.out (fun h=>h)) HP.out.1 (by have:=HP.out;omega)
 obtain ⟨f1,f2,P1,f3,f4⟩:=first_ok (One.start hF (by have:=HP.out;omega) (by have:=HP.out;omega) 0) (by rw [hcap];exact HP.out.1)
 have hput:=put_full s hF.ok W2 v0 HT2.out v0_good w1.heap.size 0 HX2.out (by decide) kf [120]
 have hkd:=(V.StepsB.refl (cap:=s.cap) (sp:=true) (v:=v0)).Put 0 kf [120]
 obtain ⟨v1,hv1⟩:∃ v1,v1 = (v0.Put s.cap 0 kf [120]).2:=⟨_,rfl⟩
 have HPUT:Hid (Calls Tryz.prog 25 #[.pointer (some ⟨w1.heap.size,0,none⟩),.string ⟨#[102,105,114,115,116]⟩,.string ⟨#[120]⟩] W2 fun e w'=>e = .returned (.int .i64 0) ∧ Hid (TxAt w' s v1) ∧ Hid (Ext s.F W2 w')):=Lib.hid (by
  refine hput.mono ?_
  rintro e w' ⟨g1,g2,g3,g4⟩
  rw [f1] at g1
  rw [← hv1] at g2
  exact ⟨g1,Lib.hid g2,Lib.hid g4⟩)
 rw [← hv1] at f2 f3 f4 hkd
 have HO1:=Lib.hid f3
 have HR1:Hid (∀ i,i ≠ 0 → v1.r i = 0):=Lib.hid (fun i hi=>by rw [f4.r i hi];rfl)
 have hhi1:v1.high ≤ 40:=by have h1:=f3.sane.2.1;rw [hcap] at h1;have:=HP.out;omega
 have HCM:Hid (∀ w',TxAt w' s v1 → Half w' T → Calls Tryz.prog 32 #[.pointer (some ⟨s.t,0,none⟩)] w' fun e w''=>e = .returned (.int .i64 0) ∧ Hid (Shut w'' s ∧ Ext (fun g=>Dd g ∨ Dl g ∨ g = a.x) w' w'' ∧ ∃ Dd' Dl' b' base',Closed w w'' a Dd' Dl' T 1 b' base' ∧ b'.k.n = 400 + 8 * p ∧ One p (b'.m.v base') 0 [] P1 [(kf,[120])] ∧ ∀ i,i ≠ 0 → (b'.m.v base').r i = 0)):=Lib.hid (fun w' g1 g2=>by
  refine (hop.commit (by decide) g1 g2 f3.sane.1 (hkd.kd v0_kd) (f3.mt (fun i hi=>by rw [HR1.out i hi];decide)) (by rw [hbv];exact hkd)).mono ?_
  rintro e w'' hE
  have hr:∀ code,(∃ x,e = .returned (.int .i64 (code:Nat)) ∧ x = w'') → True:=fun _ _=>trivial
  obtain ⟨⟨code,Dd',Dl',b',base',h1,h2,h3,h4,h5,h6,h7,h8,h9,_⟩,hx,hsh⟩:=hE
  have h0:code = 0:=by
   rcases h5 with h5 | h5 | h5
   ·exact h5
   ·rcases h6 h5 with h | h
    ·omega
    ·omega
   ·have:=h3 h5
    rw [f2] at this
    cases this
  subst h0
  obtain ⟨k1,k2,k3,k4,k5⟩:=h7 rfl
  refine ⟨h1,Lib.hid ⟨hsh,hx,Dd',Dl',b',base',h2,h9,?_,fun i hi=>?_⟩⟩
  ·have:=f3.turn (w:=b'.m.v base') k4 k1 k2 k3 k5
   rw [hcap] at this
   exact this
  ·have e1:(b'.m.v base').r = v1.r:=k4
   rw [e1];exact HR1.out i hi)
 have HOPN:=Lib.hid hop.new
 have HSX:=Lib.hid hop.sx
 clear hF hx1 ht hm hxx hNA hcap hop hbv f1 f2 f3 f4 hput hkd hv1 hhi1
 go_wp2_with fail
 refine (HOF.out).mono ?_
 rintro e w2 ⟨rfl,rfl⟩
 rw [show w1.alloc (.cells #[.pointer (some ⟨s.t,0,none⟩),.int .i64 ((0:Nat):Int)] 70) = W2 from hW2.symm]
 clear hW2
 have HPUT2:Hid (Calls Tryz.prog 25 #[.pointer (some ⟨w1.heap.size,0,none⟩),.string ⟨#[102,105,114,115,116]⟩,.string ⟨#[120]⟩] W2 fun e w'=>e = .returned (.int .i64 0) ∧ Hid (TxAt w' s v1) ∧ Hid (Ext s.F W2 w')):=Lib.hid HPUT.out
 go_wp2_with fail
 refine (HPUT2.out).mono ?_
 rintro e w3 ⟨rfl,HT3,HE3⟩
 have HEND3:Hid (Ext No w w3):=Lib.hid (HE2.out.trans HE3.out (fun i hi hb=>by have:=HFF.out i hb;omega))
 go_wp2_with fail
 refine (HCM.out w3 HT3.out (HTT.out.ext HEND3.out (fun h=>h))).mono ?_
 rintro e w4 ⟨rfl,HC4⟩
 obtain ⟨_,hx4,Dd1,Dl1,b1,base1,hcl,hbn,hone,hr0⟩:=HC4.out
 have HEND4:Hid (Ext No w w4):=Lib.hid (HEND3.out.trans hx4 (fun g hg h1=>by have:=HOPN.out g h1;omega))
 have hbeg:=hcl.begin (by decide)
 rw [← HSX.out] at hbeg
 have HBEG:=Lib.hid hbeg
 have HON:=Lib.hid hone
 have HR0:=Lib.hid hr0
 have HBN:=Lib.hid hbn
 have HAX:=Lib.hid (hcl.new a.x (.inr (.inr rfl)))
 clear hx4 hcl hone hr0 hbn hbeg HCM HPUT HPUT2
 go_wp2_with fail
 refine (HBEG.out).mono ?_
 rintro e w5 ⟨s2,rfl,hop2,ht5,hb5,hx5,_⟩
 have HS2:=Lib.hid hop2.ok
 have hcap2:s2.cap = p:=by
  unfold Sys.cap
  rw [hop2.nn,hop2.slog,HBN.out]
  omega
 have HCAP:=Lib.hid hcap2
 have HEND5:Hid (Ext No w w5):=Lib.hid (HEND4.out.trans hx5 (fun g hg h1=>by have:=HAX.out;rw [← HSX.out] at this;have h2:g = s.x:=h1;omega))
 have HFF2:=Lib.hid hop2.newF
 have HOF2:=Lib.hid (of_any (some ⟨s2.t,0,none⟩) 0 (by decide) w5)
 obtain ⟨W6,hW6⟩:∃ W6,W6 = w5.alloc (.cells #[.pointer (some ⟨s2.t,0,none⟩),.int .i64 0] 70):=⟨_,rfl⟩
 have HX6:=Lib.hid (show Blk W6 w5.heap.size 70 (treeCells s2 0) from hW6 ▸ Blk.new w5 70 _)
 have HT6:=Lib.hid (show TxAt W6 s2 (b1.m.v base1) from hW6 ▸ ht5.no hop2.ok ((Ext.refl _ _).alloc _))
 have HE6:=Lib.hid (show Ext No w W6 from hW6 ▸ HEND5.out.alloc _)
 have HOFF:=Lib.hid (tree_off HT6.out HX6.out)
 have HFU0:Hid (Fu s2 W6 (b1.m.v base1) 0 W6 (b1.m.v base1) P1 [(kf,[120])]):=Lib.hid ⟨HT6.out,by rw [hcap2];exact HON.out,.refl,rfl,HR0.out,by simp,Ext.refl _ _⟩
 have HHT6:=Lib.hid (HTT.out.ext HE6.out (fun h=>h))
 have HL6:=Lib.hid ((HL.out.ext HE6.out.of_no).mono (by decide) (fun b _ hb=>HFF2.out b hb))
 have HPUTS:=Lib.hid (fun w' v key val (g1:TxAt w' s2 v) (g2:v.Good) (g3:Ext s2.F W6 w')=>put_full s2 HS2.out w' v g1 g2 w5.heap.size 0 (HX6.out.ext g3 HOFF.out) (by decide) key val)
 have HOP2:=Lib.hid hop2
 have HSX2:Hid (s2.x = s.x):=Lib.hid (by rw [hop2.sx,HSX.out])
 have HBASE:=Lib.hid hb5
 obtain ⟨V1,hV1⟩:∃ V1,V1 = b1.m.v base1:=⟨_,rfl⟩
 have HKD1:Hid (V1.Kd):=Lib.hid (by
  rw [hV1]
  intro i h1 h2
  have h3:=hop2.kept i h1 (by rw [hop2.bh];exact h2)
  rw [hb5] at h3
  exact ⟨h3.2.1,h3.2.2.1⟩)
 rw [← hV1] at HT6 HFU0 HON
 have HV1:=Lib.hid hV1
 clear hop2 ht5 hb5 hx5 hcap2 hV1
 go_wp2_with fail
 refine (HOF2.out).mono ?_
 rintro e w6 ⟨rfl,rfl⟩
 rw [show w5.alloc (.cells #[.pointer (some ⟨s2.t,0,none⟩),.int .i64 ((0:Nat):Int)] 70) = W6 from hW6.symm]
 clear hW6
 go_wp2_with fail
 go_loopg [9] l.length (fun gk iv wr=>∃ (k:Nat) (v:V) (P:List Nat) (E:List Ent),k + gk = l.length ∧ k ≤ 40 ∧ iv = .int .i64 (k:Int) ∧ Hid (Fu s2 W6 V1 k wr v P E))
 case atStart=>exact ⟨0,V1,P1,_,by omega,by omega,rfl,HFU0⟩
 case round =>
  obtain ⟨k,v,P,E,hk,hkm,rfl,HFU⟩:=hrel
  have HK:=Lib.hid hk
  have HKM:=Lib.hid hkm
  have hll:=HLL.out
  have hlast:Calls Tryz.prog 22 #[.pointer (some ⟨w5.heap.size,0,none⟩)] wr fun e w'=>e = .returned (.int .i64 0) ∧ Ext No wr w':=by
   have h1:=checkt_any s2 HS2.out wr v HFU.out.tx HFU.out.one.sane.1 w5.heap.size 0 (HX6.out.ext HFU.out.ex HOFF.out) (by decide)
   rw [One.check HFU.out.one.tree (by have:=HFU.out.one.room.2;have:=HFU.out.le;omega)] at h1
   exact h1
  have HLAST:=Lib.hid hlast
  have HENDR:Hid (Ext No w wr):=Lib.hid (HE6.out.trans HFU.out.ex (fun i hi hb=>by have:=HFF2.out i hb;omega))
  clear hlast
  by_cases hlt:k < l.length
  ·by_cases hlt2:k < 40
   ·obtain ⟨ac,ha⟩:∃ ac,l[k]? = some ac:=⟨_,List.getElem?_eq_getElem hlt⟩
    obtain ⟨b,o,hA,_,k0,k1,k2,k3⟩:=(HL6.out.ext HFU.out.ex).acAt ha
    subst hA
    have lc:=World.block_lt_of_cell? wr _ k0
    simp only at lc
    have hlt':(k:Int) < (l.length:Int):=by omega
    have hlt2':(k:Int) < 40:=by omega
    have hfa:=HFT.out ac (List.mem_of_getElem? ha)
    have hkl:ac.key.length < 2^63:=hfa.2.2
    have hex:(str ac.key).extract 0 (min (ac.key.length:Int) 100).toNat = str (ac.key.take 100):=by
     rw [str_take]
     congr 1
     rw [show (min (ac.key.length:Int) 100).toNat = min 100 ac.key.length by omega,← List.take_take,List.take_length]
    have hcat:(⟨#[107]⟩:ByteArray) ++ str (ac.key.take 100) = str ac.key2:=str_k _
    have hks:=str_size ac.key
    have HVAL:=Lib.hid (fun w=>value_walk ac hfa.1 hfa.2.1 w)
    have HVW:Hid (∀ w1,Calls Tryz.prog 26 #[.agg #[.int .i64 ac.kind,.int .i64 ac.n,.string (str ac.key),.string (str ac.val)]] w1 fun e w'=>e = .returned (.string (str ac.value)) ∧ Ext No w1 w'):=Lib.hid (fun w1=>HVAL.out w1)
    have hvl:=ac.value_le
    have hmay:=ac.key2_may ac.value hvl
    have hPT:∀ w1,Ext No wr w1 → Calls Tryz.prog 25 #[.pointer (some ⟨w5.heap.size,0,none⟩),.string (str ac.key2),.string (str ac.value)] w1 fun e w2=>e = .returned (.int .i64 ((v.Put s2.cap 0 ac.key2 ac.value).1:Int)) ∧ Hid (TxAt w2 s2 (v.Put s2.cap 0 ac.key2 ac.value).2 ∧ (v.Put s2.cap 0 ac.key2 ac.value).2.Good ∧ Ext s2.F wr w2):=fun w1 e1=>by
     refine (HPUTS.out w1 v ac.key2 ac.value (HFU.out.tx.no HS2.out e1) HFU.out.one.sane.1 (HFU.out.ex.trans_ e1.of_no)).mono ?_
     rintro e w2 ⟨h1,h2,h3,h4⟩
     exact ⟨h1,Lib.hid ⟨h2,h3,e1.of_no.trans_ h4⟩⟩
    have hst2:=HFU.out.st.Put 0 ac.key2 ac.value
    have HLT:=Lib.hid hlt
    rcases HFU.out.one.putAny hmay hvl (by have:=HFU.out.le;omega) with ⟨d1,d2,P2,d3,d4⟩ | ⟨d1,_,d2,d3⟩
    ·rw [d1] at hPT
     obtain ⟨v2,hv2⟩:∃ v2,v2 = (v.Put s2.cap 0 ac.key2 ac.value).2:=⟨_,rfl⟩
     rw [← hv2] at hPT hst2 d2 d3 d4
     have HPT:=Lib.hid hPT
     have HNX:Hid (∀ w2,TxAt w2 s2 v2 ∧ v2.Good ∧ Ext s2.F wr w2 → Fu s2 W6 V1 (k + 1) w2 v2 P2 (ins ac.key2 ac.value E)):=Lib.hid (fun w2 ⟨g1,_,g3⟩=>⟨g1,d3,hst2,by rw [d2];exact HFU.out.sp,fun i hi=>by rw [d4.r i hi];exact HFU.out.r i hi,by have h1:=HFU.out.le;have h2:=insE_len ac.key2 ac.value E;omega,HFU.out.ex.trans_ g3⟩)
     clear hk hkm hfa hst2 hmay d1 d2 d3 d4 hvl hPT hv2 hlt hlt2
     go_wp2_with fail
     go_quiet (fail)
     go_wp2_with fail
     refine (HVW.out _).mono ?_
     rintro e w7 ⟨rfl,hx7⟩
     have HX7:=Lib.hid (((Ext.refl No wr).drewN _).trans_ hx7)
     clear hx7
     go_wp2_with fail
     refine (HPT.out _ HX7.out).mono ?_
     rintro e w8 ⟨rfl,HT8⟩
     go_wp2_with fail
     go_roundg (gk - 1)
     case rel=>exact ⟨k + 1,v2,P2,_,by have:=HK.out;have:=HLT.out;omega,by omega,by go_num,Lib.hid (HNX.out _ HT8.out)⟩
     case measure=>have:=HK.out;have:=HLT.out;omega
    ·rw [d1] at hPT
     obtain ⟨v2,hv2⟩:∃ v2,v2 = (v.Put s2.cap 0 ac.key2 ac.value).2:=⟨_,rfl⟩
     rw [← hv2] at hPT hst2 d2 d3
     have HPT:=Lib.hid hPT
     have HCM2:Hid (∀ w2,TxAt w2 s2 v2 ∧ v2.Good ∧ Ext s2.F wr w2 → Calls Tryz.prog 32 #[.pointer (some ⟨s2.t,0,none⟩)] w2 fun e w''=>e = .returned (.int .i64 9) ∧ Hid (Ext No w w'' ∧ ∃ Dd' Dl',Closed w w'' a Dd' Dl' T 2 b1 base1)):=Lib.hid (fun w2 ⟨g1,g2,g3⟩=>by
      have he:Ext s2.F W6 w2:=HFU.out.ex.trans_ g3
      have he0:Ext No w w2:=HE6.out.trans he (fun i hi hb=>by have:=HFF2.out i hb;omega)
      have hmt:v2.mt.Ok:=by
       obtain ⟨fr,hfr⟩:=g2
       have h3:=hfr.cnt
       have h4:=hfr.lt
       have hhi:=g1.h2
       have hcp:=HCAP.out
       refine ⟨fun i=>?_,by show v2.high < _;have:=hfr.top;omega,?_,by show v2.cnt < _;have:=hfr.top;omega⟩
       ·show v2.r i < _
        rw [d3]
        by_cases hi:i = 0
        ·subst hi
         have h5:=HFU.out.one.sane.2
         rcases HFU.out.one.tree.rlt with h6 | h6 <;> omega
        ·rw [HFU.out.r i hi];decide
       ·show v2.free < _
        rw [hfr.hd]
        cases fr with
        | nil=>decide
        | cons x l =>
         have:=(hfr.mem x).2 (by simp)
         have:=hfr.top
         show x < _
         omega
      refine (HOP2.out.commit (by decide) g1 (HTT.out.ext he0 (fun h=>h)) g2 (hst2.kd HKD1.out) hmt (by rw [HBASE.out,← HV1.out];exact hst2)).mono ?_
      rintro e w'' hE
      obtain ⟨h1,_,hx,Dd',Dl',hcl⟩:=full_spoilt hE d2
      rw [HBASE.out] at hcl
      exact ⟨h1,Lib.hid ⟨he0.trans hx (fun g hg h2=>by have:=HOP2.out.new g h2;omega),Dd',Dl',hcl⟩⟩)
     have HNE:=Lib.hid (show (ac.key2 == kf) = false from ac.key2_ne)
     have HMAY:=Lib.hid (ac.key2_may [] (by simp))
     clear hk hkm hfa hst2 hmay d1 d2 d3 hvl hPT hv2 hlt hlt2
     go_wp2_with fail
     go_quiet (fail)
     go_wp2_with fail
     refine (HVW.out _).mono ?_
     rintro e w7 ⟨rfl,hx7⟩
     have HX7:=Lib.hid (((Ext.refl No wr).drewN _).trans_ hx7)
     clear hx7
     go_wp2_with fail
     refine (HPT.out _ HX7.out).mono ?_
     rintro e w8 ⟨rfl,HT8⟩
     go_wp2_with fail
     refine (HCM2.out _ HT8.out).mono ?_
     rintro e w9 ⟨rfl,HC9⟩
     obtain ⟨hx9,Dd2,Dl2,hcl2⟩:=HC9.out
     have hbeg:=hcl2.begin (by decide)
     rw [← HSX.out] at hbeg
     have HBEG2:=Lib.hid hbeg
     have HX9:=Lib.hid hx9
     clear hx9 hcl2 hbeg k0 k1 k2 k3 lc
     go_wp2_with fail
     refine (HBEG2.out).mono ?_
     rintro e w10 ⟨s3,rfl,hop3,ht10,hb3,hx10,_⟩
     have hcap3:s3.cap = p:=by
      unfold Sys.cap
      rw [hop3.nn,hop3.slog,HBN.out]
      omega
     have HEND10:Hid (Ext No w w10):=Lib.hid (HX9.out.trans hx10 (fun g hg h1=>by have:=HAX.out;rw [← HSX.out] at this;have h2:g = s.x:=h1;omega))
     have HOF3:=Lib.hid (of_any (some ⟨s3.t,0,none⟩) 0 (by decide) w10)
     obtain ⟨W11,hW11⟩:∃ W11,W11 = w10.alloc (.cells #[.pointer (some ⟨s3.t,0,none⟩),.int .i64 0] 70):=⟨_,rfl⟩
     have HX11:=Lib.hid (show Blk W11 w10.heap.size 70 (treeCells s3 0) from hW11 ▸ Blk.new w10 70 _)
     have HT11:=Lib.hid (show TxAt W11 s3 V1 from hW11 ▸ HV1.out ▸ ht10.no hop3.ok ((Ext.refl _ _).alloc _))
     have HE11:=Lib.hid (show Ext No w W11 from hW11 ▸ HEND10.out.alloc _)
     have HO3:=Lib.hid hop3.ok
     have HG1:Hid (∀ w',Ext No W11 w' → Calls Tryz.prog 23 #[.pointer (some ⟨w10.heap.size,0,none⟩),.string ⟨#[102,105,114,115,116]⟩] w' fun e w''=>e = .returned (.tuple #[.string ⟨#[120]⟩,.bool true,.int .i64 0]) ∧ Ext No w' w''):=Lib.hid (fun w' e=>by
      have h1:=get_full s3 HO3.out w' V1 (HT11.out.no HO3.out e) HON.out.sane.1 w10.heap.size 0 (HX11.out.ext e (fun h=>h)) (by decide) kf
      rw [get_told HON.out.tree (kf_may [] (by simp))] at h1
      exact h1)
     have HG2:Hid (∀ w',Ext No W11 w' → Calls Tryz.prog 23 #[.pointer (some ⟨w10.heap.size,0,none⟩),.string (str ac.key2)] w' fun e w''=>e = .returned (.tuple #[.string (str []),.bool false,.int .i64 0]) ∧ Ext No w' w''):=Lib.hid (fun w' e=>by
      have h1:=get_full s3 HO3.out w' V1 (HT11.out.no HO3.out e) HON.out.sane.1 w10.heap.size 0 (HX11.out.ext e (fun h=>h)) (by decide) ac.key2
      rw [get_told HON.out.tree HMAY.out,List.lookup_cons,HNE.out] at h1
      exact h1)
     have HCK:Hid (∀ w',Ext No W11 w' → Calls Tryz.prog 22 #[.pointer (some ⟨w10.heap.size,0,none⟩)] w' fun e w''=>e = .returned (.int .i64 0) ∧ Ext No w' w''):=Lib.hid (fun w' e=>by
      have h1:=checkt_any s3 HO3.out w' V1 (HT11.out.no HO3.out e) HON.out.sane.1 w10.heap.size 0 (HX11.out.ext e (fun h=>h)) (by decide)
      rw [One.check HON.out.tree (by have:=HON.out.room.2;simp at this;omega)] at h1
      exact h1)
     clear hop3 ht10 hb3 hx10 hcap3
     go_wp2_with fail
     refine (HOF3.out).mono ?_
     rintro e w11 ⟨rfl,rfl⟩
     rw [show w10.alloc (.cells #[.pointer (some ⟨s3.t,0,none⟩),.int .i64 ((0:Nat):Int)] 70) = W11 from hW11.symm]
     clear hW11
     go_wp2_with fail
     refine (HG1.out _ (Ext.refl _ _)).mono ?_
     rintro e w12 ⟨rfl,hx12⟩
     have HX12:=Lib.hid hx12
     clear hx12
     go_wp2_with fail
     refine (HG2.out _ HX12.out).mono ?_
     rintro e w13 ⟨rfl,hx13⟩
     have HX13:=Lib.hid (HX12.out.trans_ hx13)
     clear hx13
     go_wp2_with fail
     refine (HCK.out _ HX13.out).mono ?_
     rintro e w14 ⟨rfl,hx14⟩
     have HX14:=Lib.hid (HX13.out.trans_ hx14)
     clear hx14
     go_wp2_with fail
     refine (HW.out w14).mono ?_
     rintro e w15 ⟨rfl,hx15⟩
     go_wp2_with fail
     go_ret
     exact ⟨rfl,(HE11.out.trans_ HX14.out).trans_ hx15⟩
   ·have hlt':(k:Int) < (l.length:Int):=by omega
    have hge:¬ ((k:Int) < 40):=by omega
    clear hk hkm hlt hlt2
    go_wp2_with fail
    refine (HLAST.out).mono ?_
    rintro e w7 ⟨rfl,hx7⟩
    go_wp2_with fail
    refine (HW.out w7).mono ?_
    rintro e w8 ⟨rfl,hx8⟩
    go_wp2_with fail
    go_ret
    exact ⟨rfl,(HENDR.out.trans_ hx7).trans_ hx8⟩
  ·have hge:¬ ((k:Int) < (l.length:Int)):=by omega
   clear hk hkm hlt
   go_wp2_with fail
   refine (HLAST.out).mono ?_
   rintro e w7 ⟨rfl,hx7⟩
   go_wp2_with fail
   refine (HW.out w7).mono ?_
   rintro e w8 ⟨rfl,hx8⟩
   go_wp2_with fail
   go_ret
   exact ⟨rfl,(HENDR.out.trans_ hx7).trans_ hx8⟩
end Go.Proofs.YtccnemmlkcmceaaGreatDoor
