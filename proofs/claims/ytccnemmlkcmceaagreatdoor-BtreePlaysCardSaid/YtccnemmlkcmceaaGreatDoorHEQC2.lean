/- Proofs about the given program, joined out of the texts BL, EM1, SS, FU1, FU2, RP1, RP2. -/
import Derived.Test.YtccnemmlkcmceaaGreatDoorHEQC1
set_option linter.unusedVariables false
set_option linter.unusedSimpArgs false
set_option maxRecDepth 100000
set_option maxHeartbeats 6400000
namespace Go.Proofs.YtccnemmlkcmceaaGreatDoor
open Go.RowKit
theorem Live.down {log N:Nat} {b:Db} (h:Live log N b):b.k.down = false:=h.fine.live.1
theorem imgList_nodup {cr:Bs → Nat} {v:V} {ov:List (Nat × Leaf)} (hn:(ov.map (·.1)).Nodup) (h1:∀ p ∈ ov,1 ≤ p.1):((imgList cr v ov).map (·.1)).Nodup:=by
 unfold imgList
 have e:(ov.map (sealP cr)).map (·.1) = ov.map (·.1):=by rw [List.map_map];rfl
 rw [List.map_append,e]
 split
 ·refine List.nodup_append.2 ⟨hn,by simp,?_⟩
  intro a ha b hb e
  have:b = 0:=by simpa using hb
  subst this;subst e
  obtain ⟨p,hp,hp0⟩:=List.mem_map.1 ha
  have:=h1 p hp
  omega
 ·simpa using hn
theorem Images.nodup {s:Sys} {v:V} {T:Nat → Nat} {ov:List (Nat × Leaf)} {l:List (Nat × Bs)} (h:Images s v T ov l):(l.map (·.1)).Nodup :=
 (h.perm.map (·.1)).nodup_iff.2 (imgList_nodup h.over.nodup (fun p hp=>(h.over.inn p.1 p.2 hp).1))
theorem Images.page {s:Sys} {v:V} {T:Nat → Nat} {ov:List (Nat × Leaf)} {l:List (Nat × Bs)} (h:Images s v T ov l) (f:Nat → Bs) {p:Nat × Bs} (hp:p ∈ imgList (crc T) v ov):pages l f p.1 = p.2:=by
 rw [pages_lookup h.nodup,look_of h.nodup (h.perm.mem_iff.2 hp)];rfl
theorem Images.other {s:Sys} {v:V} {T:Nat → Nat} {ov:List (Nat × Leaf)} {l:List (Nat × Bs)} (h:Images s v T ov l) (f:Nat → Bs) {i:Nat} (hi:i ∉ ov.map (·.1)) (h0:v.marked = true → i ≠ 0):pages l f i = f i:=by
 refine pages_not (fun hm=>?_)
 obtain ⟨p,hp,hp1⟩:=List.mem_map.1 hm
 have h1:=h.perm.mem_iff.1 hp
 unfold imgList at h1
 rcases List.mem_append.1 h1 with h1 | h1
 ·obtain ⟨q,hq,rfl⟩:=List.mem_map.1 h1
  exact hi (List.mem_map.2 ⟨q,hq,hp1⟩)
 ·split at h1
  ·rename_i hmk
   have:=List.mem_singleton.1 h1
   rw [this] at hp1
   exact h0 hmk hp1.symm
  ·cases h1
theorem Images.kept {s:Sys} {v:V} {T:Nat → Nat} {ov:List (Nat × Leaf)} {l:List (Nat × Bs)} (h:Images s v T ov l) (hg:v.Good) (hk:v.Kd) {f:Nat → Bs} (hb:Kept (crc T) f s.bh s.base):Kept (crc T) (pages l f) v.high v.pg:=by
 intro i h1 h2
 obtain ⟨fr,hfr⟩:=hg
 refine ⟨?_,(hk i h1 h2).1,(hk i h1 h2).2,hfr.bd i h1 h2⟩
 obtain ⟨h3,h4⟩:=h.over.pg i h1 h2
 by_cases hi:i ∈ ov.map (·.1)
 ·obtain ⟨p,hp,rfl⟩:=List.mem_map.1 hi
  have h5:=h.page f (p:=sealP (crc T) p) (by unfold imgList;exact List.mem_append.2 (.inl (List.mem_map.2 ⟨p,hp,rfl⟩)))
  rw [h.over.leaf hp]
  exact h5
 ·rw [h.other f hi (fun _=>by omega)]
  have h6:i < s.bh:=h3.resolve_left hi
  have h7:=(hb i h1 h6).1
  rw [h4,(lookup_none_iff ov i).2 hi]
  exact h7
structure Emp (s:Sys) (W wr:World) (gm:Nat) (v:V) (P:List Nat) (E:List Ent) (A:Option Addr) (c:Nat):Prop where
 tx:TxAt wr s v
 one:One s.cap v 0 [] P E
 st:V.Steps s.cap v0 v
 r:∀ i,i ≠ 0 → v.r i = 0
 may:∀ e ∈ E,may e.1 [] = 0
 bm:Blk wr gm 32 #[.slice A E.length c]
 ra:RefAt wr s.F A c E
 ex:Ext (fun b=>s.F b ∨ b = gm) W wr
structure Open (w0:World) (s:Sys) (a:Dbp) (Dd Dl:Nat → Prop) (T:Nat → Nat) (N:Nat) (b:Db):Prop where
 ok:s.Ok
 sx:s.x = a.x
 log:a.log = 400
 slog:s.log = 400
 nn:s.nsec = b.k.n
 db:∀ w,s.db w → Half w T → DbAt w Dd Dl a (some ⟨s.t,0,none⟩) false T b
 low:∀ g,Dd g ∨ Dl g ∨ g = a.x → g < s.m
 lt:s.m < s.t
 lv:Live a.log N b
 bh:s.bh = b.m.high
 kept:Kept (crc T) (pageOf b.k.cur a.log) s.bh s.base
 new:∀ g,Dd g ∨ Dl g ∨ g = a.x → w0.heap.size ≤ g
 newF:∀ g,s.F g → w0.heap.size ≤ g
 h1:1 ≤ b.m.high
 cap:400 + b.m.high * 8 ≤ b.k.n
 cnt:b.m.cnt ≤ b.m.high
 lw2:∀ g,g < w0.heap.size → g ≠ 0 → ∀ w w',Ext (On g) w w' → s.db w → s.db w'
structure Closed (w0 w:World) (a:Dbp) (Dd Dl:Nat → Prop) (T:Nat → Nat) (N:Nat) (b:Db) (base:Nat → Leaf):Prop where
 log:a.log = 400
 db:DbAt w Dd Dl a none false T b
 lv:Live a.log N b
 kept:Kept (crc T) (pageOf b.k.cur a.log) b.m.high base
 new:∀ g,Dd g ∨ Dl g ∨ g = a.x → w0.heap.size ≤ g
 h1:1 ≤ b.m.high
 cap:400 + b.m.high * 8 ≤ b.k.n
 cnt:b.m.cnt ≤ b.m.high
section
variable {w0 w w':World} {s:Sys} {a:Dbp} {Dd Dl:Nat → Prop} {T:Nat → Nat} {N:Nat} {b:Db} {v:V} {base:Nat → Leaf}
theorem NewAt.opened {p:Nat} (h:NewAt w0 s p) (hok:s.Ok) (hw:s.db w) (hT:Half w T) (h1:4 ≤ p) (h2:p ≤ 4000):∃ a Dd Dl,Open w0 s a Dd Dl T 0 (freshDb (400 + 8 * p)) ∧ s.d = a.d ∧ s.m < s.t ∧ (freshDb (400 + 8 * p)).m.v s.base = v0:=by
 obtain ⟨kb,d,l,x,t,m,rfl,q1,q2,q3,q4,q5,q6,n1,n2,n3,n4,n5,n6,n7,n8,m1,m2,m3,m4,m5⟩:=h.ex
 have hL:=Live.fresh (400 + 8 * p) 400
 refine ⟨⟨d,kb,x,l,400⟩,(fun g=>g = d ∨ g = kb),(fun g=>g = l),⟨hok,rfl,rfl,rfl,rfl,fun w'' hw'' hT''=>NewDb.at_ hw'' hT'' (by omega) (by omega) (by omega) (by omega),?_,m5,hL,rfl,fun i a1 a2=>?_,?_,?_,Nat.le_refl _,by show 400 + 1 * 8 ≤ 400 + 8 * p;omega,by show 0 ≤ 1;omega,fun g hg _ w1 w2 hx hw1=>NewDb.ext (show NewDb w1 kb d l x (400 + 8 * p) 400 (some ⟨t,0,none⟩) from hw1) hx (fun e=>by have e1:kb = g:=e;omega) (fun e=>by have e1:d = g:=e;omega) (fun e=>by have e1:l = g:=e;omega) (fun e=>by have e1:x = g:=e;omega)⟩,rfl,m5,rfl⟩
 ·intro g hg
  rcases hg with (hg | hg) | hg | hg
  ·rw [hg];exact m2
  ·rw [hg];exact m1
  ·have:g = l:=hg
   rw [this];exact m3
  ·rw [hg];exact m4
 ·have a3:i < 1:=a2
  omega
 ·intro g hg
  rcases hg with (hg | hg) | hg | hg
  ·rw [hg];exact q2
  ·rw [hg];exact q1
  ·have:g = l:=hg
   rw [this];exact q3
  ·rw [hg];exact q4
 ·intro g hg
  rcases hg with hg | hg
  ·rw [hg];exact q5
  ·rw [hg];exact q6
theorem Open.off (h:Open w0 s a Dd Dl T N b) {g:Nat} (hg:Dd g ∨ Dl g ∨ g = a.x):¬ s.F g:=fun hf=>by
 have h1:=h.low g hg
 have h2:=h.lt
 rcases hf with hf | hf
 ·have:g = s.t:=hf
  omega
 ·have:g = s.m:=hf
  omega
theorem Open.ready (h:Open w0 s a Dd Dl T N b) (hN:N ≤ 100) (ht:TxAt w s v) (hT:Half w T) (hg:v.Good) (hk:v.Kd) (hm:v.mt.Ok):Ready w s v Dd Dl a T b:=by
 have hlow:=h.low
 have hlt:=h.lt
 refine ⟨h.ok,ht,h.sx,h.db w ht.db hT,fun e=>?_,fun e=>?_,fun e=>?_,fun e=>?_,fun e=>?_,hg,hk,hm,h.lv.near.mono (by omega),by have:=h.lv.ep;omega,by have:=h.lv.rl;omega,h.lv.fine.bytes,h.lv.rb,?_⟩
 ·have:=hlow _ (.inl e);omega
 ·have:=hlow _ (.inr (.inl e));omega
 ·have:=hlow _ (.inl e);omega
 ·have:=hlow _ (.inr (.inl e));omega
 ·have:=hlow _ (.inr (.inr e));omega
 ·have h1:=ht.h2
  unfold Sys.cap at h1
  have h2:=h.nn
  have h3:=h.slog
  have h4:=h.log
  have h5:=h.ok.ll
  omega
structure Ended (w0 w:World) (s:Sys) (v:V) (a:Dbp) (Dd Dl:Nat → Prop) (T:Nat → Nat) (N:Nat) (b:Db) (e:Ending) (w':World):Prop where
 r:∃ code Dd' Dl' b' base',e = .returned (.int .i64 (code:Int)) ∧ Closed w0 w' a Dd' Dl' T (N + 1) b' base' ∧ (code = 9 → v.spoilt = true) ∧ (v.spoilt = true → code = 9) ∧ (code = 0 ∨ code = 7 ∨ code = 9) ∧
  (code = 7 → 508 < v.high * 4 ∨ 25528 < v.high * 516) ∧
  (code = 0 → b'.m.high = v.high ∧ b'.m.free = v.free ∧ b'.m.cnt = v.cnt ∧ b'.m.r = v.r ∧ ∀ i,1 ≤ i → i < v.high → base' i = v.pg i) ∧ (code ≠ 0 → b' = b ∧ base' = s.base) ∧ b'.k.n = b.k.n ∧ ∀ g,Dd' g ∨ Dl' g → (Dd g ∨ Dl g) ∨ w.heap.size ≤ g
 x:Ext (fun g=>Dd g ∨ Dl g ∨ g = a.x) w w'
 sh:Shut w' s
theorem Live.more (h:Live 400 N b):Live 400 (N + 1) b:=⟨h.fine,h.rb,h.near.mono (by omega),by have:=h.ep;omega,by have:=h.rl;omega⟩
theorem Open.commit (h:Open w0 s a Dd Dl T N b) (hN:N ≤ 100) (ht:TxAt w s v) (hT:Half w T) (hg:v.Good) (hk:v.Kd) (hm:v.mt.Ok) (hst:V.Steps s.cap (b.m.v s.base) v) :
  Calls Tryz.prog 32 #[.pointer (some ⟨s.t,0,none⟩)] w (Ended w0 w s v a Dd Dl T N b):=by
 have hR:=h.ready hN ht hT hg hk hm
 refine (commit_any hR).mono ?_
 rintro e w' ⟨ov,im,hI,he,⟨Dd',Dl',hd',hdb',n1,n2⟩,hx⟩
 have hlog:=h.log
 have hhi:v.high ≤ 8192:=by have h1:=ht.h2;have h2:=h.ok.n2;unfold Sys.cap at h1;omega
 have hmem:=fun p hp=>(hI.mem hg ht.h1 (p:=p) hp)
 have hways:=h.lv.commit (by omega) (by omega) (crc T) v.spoilt im v.mt (fun p hp=>(hmem p hp).2) (by have:=hI.len (by omega);omega)
 obtain ⟨R,hRR⟩:∃ R,R = b.commit (crc T) a.log v.spoilt im v.mt:=⟨_,rfl⟩
 rw [← hRR] at he hd' hdb' hways
 subst he
 have hil:im.length ≤ v.high:=by
  have h1:=sub_len hI.nodup (m:=List.range v.high) (fun x hx=>by
   obtain ⟨p,hp,rfl⟩:=List.mem_map.1 hx
   exact List.mem_range.2 (hmem p hp).1)
  rw [List.length_map,List.length_range] at h1
  exact h1
 have hel:=encRec_len (l:=im) (fun p hp=>(hmem p hp).2)
 have hne10:R.1 ≠ 10:=by
  rcases hways with ⟨_,h1⟩ | ⟨_,_,h1⟩ | ⟨_,_,h1,_⟩ | ⟨_,_,h1,_⟩
  ·rw [h1];simp
  ·rw [h1];simp
  ·rw [h1];simp
  ·rw [h1];simp
 have hdb8:=hdb' hne10
 have hnew:∀ g,Dd' g ∨ Dl' g ∨ g = a.x → w0.heap.size ≤ g:=fun g hg=>by
  have hw0:w0.heap.size ≤ w.heap.size:=by
   have h1:=h.newF s.t (.inl rfl)
   have h2:=ht.tx.lt
   omega
  rcases hg with hg | hg | hg
  ·rcases n1 g hg with h1 | h1
   ·exact h.new g (.inl h1)
   ·omega
  ·rcases n2 g hg with h1 | h1
   ·exact h.new g (.inr (.inl h1))
   ·omega
  ·exact h.new g (.inr (.inr hg))
 have htn:¬ (fun g=>Dd g ∨ Dl g ∨ g = a.x) s.t:=fun hg=>h.off hg (.inl rfl)
 have hsh:Shut w' s:=⟨cell_ext hx ht.c0 htn,by rw [h.sx];exact hdb8.db.cell 10⟩
 have hcapb:400 + v.high * 8 ≤ b.k.n:=by have:=hR.cap;rw [hlog] at this;exact this
 have hsame:Kept (crc T) (pageOf b.k.cur a.log) b.m.high s.base:=by rw [← h.bh];exact h.kept
 have hb1:1 ≤ b.m.high ∧ 400 + b.m.high * 8 ≤ b.k.n ∧ b.m.cnt ≤ b.m.high:=⟨h.h1,h.cap,h.cnt⟩
 have hnn:∀ g,Dd' g ∨ Dl' g → (Dd g ∨ Dl g) ∨ w.heap.size ≤ g:=fun g hg=>by
  rcases hg with hg | hg
  ·rcases n1 g hg with h1 | h1
   ·exact .inl (.inl h1)
   ·exact .inr h1
  ·rcases n2 g hg with h1 | h1
   ·exact .inl (.inr h1)
   ·exact .inr h1
 refine ⟨?_,hx,hsh⟩
 rcases hways with ⟨h1,h2⟩ | ⟨h1,h2,h3⟩ | ⟨h1,h2,h3,h4⟩ | ⟨h1,h2,h3,h4,h5,h6,h7⟩
 ·rw [h2] at hdb8 ⊢
  exact ⟨9,Dd',Dl',b,s.base,rfl,⟨hlog,hdb8,by rw [hlog];exact (hlog ▸ h.lv).more,hsame,hnew,hb1.1,hb1.2.1,hb1.2.2⟩,fun _=>h1,fun _=>rfl,.inr (.inr rfl),by omega,by omega,fun _=>⟨rfl,rfl⟩,rfl,hnn⟩
 ·rw [h3] at hdb8 ⊢
  subst h2
  obtain ⟨m1,m2⟩:=hI.none
  obtain ⟨_,m3,m4,m5,m6⟩:=hst.mark m1
  refine ⟨0,Dd',Dl',b,s.base,rfl,⟨hlog,hdb8,by rw [hlog];exact (hlog ▸ h.lv).more,hsame,hnew,hb1.1,hb1.2.1,hb1.2.2⟩,by omega,fun h=>(by rw [h1] at h;cases h),.inl rfl,by omega,fun _=>⟨m4.symm,m5.symm,m6.symm,m3.symm,fun i a1 a2=>(m2 i a1 a2).2.symm⟩,fun h=>absurd rfl h,rfl,hnn⟩
 ·rw [h3] at hdb8 ⊢
  refine ⟨7,Dd',Dl',b,s.base,rfl,⟨hlog,hdb8,by rw [hlog];exact (hlog ▸ h.lv).more,hsame,hnew,hb1.1,hb1.2.1,hb1.2.2⟩,by omega,fun h=>(by rw [h1] at h;cases h),.inr (.inl rfl),fun _=>?_,by omega,fun _=>⟨rfl,rfl⟩,rfl,hnn⟩
  rw [hel,hlog] at h4
  rcases h4 with h4 | h4
  ·right;omega
  ·right;omega
 ·refine ⟨0,Dd',Dl',R.2,v.pg,by rw [h3];rfl,⟨hlog,hdb8,h4,?_,hnew,?_,?_,?_⟩,by omega,fun h=>(by rw [h1] at h;cases h),.inl rfl,by omega,fun _=>by rw [h6];exact ⟨rfl,rfl,rfl,rfl,fun _ _ _=>rfl⟩,fun h=>absurd rfl h,h5,hnn⟩
  ·have h8:(fun i=>pageOf R.2.k.cur a.log i) = pages im (pageOf b.k.cur a.log):=funext h7
   have h9:pageOf R.2.k.cur a.log = pages im (pageOf b.k.cur a.log):=h8
   rw [h9,h6]
   exact hI.kept hg hk h.kept
  ·rw [h6];exact ht.h1
  ·rw [h6,h5];exact hcapb
  ·rw [h6];exact ht.hc
theorem Closed.begin (h:Closed w0 w a Dd Dl T N b base) (hN:N ≤ 100) :
  Calls Tryz.prog 33 #[.pointer (some ⟨a.x,0,none⟩)] w fun e w'=>∃ s,e = .returned (.tuple #[.pointer (some ⟨s.t,0,none⟩),.int .i64 0]) ∧
   Open w0 s a Dd Dl T N b ∧ TxAt w' s (b.m.v base) ∧ s.base = base ∧ Ext (On a.x) w w' ∧ ∀ g,s.F g → w.heap.size ≤ g:=by
 have hd:=h.lv.down
 have hl:=h.log
 have hc:=h.cap
 have hpd:=h.lv.near.2.2
 refine (begin_db base h.db hd h.h1 (by rw [hl];exact hc) h.cnt).mono ?_
 rintro e w' ⟨he,ht,hx⟩
 have hok:=dbSys_ok (base:=base) (t:=w.heap.size + 1) (m:=w.heap.size) h.db (by omega) (by omega) hd (by omega) (by rw [hl];exact hc) h.kept
 have hw0:w0.heap.size ≤ w.heap.size:=by
  have h1:=h.new a.x (.inr (.inr rfl))
  have h2:=h.db.db.lt
  omega
 refine ⟨dbSys a Dd Dl T b base (w.heap.size + 1) w.heap.size,he,⟨hok,rfl,hl,hl,rfl,fun w'' hw'' _=>hw'',?_,Nat.lt_succ_self _,h.lv,rfl,h.kept,h.new,?_,h.h1,hc,h.cnt,fun g hg h0 w1 w2 hx hw1=>DbAt.ext hw1 hx (fun g' hg' e=>by have e1:g' = g:=e;have:=h.new g' (.inl hg');omega) (fun g' hg' e=>by have e1:g' = g:=e;have:=h.new g' (.inr (.inl hg'));omega) (fun e=>by have e1:a.x = g:=e;have:=h.new a.x (.inr (.inr rfl));omega) (fun e=>h0 (by have e1:0 = g:=e;exact e1.symm))⟩,ht,rfl,hx,?_⟩
 ·intro g hg
  rcases hg with hg | hg | hg
  ·exact h.db.disk.old g hg
  ·exact h.db.wal.old g hg
  ·rw [hg];exact h.db.db.lt
 ·intro g hg
  rcases hg with hg | hg
  ·have:g = w.heap.size + 1:=hg
   omega
  ·have:g = w.heap.size:=hg
   omega
 ·intro g hg
  rcases hg with hg | hg
  ·have:g = w.heap.size + 1:=hg
   omega
  ·have:g = w.heap.size:=hg
   omega
end
section
variable {cap:Nat} {u v:V}
theorem V.put0_clean {root:Nat} {key val:Bs}:(u.put0 cap root key val).2.spoilt = u.spoilt:=V.StepsB.clean (V.StepsB.put0 .refl root key val)
end
section
variable {cap root:Nat} {v w:V} {X P:List Nat} {E:List Ent}
theorem One.turn (h:One cap v root X P E) (hr:w.r = v.r) (hh:w.high = v.high) (hf:w.free = v.free) (hc:w.cnt = v.cnt) (hp:∀ i,1 ≤ i → i < v.high → w.pg i = v.pg i):One cap w root X P E:=by
 have he:∀ p,w.err p = 0 ↔ v.err p = 0:=fun p=>by
  rw [V.err_iff,V.err_iff,hh]
  constructor
  ·rintro ⟨a,b,c⟩
   exact ⟨a,b,by rw [← hp p a b];exact c⟩
  ·rintro ⟨a,b,c⟩
   exact ⟨a,b,by rw [hp p a b];exact c⟩
 obtain ⟨⟨⟨fr,hfr⟩,h1,h2⟩,h3,h4,h5,h6⟩:=h
 refine ⟨⟨⟨fr,?_⟩,by rw [hh];exact h1,h2⟩,h3.kept (by rw [hr]) (fun p _ hq=>?_),h4,fun p=>(he p).trans (h5 p),h6⟩
 ·have hk:∀ a,(1 ≤ a ∧ a < w.high ∧ (w.pg a).kind = 255) ↔ (1 ≤ a ∧ a < v.high ∧ (v.pg a).kind = 255):=fun a=>by
   rw [hh]
   constructor
   ·rintro ⟨x,y,z⟩
    exact ⟨x,y,by rw [← hp a x y];exact z⟩
   ·rintro ⟨x,y,z⟩
    exact ⟨x,y,by rw [hp a x y];exact z⟩
  refine ⟨hfr.nd,hc.trans hfr.cnt,hf.trans hfr.hd,fun a=>(hk a).trans (hfr.mem a),fun k a e=>?_,by rw [hh];exact hfr.top,by rw [hh];exact hfr.h1,fun a x y=>?_⟩
  ·have:=(hfr.mem a).2 (List.mem_of_getElem? e)
   rw [hp a this.1 this.2.1]
   exact hfr.body k a e
  ·rw [hh] at y
   rw [hp a x y]
   exact hfr.bd a x y
 ·have:=(V.err_iff v p).1 hq
  exact ⟨(he p).2 hq,hp p this.1 this.2.1⟩
end
structure Fu (s:Sys) (wB:World) (vb:V) (k:Nat) (wr:World) (v:V) (P:List Nat) (E:List Ent):Prop where
 tx:TxAt wr s v
 one:One s.cap v 0 [] P E
 st:V.Steps s.cap vb v
 sp:v.spoilt = false
 r:∀ i,i ≠ 0 → v.r i = 0
 le:E.length ≤ k + 1
 ex:Ext s.F wB wr
structure RefDat (w:World) (g ty:Nat) (cs:Array Value) (oo:Nat) (e0:Ending) (E':List Ent) (e:Ending) (w':World):Prop where
 e:e = e0
 x:Ext (On g) w w'
 m:∃ A' c',Blk w' g ty (cs.setIfInBounds oo (.slice A' E'.length c')) ∧ RefAt w' (Lo w.heap.size) A' c' E'
theorem refget_at (w:World) (g ty oo:Nat) (cs:Array Value) (A:Option Addr) (c:Nat) (E:List Ent) (key:Bs) (hg:Blk w g ty cs) (hoo:cs[oo]? = some (.slice A E.length c)) (hr:RefAt w No A c E) :
  Calls Tryz.prog 65 #[.pointer (some ⟨g,oo,none⟩),.string (str key)] w fun e w'=>e = refGet E key ∧ w = w':=by
 have HM:=Lib.hid (fun w=>refmay_any w key [])
 have c0:=hg.cell oo
 have hb:=hr.b
 have hl:=hr.l
 rw [hoo] at c0
 have HR:=Lib.hid hr
 have HG:=Lib.hid hg
 clear hr hg
 by_cases hm:may key [] = 0
 ·rw [hm] at HM
  obtain ⟨D,hD⟩:∃ D,D = refGet E key:=⟨_,rfl⟩
  rw [← hD]
  simp only [refGet,hm,if_true] at hD
  go_enter Tryz.func65,Tryz.ntmps65
  go_wp2_with fail
  refine (HM.out _).mono ?_
  rintro e w1 ⟨rfl,rfl⟩
  go_wp2_with fail
  go_loopg [8] E.length (fun gk i wr=>∃ (k:Nat),k + gk = E.length ∧ i = .int .i64 (k:Int) ∧ Hid (E.lookup key = (E.drop k).lookup key) ∧ w = wr)
  case atStart=>exact ⟨0,by omega,rfl,Lib.hid rfl,rfl⟩
  case round =>
   obtain ⟨k,hk,rfl,hd,rfl⟩:=hrel
   by_cases hlt:k < E.length
   ·obtain ⟨e,he⟩:∃ e,E[k]? = some e:=⟨_,List.getElem?_eq_getElem hlt⟩
    obtain ⟨b,o,rfl,_,k0,k1⟩:=HR.out.rd.entAt he
    have lc:=World.block_lt_of_cell? w _ k0
    simp only at lc
    have hdr:E.drop k = e :: E.drop (k + 1):=by
     rw [List.drop_eq_getElem_cons hlt]
     congr 1
     exact (List.getElem?_eq_some_iff.1 he).2
    have hlt':(k:Int) < (E.length:Int):=by omega
    by_cases hek:e.1 = key
    ·have hq:(e.1 == key) = true:=by simpa using hek
     have hf:E.lookup key = some e.2:=by
      rw [hd.out,hdr]
      obtain ⟨a,b⟩:=e
      simp only at hek
      subst hek
      simp [List.lookup]
     rw [hf] at hD
     simp only at hD
     generalize E.length = El at *
     go_wp2_with fail
     go_ret3
     exact ⟨hD.symm,rfl⟩
    ·have hq:(e.1 == key) = false:=by simpa using hek
     have hf:(E.drop k).lookup key = (E.drop (k + 1)).lookup key:=by
      rw [hdr]
      obtain ⟨a,b⟩:=e
      have:(key == a) = false:=by simpa using fun h=>hek h.symm
      simp [List.lookup,this]
     have hd2:=Lib.hid (hd.out.trans hf)
     have hK:Hid (k + gk = E.length):=Lib.hid hk
     generalize E.length = El at *
     go_wp2_with fail
     go_roundg (gk - 1)
     case rel=>exact ⟨k + 1,by have:=hK.out;omega,by go_num,hd2,rfl⟩
     case measure=>have:=hK.out;omega
   ·have hk':k = E.length:=by omega
    have hf:E.lookup key = none:=by rw [hd.out,hk',List.drop_length];rfl
    rw [hf] at hD
    simp only at hD
    subst hk'
    go_wp2_with fail
    go_ret3
    exact ⟨hD.symm,rfl⟩
 ·have hD:refGet E key = .returned (.tuple #[.string (str []),.bool false,.int .i64 (may key []:Int)]):=by rw [refGet,if_neg hm]
  rw [hD]
  generalize may key [] = q at *
  go_enter Tryz.func65,Tryz.ntmps65
  go_wp2_with fail
  refine (HM.out _).mono ?_
  rintro e w1 ⟨rfl,rfl⟩
  have hq:((q:Int) == 0) = false:=by simpa using hm
  go_wp2_with fail
  go_ret3
  exact ⟨rfl,rfl⟩
theorem refdel_at (w:World) (g ty oo:Nat) (cs:Array Value) (A:Option Addr) (c:Nat) (E:List Ent) (key:Bs) (hg:Blk w g ty cs) (hoo:cs[oo]? = some (.slice A E.length c)) (hr:RefAt w No A c E) (hm:may key [] = 0) :
  Calls Tryz.prog 37 #[.pointer (some ⟨g,oo,none⟩),.string (str key)] w (RefDat w g ty cs oo (.returned (.tuple #[.bool (decide ((del key E).length < E.length)),.int .i64 0])) (del key E)):=by
 have HM:=Lib.hid (fun w=>refmay_any w key [])
 rw [hm] at HM
 have hb:=hr.b
 have hl:=hr.l
 have HR:=Lib.hid hr
 have HG:=Lib.hid hg
 have HB:=Lib.hid hb
 have hgl:=hg.lt
 have HD:=Lib.hid (del_len key E)
 obtain ⟨D,hD⟩:∃ D,D = RefDat w g ty cs oo (.returned (.tuple #[.bool (decide ((del key E).length < E.length)),.int .i64 0])) (del key E):=⟨_,rfl⟩
 rw [← hD]
 clear hr hm
 obtain ⟨i0,hti,htz0,htz1,htz2⟩:=info_parts Tryz.info49
 go_enter Tryz.func37,Tryz.ntmps37
 go_wp2_with fail
 refine (HM.out _).mono ?_
 rintro e w1 ⟨rfl,rfl⟩
 go_wp2_with fail
 go_loopg [7,8] E.length (fun gk v i wr=>∃ (k:Nat) (A1:Option Addr) (c1:Nat),k + gk = E.length ∧ i = .int .i64 (k:Int) ∧ v = .slice A1 (del key (E.take k)).length c1 ∧ wr.ownsRow w.heap.size 49 2 (.slice A1 (del key (E.take k)).length c1) (del key (E.take k)).length (entVals (del key (E.take k))) ∧ Ext No w wr)
 case atStart=>exact ⟨0,none,0,by omega,rfl,rfl,World.ownsRow_nil _ _ _ _,Ext.refl _ _⟩
 case round =>
  obtain ⟨k,A1,c1,hk,rfl,rfl,hown,hE⟩:=hrel
  have c0:=(HG.out.ext hE (fun h=>h)).cell oo
  rw [hoo] at c0
  have HE:=Lib.hid hE
  have HO:=Lib.hid hown
  have HK:=Lib.hid hk
  have m0:=hE.size
  have hdl:=del_len key (E.take k)
  rw [List.length_take] at hdl
  by_cases hlt:k < E.length
  ·obtain ⟨e,he⟩:∃ e,E[k]? = some e:=⟨_,List.getElem?_eq_getElem hlt⟩
   obtain ⟨b,o,hA,_,k0,k1⟩:=(HR.out.ext hE).rd.entAt he
   subst hA
   have lc:=World.block_lt_of_cell? wr _ k0
   simp only at lc
   have hlt':(k:Int) < (E.length:Int):=by omega
   have hsn:=take_snoc he
   have hds:=del_snoc key (E.take k) e
   rw [← hsn] at hds
   by_cases hek:e.1 = key
   ·have hq:(e.1 == key) = true:=by simpa using hek
    rw [if_pos hek] at hds
    have HDS:=Lib.hid hds
    clear hown hE hk hds hsn
    generalize E.length = El at *
    go_wp2_with fail
    go_roundg (gk - 1)
    case rel=>exact ⟨k + 1,A1,c1,by have:=HK.out;omega,by go_num,by rw [HDS.out],by rw [HDS.out];exact HO.out,HE.out⟩
    case measure=>have:=HK.out;omega
   ·have hq:(e.1 == key) = false:=by simpa using hek
    rw [if_neg hek] at hds
    have HDS:=Lib.hid hds
    clear hown hE hk hds hsn
    have hdl2:(del key (E.take k)).length ≤ 65536:=by omega
    generalize E.length = El at *
    generalize hdd:del key (E.take k) = dd at *
    have m2:dd.length + 1 ≤ maxLen:=by unfold maxLen;omega
    have m3:(dd.length + 1) * 32 ≤ 140737488355328:=by omega
    have m6:∀ o,w.heap.size ≤ (wr.alloc o).heap.size:=(fun o=>by simp;omega)
    have m7:∀ o,(wr.alloc o).heap.size = wr.heap.size + 1:=(fun o=>by simp)
    go_wp2_with (at_builtin;refine wpList_append_lies _ (by rfl) _ _ 30 (by rfl) w.heap.size 49 i0 (.agg #[.string ⟨#[]⟩,.string ⟨#[]⟩]) 2 32 Tryz.underlying30 hti htz0 htz1 htz2 (by rfl) (by decide) (.slice A1 dd.length c1) dd.length (entVals dd) (by rfl) (by exact HO.out.alloc _) ⟨wr.heap.size,0,none⟩ 1 1 [.string (str e.1),.string (str e.2)] (by rfl) (by rfl) (by exact World.news_of_block (cs:=#[.string (str e.1),.string (str e.2)]) (t:=49) (fr:=(0,0)) (heap_alloc_new wr _)) (by simp [Value.oneCell']) (by decide) m2 m3 (by exact m6 _) (wr.heap.size + 1) (by exact m7 _) ?_)
    intro g2 cap2 w6 hown2 hgrow2 hat2 hlt2
    have HO6:=Lib.hid (own_pushE hown2)
    have hE6:=Lib.hid ((HE.out.alloc _).grown hgrow2 (own_ge' HO.out (Nat.le_refl _)))
    clear hown2 hgrow2
    go_wp2_with fail
    go_roundg (gk - 1)
    case rel=>exact ⟨k + 1,some ⟨g2,0,none⟩,cap2,by have:=HK.out;omega,by go_num,by rw [HDS.out];simp,by rw [HDS.out];exact HO6.out,hE6.out⟩
    case measure=>have:=HK.out;omega
  ·have hk':k = E.length:=by omega
   subst hk'
   rw [List.take_length] at HO
   have HE2:=HE
   have hcap:=own_cap HO.out
   have hnil:=own_nilcap HO.out
   have hbg:=(HG.out.ext hE (fun h=>h)).set_ oo (.slice A1 (del key E).length c1)
   have hfr:=(HG.out.ext hE (fun h=>h)).frozen oo
   have hlt2:=(HG.out.ext hE (fun h=>h)).lt
   have hE3:Ext (On g) w (wr.setCell ⟨g,oo,none⟩ (.slice A1 (del key E).length c1)):=Ext.setF (F:=On g) (HE.out.of_no) (b:=g) (show On g g from rfl) _ _
   have HBG:=Lib.hid hbg;have HE3:=Lib.hid hE3
   have hD2:D (.returned (.tuple #[.bool (decide ((del key E).length < E.length)),.int .i64 0])) (wr.setCell ⟨g,oo,none⟩ (.slice A1 (del key E).length c1)):=by
    rw [hD]
    refine ⟨rfl,HE3.out,A1,c1,HBG.out,?_,hcap,hnil,by have:=HD.out;have:=HB.out;omega⟩
    exact Rd.own_lo (ownsRow_setCell_other HO.out (by intro e;exact own_ge HO.out hgl e.symm) _) (by decide)
   clear hbg hE3 hown hE hk hD
   simp only [List.take_length]
   generalize (del key E).length = dl at *
   go_wp2_with fail
   exact hD2
theorem refdel_no (w:World) (a:Addr) (key:Bs) (hm:may key [] ≠ 0) :
  Calls Tryz.prog 37 #[.pointer (some a),.string (str key)] w fun e w'=>e = .returned (.tuple #[.bool false,.int .i64 (may key []:Int)]) ∧ w = w':=by
 have HM:=Lib.hid (fun w=>refmay_any w key [])
 generalize may key [] = q at *
 go_enter Tryz.func37,Tryz.ntmps37
 go_wp2_with fail
 refine (HM.out _).mono ?_
 rintro e w1 ⟨rfl,rfl⟩
 have hq:((q:Int) == 0) = false:=by simpa using hm
 go_wp2_with fail
 go_ret2
 exact ⟨rfl,rfl⟩
theorem refput_no (w:World) (a:Addr) (key val:Bs) (hm:may key val ≠ 0) :
  Calls Tryz.prog 38 #[.pointer (some a),.string (str key),.string (str val)] w fun e w'=>e = .returned (.int .i64 (may key val:Int)) ∧ w = w':=by
 have HM:=Lib.hid (fun w=>refmay_any w key val)
 generalize may key val = q at *
 go_enter Tryz.func38,Tryz.ntmps38
 go_wp2_with fail
 refine (HM.out _).mono ?_
 rintro e w1 ⟨rfl,rfl⟩
 have hq:((q:Int) == 0) = false:=by simpa using hm
 go_wp2_with fail
 go_ret
 exact ⟨rfl,rfl⟩
theorem refput_at (w:World) (g ty oo:Nat) (cs:Array Value) (A:Option Addr) (c:Nat) (E:List Ent) (key val:Bs) (hg:Blk w g ty cs) (hoo:cs[oo]? = some (.slice A E.length c)) (hr:RefAt w No A c E) (hb1:E.length < 65000) (hm:may key val = 0) :
  Calls Tryz.prog 38 #[.pointer (some ⟨g,oo,none⟩),.string (str key),.string (str val)] w (RefDat w g ty cs oo (.returned (.int .i64 0)) (rput key val false E)):=by
 have HM:=Lib.hid (fun w=>refmay_any w key val)
 rw [hm] at HM
 have hl:=hr.l
 have HR:=Lib.hid hr
 have HG:=Lib.hid hg
 have HEB:=Lib.hid hb1
 have hgl:=hg.lt
 have HGL:=Lib.hid hgl
 have HD:=Lib.hid (rput_len key val false E)
 obtain ⟨D,hD⟩:∃ D,D = RefDat w g ty cs oo (.returned (.int .i64 0)) (rput key val false E):=⟨_,rfl⟩
 rw [← hD]
 have HDD:=Lib.hid hD
 clear hr hm hg hD
 obtain ⟨i0,hti,htz0,htz1,htz2⟩:=info_parts Tryz.info49
 go_enter Tryz.func38,Tryz.ntmps38
 go_wp2_with fail
 refine (HM.out _).mono ?_
 rintro e w1 ⟨rfl,rfl⟩
 go_wp2_with fail
 go_loopg [8,9,10] E.length (fun gk v pv i wr=>∃ (k:Nat) (put:Bool) (O:List Ent) (A1:Option Addr) (c1:Nat),k + gk = E.length ∧ i = .int .i64 (k:Int) ∧ pv = .bool put ∧ v = .slice A1 O.length c1 ∧ wr.ownsRow w.heap.size 49 2 (.slice A1 O.length c1) O.length (entVals O) ∧ Hid (O.length ≤ k + (if put then 1 else 0)) ∧ Hid (O ++ rput key val put (E.drop k) = rput key val false E) ∧ Ext No w wr)
 case atStart=>exact ⟨0,false,[],none,0,by omega,rfl,rfl,rfl,World.ownsRow_nil _ _ _ _,Lib.hid (by simp),Lib.hid rfl,Ext.refl _ _⟩
 case round =>
  obtain ⟨k,put,O,A1,c1,hk,rfl,rfl,rfl,hown,HOL,hd,hE⟩:=hrel
  have c0:=(HG.out.ext hE (fun h=>h)).cell oo
  rw [hoo] at c0
  have HE:=Lib.hid hE
  have HO:=Lib.hid hown
  have HK:=Lib.hid hk
  have m0:=hE.size
  by_cases hlt:k < E.length
  ·obtain ⟨e,he⟩:∃ e,E[k]? = some e:=⟨_,List.getElem?_eq_getElem hlt⟩
   obtain ⟨b,o,hA,_,k0,k1⟩:=(HR.out.ext hE).rd.entAt he
   subst hA
   have lc:=World.block_lt_of_cell? wr _ k0
   simp only at lc
   have hlt':(k:Int) < (E.length:Int):=by omega
   have HDR:Hid (E.drop k = e :: E.drop (k + 1)):=Lib.hid (by
    rw [List.drop_eq_getElem_cons hlt]
    congr 1
    exact (List.getElem?_eq_some_iff.1 he).2)
   have HOL2:=Lib.hid (show O.length ≤ 65002 by have:=HOL.out;split at this <;> omega)
   have HST:=Lib.hid (((rput_step key val put e (E.drop (k + 1)) O).symm.trans (by rw [← HDR.out])).trans hd.out)
   clear hE hown hk
   go_upto_region 9 with fail
   go_cut [39] (fun v wx=>v = .bool (!put && !klt e.1 key) ∧ wr = wx)
   case first =>
    cases put
    ·cases hkl:klt e.1 key
     ·go_wp2_with fail
      go_meet
      exact ⟨by simp [hkl],rfl⟩
     ·go_wp2_with fail
      go_meet
      exact ⟨by simp [hkl],rfl⟩
    ·go_wp2_with fail
     go_meet
     exact ⟨rfl,rfl⟩
   case rest =>
   obtain ⟨rfl,rfl⟩:=hcut
   obtain ⟨bq,hbq⟩:∃ bq,bq = (!put && !klt e.1 key):=⟨_,rfl⟩
   rw [← hbq]
   have HBQ:=Lib.hid hbq
   clear hbq
   go_upto_if 39 with fail
   go_cut [8,9] (fun v pv wx=>∃ (O2:List Ent) (A2:Option Addr) (c2:Nat),pv = .bool (put || !klt e.1 key) ∧ v = .slice A2 O2.length c2 ∧ Hid (wx.ownsRow w.heap.size 49 2 (.slice A2 O2.length c2) O2.length (entVals O2)) ∧ Hid (O2 = O ++ (if !put && !klt e.1 key then [(key,val)] else [])) ∧ Hid (Ext No w wx))
   case first =>
    have hbq:=HBQ.out
    cases bq
    ·go_wp2_with fail
     go_meet
     exact ⟨O,A1,c1,by cases put <;> cases h:klt e.1 key <;> simp [h] at hbq ⊢,rfl,HO,Lib.hid (by rw [← HBQ.out];simp),HE⟩
    ·have hput:put = false:=by cases put <;> simp at hbq ⊢
     have hkl:klt e.1 key = false:=by cases h:klt e.1 key <;> simp [h] at hbq ⊢
     clear hbq
     have m26:O.length + 1 ≤ maxLen:=by unfold maxLen;have:=HOL2.out;omega
     have m36:(O.length + 1) * 32 ≤ 140737488355328:=by have:=HOL2.out;omega
     have m66:∀ o,w.heap.size ≤ (wr.alloc o).heap.size:=(fun o=>by have:=HE.out.size;simp;omega)
     have m76:∀ o,(wr.alloc o).heap.size = wr.heap.size + 1:=(fun o=>by simp)
     go_wp2_with (at_builtin;refine wpList_append_lies _ (by rfl) _ _ 30 (by rfl) w.heap.size 49 i0 (.agg #[.string ⟨#[]⟩,.string ⟨#[]⟩]) 2 32 Tryz.underlying30 hti htz0 htz1 htz2 (by rfl) (by decide) (.slice A1 O.length c1) O.length (entVals O) (by rfl) (by exact HO.out.alloc _) ⟨wr.heap.size,0,none⟩ 1 1 [.string (str key),.string (str val)] (by rfl) (by rfl) (by exact World.news_of_block (cs:=#[.string (str key),.string (str val)]) (t:=49) (fr:=(0,0)) (heap_alloc_new wr _)) (by simp [Value.oneCell']) (by decide) m26 m36 (by exact m66 _) (wr.heap.size + 1) (by exact m76 _) ?_)
     intro g6 cap6 w6 hown6 hgrow6 hat6 hlt6
     have HO6:=Lib.hid (own_pushE (e:=(key,val)) hown6)
     have HE6:=Lib.hid ((HE.out.alloc _).grown hgrow6 (own_ge' HO.out (Nat.le_refl _)))
     clear hown6 hgrow6 hat6
     go_wp2_with fail
     go_meet
     exact ⟨O ++ [(key,val)],some ⟨g6,0,none⟩,cap6,by rw [hput,hkl];rfl,by simp,HO6,Lib.hid (by rw [hput,hkl];simp),HE6⟩
   case rest =>
    obtain ⟨O2,A2,c2,rfl,rfl,HO2,HQ2,HE2⟩:=hcut
    have HS2:Hid (O2 ++ ((if e.1 = key then [] else [e]) ++ rput key val (put || !klt e.1 key) (E.drop (k + 1))) = rput key val false E):=Lib.hid (by rw [HQ2.out];exact HST.out)
    have HL3:Hid (O2.length ≤ k + (if (put || !klt e.1 key) then 1 else 0)):=Lib.hid (by
     have h1:=HOL.out
     rw [HQ2.out,List.length_append]
     cases put <;> cases klt e.1 key <;> simp at h1 ⊢ <;> omega)
    have HOL2:=Lib.hid (show O2.length ≤ 65003 by have h1:=HEB.out;have h2:=HK.out;have:=HL3.out;split at this <;> omega)
    clear HST HOL hd HO HE HQ2
    generalize (put || !klt e.1 key) = put2 at *
    have hE2:=HE2.out
    have c02:=(HG.out.ext hE2 (fun h=>h)).cell oo
    rw [hoo] at c02
    have k3:wc.cell? ⟨b,o + k * 2,none⟩ = some (.string (str e.1)):=by
     obtain ⟨b',o',hA,_,q0,q1⟩:=(HR.out.ext hE2).rd.entAt he
     injection hA with hA
     injection hA with hb ho
     subst hb;subst ho
     exact q0
    have k4:wc.cell? ⟨b,o + k * 2 + 1,none⟩ = some (.string (str e.2)):=by
     obtain ⟨b',o',hA,_,q0,q1⟩:=(HR.out.ext hE2).rd.entAt he
     injection hA with hA
     injection hA with hb ho
     subst hb;subst ho
     exact q1
    have lc2:=World.block_lt_of_cell? wc _ k3
    simp only at lc2
    clear hE2 c0 k0 k1 lc
    by_cases hek:e.1 = key
    ·have hq:(e.1 == key) = true:=by simpa using hek
     have HS3:=Lib.hid (show O2 ++ rput key val put2 (E.drop (k + 1)) = rput key val false E by have:=HS2.out;rw [if_pos hek] at this;exact this)
     clear hek HS2
     go_wp2_with fail
     go_roundg (gk - 1)
     case rel=>exact ⟨k + 1,put2,O2,A2,c2,by have:=HK.out;omega,by go_num,rfl,rfl,HO2.out,Lib.hid (by have:=HL3.out;omega),HS3,HE2.out⟩
     case measure=>have:=HK.out;omega
    ·have hq:(e.1 == key) = false:=by simpa using hek
     have HS3:=Lib.hid (show (O2 ++ [e]) ++ rput key val put2 (E.drop (k + 1)) = rput key val false E by have:=HS2.out;rw [if_neg hek] at this;rw [List.append_assoc];exact this)
     clear hek HS2
     have m27:O2.length + 1 ≤ maxLen:=by unfold maxLen;have:=HOL2.out;omega
     have m37:(O2.length + 1) * 32 ≤ 140737488355328:=by have:=HOL2.out;omega
     have m67:∀ o,w.heap.size ≤ (wc.alloc o).heap.size:=(fun o=>by have:=HE2.out.size;simp;omega)
     have m77:∀ o,(wc.alloc o).heap.size = wc.heap.size + 1:=(fun o=>by simp)
     go_wp2_with (at_builtin;refine wpList_append_lies _ (by rfl) _ _ 30 (by rfl) w.heap.size 49 i0 (.agg #[.string ⟨#[]⟩,.string ⟨#[]⟩]) 2 32 Tryz.underlying30 hti htz0 htz1 htz2 (by rfl) (by decide) (.slice A2 O2.length c2) O2.length (entVals O2) (by rfl) (by exact HO2.out.alloc _) ⟨wc.heap.size,0,none⟩ 1 1 [.string (str e.1),.string (str e.2)] (by rfl) (by rfl) (by exact World.news_of_block (cs:=#[.string (str e.1),.string (str e.2)]) (t:=49) (fr:=(0,0)) (heap_alloc_new wc _)) (by simp [Value.oneCell']) (by decide) m27 m37 (by exact m67 _) (wc.heap.size + 1) (by exact m77 _) ?_)
     intro g7 cap7 w7 hown7 hgrow7 hat7 hlt7
     have HO7:=Lib.hid (own_pushE (e:=(e.1,e.2)) hown7)
     have HE7:=Lib.hid ((HE2.out.alloc _).grown hgrow7 (own_ge' HO2.out (Nat.le_refl _)))
     clear hown7 hgrow7 hat7
     go_wp2_with fail
     go_roundg (gk - 1)
     case rel=>exact ⟨k + 1,put2,O2 ++ [e],some ⟨g7,0,none⟩,cap7,by have:=HK.out;omega,by go_num,rfl,by simp,HO7.out,Lib.hid (by have:=HL3.out;rw [List.length_append,List.length_singleton];omega),HS3,HE7.out⟩
     case measure=>have:=HK.out;omega
  ·have hk':k = E.length:=by omega
   have HDR:Hid (E.drop k = []):=Lib.hid (by rw [hk',List.drop_length])
   have HOL2:=Lib.hid (show O.length ≤ 65002 by have:=HOL.out;split at this <;> omega)
   have HFIN:∀ (O2:List Ent) (A2:Option Addr) (c2:Nat) (wx:World),wx.ownsRow w.heap.size 49 2 (.slice A2 O2.length c2) O2.length (entVals O2) → O2 = rput key val false E → Ext No w wx → D (.returned (.int .i64 0)) (wx.setCell ⟨g,oo,none⟩ (.slice A2 O2.length c2)):=by
    intro O2 A2 c2 wx q1 q2 q3
    rw [HDD.out,← q2]
    have hx2:Ext (On g) w (wx.setCell ⟨g,oo,none⟩ (.slice A2 O2.length c2)):=Ext.setF (F:=On g) (q3.of_no) (b:=g) (show On g g from rfl) _ _
    have hbg:=(HG.out.ext q3 (fun h=>h)).set_ oo (.slice A2 O2.length c2)
    refine ⟨rfl,hx2,A2,c2,hbg,?_,own_cap q1,own_nilcap q1,by have:=HD.out;have:=HEB.out;rw [q2];simp at *;omega⟩
    exact Rd.own_lo (ownsRow_setCell_other q1 (by intro e;exact own_ge q1 HGL.out e.symm) _) (by decide)
   have HFIN:=Lib.hid HFIN
   have HK2:=Lib.hid hk'
   clear hk hk' hown
   cases put
   ·have m26:O.length + 1 ≤ maxLen:=by unfold maxLen;have:=HOL2.out;omega
    have m36:(O.length + 1) * 32 ≤ 140737488355328:=by have:=HOL2.out;omega
    have m66:∀ o,w.heap.size ≤ (wr.alloc o).heap.size:=(fun o=>by have:=HE.out.size;simp;omega)
    have m76:∀ o,(wr.alloc o).heap.size = wr.heap.size + 1:=(fun o=>by simp)
    go_wp2_with (at_builtin;refine wpList_append_lies _ (by rfl) _ _ 30 (by rfl) w.heap.size 49 i0 (.agg #[.string ⟨#[]⟩,.string ⟨#[]⟩]) 2 32 Tryz.underlying30 hti htz0 htz1 htz2 (by rfl) (by decide) (.slice A1 O.length c1) O.length (entVals O) (by rfl) (by exact HO.out.alloc _) ⟨wr.heap.size,0,none⟩ 1 1 [.string (str key),.string (str val)] (by rfl) (by rfl) (by exact World.news_of_block (cs:=#[.string (str key),.string (str val)]) (t:=49) (fr:=(0,0)) (heap_alloc_new wr _)) (by simp [Value.oneCell']) (by decide) m26 m36 (by exact m66 _) (wr.heap.size + 1) (by exact m76 _) ?_)
    intro g6 cap6 w6 hown6 hgrow6 hat6 hlt6
    have HO6:=Lib.hid (own_pushE (e:=(key,val)) hown6)
    have HE6:=Lib.hid ((HE.out.alloc _).grown hgrow6 (own_ge' HO.out (Nat.le_refl _)))
    clear hown6 hgrow6 hat6
    have HE9:=HE6.out
    have hfr:=(HG.out.ext HE9 (fun h=>h)).frozen oo
    have hlt2:=(HG.out.ext HE9 (fun h=>h)).lt
    have c06:=(HG.out.ext HE9 (fun h=>h)).cell oo
    rw [hoo] at c06
    have HX:=Lib.hid (HFIN.out (O ++ [(key,val)]) (some ⟨g6,0,none⟩) cap6 w6 HO6.out (by rw [← hd.out,HDR.out];rfl) HE6.out)
    rw [List.length_append,List.length_singleton] at HX
    clear HE9 hE
    go_wp2_with fail
    exact HX.out
   ·have hfr:=(HG.out.ext hE (fun h=>h)).frozen oo
    have hlt2:=(HG.out.ext hE (fun h=>h)).lt
    have HX:=Lib.hid (HFIN.out O A1 c1 wr HO.out (by rw [← hd.out,HDR.out];simp [rput]) HE.out)
    clear hE
    go_wp2_with fail
    exact HX.out
end Go.Proofs.YtccnemmlkcmceaaGreatDoor
