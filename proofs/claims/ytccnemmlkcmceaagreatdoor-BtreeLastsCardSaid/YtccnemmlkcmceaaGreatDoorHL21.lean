/- Proofs about the given program, joined out of the texts CB, LP, BL, LN1, EM1, SS, OP3, OQ1, OR0, LS0, OR1, LS1, FU1, LS2, LS3. -/
import Derived.Test.YtccnemmlkcmceaaGreatDoorHL20
set_option linter.unusedVariables false
set_option linter.unusedSimpArgs false
set_option maxRecDepth 100000
set_option maxHeartbeats 6400000
namespace Go.Proofs.YtccnemmlkcmceaaGreatDoor
open Go.RowKit
theorem wC {E:List bK}(h:ja E):nG E E=true:=by
 have key:∀{F:List bK},ja F->∀e∈F,F.lookup e.1=some e.2:=by
  intro F hF
  induction F with
  | nil=>simp
  | cons a F ih =>
   intro e he;obtain⟨k,b⟩:=a;have h1:=List.pairwise_cons.1 hF;rcases List.mem_cons.1 he with rfl|he
   ·simp
   ·have h2:=h1.1 e he
    have h3:(e.1==k)=false:=by
     have:=qJ h2;simpa using fun e1=>this e1.symm
    rw[List.lookup_cons,h3];exact ih h1.2 e he
 unfold nG;rw[List.all_eq_true];intro e he;rw[key h e he];simp
theorem uk (E O:List bK):kz E E O=true:=by
 unfold kz;rw[List.all_eq_true];intro e he;simp
theorem SS (l:List Ac):∀e∈fE l,iE e.1 []=0:=by
 have key:∀(l:List Ac) (E:List bK),(∀e∈E,iE e.1 []=0)->∀e∈l.foldl Ac.step E,iE e.1 []=0:=by
  intro l
  induction l with
  | nil=>exact fun E h=>h
  | cons a l ih =>
   intro E h;refine ih _ ?_;intro e he;unfold Ac.step at he;split at he
   ·exact h e (List.mem_filter.1 he).1
   ·rcases xC he with rfl|he
    ·exact a.tQ [] (by simp)
    ·exact h e he
 exact key l [] (by simp)
theorem vN.check {v:V}{root:Nat}{P:List Nat}{E:List bK}(hT:fu true v root P E) (hp:P.length<=65000):v.check root=0:=by
 obtain⟨d,hd⟩:=J8 hT hp;unfold V.check;rw[hd];rfl
def lg:Nat->Nat
 | 0=>0
 | 1=>0
 | n+2=>lg ((n+2) / 2)+1
structure zB (log N:Nat) (b:Db):Prop where
 fine:b.FH log
 rb:b.recs = []->b.bytes = []
 near:b.k.eD (131072*(N+1))
 ep:b.ak<=N
 rl:b.recs.length<=N
theorem zB.fresh (n log:Nat):zB log 0 (iq n):=⟨⟨⟨rfl,rfl⟩,by simp[iq]⟩,fun _=>rfl,⟨by simp[iq],by simp[iq],by simp[iq]⟩,Nat.le_refl _,Nat.le_refl _⟩
theorem Db.Pf (cr:Bs->Nat) (log:Nat) (s:Db) (sp:Bool) (l:List (Nat×Bs)) (m:Mt) (hb:s.recs = []->s.bytes = []):((s.aV cr log sp l m).2.recs = []->(s.aV cr log sp l m).2.bytes = [])/\(s.aV cr log sp l m).2.recs.length<=s.recs.length+1:=by
 have t_:∀s:Db,(s.recs = []->s.bytes = [])->((s.keep cr log l m).2.recs = []->(s.keep cr log l m).2.bytes = [])/\(s.keep cr log l m).2.recs.length<=s.recs.length+1:=by
  intro s hs;have h1:((s.sync cr (aB l)).2.recs = []->(s.sync cr (aB l)).2.bytes = [])/\(s.sync cr (aB l)).2.recs.length<=s.recs.length+1:=by
   rw[Db.wW];split
   ·exact⟨hs,Nat.le_succ _⟩
   ·exact⟨fun h=>by simp at h,by simp⟩
  unfold Db.keep;split
  ·exact h1
  ·exact h1
 unfold Db.aV;split
 ·exact⟨hb,Nat.le_succ _⟩
 ·split
  ·exact⟨hb,Nat.le_succ _⟩
  ·split
   ·exact⟨hb,Nat.le_succ _⟩
   ·split
    ·obtain⟨h1,_,_⟩:=Db.qC cr s
     have hr:((s.settle cr).2.recs = []->(s.settle cr).2.bytes = [])/\(s.settle cr).2.recs.length<=s.recs.length:=by
      rcases h1 with ⟨a,b,_⟩|⟨a,b,_⟩
      ·rw[a,b];exact⟨hb,Nat.le_refl _⟩
      ·rw[a,b];exact⟨fun _=>rfl,Nat.zero_le _⟩
     split
     ·exact⟨hr.1,Nat.le_succ_of_le hr.2⟩
     ·have:=t_ _ hr.1
      exact⟨this.1,by omega⟩
    ·exact t_ s hb
theorem zB.aV {log N:Nat}{b:Db}(h:zB log N b) (df:2<=log) (aiQ:log<=30000) (cr:Bs->Nat) (sp:Bool) (l:List (Nat×Bs)) (m:Mt) (hl:∀p∈l,p.2.length=512) (tZ:l.length<=10000) :
  (sp=true/\b.aV cr log sp l m=(9,b))\/(sp=false/\l = []/\b.aV cr log sp l m=(0,b))\/(sp=false/\l ≠ []/\b.aV cr log sp l m=(7,b)/\((aB l).length>65536\/(aB l).length+8>64*(log-1))) \/
  (sp=false/\l ≠ []/\(b.aV cr log sp l m).1=0/\zB log (N+1) (b.aV cr log sp l m).2/\(b.aV cr log sp l m).2.k.n=b.k.n/\(b.aV cr log sp l m).2.m=m/\∀i,aJ (b.aV cr log sp l m).2.k.cur log i=pages l (aJ b.k.cur log) i):=by
 cases sp
 ·by_cases h0:l = []
  ·refine .inr (.inl ⟨rfl,h0,?_⟩)
   unfold Db.aV;rw[if_neg (by simp),if_pos h0]
  ·have h1:=Db.Av (cr:=cr) (log:=log) (sp:=false) (m:=m) h.near tZ h.rb
   have h2:=Db.Pf cr log b false l m h.rb;rcases Db.Mx (cr:=cr) (m:=m) h.fine df hl h0 h.rb with ⟨c1,c2,c9⟩|⟨c1,c2,c3,c4,c5,c6⟩
   ·exact .inr (.inr (.inl ⟨rfl,h0,Prod.ext c1 c2,c9⟩))
   ·exact .inr (.inr (.inr ⟨rfl,h0,c1,⟨c2,h2.1,h1.mono (by omega),by have:=h.ep;omega,by have:=h.rl;have:=h2.2;omega⟩,c3,c4,c6⟩))
 ·refine .inl ⟨rfl,?_⟩
  unfold Db.aV;rw[if_pos rfl]
theorem zB.down {log N:Nat}{b:Db}(h:zB log N b):b.k.down=false:=h.fine.live.1
theorem EU {cr:Bs->Nat}{v:V}{ov:List (Nat×bB)}(hn:(ov.map (·.1)).Nodup) (h1:∀p∈ov,1<=p.1):((fB cr v ov).map (·.1)).Nodup:=by
 unfold fB;have e:(ov.map (pI cr)).map (·.1)=ov.map (·.1):=by rw[List.map_map];rfl
 rw[List.map_append,e];split
 ·refine List.nodup_append.2 ⟨hn,by simp,?_⟩
  intro a ha b hb e;have:b=0:=by simpa using hb
  subst this;subst e;obtain⟨p,hp,hp0⟩:=List.mem_map.1 ha;have:=h1 p hp;omega
 ·simpa using hn
theorem fG.nodup {s:bH}{v:V}{T:Nat->Nat}{ov:List (Nat×bB)}{l:List (Nat×Bs)}(h:fG s v T ov l):(l.map (·.1)).Nodup :=
 (h.perm.map (·.1)).nodup_iff.2 (EU h.over.nodup (fun p hp=>(h.over.inn p.1 p.2 hp).1))
theorem fG.page {s:bH}{v:V}{T:Nat->Nat}{ov:List (Nat×bB)}{l:List (Nat×Bs)}(h:fG s v T ov l) (f:Nat->Bs) {p:Nat×Bs}(hp:p∈fB (bT T) v ov):pages l f p.1=p.2:=by
 rw[Ia h.nodup,Qd h.nodup (h.perm.mem_iff.2 hp)];rfl
theorem fG.other {s:bH}{v:V}{T:Nat->Nat}{ov:List (Nat×bB)}{l:List (Nat×Bs)}(h:fG s v T ov l) (f:Nat->Bs) {i:Nat}(hi:i∉ov.map (·.1)) (h0:v.marked=true->i≠0):pages l f i=f i:=by
 refine jI (fun hm=>?_);obtain⟨p,hp,Lu⟩:=List.mem_map.1 hm;have h1:=h.perm.mem_iff.1 hp;unfold fB at h1;rcases List.mem_append.1 h1 with h1|h1
 ·obtain⟨q,hq,rfl⟩:=List.mem_map.1 h1
  exact hi (List.mem_map.2 ⟨q,hq,Lu⟩)
 ·split at h1
  ·rename_i OL
   have:=List.mem_singleton.1 h1;rw[this]at Lu;exact h0 OL Lu.symm
  ·cases h1
theorem fG.kept {s:bH}{v:V}{T:Nat->Nat}{ov:List (Nat×bB)}{l:List (Nat×Bs)}(h:fG s v T ov l) (hg:v.Good) (hk:v.Kd) {f:Nat->Bs}(hb:zC (bT T) f s.bh s.base):zC (bT T) (pages l f) v.high v.pg:=by
 intro i h1 h2;obtain⟨fr,qh⟩:=hg;refine⟨?_,(hk i h1 h2).1,(hk i h1 h2).2,qh.bd i h1 h2⟩;obtain⟨h3,h4⟩:=h.over.pg i h1 h2
 by_cases hi:i∈ov.map (·.1)
 ·obtain⟨p,hp,rfl⟩:=List.mem_map.1 hi
  have h5:=h.page f (p:=pI (bT T) p) (by unfold fB;exact List.mem_append.2 (.inl (List.mem_map.2 ⟨p,hp,rfl⟩)));rw[h.over.leaf hp];exact h5
 ·rw[h.other f hi (fun _=>by omega)]
  have h6:i<s.bh:=h3.resolve_left hi;have h7:=(hb i h1 h6).1;rw[h4,(gL ov i).2 hi];exact h7
theorem fG.none {s:bH}{v:V}{T:Nat->Nat}{ov:List (Nat×bB)}(h:fG s v T ov []):v.marked=false/\∀i,1<=i->i<v.high->i<s.bh/\v.pg i=s.base i:=by
 have h1:fB (bT T) v ov = []:=h.perm.nil_eq.symm;unfold fB at h1;have h2:=List.append_eq_nil_iff.1 h1;have h3:ov = []:=List.map_eq_nil_iff.1 h2.1;subst h3;refine⟨?_,fun i a b=>?_⟩
 ·cases hm:v.marked
  ·rfl
  ·rw[hm]at h2;simp at h2
 ·obtain⟨h4,h5⟩:=h.over.pg i a b
  exact⟨by simpa using h4,h5⟩
theorem fu.rlt {g:Bool}{v:V}{root:Nat}{P:List Nat}{E:List bK}(h:fu g v root P E):v.r root<v.high\/v.r root=0:=by
 rcases h with ⟨h0,_,_⟩|⟨x,_,hS⟩
 ·exact .inr h0
 ·obtain⟨n,Q,_,_,hp,_⟩:=gI.iff.1 hS
  have:=hS.us (v.r root) (hp.mem_iff.2 (by simp));exact .inl ((V.dH v _).1 this).2.1
theorem adK:v0.Kd:=fun i h1 h2=>by have h3:i<1:=h2;omega
theorem vN.mt {cap root:Nat}{v:V}{X P:List Nat}{E:List bK}(h:vN cap v root X P E) (hr:∀i,i≠root->v.r i<65536):v.mt.Ok:=by
 obtain⟨⟨fr,qh⟩,h1,h2⟩:=h.uZ;have h3:=qh.cnt;have h4:=qh.lt;refine⟨fun i=>?_,by show v.high<_;omega,?_,by show v.cnt<_;omega⟩
 ·show v.r i<_
  by_cases hi:i=root
  ·subst hi
   rcases h.tree.rlt with h5|h5 <;> omega
  ·have:=hr i hi;omega
 ·show v.free<_
  rw[qh.hd];cases fr with
  | nil=>decide
  | cons a l =>
   have:=(qh.mem a).2 (by simp);show a<_;omega
structure Emp (s:bH) (W wr:World) (gm:Nat) (v:V) (P:List Nat) (E:List bK) (A:Option Addr) (c:Nat):Prop where
 tx:aD wr s v
 one:vN s.cap v 0 [] P E
 st:V.Steps s.cap v0 v
 r:∀i,i≠0->v.r i=0
 iE:∀e∈E,iE e.1 []=0
 bm:ax wr gm 32 #[.slice A E.length c]
 ra:jL wr s.F A c E
 ex:ah (fun b=>s.F b\/b=gm) W wr
structure Jq (w0:World) (s:bH) (a:sF) (Dd Dl:Nat->Prop) (T:Nat->Nat) (N:Nat) (b:Db):Prop where
 ok:s.Ok
 sx:s.x=a.x
 log:a.log=400
 UC:s.log=400
 nn:s.nsec=b.k.n
 db:∀w,s.db w->gJ w T->fo w Dd Dl a (some ⟨s.t,0,none⟩) false T b
 low:∀g,Dd g\/Dl g\/g=a.x->g<s.m
 lt:s.m<s.t
 lv:zB a.log N b
 bh:s.bh=b.m.high
 kept:zC (bT T) (aJ b.k.cur a.log) s.bh s.base
 new:∀g,Dd g\/Dl g\/g=a.x->w0.heap.size<=g
 Zc:∀g,s.F g->w0.heap.size<=g
 h1:1<=b.m.high
 cap:400+b.m.high*8<=b.k.n
 cnt:b.m.cnt<=b.m.high
 lw2:∀g,g<w0.heap.size->g≠0->∀w w',ah (On g) w w'->s.db w->s.db w'
structure uC (w0 w:World) (a:sF) (Dd Dl:Nat->Prop) (T:Nat->Nat) (N:Nat) (b:Db) (base:Nat->bB):Prop where
 log:a.log=400
 db:fo w Dd Dl a none false T b
 lv:zB a.log N b
 kept:zC (bT T) (aJ b.k.cur a.log) b.m.high base
 new:∀g,Dd g\/Dl g\/g=a.x->w0.heap.size<=g
 h1:1<=b.m.high
 cap:400+b.m.high*8<=b.k.n
 cnt:b.m.cnt<=b.m.high
section
variable {w0 w w':World}{s:bH}{a:sF}{Dd Dl:Nat->Prop}{T:Nat->Nat}{N:Nat}{b:Db}{v:V}{base:Nat->bB}
theorem Xx.opened {p:Nat}(h:Xx w0 s p) (aX:s.Ok) (hw:s.db w) (hT:gJ w T) (h1:4<=p) (h2:p<=4000):∃a Dd Dl,Jq w0 s a Dd Dl T 0 (iq (400+8*p))/\s.d=a.d/\s.m<s.t/\(iq (400+8*p)).m.v s.base=v0:=by
 obtain⟨kb,d,l,x,t,m,rfl,q1,q2,q3,q4,q5,q6,n1,n2,n3,n4,n5,n6,n7,n8,m1,m2,m3,m4,m5⟩:=h.ex;have hL:=zB.fresh (400+8*p) 400;refine⟨⟨d,kb,x,l,400⟩,(fun g=>g=d\/g=kb),(fun g=>g=l),⟨aX,rfl,rfl,rfl,rfl,fun w'' jZ ahn=>kF.at_ jZ ahn (by omega) (by omega) (by omega) (by omega),?_,m5,hL,rfl,fun i a1 a2=>?_,?_,?_,Nat.le_refl _,by show 400+1*8<=400+8*p;omega,by show 0<=1;omega,fun g hg _ w1 w2 hx vk=>kF.ext (show kF w1 kb d l x (400+8*p) 400 (some ⟨t,0,none⟩)from vk) hx (fun e=>by have e1:kb=g:=e;omega) (fun e=>by have e1:d=g:=e;omega) (fun e=>by have e1:l=g:=e;omega) (fun e=>by have e1:x=g:=e;omega)⟩,rfl,m5,rfl⟩
 ·intro g hg
  rcases hg with (hg|hg)|hg|hg
  ·rw[hg];exact m2
  ·rw[hg];exact m1
  ·have:g=l:=hg
   rw[this];exact m3
  ·rw[hg];exact m4
 ·have a3:i<1:=a2
  omega
 ·intro g hg
  rcases hg with (hg|hg)|hg|hg
  ·rw[hg];exact q2
  ·rw[hg];exact q1
  ·have:g=l:=hg
   rw[this];exact q3
  ·rw[hg];exact q4
 ·intro g hg
  rcases hg with hg|hg
  ·rw[hg];exact q5
  ·rw[hg];exact q6
theorem Jq.ready (h:Jq w0 s a Dd Dl T N b) (hN:N<=100) (ht:aD w s v) (hT:gJ w T) (hg:v.Good) (hk:v.Kd) (hm:v.mt.Ok):Xr w s v Dd Dl a T b:=by
 have nC:=h.low;have bu:=h.lt;refine⟨h.ok,ht,h.sx,h.db w ht.db hT,fun e=>?_,fun e=>?_,fun e=>?_,fun e=>?_,fun e=>?_,hg,hk,hm,h.lv.near.mono (by omega),by have:=h.lv.ep;omega,by have:=h.lv.rl;omega,h.lv.fine.bytes,h.lv.rb,?_⟩
 ·have:=nC _ (.inl e);omega
 ·have:=nC _ (.inr (.inl e));omega
 ·have:=nC _ (.inl e);omega
 ·have:=nC _ (.inr (.inl e));omega
 ·have:=nC _ (.inr (.inr e));omega
 ·have h1:=ht.h2
  unfold bH.cap at h1;have h2:=h.nn;have h3:=h.UC;have h4:=h.log;have h5:=h.ok.ll;omega
structure aiY (w0 w:World) (s:bH) (v:V) (a:sF) (Dd Dl:Nat->Prop) (T:Nat->Nat) (N:Nat) (b:Db) (e:Ending) (w':World):Prop where
 r:∃code rR JC b' base',e=.returned (.int .i64 (code:Int))/\uC w0 w' a rR JC T (N+1) b' base'/\(code=9->v.spoilt=true)/\(v.spoilt=true->code=9)/\(code=0\/code=7\/code=9) /\
  (code=7->508<v.high*4\/25528<v.high*516) /\
  (code=0->b'.m.high=v.high/\b'.m.free=v.free/\b'.m.cnt=v.cnt/\b'.m.r=v.r/\∀i,1<=i->i<v.high->base' i=v.pg i)/\(code≠0->b'=b/\base'=s.base)/\b'.k.n=b.k.n/\∀g,rR g\/JC g->(Dd g\/Dl g)\/w.heap.size<=g
 x:ah (fun g=>Dd g\/Dl g\/g=a.x) w w'
 sh:ahx w' s
theorem zB.more (h:zB 400 N b):zB 400 (N+1) b:=⟨h.fine,h.rb,h.near.mono (by omega),by have:=h.ep;omega,by have:=h.rl;omega⟩
theorem uC.begin (h:uC w0 w a Dd Dl T N b base) (hN:N<=100) :
  Calls Tryz.prog 33 #[.pointer (some ⟨a.x,0,none⟩)] w fun e w'=>∃s,e=.returned (.tuple #[.pointer (some ⟨s.t,0,none⟩),.int .i64 0]) /\
   Jq w0 s a Dd Dl T N b/\aD w' s (b.m.v base)/\s.base=base/\ah (On a.x) w w'/\∀g,s.F g->w.heap.size<=g:=by
 have hd:=h.lv.down;have hl:=h.log;have hc:=h.cap;have tV:=h.lv.near.2.2;refine(MI base h.db hd h.h1 (by rw[hl];exact hc) h.cnt).mono ?_;rintro e w' ⟨he,ht,hx⟩;have aX:=Mq (base:=base) (t:=w.heap.size+1) (m:=w.heap.size) h.db (by omega) (by omega) hd (by omega) (by rw[hl];exact hc) h.kept;have hw0:w0.heap.size<=w.heap.size:=by
  have h1:=h.new a.x (.inr (.inr rfl));have h2:=h.db.db.lt;omega
 refine⟨iw a Dd Dl T b base (w.heap.size+1) w.heap.size,he,⟨aX,rfl,hl,hl,rfl,fun w'' jZ _=>jZ,?_,Nat.lt_succ_self _,h.lv,rfl,h.kept,h.new,?_,h.h1,hc,h.cnt,fun g hg h0 w1 w2 hx vk=>fo.ext vk hx (fun g' qO e=>by have e1:g'=g:=e;have:=h.new g' (.inl qO);omega) (fun g' qO e=>by have e1:g'=g:=e;have:=h.new g' (.inr (.inl qO));omega) (fun e=>by have e1:a.x=g:=e;have:=h.new a.x (.inr (.inr rfl));omega) (fun e=>h0 (by have e1:0=g:=e;exact e1.symm))⟩,ht,rfl,hx,?_⟩
 ·intro g hg
  rcases hg with hg|hg|hg
  ·exact h.db.disk.old g hg
  ·exact h.db.o9.old g hg
  ·rw[hg];exact h.db.db.lt
 ·intro g hg
  rcases hg with hg|hg
  ·have:g=w.heap.size+1:=hg
   omega
  ·have:g=w.heap.size:=hg
   omega
 ·intro g hg
  rcases hg with hg|hg
  ·have:g=w.heap.size+1:=hg
   omega
  ·have:g=w.heap.size:=hg
   omega
end
theorem Mt.SY (m:Mt) (j:Nat) (hj:j<4):∃s,m.body.drop (12+4*j)=n4 (m.r j)++s:=by
 match j,hj with
 | 0,_=>exact⟨n4 (m.r 1)++(n4 (m.r 2)++n4 (m.r 3)),by unfold Mt.body;rfl⟩
 | 1,_=>exact⟨n4 (m.r 2)++n4 (m.r 3),by unfold Mt.body;rfl⟩
 | 2,_=>exact⟨n4 (m.r 3),by unfold Mt.body;rfl⟩
 | 3,_=>exact⟨[],by unfold Mt.body;rfl⟩
def Mt.cells (m:Mt) (j:Nat):Array Value:=#[.int .i64 (if 0<j then (m.r 0:Int)else 0),.int .i64 (if 1<j then (m.r 1:Int)else 0),.int .i64 (if 2<j then (m.r 2:Int)else 0),.int .i64 (if 3<j then (m.r 3:Int)else 0),.int .i64 (m.high:Int),.int .i64 (m.free:Int),.int .i64 (m.cnt:Int)]
theorem Mt.Ph (m:Mt) (j:Nat) (hj:j<4):(m.cells j).setIfInBounds j (.int .i64 (m.r j:Int))=m.cells (j+1):=by
 match j,hj with
 | 0,_=>rfl
 | 1,_=>rfl
 | 2,_=>rfl
 | 3,_=>rfl
theorem N9 {Q:Ending->World->Prop}{a:Act}{w:World}(b:Nat) (cs:Array Value) (hb:ax w b 108 cs) {v:Value}(hs:some 7=some cs.size) (hp:a.tmps.getD 2 undef=.pointer (some ⟨b,0,none⟩)) (h3:a.tmps.getD 3 undef=v) (hd:a.defers = [])
  (h:Q (.returned (.tuple #[.agg cs,v])) w):bodyPost Tryz.prog Tryz.f86 Q Exit.ret a w:=by
 refine bodyPost_ret (v:=.tuple #[.agg cs,v]) (w:=w) ?_ hd h;have hl:=run_loadVar_row w b 108 108 cs (0,0) _ hb Tryz.underlying108 rfl (by rw[<-hs];kernel_rfl);rw[vV rfl,hp,h3];simp[asAddr,Result.andThen,hl]
theorem RA (m:Mt) (hm:m.Ok) (w:World):Calls Tryz.prog 86 #[.string (au m.body)] w fun e w'=>e=.returned (.tuple #[m.val,.bool (decide ((1:Int)<=(m.high:Int)))])/\ah No w w':=by
 have HM:=aa hm;obtain⟨B,hB⟩:∃B,B=m.body:=⟨_,rfl⟩;have hBl:B.length=28:=by rw[hB];rfl
 have wK:(au B).size=28:=by rw[az,hBl]
 have q0:v4 (au B)=m.high:=by rw[hB];exact o_ _ (by have:=hm.h;omega) _
 have q1:v4 (au (B.drop 4))=m.free:=by rw[hB];exact o_ m.free (by have:=hm.f;omega) (n4 m.cnt++(n4 (m.r 0)++(n4 (m.r 1)++(n4 (m.r 2)++n4 (m.r 3)))))
 have q2:v4 (au (B.drop 8))=m.cnt:=by rw[hB];exact o_ m.cnt (by have:=hm.c;omega) (n4 (m.r 0)++(n4 (m.r 1)++(n4 (m.r 2)++n4 (m.r 3))))
 have HQ:Hid (∀j,j<4->v4 (au (B.drop (12+4*j)))=m.r j):=aa (fun j hj=>by
  obtain⟨s,hs⟩:=m.SY j hj;rw[hB,hs]
  exact o_ _ (by have:=hm.r j;omega) _)
 have HX:Hid (∀n,(au B).extract n 28=au (B.drop n)):=aa (fun n=>by have:=nk B n;rw[hBl]at this;exact this);obtain⟨B1,SG⟩:∃B1,B1=B.drop 4:=⟨_,rfl⟩;obtain⟨B2,hB2⟩:∃B2,B2=B.drop 8:=⟨_,rfl⟩;rw[<-SG]at q1;rw[<-hB2]at q2;have x4:(au B).extract 4 28=au B1:=by rw[HX.out,SG]
 have x8:(au B).extract 8 28=au B2:=by rw[HX.out,hB2]
 have z1:(au B1).size=24:=by rw[az,SG,List.length_drop,hBl]
 have z2:(au B2).size=20:=by rw[az,hB2,List.length_drop,hBl]
 have H0:=aa (fun w=>iT (au B) (by rw[wK];decide) w);have H1:=aa (fun w=>iT (au B1) (by rw[z1];decide) w);have H2:=aa (fun w=>iT (au B2) (by rw[z2];decide) w);rw[q0]at H0;rw[q1]at H1;rw[q2]at H2;have HZ:Hid (∀n,(au (B.drop n)).size=28-n):=aa (fun n=>by rw[az,List.length_drop,hBl]);rw[<-hB];obtain⟨D,hD⟩:∃D,D=fun(e:Ending) w'=>e=.returned (.tuple #[m.val,.bool (decide ((1:Int)<=(m.high:Int)))])/\ah No w w':=⟨_,rfl⟩
 rw[<-hD];have HD:=aa hD;clear hm hB q0 q1 q2 hBl SG hB2 z1 z2 hD;go_enter Tryz.func86,Tryz.ntmps86;go_upto_region 3 with fail;have wI:=aa (ax.new w 108 #[.int .i64 0,.int .i64 0,.int .i64 0,.int .i64 0,.int .i64 0,.int .i64 0,.int .i64 0]);have gK:=aa ((ah.refl No w).alloc (.cells #[.int .i64 0,.int .i64 0,.int .i64 0,.int .i64 0,.int .i64 0,.int .i64 0,.int .i64 0] 108));generalize w.alloc (.cells #[.int .i64 0,.int .i64 0,.int .i64 0,.int .i64 0,.int .i64 0,.int .i64 0,.int .i64 0] 108)=W at *;obtain⟨g,hg⟩:∃g,g=w.heap.size:=⟨_,rfl⟩;rw[<-hg]at wI ⊢;have HG:=aa hg;have y4:=wI.out.cell 4;have y5:=wI.out.cell 5;have y6:=wI.out.cell 6;have f4:=wI.out.frozen 4;have f5:=wI.out.frozen 5;have f6:=wI.out.frozen 6;have lg:=wI.out.lt;simp at y4 y5 y6;clear hg
 go_region_held3 (fun w'=>True) (trivial) (first
  | (go_at_call 55;with_reducible (refine(H0.out _).mono ?_);rintro e w2 ⟨rfl,k2,rfl⟩)
  | (go_at_call 55;with_reducible (refine(H1.out _).mono ?_);rintro e w3 ⟨rfl,k3,rfl⟩)
  | (go_at_call 55;with_reducible (refine(H2.out _).mono ?_);rintro e w4 ⟨rfl,k4,rfl⟩))
 obtain⟨W4,Yh⟩:∃W4,W4=(((W.drewN (1+k2+k3+k4)).setCell ⟨g,4,none⟩ (.int .i64 (m.high:Int))).setCell ⟨g,5,none⟩ (.int .i64 (m.free:Int))).setCell ⟨g,6,none⟩ (.int .i64 (m.cnt:Int)):=⟨_,rfl⟩;rw[<-Yh];have Q3:=aa (show ax W4 g 108 (m.cells 0)from Yh▸((((wI.out.drewN (1+k2+k3+k4)).aQ 4 _).aQ 5 _).aQ 6 _));have Bl:=aa (show ah (On g) W W4 from Yh▸ah.ay (F:=On g) (ah.ay (F:=On g) (ah.ay (F:=On g) ((ah.refl _ _).drewN _) (b:=g) (show On g g from rfl) _ _) (b:=g) (show On g g from rfl) _ _) (b:=g) (show On g g from rfl) _ _);clear Yh y4 y5 y6 f4 f5 f6 lg x4 x8;go_wp2_with fail;go_loopg [20] 4 (fun gk q wr=>∃j:Nat,j+gk=4/\q=.int .i64 (j:Int)/\Hid (ax wr g 108 (m.cells j))/\Hid (ah (On g) W wr))
 case atStart=>exact⟨0,rfl,rfl,Q3,Bl⟩
 case round =>
  obtain⟨j,hj,rfl,HB,jl⟩:=hrel;have HJ:=aa hj
  by_cases bu:j<4
  ·have iY:(j:Int)<4:=by omega
   have hj0:(0:Int)<=(j:Int):=by omega
   obtain⟨O,hO⟩:∃O,O=12+4*j:=⟨_,rfl⟩;have vk:IntKind.i64.wrap (4*(j:Int))=4*(j:Int):=bA _ (by omega) (by omega);have Nc:IntKind.i64.wrap (12+4*(j:Int))=(O:Int):=by rw[show 12+4*(j:Int)=(O:Int) by omega];exact bA _ (by omega) (by omega)
   have hO0:(0:Int)<=(O:Int):=by omega
   have ajF:(O:Int)<=28:=by omega
   have xj:=HX.out O;have HV:=aa (fun w=>iT (au (B.drop O)) (by rw[HZ.out];omega) w);rw[show v4 (au (B.drop O))=m.r j by rw[hO];exact HQ.out j bu]at HV;have yj:=HB.out.cell j;rw[show(m.cells j)[j]?=some (.int .i64 0) by match j,bu with|0,_=>rfl|1,_=>rfl|2,_=>rfl|3,_=>rfl]at yj;have fj:=HB.out.frozen j;have lj:=HB.out.lt;have mQ:=aa bu;clear hj hO;go_wp2_with fail;refine(HV.out _).mono ?_;rintro e w7 ⟨rfl,k7,rfl⟩;go_wp2_with fail;go_roundg (gk-1)
   case rel=>exact⟨j+1,by have:=HJ.out;have:=mQ.out;omega,by go_num,aa (by rw[<-m.Ph j mQ.out];exact(HB.out.drewN k7).aQ j _),aa (ah.ay (F:=On g) (jl.out.drewN k7) (b:=g) (show On g g from rfl) _ _)⟩
   case measure=>have:=HJ.out;have:=mQ.out;omega
  ·have Uc:j=4:=by omega
   subst Uc;have iC:¬(((4:Nat):Int)<4):=by decide
   have z0:=HB.out.cell 0;have z1:=HB.out.cell 1;have z2:=HB.out.cell 2;have z3:=HB.out.cell 3;have z4:=HB.out.cell 4;have z5:=HB.out.cell 5;have z6:=HB.out.cell 6;simp[Mt.cells]at z0 z1 z2 z3 z4 z5 z6;have fz:=HB.out.frozen;have lz:=HB.out.lt;clear hj bu;go_wp2_with fail;have hb:=((((((HB.out.aQ 0 (.int .i64 (m.r 0:Int))).aQ 1 (.int .i64 (m.r 1:Int))).aQ 2 (.int .i64 (m.r 2:Int))).aQ 3 (.int .i64 (m.r 3:Int))).aQ 4 (.int .i64 (m.high:Int))).aQ 5 (.int .i64 (m.free:Int))).aQ 6 (.int .i64 (m.cnt:Int));have C8:∀w1 w2:World,ah (On g) w1 w2->∀i u,ah (On g) w1 (w2.setCell ⟨g,i,none⟩ u):=fun w1 w2 h i u=>ah.ay (F:=On g) h (b:=g) (show On g g from rfl) _ _
   refine N9 _ _ hb rfl (by rfl) (by rfl) (by rfl) ?_;rw[HD.out];refine⟨rfl,gK.out.trans (C8 _ _ (C8 _ _ (C8 _ _ (C8 _ _ (C8 _ _ (C8 _ _ (C8 _ _ jl.out _ _) _ _) _ _) _ _) _ _) _ _) _ _) (fun i hi h1=>by have e1:i=g:=h1;have:=HG.out;omega)⟩
end Go.Proofs.YtccnemmlkcmceaaGreatDoor
namespace Go.Proofs.YtccnemmlkcmceaaGreatDoor
open Go.RowKit Go.BigFrame
structure mF (w:World) (Dd Dl:Nat->Prop) (a:sF) (o:Option Addr) (lost:Bool) (T:Nat->Nat) (b:Db):Prop where
 disk:aF w Dd a.d a.kb b.k
 o9:dM w Dl a.l a.d a.log ⟨b.ak,b.bytes,b.recs,[],false⟩
 db:ax w a.x 131 (gu a b.m o lost)
 half:gJ w T
 parts:yn a Dd Dl
 ll:a.log<=b.k.n
theorem mF.ext {F:Nat->Prop}{w w':World}{Dd Dl:Nat->Prop}{a:sF}{o:Option Addr}{lost:Bool}{T:Nat->Nat}{b:Db}(h:mF w Dd Dl a o lost T b) (hx:ah F w w') (h1:∀g,Dd g->¬F g) (h2:∀g,Dl g->¬F g) (h3:¬F a.x) (h4:¬F 0):mF w' Dd Dl a o lost T b :=
 ⟨h.disk.ext hx h1,h.o9.ext hx h2,h.db.ext hx h3,h.half.ext hx h4,h.parts,h.ll⟩
theorem mF.no {w w':World}{Dd Dl:Nat->Prop}{a:sF}{o:Option Addr}{lost:Bool}{T:Nat->Nat}{b:Db}(h:mF w Dd Dl a o lost T b) (hx:ah No w w'):mF w' Dd Dl a o lost T b :=
 h.ext hx (fun _ _ h=>h) (fun _ _ h=>h) (fun h=>h) (fun h=>h)
theorem mF.full {w:World}{Dd Dl:Nat->Prop}{a:sF}{o:Option Addr}{lost:Bool}{T:Nat->Nat}{b:Db}(h:mF w Dd Dl a o lost T b) (hb:b.bytes = []):fo w Dd Dl a o lost T b :=
 ⟨h.disk,h.o9.full hb,h.db,h.half,h.parts,h.ll⟩
structure MM (w:World) (Dd Dl:Nat->Prop) (a:sF) (o:Option Addr) (lost:Bool) (T:Nat->Nat) (S:Nat×Db) (e:Ending) (w':World):Prop where
 e:e=.returned (.int .i64 (S.1:Int))
 at_:∃rR,aF w' rR a.d a.kb S.2.k/\(S.1=0->mF w' rR Dl a o lost T S.2)/\yn a rR Dl/\jw w Dd rR
 bx:ax w' a.x 131 (gu a S.2.m o lost)
 x:ah (fun b=>Dd b\/Dl b) w w'
theorem Tc {w:World}{Dd Dl:Nat->Prop}{a:sF}{o:Option Addr}{lost:Bool}{T:Nat->Nat}{b:Db}(h:mF w Dd Dl a o lost T b) (hk:b.k.eD (2^28)) (he:b.ak<2^59) (hr:b.recs.length<2^16) :
  Calls Tryz.prog 70 #[.pointer (some ⟨a.x,0,none⟩)] w (MM w Dd Dl a o lost T (b.settle (bT T))):=by
 obtain⟨S,hS⟩:∃S,S=b.settle (bT T):=⟨_,rfl⟩;rw[<-hS];obtain⟨Q,hQ⟩:∃Q,Q=MM w Dd Dl a o lost T S:=⟨_,rfl⟩;rw[<-hQ];have HQ:=aa hQ;have HS:=aa hS;have jy:=aa (Ae h.o9 (by show b.recs.length<100000;omega));simp only at jy;have x0:w.cell? ⟨a.x,0,none⟩=some (.pointer (some ⟨a.d,0,none⟩)):=h.db.cell 0;have x1:w.cell? ⟨a.x,1,none⟩=some (.pointer (some ⟨a.l,0,none⟩)):=h.db.cell 1;have BC:=h.db.lt;have H:=aa h;have HK:=aa hk;have HE:=aa he;have zJ:=aa x0;have rC:=aa x1;have Py:=aa BC;obtain⟨x,hx⟩:∃x,x=a.x:=⟨_,rfl⟩;obtain⟨n,hn⟩:∃n,n=b.recs.length:=⟨_,rfl⟩;rw[<-hx]at x0 x1 zJ rC BC Py ⊢;rw[<-hn]at jy;have HN:=aa hn;have HX:=aa hx;clear h hk he hr hS hQ hn hx;go_enter Tryz.func70,Tryz.ntmps70;go_wp2_with fail;refine(jy.out).mono ?_;rintro e w1 ⟨A,c,rfl,_,aT⟩;have gK:=aa aT;have H1:=aa (H.out.no aT);have y0:=aj aT zJ.out (fun h=>h);have y1:=aj aT rC.out (fun h=>h);have adO:x<w1.heap.size:=by have:=aT.size;omega
 clear aT x0 x1 jy
 by_cases uN:n=0
 ·have HD:Hid (Q (.returned (.int .i64 0)) w1):=aa (by
   have hr:b.recs = []:=List.eq_nil_of_length_eq_zero (by rw[<-HN.out,uN]);have e:S=(0,b):=by rw[HS.out];unfold Db.settle;rw[if_pos hr]
   rw[HQ.out,e]
   exact⟨rfl,⟨Dd,H1.out.disk,fun _=>H1.out,H1.out.parts,fun g hg=>.inl hg⟩,H1.out.db,gK.out.of_no⟩)
  subst uN;go_wp2_with fail;exact HD.out
 ·have bQ:((n:Int)==0)=false:=by simpa using uN
  have Js:Hid (b.recs ≠ []):=aa (fun e=>by rw[e]at HN;exact uN HN.out);have HFL:=aa (uj H1.out.disk (by have:=HK.out.1;omega) (by have:=HK.out.2.1;omega) (by have:=HK.out.2.2;omega));obtain⟨F,hF⟩:∃F,F=b.k.flush:=⟨_,rfl⟩;rw[<-hF]at HFL;have HF:=aa hF;clear uN hF;go_wp2_with fail;refine(HFL.out).mono ?_;rintro e w2 ⟨rfl,hd2,aH⟩;have mE:=aa hd2;have dx:=aa aH;have hNX:¬Dd x:=by rw[HX.out];exact H.out.parts.xd
  have yG:=aa hNX;have z1:=aj aH y1 hNX;have abV:x<w2.heap.size:=by have:=aH.size;omega
  have XC:=aa (H1.out.o9.ext aH H.out.parts.ap);have ng:=aa (H1.out.db.ext aH H.out.parts.xd);have rq:=aa (H1.out.half.ext aH H.out.parts.zd);clear hd2 aH y0 y1 hNX
  by_cases hf:F.1=0
  ·have hf0:(F.1:Int)=0:=by omega
   have HF0:=aa hf;have Nu:=aa (RX XC.out mE.out rq.out H.out.parts.zd H.out.parts.ap (by rw[HF.out];exact(Dk.nJ HK.out).mono (by decide)) (by show b.ak<_;exact HE.out) rfl rfl);simp only at Nu;obtain⟨R,hR⟩:∃R,R=F.2.aO (bT T) (b.ak+1) 0:=⟨_,rfl⟩;rw[<-hR]at Nu;have HR:=aa hR;obtain⟨l9,h9⟩:∃l9:Lg,l9=(if R.1≠0 then { (⟨b.ak,b.bytes,b.recs,[],false⟩:Lg)with lost:=true } else { (⟨b.ak,b.bytes,b.recs,[],false⟩:Lg)with ak:=b.ak+1,bytes:=[],recs:=[] }):=⟨_,rfl⟩;have H9:=aa h9;have ade:Hid (Calls Tryz.prog 111 #[.pointer (some ⟨a.l,0,none⟩)] w2 fun e w'=>e=.returned (.int .i64 (R.1:Int))/\aF w' (bz Dd w2 w') a.d a.kb R.2/\dM w' Dl a.l a.d a.log l9/\ah (fun b=>Dd b\/On a.l b) w2 w'):=aa (by rw[h9];exact Nu.out);rw[hf0];clear hf hf0 hR h9 Nu;go_wp2_with fail;refine(ade.out).mono ?_;rintro e w3 ⟨rfl,za,BF,bC⟩
   have HD:Hid (Q (.returned (.int .i64 (R.1:Int))) w3):=aa (by
    have Ov:Dl a.l:=H.out.o9.xx;have hP:=H.out.parts
    have C9:ah (fun b=>Dd b\/Dl b) w2 w3:=bC.mono (fun g _ hg=>by
     rcases hg with hg|hg
     ·exact .inl hg
     ·have e':g=a.l:=hg
      rw[e'];exact .inr Ov)
    have hnx:¬(fun b=>Dd b\/Dl b) a.x:=fun hg=>by
     rcases hg with hg|hg
     ·exact hP.xd hg
     ·exact hP.xl hg
    have uN:¬(fun b=>Dd b\/Dl b) 0:=fun hg=>by
     rcases hg with hg|hg
     ·exact hP.zd hg
     ·exact hP.zl hg
    have hNW:jw w Dd (bz Dd w2 w3):=fun g hg=>by
     rcases hg with hg|hg
     ·exact .inl hg
     ·have:=gK.out.size;have:=dx.out.size;exact .inr (by omega)
    have acP:∀g,Dl g->¬bz Dd w2 w3 g:=fun g hg JH=>by
     rcases JH with JH|JH
     ·exact hP.ap g hg JH
     ·have:=XC.out.old g hg;omega
    have hP3:=hP.newer (w:=w) hNW (fun g hg=>.inl hg) acP (by rw[<-HX.out];exact Py.out);have jR:ah (fun b=>Dd b\/Dl b) w w3:=(gK.out.of_no.ag (dx.out.mono (fun _ _ hg=>.inl hg))).ag C9;have eS:S=if R.1≠0 then (R.1,{ b with k:=R.2 })else (0,{ b with k:=R.2,ak:=b.ak+1,bytes:=[],recs:=[] }):=by
     rw[HS.out];unfold Db.settle;rw[if_neg Js.out,<-HF.out,if_neg (by have:=HF0.out;omega),<-HR.out]
    rw[HQ.out];have SA:=ng.out.ext C9 hnx
    by_cases hr:R.1=0
    ·rw[if_neg (by omega)]at eS
     rw[eS];have hl9:=H9.out;rw[if_neg (by omega)]at hl9;rw[hl9]at BF;refine⟨by rw[hr],⟨_,za,fun _=>⟨za,BF,SA,rq.out.ext C9 uN,hP3,?_⟩,hP3,hNW⟩,SA,jR⟩;show a.log<=R.2.n;rw[HR.out,Dk.pM,HF.out,Dk.uQ];exact H.out.ll
    ·rw[if_pos hr]at eS
     rw[eS]
     exact⟨rfl,⟨_,za,fun h=>absurd h hr,hP3,hNW⟩,SA,jR⟩)
   clear za BF bC;go_wp2_with fail;exact HD.out
  ·have Nl:((F.1:Int) != 0)=true:=by simp;omega
   have HD:Hid (Q (.returned (.int .i64 (F.1:Int))) w2):=aa (by
    have e:S=(F.1,{ b with k:=F.2 }):=by
     rw[HS.out];unfold Db.settle;rw[if_neg Js.out,<-HF.out,if_pos hf]
    rw[HQ.out,e]
    exact⟨rfl,⟨Dd,mE.out,fun h=>absurd h hf,H.out.parts,fun g hg=>.inl hg⟩,ng.out,gK.out.of_no.ag (dx.out.mono (fun _ _ hg=>.inl hg))⟩)
   clear hf;go_wp2_with fail;exact HD.out
end Go.Proofs.YtccnemmlkcmceaaGreatDoor
namespace Go.Proofs.YtccnemmlkcmceaaGreatDoor
open Go.RowKit
theorem vY {cap:Nat}{cr:Bs->Nat}:∀(ls:List (List (Nat×Bs))),(∀l∈ls,mr cap l)->528*ls.length<=(ls.flatMap fun l=>aM cr (aB l)).length
 | [],_=>by simp
 | l::ls,h=>by
  have h1:=vY (cr:=cr) ls (fun x hx=>h x (by simp[hx]));have h2:=h l (by simp);have h3:=nK (l:=l) (fun p hp=>(h2.2.2 p hp).2);have h4:1<=l.length:=by
   cases l with
   | nil=>exact absurd rfl h2.1
   | cons _ _=>simp
  rw[List.flatMap_cons,List.length_append,kX,List.length_cons];clear h2 h;rw[Nat.mul_comm]at h3;omega
theorem mr.few {cap:Nat}{l:List (Nat×Bs)}(h:mr cap l):l.length<=127:=by
 have h3:=nK (l:=l) (fun p hp=>(h.2.2 p hp).2);have h4:=h.2.1;clear h;rw[Nat.mul_comm]at h3;omega
theorem FQ {log cap N:Nat}{k:Dk}{l:List (Nat×Bs)}(hk:k.live) (hn:k.eD N) (hl:mr cap l) :
  (k.writes (bI log l)).1=0/\(k.writes (bI log l)).2.live/\(k.writes (bI log l)).2.n=k.n/\(k.writes (bI log l)).2.eD (N+1016)/\∀id,aJ (k.writes (bI log l)).2.cur log id=pages l (aJ k.cur log) id:=by
 have h1:=Dk.jG (l:=bI log l) hk;refine⟨h1.1,h1.2,Dk.jU _ _,(Dk.lQ _ hn).mono (by rw[CR];have:=hl.few;omega),fun id=>?_⟩;have e:aJ (k.writes (bI log l)).2.cur log id=aJ (over (bI log l) k.cur) log id:=d_ (fun j _=>Dk.kY h1.1 _);rw[e];exact qE l _ log (fun p hp=>(hl.2.2 p hp).2) id
theorem mF.agd {w w':World}{Dd Dl:Nat->Prop}{a:sF}{o:Option Addr}{lost:Bool}{T:Nat->Nat}{b:Db}{k2:Dk}(h:mF w Dd Dl a o lost T b) (hd:aF w' (bz Dd w w') a.d a.kb k2) (hx:ah Dd w w') (hn:k2.n=b.k.n) :
  mF w' (bz Dd w w') Dl a o lost T { b with k:=k2 } :=
 ⟨hd,h.o9.ext hx h.parts.ap,h.db.ext hx h.parts.xd,h.half.ext hx h.parts.zd,
  h.parts.newer (w:=w) (fun g hg=>by
   rcases hg with hg|hg
   ·exact .inl hg
   ·exact .inr hg.1) (fun g hg=>.inl hg) (fun g hg JH=>by
   rcases JH with h2|h2
   ·exact h.parts.ap g hg h2
   ·have:=h.o9.old g hg;omega) h.db.lt,by show a.log<=k2.n;rw[hn];exact h.ll⟩
def m00:Mt:=⟨fun _=>0,0,0,0⟩
structure nP (w4 wr:World) (D Dl:Nat->Prop) (a:sF) (T:Nat->Nat) (b:Db) (ls:List (List (Nat×Bs))) (N j:Nat) (k':Dk):Prop where
 db:∃Dd,jw w4 D Dd/\mF wr Dd Dl a none false T { b with k:=k' }/\ah D w4 wr
 live:k'.live
 n:k'.n=b.k.n
 near:k'.eD (N+j*1016)
 pg:∀id,aJ k'.cur a.log id=pages (ls.take j).flatten (aJ b.k.cur a.log) id
section
variable {w4 wr w':World}{D Dl:Nat->Prop}{a:sF}{T:Nat->Nat}{b:Db}{ls:List (List (Nat×Bs))}{N j:Nat}{k':Dk}
theorem nP.no (h:nP w4 wr D Dl a T b ls N j k') (hx:ah No wr w'):nP w4 w' D Dl a T b ls N j k':=by
 obtain⟨Dd,h1,h2,h3⟩:=h.db;exact⟨⟨Dd,h1,h2.no hx,h3.ag hx.of_no⟩,h.live,h.n,h.near,h.pg⟩
theorem nP.next {Dd:Nat->Prop}{l:List (Nat×Bs)}{cap:Nat}(h:nP w4 wr D Dl a T b ls N j k') (h1:jw w4 D Dd) (h2:mF wr Dd Dl a none false T { b with k:=k' }) (h3:ah D w4 wr) (hl:ls[j]?=some l) (aX:mr cap l)
  (hd:aF w' (bz Dd wr w') a.d a.kb (k'.writes (bI a.log l)).2) (hx:ah Dd wr w'):nP w4 w' D Dl a T b ls N (j+1) (k'.writes (bI a.log l)).2:=by
 obtain⟨q1,q2,q3,q4,q5⟩:=FQ (log:=a.log) h.live h.near aX;refine⟨⟨bz Dd wr w',fun g hg=>?_,h2.agd hd hx q3,h3.trans hx (fun g hg JH=>?_)⟩,q2,q3.trans h.n,q4.mono (by omega),fun id=>?_⟩
 ·rcases hg with hg|hg
  ·exact h1 g hg
  ·have:=h3.size;exact .inr (by omega)
 ·rcases h1 g JH with h4|h4
  ·exact h4
  ·omega
 ·rw[q5,List.take_add_one,hl]
  have e:aJ k'.cur a.log=pages (ls.take j).flatten (aJ b.k.cur a.log):=funext h.pg;rw[e];simp only[Option.toList_some,List.flatten_append,List.flatten_cons,List.flatten_nil,List.append_nil];exact(xh _ _ _ _).symm
end
theorem nP.ends {w4 wr:World}{D Dl:Nat->Prop}{a:sF}{T:Nat->Nat}{b:Db}{ls:List (List (Nat×Bs))}{N:Nat}{k':Dk}{cr:Bs->Nat}(h:nP w4 wr D Dl a T b ls N ls.length k') (hr:b.recs=ls.map aB) (hb:b.bytes=ls.flatMap fun l=>aM cr (aB l)) (gP:b.bytes.length<=64*(a.log-1)) (df:2<=a.log) :
  ((
   { b with k:=k' }:Db).settle cr).1=0/\(({ b with k:=k' }:Db).settle cr).2.k.live/\(({ b with k:=k' }:Db).settle cr).2.bytes = []/\(({ b with k:=k' }:Db).settle cr).2.recs = []/\(({ b with k:=k' }:Db).settle cr).2.k.n=b.k.n /\
   (({ b with k:=k' }:Db).settle cr).2.k.eD (N+ls.length*1016+3)/\(({ b with k:=k' }:Db).settle cr).2.ak<=b.ak+1/\(({ b with k:=k' }:Db).settle cr).2.m=b.m/\∀id,aJ (({ b with k:=k' }:Db).settle cr).2.k.cur a.log id=pages ls.flatten (aJ b.k.cur a.log) id:=by
 have hF:({ b with k:=k' }:Db).FH a.log:=⟨h.live,gP⟩;obtain⟨s1,s2,s3,s4,s5,s6,s7⟩:=Db.zV (cr:=cr) hF df;have hn:=Db.sV (cr:=cr) (s:={ b with k:=k' }) h.near;obtain⟨_,_,h9⟩:=Db.qC cr { b with k:=k' };refine⟨s1,s2.live,?_,h9 s1,s3.1.trans h.n,hn,s5,s4,fun id=>?_⟩
 ·rcases s6 with s6|s6
  ·rw[s7 s6]
   have h1:b.recs = []:=s6;have h2:ls = []:=by rw[hr]at h1;simpa using h1
   show b.bytes = [];rw[hb,h2];rfl
  ·exact s6
 ·have h1:aJ (({ b with k:=k' }:Db).settle cr).2.k.cur a.log id=aJ k'.cur a.log id:=d_ (fun j _=>s3.2 _ (by omega))
  rw[h1,h.pg,List.take_length]
def oZ (cr:Bs->Nat) (g:Nat->Bs) (m:Mt):Prop:=(g 0=zs 512/\m=⟨fun _=>0,1,0,0⟩)\/(g 0=dY cr 0 1 m.body/\m.Ok/\1<=m.high)
structure Xv (w:World) (D:Nat->Prop) (d log n N E:Nat) (T:Nat->Nat) (g:Nat->Bs) (m:Mt) (e:Ending) (w':World):Prop where
 r:∃a Dd Dl b,e=.returned (.tuple #[.pointer (some ⟨a.x,0,none⟩),.int .i64 0])/\a.log=log/\a.d=d/\fo w' Dd Dl a none false T b/\b.m=m/\b.k.n=n/\b.k.live/\b.bytes = []/\b.recs = []/\b.k.eD N/\b.ak<=E /\
  (∀id,aJ b.k.cur log id=g id)/\jw w D Dd/\(∀q,Dl q->w.heap.size<=q)/\w.heap.size<=a.x
 x:ah D w w'
structure nN (cr:Bs->Nat) (cap:Nat) (b:Db):Prop where
 rest:∃ls,kZ cr 400 cap b.k b.ak b.bytes ls (aJ b.k.cur 400)/\b.recs=ls.map aB
 mt:oZ cr (aJ b.k.cur 400) b.m
theorem Y7 (log id:Nat):aJ (fun _=>zs 64) log id=zs 512:=by
 unfold aJ;have h:(List.range 8).map (fun _=>zs 64)=List.replicate 8 (zs 64):=rfl;rw[h];simp[zs]
theorem nN.fresh (cr:Bs->Nat) (cap n:Nat):nN cr cap (iq n) :=
 ⟨⟨[],⟨⟨.inr ⟨rfl,rfl,rfl,rfl⟩,fun i hi=>by simp[iq]at hi,rfl⟩,by simp[iq],by simp,by simp[iq],fun _ _=>rfl,fun id hid=>by simp[jk]at hid⟩,rfl⟩,.inl ⟨Y7 400 0,rfl⟩⟩
theorem nN.same {cr:Bs->Nat}{cap:Nat}{b:Db}(h:nN cr cap b) {k:Dk}(h1:k.K=b.k.K) (h2:k.pd=b.k.pd):nN cr cap { b with k:=k }:=by
 obtain⟨ls,hr,kU⟩:=h.rest;have e:k.cur=b.k.cur:=by unfold Dk.cur;rw[h1,h2]
 refine⟨⟨ls,?_,kU⟩,?_⟩
 ·show kZ cr 400 cap k b.ak b.bytes ls (aJ k.cur 400)
  rw[e];exact hr.same h1 h2
 ·show oZ cr (aJ k.cur 400) b.m
  rw[e];exact h.mt
theorem oZ.images {T:Nat->Nat}{f:Nat->Bs}{m:Mt}{s:bH}{v:V}{ov:List (Nat×bB)}{l:List (Nat×Bs)}(h:oZ (bT T) f m) (hI:fG s v T ov l) (hm:v.mt.Ok) (h1:1<=v.high) (hk:v.marked=false->v.mt=m):oZ (bT T) (pages l f) v.mt:=by
 cases hq:v.marked
 ·have e:=hI.other f (i:=0) (fun hi=>by
   obtain⟨p,hp,hp0⟩:=List.mem_map.1 hi;have:=(hI.over.inn p.1 p.2 hp).1
   omega) (fun h=>by rw[hq]at h;cases h)
  rw[hk hq];unfold oZ;rw[e];exact h
 ·exact .inr ⟨hI.page f (p:=(0,dY (bT T) 0 1 v.mt.body)) (by unfold fB;rw[if_pos hq];simp),hm,h1⟩
theorem J_ {cap:Nat}{m:Mt}{base:Nat->bB}{v:V}(h:V.Steps cap (m.v base) v) (hq:v.marked=false):v.mt=m:=by
 obtain⟨_,h1,h2,h3,h4⟩:=h.mark hq;unfold V.mt;rw[h1,h2,h3,h4];rfl
section
variable {T:Nat->Nat}{cap:Nat}{b:Db}{s:bH}{v:V}{ov:List (Nat×bB)}{l:List (Nat×Bs)}
theorem fG.aaX (hI:fG s v T ov l) (hg:v.Good) (h1:1<=v.high) (hc:v.high<=cap):l = []\/(aB l).length>65536\/mr cap l:=by
 by_cases h0:l = []
 ·exact .inl h0
 ·by_cases h2:(aB l).length>65536
  ·exact .inr (.inl h2)
  ·exact .inr (.inr ⟨h0,by omega,fun p hp=>by have:=hI.mem hg h1 hp;exact⟨by omega,this.2⟩⟩)
theorem nN.aV (h:nN (bT T) cap b) (hI:fG s v T ov l) (hg:v.Good) (h1:1<=v.high) (hc:v.high<=cap) (hm:v.mt.Ok) (hk:v.marked=false->v.mt=b.m) (h0:(b.aV (bT T) 400 false l v.mt).1=0):nN (bT T) cap (b.aV (bT T) 400 false l v.mt).2:=by
 obtain⟨ls,hr,kU⟩:=h.rest;obtain⟨c0,_⟩:=yg (E:=b.ak+1) (m:=v.mt) hr (by decide) (Nat.le_refl _) (fun _=>rfl) kU (hI.aaX hg h1 hc);have Es:=h.mt.images hI hm h1 hk;rcases c0 h0 with ⟨_,hs⟩|⟨ls',r1,r2,r3,r4,r5⟩
 ·rw[hs];exact h
 ·have e:aJ (b.aV (bT T) 400 false l v.mt).2.k.cur 400=pages l (aJ b.k.cur 400):=funext r2
  refine⟨⟨ls',?_,r3⟩,?_⟩
  ·rw[e];exact r1
  ·rw[e,r5];exact Es
theorem nN.afc (h:nN (bT T) cap b) (hI:fG s v T ov l) (hg:v.Good) (h1:1<=v.high) (hc:v.high<=cap) {E:Nat}(hE:b.ak+1<=E) (c:Nat->Bs) (hp:nQ (b.aV (bT T) 400 false l v.mt).2.k c) :
  nO (bT T) 400 cap E c (pages l (aJ b.k.cur 400))\/((b.aV (bT T) 400 false l v.mt).1≠0/\nO (bT T) 400 cap E c (aJ b.k.cur 400)):=by
 obtain⟨ls,hr,kU⟩:=h.rest;obtain⟨c0,c1⟩:=yg (E:=E) (m:=v.mt) hr (by decide) hE (fun _=>rfl) kU (hI.aaX hg h1 hc)
 by_cases h0:(b.aV (bT T) 400 false l v.mt).1=0
 ·left
  rcases c0 h0 with ⟨Ni,hs⟩|⟨ls',r1,r2,r3,r4,r5⟩
  ·rw[hs]at hp
   subst Ni;exact hr.shows (by decide) (by omega) hp
  ·exact r1.shows (by decide) (by omega) hp
 ·rcases c1 h0 c hp with h2|h2
  ·exact .inr ⟨h0,h2⟩
  ·exact .inl h2
end
end Go.Proofs.YtccnemmlkcmceaaGreatDoor
namespace Go.Proofs.YtccnemmlkcmceaaGreatDoor
open Go.RowKit Go.BigFrame
theorem fo.withMt {w w':World}{Dd Dl:Nat->Prop}{a:sF}{o:Option Addr}{lost:Bool}{T:Nat->Nat}{b:Db}{m:Mt}(h:fo w Dd Dl a o lost T b) (hx:ah (On a.x) w w') (hb:ax w' a.x 131 (gu a m o lost)):fo w' Dd Dl a o lost T { b with m:=m } :=
 ⟨h.disk.ext hx (fun g hg e=>h.parts.xd (by have e':g=a.x:=e;rw[<-e'];exact hg)),h.o9.ext hx (fun g hg e=>h.parts.xl (by have e':g=a.x:=e;rw[<-e'];exact hg)),hb,h.half.ext hx (fun e=>h.parts.zx (by have e':0=a.x:=e;exact e'.symm)),h.parts,h.ll⟩
theorem NP (cr:Bs->Nat) (id:Nat) (body:Bs):(1:UInt8)∈dY cr id 1 body:=by
 unfold dY pJ;refine List.mem_append.2 (.inl (List.mem_append.2 (.inr (List.mem_append.2 (.inl ?_)))));exact List.mem_cons_self
theorem Y9 {w:World}{D:Nat->Prop}{d kb:Nat}{k:Dk}(hd:aF w D d kb k) (tV:k.pd = []) (hlv:k.live) (T:Nat->Nat) (hT:gJ w T) (h0:¬D 0) {N:Nat}(hN:k.eD N) (hN2:N<=2^27) (log:Nat) (h2:2<=log) (JF:log<=1000) (hln:log+32<=k.n)
  {ak:Nat}{bytes:Bs}{ls:List (List (Nat×Bs))}(df:rO (bT T) k.K ak bytes ls) (gP:bytes.length<=64*(log-1)) (aX:∀l∈ls,mr ((k.n-log) / 8) l) (he:ak<2^58) {g:Nat->Bs}(hg:∀id,pages ls.flatten (aJ k.K log) id=g id) {m:Mt}(hm:oZ (bT T) g m) (hh:m.high<=(k.n-log) / 8) :
  Calls Tryz.prog 43 #[.pointer (some ⟨d,0,none⟩),.int .i64 (log:Int)] w (Xv w D d log k.n (N+ls.length*1016+3) (ak+1) T g m):=by
 have hrc:=vY (cr:=bT T) ls aX;rw[<-df.en]at hrc;have aeh:ls.length<1000:=by omega
 have TL:=aa aeh;have vJ:log<=k.n:=by clear hrc hN2 he hh gP;omega
 have he2:ak<1152921504606846976:=Nat.lt_of_lt_of_le he (by decide);have ZG:∀l∈ls,(aB l).length<=65536:=fun l hl=>(aX l hl).2.1
 have HW:=aa (JW hd tV hlv.1 T hT log h2 vJ df gP ZG he2);obtain⟨Q,hQ⟩:∃Q,Q=Xv w D d log k.n (N+ls.length*1016+3) (ak+1) T g m:=⟨_,rfl⟩;rw[<-hQ];have HQ:=aa hQ;have HD:=aa hd;have HT:=aa hT;have H0:=aa h0;have Jt:=aa hN;have TK:=aa hN2;have vQ:=aa (And.intro h2 JF);have YG:=aa hln;have YK:=aa df.en;have wG:=aa gP;have XN:=aa aX;have HE:=aa he;have HG:=aa hg;have HM:=aa hm;have HH:=aa hh;have HLV:=aa hlv;have HPD:=aa tV;have hz:0<w.heap.size:=World.block_lt_of_cell? w _ (hT.cell 0 (by decide));have HZ:=aa hz;have vO:=aa hd.old;obtain⟨cn,Ug⟩:∃cn,cn=(k.n-log) / 8:=⟨_,rfl⟩;have g1:¬((cn:Int)<4):=by omega
 have M6:=aa Ug;clear hd tV hlv hT h0 hN hN2 h2 JF hln df gP aX he hg hm hh hrc aeh hQ hz Ug;go_enter Tryz.func43,Tryz.ntmps43;go_wp2_with fail;refine(HW.out).mono ?_;rintro e w1 ⟨rfl,acn,aT⟩;have gK:=aa aT;have TM:=aa acn;obtain⟨a,ha⟩:∃a:sF,a=⟨d,kb,w1.heap.size,w.heap.size,log⟩:=⟨_,rfl⟩;have aH:ah No w1 (w1.alloc (.cells (iZ d w.heap.size log 0 none) 131)):=(ah.refl No w1).alloc _;obtain⟨b0,Ev⟩:∃b0:Db,b0=⟨k,ak,bytes,ls.map aB,m00⟩:=⟨_,rfl⟩;have wI:=aa Ev;have Wi:mF (w1.alloc (.cells (iZ d w.heap.size log 0 none) 131)) D (New w w1) a none false T b0:=by
  have hs:=aT.size;have hz:=HZ.out;rw[ha,Ev];refine⟨(HD.out.ext aT (fun _ _ h=>h)).ext aH (fun _ _ h=>h),acn.ext aH (fun _ _ h=>h),ax.new w1 131 _,(HT.out.ext aT (fun h=>h)).ext aH (fun h=>h),⟨?_,?_,?_,H0.out,?_,?_⟩,by have:=YG.out;show log<=k.n;omega⟩
  ·intro q hq ZE
   have h1:=vO.out q ZE;have h3:w.heap.size<=q:=hq.1;omega
  ·intro hq
   have h1:=vO.out _ hq;simp only at h1;omega
  ·intro hq
   have h3:w1.heap.size<w1.heap.size:=hq.2;omega
  ·intro hq
   have h3:w.heap.size<=0:=hq.1;omega
  ·show w1.heap.size≠0
   omega
 have rA:=aa Wi;have HA:=aa ha;have e0:(⟨w1.heap.size,0,none⟩:Addr)=⟨a.x,0,none⟩:=by rw[ha]
 have HC:=aa (Jh Wi.disk (Wi.db.cell 0) (Wi.db.cell 2) (by rw[ha,Ev];have:=YG.out;show log<=k.n;omega));have OX:(b0.k.n-a.log) / 8=cn:=by rw[M6.out,ha,Ev]
 rw[OX]at HC;have adu:=aa OX;clear acn aT Wi Ev OX;go_wp2_with fail;refine(HC.out).mono ?_;rintro e w3 ⟨rfl,kk,Iu⟩;have bC:ah No (w1.alloc (.cells (iZ d w.heap.size log 0 none) 131)) w3:=by rw[Iu];exact(ah.refl No _).drewN kk
 have iF:=aa ((gK.out.ag aH).ag bC);have JA:=aa (rA.out.no bC);have HR:=aa (Ae JA.out.o9 (by rw[wI.out];show(ls.map aB).length<_;rw[List.length_map];have:=TL.out;omega));simp only at HR;obtain⟨n,hn⟩:∃n,n=b0.recs.length:=⟨_,rfl⟩;rw[<-hn]at HR;have HN:=aa (show n=ls.length by rw[hn,wI.out];simp);have ZZ:(⟨a.l,0,none⟩:Addr)=⟨w.heap.size,0,none⟩:=by rw[ha]
 rw[ZZ]at HR;clear Iu bC aH hn ZZ e0;have Vu:a.x<w3.heap.size:=JA.out.db.lt;have agm:w.heap.size<w3.heap.size:=by have:=iF.out.size;have:=JA.out.o9.old a.l JA.out.o9.xx;rw[ha]at this;exact this
 obtain⟨x,hx⟩:∃x,x=a.x:=⟨_,rfl⟩;rw[<-hx]at Vu;rw[<-hx];have zD:=aa hx;obtain⟨Dl,hDl⟩:∃Dl,Dl=New w w1:=⟨_,rfl⟩;rw[<-hDl]at JA;have afT:Hid (∀q,Dl q->w.heap.size<=q):=aa (fun q hq=>by rw[hDl]at hq;exact hq.1);have adD:Hid (w.heap.size<=a.x):=aa (by rw[ha];exact gK.out.size);have Uo:Hid (a.d=d/\a.kb=kb/\a.log=log):=aa (by rw[ha];exact⟨rfl,rfl,rfl⟩);clear hx hDl ha rA HA;go_wp2_with fail;refine(HR.out).mono ?_;rintro e w4 ⟨A,c,rfl,aP,ib⟩;have Bl:=aa (iF.out.ag ib);have XM:=aa aP;have ajM:=aa ib.size;have ahU:Hid (nP w4 w4 D Dl a T b0 ls N 0 k):=aa ⟨⟨D,fun g hg=>.inl hg,by have h1:=JA.out.no ib;have h2:({ b0 with k:=k }:Db)=b0:=(by rw[wI.out]);rw[h2];exact h1,ah.refl _ _⟩,HLV.out,by rw[wI.out],Jt.out.mono (by omega),fun id=>by rw[wI.out];rfl⟩;clear aP ib Vu agm;go_wp2_with fail;go_loopg [38] n (fun gk q wr=>∃(j:Nat) (k':Dk),j+gk=n/\q=.int .i64 (j:Int)/\Hid (nP w4 wr D Dl a T b0 ls N j k'))
 case atStart=>exact⟨0,k,by omega,rfl,ahU⟩
 case round =>
  obtain⟨j,k',hj,rfl,AB⟩:=hrel;have HJ:=aa hj
  by_cases bu:j<n
  ·have mQ:=aa bu
   obtain⟨Dd,q1,q2,q3⟩:=AB.out.db;obtain⟨l,hl⟩:∃l,ls[j]?=some l:=⟨_,List.getElem?_eq_getElem (by rw[<-HN.out];exact bu)⟩;have ad8:=XN.out l (List.mem_of_getElem? hl);obtain⟨gg,hA,Bb,kL,Eu,iN⟩:=sW XM.out (by omega);subst hA;have hng:¬D gg:=fun h=>by have:=vO.out gg h;have:=iF.out.size;omega
   have k0:wr.cell? ⟨gg,j,none⟩=some (.string (au (aB l))):=aj q3 (iN j _ (by
    unfold iU;rw[wI.out];show((ls.map aB).map _)[j]?=_
    rw[List.getElem?_map,List.getElem?_map,hl];rfl)) hng
   have lg:=World.block_lt_of_cell? wr _ k0;simp only at lg;have Ub:k'.n=k.n:=by have:=AB.out.n;rw[wI.out]at this;exact this
   have Ga:mr ((k'.n-a.log) / 8) l:=by rw[Ub,Uo.out.2.2];exact ad8
   have HS:Hid (∀w',ah No wr w'->Calls Tryz.prog 82 #[.pointer (some ⟨x,0,none⟩),.string (au (aB l))] w' fun e w''=>e=.returned (.bool true)/\ah No w' w''):=aa (fun w' e=>by
    have h1:=q2.no e;rw[zD.out]
    exact Rl h1.disk (h1.db.cell 0) (h1.db.cell 2) (by rw[Ub,Uo.out.2.2];have:=YG.out;omega) l Ga)
   obtain⟨s1,_⟩:=FQ (log:=a.log) AB.out.live AB.out.near Ga
   have afq:Hid (∀w',ah No wr w'->Calls Tryz.prog 73 #[.pointer (some ⟨x,0,none⟩),.string (au (aB l))] w' fun e w''=>e=.returned (.int .i64 0)/\Hid (nP w4 w'' D Dl a T b0 ls N (j+1) (k'.writes (bI a.log l)).2)):=aa (fun w' e0=>by
    have h1:=q2.no e0;rw[zD.out];have Sn:∀p∈l,a.log+p.1*8+8<=k'.n/\p.2.length=512:=fun p hp=>by
     have h3:=(Ga.2.2 p hp);have h4:=YG.out;have h5:=Uo.out.2.2;refine⟨?_,h3.2⟩;have h6:=h3.1;rw[Ub]at h6 ⊢;omega
    refine(Kn h1.disk (h1.db.cell 0) (h1.db.cell 2) h1.parts.xd AB.out.near (by have:=TL.out;have:=TK.out;have:=HN.out;omega) l Sn Ga.2.1).mono ?_;rintro e w'' ⟨h3,h4,h5⟩;rw[s1]at h3
    exact⟨h3,aa (AB.out.no e0 |>.next q1 h1 (q3.ag e0.of_no) hl Ga h4 h5)⟩)
   have hw9:IntKind.i64.wrap ((j:Int)+1)=(j:Int)+1:=bA _ (by omega) (by have:=TL.out;have:=HN.out;omega);have iY:(j:Int)<(n:Int):=by omega
   clear hj bu q1 q2 q3 hl ad8 Ga Bb kL Eu iN hng Ub s1;obtain⟨rec,kU⟩:∃rec,rec=au (aB l):=⟨_,rfl⟩;rw[<-kU]at k0 HS afq;clear kU;go_wp2_with fail;refine(HS.out _ (ah.refl _ _)).mono ?_;rintro e w5 ⟨rfl,bU⟩;have ahT:=aa (afq.out _ bU);clear bU k0;go_wp2_with fail;refine(ahT.out).mono ?_;rintro e w6 ⟨rfl,ahS⟩;go_wp2_with fail;go_roundg (gk-1)
   case rel=>exact⟨j+1,_,by have:=HJ.out;have:=mQ.out;omega,by go_num,ahS⟩
   case measure=>have:=HJ.out;have:=mQ.out;omega
  ·have hjn:j=ls.length:=by rw[<-HN.out];omega
   have iC:¬((j:Int)<(n:Int)):=by omega
   subst hjn;have HRE:=aa AB.out;obtain⟨Dd,q1,q2,q3⟩:=AB.out.db;have Qz:=YK.out;obtain⟨z1,z2,z3,z4,z5,z6,z7,z8,z9⟩:=AB.out.ends (cr:=bT T) (by rw[wI.out]) (by rw[wI.out];exact Qz) (by rw[wI.out,Uo.out.2.2];exact wG.out) (by rw[Uo.out.2.2];exact vQ.out.1);have dw:=Tc q2 (AB.out.near.mono (by have:=TL.out;have:=TK.out;omega)) (by rw[wI.out];show ak<_;have:=HE.out;omega) (by rw[wI.out];show(ls.map aB).length<_;rw[List.length_map];have:=TL.out;omega);obtain⟨S,hS⟩:∃S,S=({ b0 with k:=k' }:Db).settle (bT T):=⟨_,rfl⟩;rw[<-hS]at dw z1 z2 z3 z4 z5 z6 z7 z8 z9;rw[<-zD.out]at dw;have ru:=aa dw;have HZ:=aa (And.intro z1 (And.intro z2 (And.intro z3 (And.intro z4 (And.intro z5 (And.intro z6 (And.intro z7 (And.intro z8 z9))))))));have HQ1:=aa q1;have HQ3:=aa q3;clear hj bu q1 q2 q3 Qz dw hS z1 z2 z3 z4 z5 z6 z7 z8 z9;go_wp2_with fail;refine(ru.out).mono ?_;rintro e w7 ⟨he,⟨Dd7,hd7,aez,hP7,hN7⟩,LX,eX⟩;rw[HZ.out.1]at he;have he:e=.returned (.int .i64 0):=he;subst he;obtain⟨z1,z2,z3,z4,z5,z6,z7,z8,z9⟩:=HZ.out;have afU:=aa ((aez z1).full z3)
   have h47:ah (fun g=>D g\/Dl g) w4 w7:=(HQ3.out.mono (fun g _ h=>.inl h)).trans eX (fun g hg h1=>by
    rcases h1 with h1|h1
    ·rcases HQ1.out g h1 with h2|h2
     ·exact .inl h2
     ·omega
    ·exact .inr h1)
   have nS:Hid (ah D w w7):=aa (Bl.out.of_no.trans h47 (fun g hg h1=>by
    rcases h1 with h1|h1
    ·exact h1
    ·have:=afT.out g h1;omega))
   have PG:Hid (jw w D Dd7):=aa (fun g hg=>by
    rcases hN7 g hg with h1|h1
    ·rcases HQ1.out g h1 with h2|h2
     ·exact .inl h2
     ·have:=Bl.out.size;exact .inr (by omega)
    ·have h2:=Bl.out.size;have h3:=HQ3.out.size;exact .inr (by omega))
   have VJ:∀id,aJ S.2.k.cur a.log id=g id:=fun id=>by
    rw[z9 id,<-HG.out id,wI.out,Uo.out.2.2];show pages ls.flatten (aJ k.cur log) id=_;have e1:k.cur=k.K:=funext fun i=>zo HPD.out i
    rw[e1]
   have HPG:=aa VJ;have HI:=aa (yT afU.out 0 (by rw[z5,wI.out,Uo.out.2.2];show log+0*8+8<=k.n;have:=YG.out;omega) (by have h1:=z6.2.2;have:=TK.out;have:=TL.out;omega) z2.1);rw[VJ 0,<-zD.out]at HI;clear z1 z2 z3 z4 z5 z6 z7 z8 z9 VJ h47 hd7 aez hP7 hN7 LX eX;obtain⟨G,hGe⟩:∃G,G=g 0:=⟨_,rfl⟩;rw[<-hGe]at HI;have HGE:=aa hGe;clear hGe
   have zG:Hid (∀w9,(∃b:Db,fo w9 Dd7 Dl a none false T b/\b.m=m/\b.k=S.2.k/\b.bytes=S.2.bytes/\b.recs=S.2.recs/\b.ak=S.2.ak)->ah D w w9->Q (.returned (.tuple #[.pointer (some ⟨x,0,none⟩),.int .i64 0])) w9):=aa (fun w9 h1 h2=>by
    obtain⟨b,b1,b2,b3,b4,b5,b6⟩:=h1;obtain⟨z1,z2,z3,z4,z5,z6,z7,z8,z9⟩:=HZ.out;rw[HQ.out]
    refine⟨⟨a,Dd7,Dl,b,by rw[zD.out],Uo.out.2.2,Uo.out.1,b1,b2,by rw[b3,z5,wI.out],by rw[b3];exact z2,by rw[b4];exact z3,by rw[b5];exact z4,by rw[b3];exact z6,by rw[b6];have h3:b0.ak=ak:=(by rw[wI.out]);omega,fun id=>by rw[b3,<-Uo.out.2.2];exact HPG.out id,PG.out,afT.out,adD.out⟩,h2⟩)
   go_wp2_with fail;refine(HI.out).mono ?_;rintro e w8 ⟨rfl,kK⟩;have MU:=aa kK;have adr:=aa (afU.out.no kK);clear kK HI;rcases HM.out with ⟨m1,m2⟩|⟨m1,m2,m3⟩
   ·have JQ:=aa (fun w=>MG w)
    have hG:G=zs 512:=by rw[HGE.out];exact m1
    obtain⟨zz,Ip⟩:∃zz,zz=au G:=⟨_,rfl⟩;rw[<-hG,<-Ip]at JQ;rw[<-Ip];have HM2:=aa m2;clear Ip hG m1 m2;go_wp2_with fail;refine(JQ.out _).mono ?_;rintro e w9 ⟨rfl,jO⟩;have wM:=adr.out.db.ext jO (fun h=>h);rw[<-zD.out]at wM;have f7:=wM.frozen 7;have c7:=wM.cell 7;simp[gu]at c7;have l7:=wM.lt;have X0:=aa (adr.out.no jO);have qY:=aa ((nS.out.ag MU.out.of_no).ag jO.of_no)
    have HS8:Hid (S.2.m=m00):=aa (by
     obtain⟨z1,z2,z3,z4,z5,z6,z7,z8,z9⟩:=HZ.out
     rw[z8,wI.out])
    clear wM jO;go_wp2_with fail;have C8:ah (On a.x) w9 (w9.setCell ⟨x,7,none⟩ (.int .i64 1)):=ah.ay (F:=On a.x) (ah.refl _ _) (b:=x) (show On a.x x from zD.out) 7 _;have IJ:ax (w9.setCell ⟨x,7,none⟩ (.int .i64 1)) a.x 131 (gu a m none false):=by
     have h1:=X0.out.db;rw[HS8.out]at h1;have h2:=h1.aQ 7 (.int .i64 1);rw[<-zD.out]at h2 ⊢;rw[HM2.out];exact h2
    refine zG.out _ ⟨_,X0.out.withMt C8 IJ,rfl,rfl,rfl,rfl,rfl⟩ (qY.out.trans C8 (fun g hg e=>?_));have h1:g=a.x:=e;have:=adD.out;omega
   ·have hG:G=dY (bT T) 0 1 m.body:=by rw[HGE.out];exact m1
    have hGl:G.length=512:=by rw[hG];exact jD (by rw[m.uu];decide)
    have wH:=aa (fun w=>Tq G hGl (by rw[hG];exact NP _ _ _) (by decide) w)
    have HPO:Hid (∀w,gJ w T->Calls Tryz.prog 85 #[.int .i64 0,.string (au G)] w fun e w'=>e=.returned (.tuple #[.int .i64 1,.string (au m.body),.int .i64 0])/\ah No w w'):=aa (fun w hw=>by
     rw[hG]
     exact yO T 0 1 m.body (by decide) (by decide) (by rw[m.uu];decide) w hw)
    have hd1:decide ((1:Int)<=(m.high:Int))=true:=decide_eq_true (by omega)
    have HPA:Hid (∀w,Calls Tryz.prog 86 #[.string (au m.body)] w fun e w'=>e=.returned (.tuple #[.agg #[.int .i64 (m.r 0:Int),.int .i64 (m.r 1:Int),.int .i64 (m.r 2:Int),.int .i64 (m.r 3:Int),.int .i64 (m.high:Int),.int .i64 (m.free:Int),.int .i64 (m.cnt:Int)],.bool true])/\ah No w w'):=aa (fun w=>by
     have h1:=RA m m2 w;rw[hd1]at h1
     exact h1)
    obtain⟨zz,Ip⟩:∃zz,zz=au G:=⟨_,rfl⟩;obtain⟨zb,hzb⟩:∃zb,zb=au m.body:=⟨_,rfl⟩;rw[<-Ip]at wH HPO ⊢;rw[<-hzb]at HPO HPA;clear Ip hzb hG hGl m1 m2 hd1;have HM3:=aa m3;clear m3;go_wp2_with fail;refine(wH.out _).mono ?_;rintro e w9 ⟨rfl,jO⟩;have X0:=aa (adr.out.no jO);have qY:=aa ((nS.out.ag MU.out.of_no).ag jO.of_no);clear jO;go_wp2_with fail;refine(HPO.out _ X0.out.half).mono ?_;rintro e w10 ⟨rfl,oJ⟩;have afW:=aa (X0.out.no oJ);have Fy:=aa (qY.out.ag oJ.of_no);clear oJ;go_wp2_with fail;refine(HPA.out _).mono ?_;rintro e JX ⟨rfl,Li⟩;have afV:=aa (afW.out.no Li);have XA:=aa (Fy.out.ag Li.of_no);clear Li;go_upto_region 29 with fail;obtain⟨Yu,Z8⟩:∃Yu,Yu=JX.alloc (.cells #[.int .i64 (m.r 0:Int),.int .i64 (m.r 1:Int),.int .i64 (m.r 2:Int),.int .i64 (m.r 3:Int),.int .i64 (m.high:Int),.int .i64 (m.free:Int),.int .i64 (m.cnt:Int)] 108):=⟨_,rfl⟩;rw[<-Z8];have aaO:=aa (show ax Yu JX.heap.size 108 #[.int .i64 (m.r 0:Int),.int .i64 (m.r 1:Int),.int .i64 (m.r 2:Int),.int .i64 (m.r 3:Int),.int .i64 (m.high:Int),.int .i64 (m.free:Int),.int .i64 (m.cnt:Int)]from Z8▸ax.new JX 108 _);have Dc:ah No JX Yu:=Z8▸(ah.refl _ _).alloc _;have X3:=aa (afV.out.no Dc);have zF:=aa (XA.out.ag Dc.of_no);obtain⟨gm,hgm⟩:∃gm,gm=JX.heap.size:=⟨_,rfl⟩;rw[<-hgm]at aaO ⊢;clear Z8 Dc hgm;have hSn:S.2.k.n=k.n:=by
     obtain⟨z1,z2,z3,z4,z5,z6,z7,z8,z9⟩:=HZ.out;rw[z5,wI.out]
    have aiv:Hid (∀w',ah No Yu w'->Calls Tryz.prog 56 #[.pointer (some ⟨x,0,none⟩)] w' fun e w''=>e=.returned (.int .i64 (cn:Int))/\ah No w' w''):=aa (fun w' e0=>by
     have h1:=X3.out.no e0;have h2:=Jh h1.disk (h1.db.cell 0) (h1.db.cell 2) (by rw[hSn,Uo.out.2.2];have:=YG.out;omega);rw[hSn,Uo.out.2.2,<-M6.out,<-zD.out]at h2;refine h2.mono ?_;rintro e w'' ⟨h3,kk,rfl⟩
     exact⟨h3,(ah.refl _ _).drewN kk⟩)
    have HCU:Hid (∀i:Pt Yu,Calls Tryz.prog 56 #[.pointer (some ⟨x,0,none⟩)] (up Yu i) fun e w''=>e=.returned (.int .i64 (cn:Int))/\ah No (up Yu i) w''):=aa (fun i=>aiv.out _ (Cb Yu i));have hmh:¬((cn:Int)<(m.high:Int)):=by have:=HH.out;have:=M6.out;omega
    have hmd:decide ((cn:Int)<(m.high:Int))=false:=decide_eq_false hmh;have z4:=aaO.out.cell 4;simp at z4;have zl:=aaO.out.lt;clear hSn;refine fK (by kernel_rfl) (by kernel_rfl) ?_;(repeat (go_big_quiet_step ((go_at_call 56;exact Calls.vD (HCU.out _)))));refine wpQuiet_nil ?_;intro _ Nf;obtain⟨⟨wq,hq⟩,jZ⟩:=Nf;change _=wq at jZ;subst jZ
    have HQQ:=aa hq;have JJ:=aaO.out.ext hq (fun h=>h);have q0:=JJ.cell 0;have q1:=JJ.cell 1;have q2:=JJ.cell 2;have q3:=JJ.cell 3;have q4:=JJ.cell 4;have q5:=JJ.cell 5;have q6:=JJ.cell 6;simp at q0 q1 q2 q3 q4 q5 q6;have ql:=JJ.lt;have Uf:=X3.out.db.ext hq (fun h=>h);rw[<-zD.out]at Uf;have fz:=Uf.frozen;have xl:=Uf.lt;have y3:=Uf.cell 3;have y4:=Uf.cell 4;have y5:=Uf.cell 5;have y6:=Uf.cell 6;have y7:=Uf.cell 7;have y8:=Uf.cell 8;have y9:=Uf.cell 9;simp[gu]at y3 y4 y5 y6 y7 y8 y9;have HBQ:=aa Uf;clear hq JJ Uf z4 zl;go_wp2_with fail;have key:∀u:World,ah No Yu u->ax u x 131 (gu a S.2.m none false)->Q (.returned (.tuple #[.pointer (some ⟨x,0,none⟩),.int .i64 0])) (((((((u.setCell ⟨x,3,none⟩ (.int .i64 (m.r 0:Int))).setCell ⟨x,4,none⟩ (.int .i64 (m.r 1:Int))).setCell ⟨x,5,none⟩ (.int .i64 (m.r 2:Int))).setCell ⟨x,6,none⟩ (.int .i64 (m.r 3:Int))).setCell ⟨x,7,none⟩ (.int .i64 (m.high:Int))).setCell ⟨x,8,none⟩ (.int .i64 (m.free:Int))).setCell ⟨x,9,none⟩ (.int .i64 (m.cnt:Int))):=by
     intro u h1 h2;have hb:=((((((h2.aQ 3 (.int .i64 (m.r 0:Int))).aQ 4 (.int .i64 (m.r 1:Int))).aQ 5 (.int .i64 (m.r 2:Int))).aQ 6 (.int .i64 (m.r 3:Int))).aQ 7 (.int .i64 (m.high:Int))).aQ 8 (.int .i64 (m.free:Int))).aQ 9 (.int .i64 (m.cnt:Int));have C8:∀w1 w2:World,ah (On a.x) w1 w2->∀i v,ah (On a.x) w1 (w2.setCell ⟨x,i,none⟩ v):=fun w1 w2 h i v=>ah.ay (F:=On a.x) h (b:=x) (show On a.x x from zD.out) _ _
     have hE:=C8 _ _ (C8 _ _ (C8 _ _ (C8 _ _ (C8 _ _ (C8 _ _ (C8 u u (ah.refl _ _) 3 (.int .i64 (m.r 0:Int))) 4 (.int .i64 (m.r 1:Int))) 5 (.int .i64 (m.r 2:Int))) 6 (.int .i64 (m.r 3:Int))) 7 (.int .i64 (m.high:Int))) 8 (.int .i64 (m.free:Int))) 9 (.int .i64 (m.cnt:Int));generalize (((((((u.setCell ⟨x,3,none⟩ (.int .i64 (m.r 0:Int))).setCell ⟨x,4,none⟩ (.int .i64 (m.r 1:Int))).setCell ⟨x,5,none⟩ (.int .i64 (m.r 2:Int))).setCell ⟨x,6,none⟩ (.int .i64 (m.r 3:Int))).setCell ⟨x,7,none⟩ (.int .i64 (m.high:Int))).setCell ⟨x,8,none⟩ (.int .i64 (m.free:Int))).setCell ⟨x,9,none⟩ (.int .i64 (m.cnt:Int)))=u9 at *;have IJ:ax u9 a.x 131 (gu a m none false):=by
      rw[<-zD.out];exact hb
     refine zG.out _ ⟨_,(X3.out.no h1).withMt hE IJ,rfl,rfl,rfl,rfl,rfl⟩ ((zF.out.ag h1.of_no).trans hE (fun g hg e=>?_));have h3:g=a.x:=e;have:=adD.out;omega
    exact key _ HQQ.out HBQ.out
end Go.Proofs.YtccnemmlkcmceaaGreatDoor
namespace Go.Proofs.YtccnemmlkcmceaaGreatDoor
open Go.RowKit
section
variable {w0 w w':World}{s:bH}{a:sF}{Dd Dl:Nat->Prop}{T:Nat->Nat}{N cap:Nat}{b:Db}{v:V}{base:Nat->bB}
structure X7 (w0 w:World) (v:V) (a:sF) (Dd Dl:Nat->Prop) (T:Nat->Nat) (N cap:Nat) (b:Db) (e:Ending) (w':World):Prop where
 r:∃code rR JC b' base',e=.returned (.int .i64 ((code:Nat):Int))/\(code=0\/code=7)/\uC w0 w' a rR JC T (N+1) b' base' /\
  (code=0->nN (bT T) cap b'/\b'.m.high=v.high/\b'.m.free=v.free/\b'.m.cnt=v.cnt/\b'.m.r=v.r/\∀i,1<=i->i<v.high->base' i=v.pg i)/\b'.k.n=b.k.n/\∀g,rR g\/JC g->(Dd g\/Dl g)\/w.heap.size<=g
 x:ah (fun g=>Dd g\/Dl g\/g=a.x) w w'
theorem Jq.aan (h:Jq w0 s a Dd Dl T N b) (hN:N<=100) (hS:nN (bT T) cap b) (ht:aD w s v) (hT:gJ w T) (hg:v.Good) (hk:v.Kd) (hm:v.mt.Ok) (dw:V.Steps s.cap (b.m.v s.base) v) (hc:v.high<=cap) (rV:v.spoilt=false) :
  Calls Tryz.prog 32 #[.pointer (some ⟨s.t,0,none⟩)] w (X7 w0 w v a Dd Dl T N cap b):=by
 have hR:=h.ready hN ht hT hg hk hm;refine(D6 hR).mono ?_;rintro e w' ⟨ov,im,hI,he,⟨rR,JC,Gf,acC,n1,n2⟩,hx⟩;have df:=h.log;have hhi:v.high<=8192:=by have h1:=ht.h2;have h2:=h.ok.n2;unfold bH.cap at h1;omega
 have Ba:=fun p hp=>(hI.mem hg ht.h1 (p:=p) hp)
 have Qk:=h.lv.aV (by omega) (by omega) (bT T) v.spoilt im v.mt (fun p hp=>(Ba p hp).2) (by have:=hI.len (by omega);omega);have hsc:=hS.aV hI hg ht.h1 hc hm (fun hq=>J_ dw hq);rw[rV]at he acC Qk;obtain⟨R,hRR⟩:∃R,R=b.aV (bT T) a.log false im v.mt:=⟨_,rfl⟩;rw[df]at hRR;rw[df,<-hRR]at he acC Qk;rw[<-hRR]at hsc;subst he;have aeb:R.1≠10:=by
  rcases Qk with ⟨_,h1⟩|⟨_,_,h1⟩|⟨_,_,h1,_⟩|⟨_,_,h1,_⟩
  ·rw[h1];simp
  ·rw[h1];simp
  ·rw[h1];simp
  ·rw[h1];simp
 have Wh:=acC aeb;have A7:∀g,rR g\/JC g\/g=a.x->w0.heap.size<=g:=fun g hg=>by
  have hw0:w0.heap.size<=w.heap.size:=by
   have h1:=h.Zc s.t (.inl rfl);have h2:=ht.tx.lt;omega
  rcases hg with hg|hg|hg
  ·rcases n1 g hg with h1|h1
   ·exact h.new g (.inl h1)
   ·omega
  ·rcases n2 g hg with h1|h1
   ·exact h.new g (.inr (.inl h1))
   ·omega
  ·exact h.new g (.inr (.inr hg))
 have aeK:400+v.high*8<=b.k.n:=by have:=hR.cap;rw[df]at this;exact this
 have ig:zC (bT T) (aJ b.k.cur a.log) b.m.high s.base:=by rw[<-h.bh];exact h.kept
 have hb1:1<=b.m.high/\400+b.m.high*8<=b.k.n/\b.m.cnt<=b.m.high:=⟨h.h1,h.cap,h.cnt⟩;have Yb:∀g,rR g\/JC g->(Dd g\/Dl g)\/w.heap.size<=g:=fun g hg=>by
  rcases hg with hg|hg
  ·rcases n1 g hg with h1|h1
   ·exact .inl (.inl h1)
   ·exact .inr h1
  ·rcases n2 g hg with h1|h1
   ·exact .inl (.inr h1)
   ·exact .inr h1
 refine⟨?_,hx⟩;rcases Qk with ⟨h1,h2⟩|⟨h1,h2,h3⟩|⟨h1,h2,h3,h4⟩|⟨h1,h2,h3,h4,h5,h6,h7⟩
 ·cases h1
 ·have ZB:=hsc (by rw[h3])
  rw[h3]at Wh ZB ⊢;subst h2;obtain⟨m1,m2⟩:=hI.none;obtain⟨_,m3,m4,m5,m6⟩:=dw.mark m1;exact⟨0,rR,JC,b,s.base,rfl,.inl rfl,⟨df,Wh,by rw[df];exact(df▸h.lv).more,ig,A7,hb1.1,hb1.2.1,hb1.2.2⟩,fun _=>⟨ZB,m4.symm,m5.symm,m6.symm,m3.symm,fun i a1 a2=>(m2 i a1 a2).2.symm⟩,rfl,Yb⟩
 ·rw[h3]at Wh ⊢
  exact⟨7,rR,JC,b,s.base,rfl,.inr rfl,⟨df,Wh,by rw[df];exact(df▸h.lv).more,ig,A7,hb1.1,hb1.2.1,hb1.2.2⟩,by omega,rfl,Yb⟩
 ·have ZB:=hsc h3
  rw[h3];refine⟨0,rR,JC,R.2,v.pg,rfl,.inl rfl,⟨df,Wh,by rw[df];exact df▸h4,?_,A7,?_,?_,?_⟩,fun _=>⟨ZB,by rw[h6];exact⟨rfl,rfl,rfl,rfl,fun _ _ _=>rfl⟩⟩,h5,Yb⟩
  ·have h8:(fun i=>aJ R.2.k.cur a.log i)=pages im (aJ b.k.cur a.log):=funext (df▸h7)
   have h9:aJ R.2.k.cur a.log=pages im (aJ b.k.cur a.log):=h8;rw[h9,h6];exact hI.kept hg hk h.kept
  ·rw[h6];exact ht.h1
  ·rw[h6,h5];exact aeK
  ·rw[h6];exact ht.hc
theorem uC.ac0 (h:uC w0 w a Dd Dl T N b base) (hN:N<=100) :
  Calls Tryz.prog 33 #[.pointer (some ⟨a.x,0,none⟩)] w fun e w'=>∃s,e=.returned (.tuple #[.pointer (some ⟨s.t,0,none⟩),.int .i64 0]) /\
   Jq w0 s a Dd Dl T N b/\aD w' s (b.m.v base)/\s.base=base/\ah (On a.x) w w'/\(∀g,s.F g->w.heap.size<=g)/\s=iw a Dd Dl T b base s.t s.m:=by
 have hd:=h.lv.down;have hl:=h.log;have hc:=h.cap;have tV:=h.lv.near.2.2;refine(MI base h.db hd h.h1 (by rw[hl];exact hc) h.cnt).mono ?_;rintro e w' ⟨he,ht,hx⟩;have aX:=Mq (base:=base) (t:=w.heap.size+1) (m:=w.heap.size) h.db (by omega) (by omega) hd (by omega) (by rw[hl];exact hc) h.kept;have hw0:w0.heap.size<=w.heap.size:=by
  have h1:=h.new a.x (.inr (.inr rfl));have h2:=h.db.db.lt;omega
 refine⟨iw a Dd Dl T b base (w.heap.size+1) w.heap.size,he,⟨aX,rfl,hl,hl,rfl,fun w'' jZ _=>jZ,?_,Nat.lt_succ_self _,h.lv,rfl,h.kept,h.new,?_,h.h1,hc,h.cnt,fun g hg h0 w1 w2 hx vk=>fo.ext vk hx (fun g' qO e=>by have e1:g'=g:=e;have:=h.new g' (.inl qO);omega) (fun g' qO e=>by have e1:g'=g:=e;have:=h.new g' (.inr (.inl qO));omega) (fun e=>by have e1:a.x=g:=e;have:=h.new a.x (.inr (.inr rfl));omega) (fun e=>h0 (by have e1:0=g:=e;exact e1.symm))⟩,ht,rfl,hx,?_,rfl⟩
 ·intro g hg
  rcases hg with hg|hg|hg
  ·exact h.db.disk.old g hg
  ·exact h.db.o9.old g hg
  ·rw[hg];exact h.db.db.lt
 ·intro g hg
  rcases hg with hg|hg
  ·have:g=w.heap.size+1:=hg
   omega
  ·have:g=w.heap.size:=hg
   omega
 ·intro g hg
  rcases hg with hg|hg
  ·have:g=w.heap.size+1:=hg
   omega
  ·have:g=w.heap.size:=hg
   omega
theorem Te {o:Option Addr}{H t m:Nat}(h:fo w Dd Dl a o false T b) (hl:∀g,Dd g\/Dl g\/g=a.x->g<H) (hz:0<H) (ht:H<=t) (hm:H<=m) (hd:b.k.down=false) (tV:b.k.pd.length<2^30) (hcap:a.log+b.m.high*8<=b.k.n) (hk:zC (bT T) (aJ b.k.cur a.log) b.m.high base):(iw a Dd Dl T b base t m).Ok:=by
 have hF:∀g,g<H->¬(iw a Dd Dl T b base t m).F g:=fun g hg hf=>by
  rcases hf with hf|hf
  ·have:g=t:=hf
   omega
  ·have:g=m:=hf
   omega
 have vo:=h.disk.n2;refine⟨fun w w' hx hw=>fo.ext hw hx (fun g hg=>hF g (hl g (.inl hg))) (fun g hg=>hF g (hl g (.inr (.inl hg)))) (hF _ (hl _ (.inr (.inr rfl)))) (hF 0 hz),fun w hw=>(fo.db hw).cell 0,fun w hw=>(fo.db hw).cell 2,fun w hw=>(fo.db hw).cell 10,fun w hw=>(fo.db hw).cell 11,fun w hw=>?_,fun w hw=>?_,?_,?_,h.disk.n1,vo,h.ll,fun w id hw h1 h2=>?_,fun w id hw h1 h2=>?_⟩
 ·obtain⟨A,c,_,c0,_⟩:=(fo.disk hw).c
  exact c0
 ·obtain⟨A,c,_,_,_,c2,_⟩:=(fo.disk hw).c
  rw[hd]at c2;exact c2
 ·show t≠a.x
  have:=hl a.x (.inr (.inr rfl));omega
 ·show t≠a.d
  have:=hl a.d (.inl h.disk.dd);omega
 ·exact yT hw id (by have h3:id<b.m.high:=h2;omega) tV hd
 ·obtain⟨k1,k2,k3,k4⟩:=hk id h1 h2
  show Calls Tryz.prog 85 #[.int .i64 (id:Int),.string (au (aJ b.k.cur a.log id))] w _;rw[k1];exact yO T id (base id).kind (base id).body (by have h3:id<b.m.high:=h2;omega) ⟨k2,k3⟩ k4 w (fo.half hw)
def ac2 (T:Nat->Nat) (cap E:Nat) (c:Nat->Bs) (code:Nat) (b:Db) (base:Nat->bB) (v:V):Prop :=
 ∃g m bs,nO (bT T) 400 cap E c g/\oZ (bT T) g m/\zC (bT T) g m.high bs/\((m=v.mt/\bs=v.pg)\/(code≠0/\m=b.m/\bs=base))
structure afg (w:World) (a:sF) (Dd Dl:Nat->Prop) (T:Nat->Nat) (cap E M:Nat) (b:Db) (base:Nat->bB) (v:V) (e:Ending) (w':World):Prop where
 r:∃code rR k',e=.returned (.int .i64 ((code:Nat):Int))/\aF w' rR a.d a.kb k'/\jw w Dd rR/\k'.n=b.k.n/\k'.eD M/\∀c,nQ k' c->ac2 T cap E c code b base v
 x:ah (fun g=>Dd g\/Dl g\/g=a.x) w w'
theorem Db.Xd (cr:Bs->Nat) (log:Nat) (s:Db) (sp:Bool) (l:List (Nat×Bs)) (m:Mt):(s.aV cr log sp l m).2.k.n=s.k.n:=by
 have t_:∀s:Db,(s.keep cr log l m).2.k.n=s.k.n:=fun s=>by
  have h1:(s.sync cr (aB l)).2.k.n=s.k.n:=by
   rw[Db.wW];split
   ·exact wX _ _ _ _
   ·exact wX _ _ _ _
  unfold Db.keep;split
  ·exact h1
  ·exact(Dk.jU _ _).trans h1
 unfold Db.aV;split
 ·rfl
 ·split
  ·rfl
  ·split
   ·rfl
   ·split
    ·split
     ·exact Db.Ct cr s
     ·exact(t_ _).trans (Db.Ct cr s)
    ·exact t_ s
theorem Jq.lost (h:Jq w0 s a Dd Dl T N b) (hN:N<=100) (hS:nN (bT T) cap b) (hs:s=iw a Dd Dl T b base s.t s.m) (ht:aD w s v) (hT:gJ w T) (hg:v.Good) (hk:v.Kd) (hm:v.mt.Ok) (dw:V.Steps s.cap (b.m.v base) v) (hc:v.high<=cap) (rV:v.spoilt=false)
  {n:Nat}(hn:n<1000) (hd:aF w' Dd a.d a.kb { b.k with armed:=true,left:=n }) (hx:ah (On a.d) w w') :
  Calls Tryz.prog 32 #[.pointer (some ⟨s.t,0,none⟩)] w' (afg w' a Dd Dl T cap (b.ak+1) (131072*(N+1)+110000) b base v):=by
 obtain⟨k1,j_⟩:∃k1:Dk,k1 = { b.k with armed:=true,left:=n }:=⟨_,rfl⟩;rw[<-j_]at hd;have ek:k1.K=b.k.K/\k1.pd=b.k.pd/\k1.n=b.k.n/\k1.down=b.k.down/\k1.done=b.k.done/\k1.left=n:=by rw[j_];exact⟨rfl,rfl,rfl,rfl,rfl,rfl⟩
 have ae_:k1.cur=b.k.cur:=by unfold Dk.cur;rw[ek.1,ek.2.1]
 have nC:=h.low;have bu:=h.lt;have df:=h.log;have Gd:=h.db w ht.db hT;have hP:=Gd.parts;have mX:=h.lv.down;have Si:=h.lv.near;have hdt:a.d<s.m:=nC _ (.inl Gd.disk.dd);have hz:0<s.m:=by
  have h1:=hP.zx;have h2:=nC a.x (.inr (.inr rfl));omega
 have acB:fo w' Dd Dl a (some ⟨s.t,0,none⟩) false T { b with k:=k1 } :=
  ⟨hd,Gd.o9.ext hx (fun g hg e=>hP.ap g hg (by have e':g=a.d:=e;rw[e'];exact Gd.disk.dd)),Gd.db.ext hx (fun e=>hP.xd (by have e':a.x=a.d:=e;rw[e'];exact Gd.disk.dd)),Gd.half.ext hx (fun e=>hP.zd (by have e':0=a.d:=e;rw[e'];exact Gd.disk.dd)),hP,by show a.log<=k1.n;rw[ek.2.2.1];exact Gd.ll⟩
 have VW:zC (bT T) (aJ b.k.cur a.log) b.m.high base:=by have:=h.kept;rw[h.bh,hs]at this;exact this
 have Dn:(iw a Dd Dl T { b with k:=k1 } base s.t s.m).Ok:=Te acB nC hz (by omega) (Nat.le_refl _) (by show k1.down=false;rw[ek.2.2.2.1];exact mX) (by show k1.pd.length<_;rw[ek.2.1];have:=Si.2.2;omega) (by show a.log+b.m.high*8<=k1.n;rw[df,ek.2.2.1];exact h.cap) (by show zC (bT T) (aJ k1.cur a.log) b.m.high base;rw[ae_];exact VW);have htb:s.bh=b.m.high:=h.bh;have DI:s.base=base:=by rw[hs];rfl
 have ht1:aD w' (iw a Dd Dl T { b with k:=k1 } base s.t s.m) v:=by
  obtain⟨ov,o1,o2,o3⟩:=ht.mp;have hcap:(iw a Dd Dl T { b with k:=k1 } base s.t s.m).cap=s.cap:=by
   unfold bH.cap;show(k1.n-a.log) / 8=(s.nsec-s.log) / 8;rw[ek.2.2.1,h.nn,h.UC,df]
  refine⟨?_,acB,ht.h1,by rw[hcap];exact ht.h2,by show b.m.high<=v.high;rw[<-htb];exact ht.hb,ht.hc,ov,o1.ext hx (fun e=>by have e':s.m=a.d:=e;omega),o2,?_⟩
  ·have:=ht.tx.ext hx (fun e=>by have e':s.t=a.d:=e;omega)
   have e1:v.cells s=v.cells (iw a Dd Dl T { b with k:=k1 } base s.t s.m):=by unfold V.cells;rw[h.sx];rfl
   rw[<-e1];exact this
  ·intro i h1 h2
   have:=o3 i h1 h2;rw[DI,htb]at this;exact this
 have hR:Xr w' (iw a Dd Dl T { b with k:=k1 } base s.t s.m) v Dd Dl a T { b with k:=k1 }:=by
  refine⟨Dn,ht1,rfl,acB,fun e=>?_,fun e=>?_,fun e=>?_,fun e=>?_,fun e=>?_,hg,hk,hm,⟨?_,?_,?_⟩,?_,?_,h.lv.fine.bytes,h.lv.rb,?_⟩
  ·have:=nC _ (.inl e)
   have e2:(iw a Dd Dl T { b with k:=k1 } base s.t s.m).t=s.t:=rfl;omega
  ·have:=nC _ (.inr (.inl e))
   have e2:(iw a Dd Dl T { b with k:=k1 } base s.t s.m).t=s.t:=rfl;omega
  ·have:=nC _ (.inl e)
   have e2:(iw a Dd Dl T { b with k:=k1 } base s.t s.m).m=s.m:=rfl;omega
  ·have:=nC _ (.inr (.inl e))
   have e2:(iw a Dd Dl T { b with k:=k1 } base s.t s.m).m=s.m:=rfl;omega
  ·have e2:s.m=a.x:=e
   have:=nC a.x (.inr (.inr rfl));omega
  ·show k1.left<2^24
   omega
  ·show k1.done<2^24
   have:=Si.2.1;omega
  ·show k1.pd.length<2^24
   rw[ek.2.1];have:=Si.2.2;omega
  ·show b.ak<2^58
   have:=h.lv.ep;omega
  ·show b.recs.length<2^15
   have:=h.lv.rl;omega
  ·show a.log+v.high*8<=k1.n
   have h1:=ht.h2;unfold bH.cap at h1;have h2:=h.nn;have h3:=h.UC;have h5:=h.ok.ll;omega
 refine(D6 hR).mono ?_;rintro e w'' ⟨ov,im,hI,he,⟨rR,JC,Gf,_,n1,_⟩,aH⟩;subst he;rw[rV,df]at Gf ⊢;have hS1:nN (bT T) cap { b with k:=k1 }:=hS.same ek.1 ek.2.1;have hhi:v.high<=8192:=by have h1:=ht.h2;have h2:=h.ok.n2;unfold bH.cap at h1;omega
 have acg:({ b with k:=k1 }:Db).k.eD (131072*(N+1)+1000):=⟨by show k1.left<_;omega,by show k1.done<_;have:=Si.2.1;omega,by show k1.pd.length<_;rw[ek.2.1];have:=Si.2.2;omega⟩;have acf:=Db.Av (cr:=bT T) (log:=400) (sp:=false) (l:=im) (m:=v.mt) acg (by have:=hI.len (by omega);omega) h.lv.rb;refine⟨⟨_,rR,_,rfl,Gf,n1,?_,acf.mono (by omega),fun c hp=>?_⟩,aH⟩
 ·rw[Db.Xd]
  exact ek.2.2.1
 ·have hcr:=hS1.afc hI hg ht.h1 hc (E:=b.ak+1) (Nat.le_refl _) c hp
  have ef:aJ ({ b with k:=k1 }:Db).k.cur 400=aJ b.k.cur 400:=by show aJ k1.cur 400=_;rw[ae_]
  rw[ef]at hcr;have Es:=hS.mt;rcases hcr with hcr|⟨h0,hcr⟩
  ·refine⟨_,v.mt,v.pg,hcr,Es.images hI hm ht.h1 (fun hq=>J_ dw hq),?_,.inl ⟨rfl,rfl⟩⟩
   have jK:zC (bT T) (aJ b.k.cur 400) (iw a Dd Dl T { b with k:=k1 } base s.t s.m).bh (iw a Dd Dl T { b with k:=k1 } base s.t s.m).base:=by rw[<-df];exact VW
   exact hI.kept hg hk jK
  ·exact⟨_,b.m,base,hcr,Es,by rw[<-df];exact VW,.inr ⟨h0,rfl,rfl⟩⟩
theorem abI {D:Nat->Prop}{d kb:Nat}{k:Dk}(hd:aF w D d kb k) (tV:k.pd = []) (hlv:k.live) (hT:gJ w T) (h0:¬D 0) {M:Nat}(hM:k.eD M) (hM2:M<=400000) (hn:k.n=2000) (A7:∀g,D g->w0.heap.size<=g) (hw0:w0.heap.size<=w.heap.size)
  {E:Nat}(hE:E<=4) {g:Nat->Bs}{m:Mt}(hs:nO (bT T) 400 200 E k.K g) (hm:oZ (bT T) g m) (hk:zC (bT T) g m.high base) (h1:1<=m.high) (h2:m.high<=200) (h3:m.cnt<=m.high) :
  Calls Tryz.prog 43 #[.pointer (some ⟨d,0,none⟩),.int .i64 400] w fun e w'=>∃a Dd Dl b,e=.returned (.tuple #[.pointer (some ⟨a.x,0,none⟩),.int .i64 0])/\uC w0 w' a Dd Dl T 5 b base/\b.m=m/\b.k.n=2000/\w.heap.size<=a.x/\ah D w w':=by
 obtain⟨ak,bytes,ls,q1,q2,q3,q4,q5⟩:=hs;have hrc:=vY (cr:=bT T) ls q3;rw[<-q1.en]at hrc;refine(Y9 hd tV hlv T hT h0 hM (by omega) 400 (by decide) (by decide) (by omega) q1 q2 (by rw[hn];exact q3) (by omega) q5 hm (by rw[hn];exact h2)).mono ?_;rintro e w' ⟨⟨a,Dd,Dl,b,he,r1,r2,r3,r4,r5,r6,r7,r8,r9,r10,r11,H_,r13,r14⟩,hx⟩;refine⟨a,Dd,Dl,b,he,⟨r1,r3,⟨⟨r6,by rw[r7];simp⟩,fun _=>r7,r9.mono (by omega),by omega,by rw[r8];simp⟩,?_,?_,by rw[r4];exact h1,by rw[r4,r5,hn];omega,by rw[r4];exact h3⟩,r4,r5.trans hn,r14,hx⟩
 ·have e1:aJ b.k.cur a.log=g:=by rw[r1];exact funext r11
  rw[e1,r4];exact hk
 ·intro q hq
  rcases hq with hq|hq|hq
  ·rcases H_ q hq with hq|hq
   ·exact A7 q hq
   ·omega
  ·have:=r13 q hq;omega
  ·rw[hq];omega
end
section
variable {cap root:Nat}{v w:V}{X P:List Nat}{E:List bK}
theorem vN.turn (h:vN cap v root X P E) (hr:w.r=v.r) (hh:w.high=v.high) (hf:w.free=v.free) (hc:w.cnt=v.cnt) (hp:∀i,1<=i->i<v.high->w.pg i=v.pg i):vN cap w root X P E:=by
 have he:∀p,w.err p=0↔v.err p=0:=fun p=>by
  rw[V.dH,V.dH,hh];constructor
  ·rintro⟨a,b,c⟩
   exact⟨a,b,by rw[<-hp p a b];exact c⟩
  ·rintro⟨a,b,c⟩
   exact⟨a,b,by rw[hp p a b];exact c⟩
 obtain⟨⟨⟨fr,qh⟩,h1,h2⟩,h3,h4,h5,h6⟩:=h;refine⟨⟨⟨fr,?_⟩,by rw[hh];exact h1,h2⟩,h3.kept (by rw[hr]) (fun p _ hq=>?_),h4,fun p=>(he p).trans (h5 p),h6⟩
 ·have hk:∀a,(1<=a/\a<w.high/\(w.pg a).kind=255)↔(1<=a/\a<v.high/\(v.pg a).kind=255):=fun a=>by
   rw[hh];constructor
   ·rintro⟨x,y,z⟩
    exact⟨x,y,by rw[<-hp a x y];exact z⟩
   ·rintro⟨x,y,z⟩
    exact⟨x,y,by rw[hp a x y];exact z⟩
  refine⟨qh.nd,hc.trans qh.cnt,hf.trans qh.hd,fun a=>(hk a).trans (qh.mem a),fun k a e=>?_,by rw[hh];exact qh.top,by rw[hh];exact qh.h1,fun a x y=>?_⟩
  ·have:=(qh.mem a).2 (List.mem_of_getElem? e)
   rw[hp a this.1 this.2.1];exact qh.body k a e
  ·rw[hh]at y
   rw[hp a x y];exact qh.bd a x y
 ·have:=(V.dH v p).1 hq
  exact⟨(he p).2 hq,hp p this.1 this.2.1⟩
end
def Pw (a b:Nat):Nat->Prop:=fun g=>g<a\/b<=g
structure La (s:bH) (Z:Nat->Prop) (W wr:World) (V1:V) (n:Nat) (v:V) (P:List Nat) (E E':List bK) (A:Option Addr) (c:Nat):Prop where
 tx:aD wr s v
 one:vN s.cap v 0 [] P E
 st:V.Steps s.cap V1 v
 sp:v.spoilt=false
 r:∀i,i≠0->v.r i=0
 le:E'.length<=n
 U2:∀e∈E',iE e.1 []=0
 bm:ax wr W.heap.size 32 #[.slice A E'.length c]
 ra:jL wr Z A c E'
 ex:ah s.F W wr
section
variable {s:bH}{Z:Nat->Prop}{W wr w2:World}{V1 v v2:V}{n:Nat}{P P2:List Nat}{E E' E2:List bK}{A:Option Addr}{c:Nat}
theorem La.no (h:La s Z W wr V1 n v P E E' A c) (hs:s.Ok) (hx:ah No wr w2):La s Z W w2 V1 n v P E E' A c :=
 ⟨h.tx.no hs hx,h.one,h.st,h.sp,h.r,h.le,h.U2,h.bm.ext hx (fun h=>h),h.ra.ext hx.of_no,h.ex.ag hx.of_no⟩
theorem La.tree (h:La s Z W wr V1 n v P E E' A c) (h0:aD W s V1) (hZ:∀b,s.F b->Z b) (ht:aD w2 s v2) (hx:ah s.F wr w2) (ho:vN s.cap v2 0 [] P2 E2) (dw:V.Steps s.cap v v2) (rV:v2.spoilt=v.spoilt) (hr:∀i,i≠0->v2.r i=v.r i):La s Z W w2 V1 n v2 P2 E2 E' A c :=
 ⟨ht,ho,h.st.trans dw,rV.trans h.sp,fun i hi=>(hr i hi).trans (h.r i hi),h.le,h.U2,h.bm.ext hx (fun hf=>by have:=h0.old hf;omega),h.ra.ext (hx.mono fun b _ hb=>hZ b hb),h.ex.ag hx⟩
theorem La.map {e0 e:Ending}(h:La s Z W wr V1 n v P E E' A c) (hs:s.Ok) (h0:aD W s V1) (hZ:∀b,Z b->b<=W.heap.size) (hm:zy wr W.heap.size e0 E2 e w2) (hl:E2.length<=n+1) (yZ:∀e∈E2,iE e.1 []=0):∃A2 c2,La s Z W w2 V1 (n+1) v P E E2 A2 c2:=by
 obtain⟨A2,c2,h1,h2⟩:=hm.m;have hx:ah s.F W w2:=h.ex.trans hm.x (fun b hb he=>by have:b=W.heap.size:=he;omega);refine⟨A2,c2,h.tx.tN hm.x (fun he=>?_) (fun he=>?_) (hs.keep _ _ hx h0.db),h.one,h.st,h.sp,h.r,hl,yZ,h1,h2.mono (fun b _ hb=>?_),hx⟩
 ·have h3:s.t=W.heap.size:=he
  have:=h0.old (b:=s.t) (.inl rfl);omega
 ·have h3:s.m=W.heap.size:=he
  have:=h0.old (b:=s.m) (.inr rfl);omega
 ·have h3:=hZ b hb
  have h4:=h.bm.lt;show b<wr.heap.size;omega
end
structure agb (w0:World) (gx:Nat) (A1:Option Addr) (c1:Nat) (E1:List bK) (A2:Option Addr) (c2:Nat) (E2:List bK) (q1 q2 q3 q4:Bool):Prop where
 chk:∀w',ah No w0 w'->Calls Tryz.prog 22 #[.pointer (some ⟨gx,0,none⟩)] w' fun e w''=>e=.returned (.int .i64 0)/\ah No w' w''
 hd2:∀w',ah No w0 w'->Calls Tryz.prog 29 #[.pointer (some ⟨gx,0,none⟩),.slice A2 E2.length c2] w' fun e w''=>e=.returned (.bool q1)/\ah No w' w''
 ct2:∀w',ah No w0 w'->Calls Tryz.prog 30 #[.pointer (some ⟨gx,0,none⟩),.slice A2 E2.length c2,.slice A1 E1.length c1] w' fun e w''=>e=.returned (.bool q2)/\ah No w' w''
 hd1:∀w',ah No w0 w'->Calls Tryz.prog 29 #[.pointer (some ⟨gx,0,none⟩),.slice A1 E1.length c1] w' fun e w''=>e=.returned (.bool q3)/\ah No w' w''
 ct1:∀w',ah No w0 w'->Calls Tryz.prog 30 #[.pointer (some ⟨gx,0,none⟩),.slice A1 E1.length c1,.slice A2 E2.length c2] w' fun e w''=>e=.returned (.bool q4)/\ah No w' w''
theorem afe {w0:World}{s:bH}{v:V}{gx:Nat}{P:List Nat}{E E1 E2:List bK}{A1 A2:Option Addr}{c1 c2:Nat}(hs:s.Ok) (ht:aD w0 s v) (hx:ax w0 gx 70 (av s 0)) (ho:vN s.cap v 0 [] P E) (hE:E.length<100) (h1:jL w0 No A1 c1 E1) (h2:jL w0 No A2 c2 E2) (Et:∀e∈E1,iE e.1 []=0) (Al:∀e∈E2,iE e.1 []=0) :
  agb w0 gx A1 c1 E1 A2 c2 E2 (nG E E2) (kz E E2 E1) (nG E E1) (kz E E1 E2):=by
 refine⟨fun w' e=>?_,fun w' e=>?_,fun w' e=>?_,fun w' e=>?_,fun w' e=>?_⟩
 ·have h1:=Pg s hs w' v (ht.no hs e) ho.uZ.1 gx 0 (hx.ext e (fun h=>h)) (by decide)
  rw[vN.check ho.tree (by have:=ho.room.2;omega)]at h1;exact h1
 ·exact F_ s hs w' v (ht.no hs e) ho.uZ.1 gx 0 (hx.ext e (fun h=>h)) (by decide) P E ho.tree A2 c2 E2 (h2.rd.ext e) h2.b Al
 ·exact GM s hs w' v (ht.no hs e) ho.uZ.1 gx 0 (hx.ext e (fun h=>h)) (by decide) P E ho.tree A2 c2 E2 (h2.ext e) A1 c1 E1 (h1.rd.ext e) h1.b Et
 ·exact F_ s hs w' v (ht.no hs e) ho.uZ.1 gx 0 (hx.ext e (fun h=>h)) (by decide) P E ho.tree A1 c1 E1 (h1.rd.ext e) h1.b Et
 ·exact GM s hs w' v (ht.no hs e) ho.uZ.1 gx 0 (hx.ext e (fun h=>h)) (by decide) P E ho.tree A1 c1 E1 (h1.ext e) A2 c2 E2 (h2.rd.ext e) h2.b Al
theorem YS {E E1 E2:List bK}{code:Nat}(h1:ja E1) (h2:ja E2) (h:E=E2\/(code≠0/\E=E1)) :
  (code=0->nG E E2=true/\kz E E2 E1=true)/\(nG E E2=true/\kz E E2 E1=true\/nG E E1=true/\kz E E1 E2=true):=by
 rcases h with rfl|⟨h0,rfl⟩
 ·exact⟨fun _=>⟨wC h2,uk _ _⟩,.inl ⟨wC h2,uk _ _⟩⟩
 ·exact⟨fun h=>absurd h h0,.inr ⟨wC h1,uk _ _⟩⟩
theorem ac2.one {T:Nat->Nat}{cap E0 Pm:Nat}{c:Nat->Bs}{code:Nat}{b:Db}{base:Nat->bB}{v:V}{P1 P2:List Nat}{E1 E2:List bK}(h:ac2 T cap E0 c code b base v) (h1:vN Pm (b.m.v base) 0 [] P1 E1) (h2:vN Pm v 0 [] P2 E2)
  (k1:1<=b.m.high) (k2:b.m.high<=200) (k3:b.m.cnt<=b.m.high) (k4:1<=v.high) (k5:v.high<=200) (k6:v.cnt<=v.high) :
  ∃g m bs P E,nO (bT T) 400 cap E0 c g/\oZ (bT T) g m/\zC (bT T) g m.high bs/\vN Pm (m.v bs) 0 [] P E/\(E=E2\/(code≠0/\E=E1))/\1<=m.high/\m.high<=200/\m.cnt<=m.high:=by
 obtain⟨g,m,bs,q1,q2,q3,q4⟩:=h;rcases q4 with ⟨rfl,rfl⟩|⟨q0,rfl,rfl⟩
 ·exact⟨g,_,_,P2,E2,q1,q2,q3,h2.turn rfl rfl rfl rfl (fun _ _ _=>rfl),.inl rfl,k4,k5,k6⟩
 ·exact⟨g,_,_,P1,E1,q1,q2,q3,h1,.inr ⟨q0,rfl⟩,k1,k2,k3⟩
end Go.Proofs.YtccnemmlkcmceaaGreatDoor
