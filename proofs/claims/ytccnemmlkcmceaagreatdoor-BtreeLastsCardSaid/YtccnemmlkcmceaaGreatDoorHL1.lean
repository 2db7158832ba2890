/- Proofs about the given program, joined out of the texts M, T, T1, SL, N, S0, S1, U, S2, S3, S4, ShelfI. -/
import Derived.Test.YtccnemmlkcmceaaGreatDoorProg
import Derived.WalkKit
import Derived.WalkSpells
import Derived.WalkLawsBesides
import Derived.KernelRfl
import Derived.Laws.OwnMore
import Derived.Deep.Draws
import Derived.Deep.QuietTactic
import Derived.BigQuiet
import Derived.Lib.Hide
import Derived.LaidEqlPtr
import Derived.Lib.Builder
import Derived.Deep.RegionHeld3
import Derived.StillTactics
import Derived.Shelf.SlGeneric
import Derived.Shelf.SlIterI.Nil
import Derived.Shelf.SortM.Plain
import Derived.Shelf.SortM.SortNone
import Derived.Ground.GgzProg
import Derived.Ground.SlgmProg
import Derived.Laws.BitsAllLaws
import Derived.Laws.BitsLemmas
import Derived.Laws.IdiomStrings
import Derived.Deep.DeepCutAuto
import Derived.Deep.LoopGhost
import Derived.Deep.CutBlock
import Derived.Deep.AppendLies
import Derived.Lib.AppendStr
import Derived.Shelf.Spec.SlicesInsert
import Derived.Shelf.Spec.SlicesInsertGrow
set_option linter.unusedVariables false
set_option linter.unusedSimpArgs false
set_option maxRecDepth 100000
set_option maxHeartbeats 6400000
namespace Go.Proofs.YtccnemmlkcmceaaGreatDoor
open Go.RowKit
def au (l:List UInt8):ByteArray:=⟨l.toArray⟩
@[simp] theorem jC (l:List UInt8):(au l).data.toList=l:=by simp[au]
@[simp] theorem az (l:List UInt8):(au l).size=l.length:=by simp[au,ByteArray.size]
@[simp] theorem aaU (l:List UInt8):(au l).toList=l:=by rw[ByteArray.toList_eq];simp
theorem abF (s:ByteArray):au s.data.toList=s:=by cases s;simp[au]
def ax (w:World) (g:Nat) (t:TypeId) (cs:Array Value):Prop:=w.heap[g]?=some (.cells cs t (0,0))
structure ah (F:Nat->Prop) (w w':World):Prop where
 os:w'.os=w.os
 tape:w'.tape=w.tape
 output:w'.output=w.output
 size:w.heap.size<=w'.heap.size
 block:∀i,i<w.heap.size->¬F i->w'.heap[i]?=w.heap[i]?
def No:Nat->Prop:=fun _=>False
section
variable {F G:Nat->Prop}{w w' w1:World}{g:Nat}{t:TypeId}{cs:Array Value}
theorem ax.lt (h:ax w g t cs):g<w.heap.size:=by
 rcases Nat.lt_or_ge g w.heap.size with bu|iC
 ·exact bu
 ·unfold ax at h;rw[Array.getElem?_eq_none iC]at h;cases h
theorem ax.cell (h:ax w g t cs) (i:Nat):w.cell? ⟨g,i,none⟩=cs[i]?:=cell_of_row w g i cs t (0,0) h
theorem ax.frozen (h:ax w g t cs) (i:Nat):w.frozen? ⟨g,i,none⟩=false:=by
 unfold ax at h;simp[World.frozen?,h]
theorem ax.new (w:World) (t:TypeId) (cs:Array Value):ax (w.alloc (.cells cs t)) w.heap.size t cs:=heap_alloc_new w _
theorem ax.drewN (h:ax w g t cs) (n:Nat):ax (w.drewN n) g t cs:=h
theorem ax.alloc (h:ax w g t cs) (o:Obj):ax (w.alloc o) g t cs:=(Below.heap_alloc w o g h.lt).trans h
theorem ax.aQ (h:ax w g t cs) (i:Nat) (u:Value):ax (w.setCell ⟨g,i,none⟩ u) g t (cs.setIfInBounds i u):=by
 unfold ax at h ⊢;simp[World.setCell,Array.getElem?_modify,h]
theorem ax.far (h:ax w g t cs) {p:Addr}(hp:g≠p.block) (u:Value):ax (w.setCell p u) g t cs:=(Below.heap_setCell w p u g hp).trans h
theorem ax.ext (h:ax w g t cs) (hb:ah F w w') (hg:¬F g):ax w' g t cs:=(hb.block g h.lt hg).trans h
theorem ax.UZ {g':Nat}{t':TypeId}{cs':Array Value}(h:ax w g t cs) (h':ax w g' t' cs') (bQ:t≠t'):g≠g':=by
 rintro rfl;unfold ax at h h';rw[h]at h';injection h' with h';injection h' with _ ht;exact bQ ht
theorem ah.refl (F:Nat->Prop) (w:World):ah F w w:=⟨rfl,rfl,rfl,Nat.le_refl _,fun _ _ _=>rfl⟩
theorem ah.drewN (h:ah F w w') (n:Nat):ah F w (w'.drewN n):=⟨h.os,h.tape,h.output,h.size,h.block⟩
theorem ah.drew (h:ah F w w'):ah F w w'.drew:=⟨h.os,h.tape,h.output,h.size,h.block⟩
theorem ah.alloc (h:ah F w w') (o:Obj):ah F w (w'.alloc o) :=
 ⟨h.os,h.tape,h.output,Nat.le_trans h.size (by simp),fun i hi bQ=>(Below.heap_alloc w' o i (Nat.lt_of_lt_of_le hi h.size)).trans (h.block i hi bQ)⟩
theorem ah.setCell (h:ah F w w') {p:Addr}(hp:F p.block\/w.heap.size<=p.block) (u:Value):ah F w (w'.setCell p u) :=
 ⟨h.os,h.tape,h.output,by simpa[World.setCell]using h.size,fun i hi bQ=>(Below.heap_setCell w' p u i (by
  rintro rfl;rcases hp with hp|hp
  ·exact bQ hp
  ·omega)).trans (h.block i hi bQ)⟩
theorem ah.ai (h:ah F w w') {b:Nat}(hb:w.heap.size<=b) (o:Nat) (u:Value):ah F w (w'.setCell ⟨b,o,none⟩ u):=h.setCell (.inr hb) u
theorem ah.ay (h:ah F w w') {b:Nat}(hb:F b) (o:Nat) (u:Value):ah F w (w'.setCell ⟨b,o,none⟩ u):=h.setCell (.inl hb) u
theorem ah.trans (h:ah F w w1) (h':ah G w1 w') (hG:∀i,i<w.heap.size->G i->F i):ah F w w' :=
 ⟨h'.os.trans h.os,h'.tape.trans h.tape,h'.output.trans h.output,Nat.le_trans h.size h'.size,
  fun i hi bQ=>(h'.block i (Nat.lt_of_lt_of_le hi h.size) (fun hg=>bQ (hG i hi hg))).trans (h.block i hi bQ)⟩
theorem ah.ag (h:ah F w w1) (h':ah F w1 w'):ah F w w':=h.trans h' fun _ _ h=>h
theorem ah.mono (h:ah F w w') (hG:∀i,i<w.heap.size->F i->G i):ah G w w' :=
 ⟨h.os,h.tape,h.output,h.size,fun i hi bQ=>h.block i hi (fun hf=>bQ (hG i hi hf))⟩
theorem ah.of_no (h:ah No w w'):ah F w w':=h.mono fun _ _ h=>h.elim
theorem ah.below (h:ah No w w'):Below w.heap.size w w':=⟨h.os,h.tape,h.output,h.size,fun i hi=>h.block i hi (fun h=>h)⟩
theorem ah.of_below (h:Below w.heap.size w w') (F:Nat->Prop):ah F w w':=⟨h.os,h.tape,h.output,h.size,fun i hi _=>h.block i hi⟩
end
theorem lF {k:IntKind}{a b:Int}(h:a=b):Ending.returned (.int k a)=.returned (.int k b):=by rw[h]
theorem iH {a b:Bool}(h:a=b):Ending.returned (.bool a)=.returned (.bool b):=by rw[h]
theorem aj {F:Nat->Prop}{w w':World}(h:ah F w w') {g i:Nat}{u:Value}(hc:w.cell? ⟨g,i,none⟩=some u) (hg:¬F g):w'.cell? ⟨g,i,none⟩=some u:=by
 have bu:=World.block_lt_of_cell? w _ hc;rw[<-hc];exact World.cell?_of_block (h.block g bu hg)
theorem aa {p:Prop} (h:p):Hid p:=Lib.hid h
structure bB where
 kind:Nat
 body:List UInt8
def bB.val (p:bB):Value:=.agg #[.int .i64 (p.kind:Int),.string (au p.body)]
structure V where
 r:Nat->Nat
 high:Nat
 free:Nat
 cnt:Nat
 pg:Nat->bB
 marked:Bool
 spoilt:Bool
structure bH where
 d:Nat
 x:Nat
 t:Nat
 m:Nat
 ka:Addr
 nsec:Nat
 log:Nat
 db:World->Prop
 bh:Nat
 base:Nat->bB
 img:Nat->ByteArray
def bH.F (s:bH):Nat->Prop:=fun b=>b=s.t\/b=s.m
def bH.cap (s:bH):Nat:=(s.nsec-s.log) / 8
def oW (es:Array MapEntry) (c:Nat):Prop:=(∀e∈es.toList,e.born<c)/\(es.toList.map (·.born)).Nodup
def WO (es:Array MapEntry) (ov:List (Nat×bB)):Prop :=
 es.toList.map (fun e=>(e.key,e.val))=ov.map (fun p=>(Value.int .i64 (p.1:Int),p.2.val))
structure jM (w:World) (m:Nat) (ov:List (Nat×bB)):Prop where
 nodup:(ov.map (·.1)).Nodup
 obj:∃es c,w.heap[m]?=some (.map es c)/\WO es ov/\oW es c
structure bH.Ok (s:bH):Prop where
 keep:∀w w',ah s.F w w'->s.db w->s.db w'
 x0:∀w,s.db w->w.cell? ⟨s.x,0,none⟩=some (.pointer (some ⟨s.d,0,none⟩))
 x2:∀w,s.db w->w.cell? ⟨s.x,2,none⟩=some (.int .i64 (s.log:Int))
 x10:∀w,s.db w->w.cell? ⟨s.x,10,none⟩=some (.pointer (some ⟨s.t,0,none⟩))
 x11:∀w,s.db w->w.cell? ⟨s.x,11,none⟩=some (.bool false)
 d0:∀w,s.db w->w.cell? ⟨s.d,0,none⟩=some (.slice (some s.ka) s.nsec s.nsec)
 d2:∀w,s.db w->w.cell? ⟨s.d,2,none⟩=some (.bool false)
 tx:s.t≠s.x
 td:s.t≠s.d
 n1:1<=s.nsec
 n2:s.nsec<=65536
 ll:s.log<=s.nsec
 img:∀w (id:Nat),s.db w->1<=id->id<s.bh ->
  Calls Tryz.prog 83 #[.pointer (some ⟨s.x,0,none⟩),.int .i64 (id:Int)] w (fun e w'=>e=.returned (.tuple #[.string (s.img id),.int .i64 0])/\ah No w w')
 opn:∀w (id:Nat),s.db w->1<=id->id<s.bh ->
  Calls Tryz.prog 85 #[.int .i64 (id:Int),.string (s.img id)] w (fun e w'=>e=.returned (.tuple #[.int .i64 ((s.base id).kind:Int),.string (au (s.base id).body),.int .i64 0])/\ah No w w')
def V.cells (v:V) (s:bH):Array Value:=#[.pointer (some ⟨s.x,0,none⟩),.int .i64 (v.r 0:Int),.int .i64 (v.r 1:Int),.int .i64 (v.r 2:Int),.int .i64 (v.r 3:Int),
 .int .i64 (v.high:Int),.int .i64 (v.free:Int),.int .i64 (v.cnt:Int),.map (some s.m),.bool v.marked,.bool v.spoilt]
structure aD (w:World) (s:bH) (v:V):Prop where
 tx:ax w s.t 111 (v.cells s)
 db:s.db w
 h1:1<=v.high
 h2:v.high<=s.cap
 hb:s.bh<=v.high
 hc:v.cnt<=v.high
 mp:∃ov,jM w s.m ov/\(∀i p,(i,p)∈ov->1<=i/\i<v.high)/\(∀i,1<=i->i<v.high->(i∈ov.map (·.1)\/i<s.bh)/\v.pg i=(ov.lookup i).getD (s.base i))
theorem jM.ext {F:Nat->Prop}{w w':World}{m:Nat}{ov:List (Nat×bB)}(h:jM w m ov) (he:ah F w w') (hm:¬F m):jM w' m ov:=by
 obtain⟨hn,es,c,ho,Fg⟩:=h;refine⟨hn,es,c,?_,Fg⟩;have bu:m<w.heap.size:=by
  rcases Nat.lt_or_ge m w.heap.size with bu|iC
  ·exact bu
  ·rw[Array.getElem?_eq_none iC]at ho;cases ho
 exact(he.block m bu hm).trans ho
theorem jM.ne {w:World}{m g:Nat}{ov:List (Nat×bB)}{t:TypeId}{cs:Array Value}(h:jM w m ov) (hb:ax w g t cs):g≠m:=by
 rintro rfl;obtain⟨_,es,c,ho,_⟩:=h;unfold ax at hb;rw[ho]at hb;cases hb
theorem aD.no {w w':World}{s:bH}{v:V}(h:aD w s v) (hs:s.Ok) (he:ah No w w'):aD w' s v:=by
 obtain⟨ov,hm,h1,h2⟩:=h.mp;exact⟨h.tx.ext he (fun h=>h),hs.keep _ _ he.of_no h.db,h.h1,h.h2,h.hb,h.hc,ov,hm.ext he (fun h=>h),h1,h2⟩
theorem KM (a:Addr) (w:World):(binOp .neq 25 (.pointer (some a)) (.pointer (some a))).run Tryz.prog w=.ok (.bool false) w:=by
 obtain⟨j,hj⟩:∃j,Tryz.prog.info? 111=some j:=by
  have h:(Tryz.prog.info? 111).isSome=true:=by kernel_rfl
  exact Option.isSome_iff_exists.1 h
 exact Lib.run_neq_ptr_same w a Tryz.underlying25 hj
theorem xX (d n:Nat) (ka:Addr) (w:World) (c0:w.cell? ⟨d,0,none⟩=some (.slice (some ka) n n)) (hn:1<=n) :
  Calls Tryz.prog 79 #[.pointer (some ⟨d,0,none⟩)] w fun e w'=>e=.returned (.bool false)/\w=w':=by
 obtain⟨n,rfl⟩:∃k,n=k+1:=⟨n-1,by omega⟩;go_enter Tryz.func79,Tryz.ntmps79;go_wp2;go_ret;exact⟨rfl,rfl⟩
theorem uV (d n:Nat) (ka:Addr) (w:World) (b:Bool) (c0:w.cell? ⟨d,0,none⟩=some (.slice (some ka) n n)) (hn:1<=n)
 (c2:w.cell? ⟨d,2,none⟩=some (.bool b)) :
  Calls Tryz.prog 40 #[.pointer (some ⟨d,0,none⟩)] w fun e w'=>e=.returned (.bool b)/\w=w':=by
 go_enter Tryz.func40,Tryz.ntmps40;go_wp2_with (go_at_call 79;refine(xX d n ka _ c0 hn).mono ?_;rintro e w' ⟨rfl,rfl⟩);go_ret;exact⟨rfl,rfl⟩
theorem pX (d n:Nat) (ka:Addr) (w:World) (c0:w.cell? ⟨d,0,none⟩=some (.slice (some ka) n n)) (hn:1<=n) :
  Calls Tryz.prog 93 #[.pointer (some ⟨d,0,none⟩)] w fun e w'=>e=.returned (.int .i64 n)/\w=w':=by
 go_enter Tryz.func93,Tryz.ntmps93;go_wp2_with (go_at_call 79;refine(xX d n ka _ c0 hn).mono ?_;rintro e w' ⟨rfl,rfl⟩);go_ret;exact⟨rfl,rfl⟩
theorem sJ (x d:Nat) (w:World) (c0:w.cell? ⟨x,0,none⟩=some (.pointer (some ⟨d,0,none⟩))) :
  Calls Tryz.prog 76 #[.pointer (some ⟨x,0,none⟩)] w fun e w'=>e=.returned (.bool false)/\w=w':=by
 go_enter Tryz.func76,Tryz.ntmps76;go_wp2;go_ret;exact⟨rfl,rfl⟩
theorem He (x d n:Nat) (ka:Addr) (w:World) (b lost:Bool) (c0:w.cell? ⟨d,0,none⟩=some (.slice (some ka) n n)) (hn:1<=n)
 (c2:w.cell? ⟨d,2,none⟩=some (.bool b)) (x0:w.cell? ⟨x,0,none⟩=some (.pointer (some ⟨d,0,none⟩))) (x11:w.cell? ⟨x,11,none⟩=some (.bool lost)) :
  Calls Tryz.prog 74 #[.pointer (some ⟨x,0,none⟩)] w fun e w'=>e=.returned (.int .i64 (if lost||b then 10 else 0))/\w=w':=by
 cases lost
 ·cases b
  all_goals
  go_enter Tryz.func74,Tryz.ntmps74;go_wp2_with (first|(go_at_call 76;refine(sJ x d _ x0).mono ?_;rintro e w' ⟨rfl,rfl⟩)|(go_at_call 40;refine(uV d n ka _ _ c0 hn c2).mono ?_;rintro e w' ⟨rfl,rfl⟩));go_ret;exact⟨rfl,rfl⟩
 ·go_enter Tryz.func74,Tryz.ntmps74
  go_wp2_with (first|(go_at_call 76;refine(sJ x d _ x0).mono ?_;rintro e w' ⟨rfl,rfl⟩)|(go_at_call 40;refine(uV d n ka _ _ c0 hn c2).mono ?_;rintro e w' ⟨rfl,rfl⟩));go_ret;exact⟨rfl,rfl⟩
theorem Hm (s:bH) (hs:s.Ok) (w:World) (hd:s.db w) (t0:w.cell? ⟨s.t,0,none⟩=some (.pointer (some ⟨s.x,0,none⟩))) :
  Calls Tryz.prog 53 #[.pointer (some ⟨s.t,0,none⟩)] w fun e w'=>e=.returned (.int .i64 0)/\w=w':=by
 have k:=fun w=>KM ⟨s.t,0,none⟩ w
 have x10:=hs.x10 w hd;go_enter Tryz.func53,Tryz.ntmps53;go_wp2_with (go_at_call 74;refine(He s.x s.d s.nsec s.ka _ false false (hs.d0 _ hd) hs.n1 (hs.d2 _ hd) (hs.x0 _ hd) (hs.x11 _ hd)).mono ?_;rintro e w' ⟨rfl,rfl⟩);go_ret;exact⟨rfl,rfl⟩
theorem Uq (s:bH) (hs:s.Ok) (w:World) (hd:s.db w) :
  Calls Tryz.prog 56 #[.pointer (some ⟨s.x,0,none⟩)] w fun e w'=>e=.returned (.int .i64 (s.cap:Int))/\∃k,w'=w.drewN k:=by
 have x0:=hs.x0 w hd;have x2:=hs.x2 w hd;have n2:=hs.n2;have ll:=hs.ll;go_enter Tryz.func56,Tryz.ntmps56;go_wp2_with (go_at_call 76;refine(sJ s.x s.d _ x0).mono ?_;rintro e w' ⟨rfl,rfl⟩);go_quiet ((go_at_call 93;exact Calls.quiet_of_same ((pX s.d s.nsec s.ka _ (by exact hs.d0 w hd) hs.n1).mono fun _ _ ⟨h1,h2⟩=>⟨h1,h2.symm⟩)));go_wp2;go_ret;exact⟨lF (by unfold bH.cap;omega),_,rfl⟩
def pG (ov:List (Nat×bB)) (id:Nat) (p:bB):List (Nat×bB) :=
 if id∈ov.map (·.1)then ov.map (fun q=>if q.1=id then (id,p)else q)else ov ++ [(id,p)]
theorem vT (ov:List (Nat×bB)) (id:Nat) (p:bB):(pG ov id p).map (·.1)=if id∈ov.map (·.1)then ov.map (·.1)else ov.map (·.1) ++ [id]:=by
 unfold pG;split
 ·rw[List.map_map]
  apply List.map_congr_left;intro q _;simp only[Function.comp];split
  ·rename_i h;exact h.symm
  ·rfl
 ·simp
theorem zX {ov:List (Nat×bB)}(h:(ov.map (·.1)).Nodup) (id:Nat) (p:bB):((pG ov id p).map (·.1)).Nodup:=by
 rw[vT];split
 ·exact h
 ·rename_i hn
  rw[List.nodup_append];refine⟨h,by simp,?_⟩;intro a ha b hb e;simp at hb;subst hb;subst e;exact hn ha
theorem gL (ov:List (Nat×bB)) (id:Nat):ov.lookup id=none↔id∉ov.map (·.1):=by
 induction ov with
 | nil=>simp
 | cons q l ih =>
  obtain⟨a,b⟩:=q;simp only[List.lookup_cons,List.map_cons,List.mem_cons]
  by_cases h:id=a
  ·subst h;simp
  ·have:(id==a)=false:=by simpa using h
   simp[this,h,ih]
theorem CK (ov:List (Nat×bB)) (id:Nat) (p:bB) (j:Nat) :
  (ov.map (fun q=>if q.1=id then (id,p)else q)).lookup j=if j=id then (if id∈ov.map (·.1)then some p else none)else ov.lookup j:=by
 induction ov with
 | nil=>simp
 | cons q l ih =>
  obtain⟨a,b⟩:=q;simp only[List.map_cons,List.lookup_cons,List.mem_cons]
  by_cases h:a=id
  ·subst h
   by_cases hj:j=a
   ·subst hj;simp
   ·have:(j==a)=false:=by simpa using hj
    rw[if_pos rfl,List.lookup_cons,this,ih];simp[hj]
  ·by_cases hj:j=id
   ·subst hj
    have:(j==a)=false:=by simpa using (Ne.symm h)
    have h':¬j=a:=Ne.symm h;rw[if_neg h,List.lookup_cons,this,ih];simp only[List.map_cons,List.mem_cons,h',false_or,if_true]
   ·rw[if_neg h,List.lookup_cons,ih]
    cases hja:(j==a) <;> simp[hj]
theorem Hz (ov:List (Nat×bB)) (id:Nat) (p:bB) (j:Nat):(pG ov id p).lookup j=if j=id then some p else ov.lookup j:=by
 unfold pG;split
 ·rename_i h
  rw[CK,if_pos h]
 ·rename_i h
  rw[List.lookup_append]
  by_cases hj:j=id
  ·subst hj
   rw[(gL ov j).2 h];simp
  ·have:(j==id)=false:=by simpa using hj
   simp[hj,List.lookup_cons,this]
theorem Rp {ov:List (Nat×bB)}{id:Nat}{p:bB}{q:Nat×bB}(h:q∈pG ov id p):q.1=id\/q∈ov:=by
 unfold pG at h;split at h
 ·obtain⟨r,hr,he⟩:=List.mem_map.1 h
  split at he
  ·exact .inl (by rw[<-he])
  ·exact .inr (he▸hr)
 ·rcases List.mem_append.1 h with h|h
  ·exact .inr h
  ·simp at h;exact .inl (by rw[h])
theorem mO (q:IntKind) (id:Nat) (ov:List (Nat×bB)):∀(es:List MapEntry) (i:Nat),es.map (fun e=>(e.key,e.val))=ov.map (fun p=>(Value.int .i64 (p.1:Int),p.2.val)) ->
  (ov.lookup id=none->Instr.findNow (.int q) (.int .i64 (id:Int)) es i=some none) /\
  (∀p,ov.lookup id=some p->∃j,Instr.findNow (.int q) (.int .i64 (id:Int)) es i=some (some (i+j,p.val))/\(es[j]?).map (·.key)=some (.int .i64 (id:Int)) /\
   ((ov.map (·.1)).Nodup->∀(k:Nat) (r:Nat×bB),ov[k]?=some r->(r.1=id↔k=j))):=by
 induction ov with
 | nil =>
  intro es i h;have:es = []:=by simpa using h
  subst this;exact⟨fun _=>rfl,fun p hp=>by simp at hp⟩
 | cons r ov ih =>
  intro es i h;obtain⟨a,b⟩:=r
  match es,h with
  | [],h=>simp at h
  | e::es,h =>
   simp only[List.map_cons,List.cons.injEq,Prod.mk.injEq]at h;obtain⟨⟨hk,hv⟩,ht⟩:=h;obtain⟨ih1,ih2⟩:=ih es (i+1) ht
   by_cases hid:id=a
   ·subst hid
    refine⟨fun hn=>by simp at hn,fun p hp=>?_⟩;have hbp:b=p:=by simpa using hp
    subst hbp;refine⟨0,?_,by simp[hk],?_⟩
    ·simp[Instr.findNow,hk,Instr.sameNow,hv]
    ·intro gN k r hr
     match k with
     | 0=>simp at hr;simp[<-hr]
     | k+1 =>
      simp only[List.getElem?_cons_succ]at hr;simp only[List.map_cons,List.nodup_cons]at gN;constructor
      ·intro e1
       exact absurd (List.mem_map.2 ⟨r,List.mem_of_getElem? hr,e1⟩) gN.1
      ·intro e1;omega
   ·have bQ:((id:Int)==(a:Int))=false:=by simpa using (by omega:¬(id:Int)=(a:Int))
    have wy:(id==a)=false:=by simpa using hid
    refine⟨fun hn=>?_,fun p hp=>?_⟩
    ·have:ov.lookup id=none:=by simpa[List.lookup_cons,wy]using hn
     simp[Instr.findNow,hk,Instr.sameNow,bQ,ih1 this]
    ·have hp':ov.lookup id=some p:=by simpa[List.lookup_cons,wy]using hp
     obtain⟨j,h1,h2,h3⟩:=ih2 p hp';refine⟨j+1,?_,by simpa using h2,?_⟩
     ·simp[Instr.findNow,hk,Instr.sameNow,bQ,h1,Nat.add_assoc,Nat.add_comm 1 j]
     ·intro gN k r hr
      simp only[List.map_cons,List.nodup_cons]at gN
      match k with
      | 0 =>
       simp at hr;constructor
       ·intro e1;rw[<-hr]at e1;exact absurd e1.symm hid
       ·intro e1;omega
      | k+1 =>
       simp only[List.getElem?_cons_succ]at hr;rw[h3 gN.2 k r hr];omega
theorem uX (b:Bool) (i:Int) (w:World):(Instr.checkKey b 10000 3 (.int .i64 i)).run Tryz.prog w=.ok () w:=MapKept.run_checkKey (k:=.int .i64 i) Tryz.underlying3 (by simp[MapKept.IsKey]) b 9999
theorem HY {w:World}{m:Nat}{ov:List (Nat×bB)}(h:jM w m ov) {id:Nat}{p:bB}(hp:ov.lookup id=some p) :
  (Instr.lookup 109 (.map (some m)) (.int .i64 (id:Int)) true).run Tryz.prog w=.ok (.tuple #[p.val,.bool true]) w:=by
 obtain⟨_,es,c,ho,he⟩:=h;obtain⟨j,h1,_,_⟩:=(mO .i64 id ov es.toList 0 he.1).2 p hp;simp[Instr.lookup,run_underlying Tryz.underlying109,MapKept.run_getObj_map ho,uX,MapKept.run_findKey Tryz.underlying3 h1,Result.andThen]
theorem EF {w:World}{m:Nat}{ov:List (Nat×bB)}(h:jM w m ov) {id:Nat}(hp:ov.lookup id=none) :
  (Instr.lookup 109 (.map (some m)) (.int .i64 (id:Int)) true).run Tryz.prog w=.ok (.tuple #[.agg #[.int .i64 0,.string (au [])],.bool false]) w:=by
 obtain⟨_,es,c,ho,he⟩:=h;have h1:=(mO .i64 id ov es.toList 0 he.1).1 hp;have hz:(zeroValue 113).run Tryz.prog w=.ok (.agg #[.int .i64 0,.string (au [])]) w:=by kernel_rfl
 simp[Instr.lookup,run_underlying Tryz.underlying109,MapKept.run_getObj_map ho,uX,MapKept.run_findKey Tryz.underlying3 h1,hz,Result.andThen]
theorem EC {es:Array MapEntry}{c:Nat}(h:oW es c) (j:Nat) (k v:Value):oW (es.modify j fun e=>{ e with key:=k,val:=v }) c:=by
 have e:(es.modify j fun e=>{ e with key:=k,val:=v }).toList.map (·.born)=es.toList.map (·.born):=by
  apply List.ext_getElem?;intro i;simp only[List.getElem?_map,Array.getElem?_toList,Array.getElem?_modify]
  by_cases hi:j=i
  ·subst hi
   cases es[j]? <;> simp
  ·simp[hi]
 refine⟨fun x hx=>?_,by rw[e];exact h.2⟩;have h1:x.born∈(es.modify j fun e=>{ e with key:=k,val:=v }).toList.map (·.born):=List.mem_map.2 ⟨x,hx,rfl⟩;rw[e]at h1;obtain⟨y,hy,e2⟩:=List.mem_map.1 h1;rw[<-e2];exact h.1 y hy
theorem zS {es:Array MapEntry}{c:Nat}(h:oW es c) (k v:Value):oW (es.push { key:=k,val:=v,born:=c }) (c+1):=by
 refine⟨fun x hx=>?_,?_⟩
 ·rw[Array.toList_push]at hx
  rcases List.mem_append.1 hx with hx|hx
  ·have:=h.1 x hx;omega
  ·have:=List.mem_singleton.1 hx
   subst this;exact Nat.lt_succ_self c
 ·rw[Array.toList_push,List.map_append]
  refine List.nodup_append.2 ⟨h.2,by simp,?_⟩;intro a ha b hb e;obtain⟨y,hy,e2⟩:=List.mem_map.1 ha;have xL:b=c:=by simpa using hb
  have:=h.1 y hy;omega
theorem NT {w:World}{m:Nat}{ov:List (Nat×bB)}(h:jM w m ov) (id:Nat) (p:bB) :
  ∃w',(Instr.mapUpdate 109 (.map (some m)) (.int .i64 (id:Int)) p.val).run Tryz.prog w=.ok () w'/\jM w' m (pG ov id p)/\ah (fun b=>b=m) w w'/\w'.heap.size=w.heap.size:=by
 obtain⟨gN,es,c,ho,he,dw⟩:=h;have hm:m<w.heap.size:=by
  rcases Nat.lt_or_ge m w.heap.size with bu|iC
  ·exact bu
  ·rw[Array.getElem?_eq_none iC]at ho;cases ho
 have ext:∀o,ah (fun b=>b=m) w { w with heap:=w.heap.setIfInBounds m o }:=fun o=>⟨rfl,rfl,rfl,by simp,fun i hi bQ=>by
  simp only[Array.getElem?_setIfInBounds]
  rw[if_neg (fun e=>bQ e.symm)]⟩
 cases hl:ov.lookup id with
 | some q =>
  obtain⟨j,h1,h2,h3⟩:=(mO .i64 id ov es.toList 0 he).2 q hl;have hj:es[j]?.map (·.key)=some (.int .i64 (id:Int)):=by simpa using h2
  refine⟨{ w with heap:=w.heap.setIfInBounds m (.map (es.modify j fun e=>{ e with key:=.int .i64 (id:Int),val:=p.val }) c) },?_,?_,ext _,by simp⟩
  ·simp only[Nat.zero_add]at h1
   simp[Instr.mapUpdate,run_underlying Tryz.underlying109,MapKept.run_getObj_map ho,MapKept.run_setObj_map _ ho,uX,MapKept.run_findKey Tryz.underlying3 h1,Instr.keyThatStays,hj,Instr.sameBits,Result.andThen]
  ·refine⟨zX gN _ _,_,c,by simp only[Array.getElem?_setIfInBounds,if_pos rfl,hm,if_true];rfl,?_,EC dw j _ _⟩
   unfold WO at he ⊢;have Ba:id∈ov.map (·.1):=by
    rcases Classical.em (id∈ov.map (·.1))with h|h
    ·exact h
    ·rw[(gL ov id).2 h]at hl;cases hl
   rw[pG,if_pos Ba];apply List.ext_getElem?;intro k;have hk:(es.toList.map (fun e=>(e.key,e.val)))[k]?=(ov.map (fun p=>(Value.int .i64 (p.1:Int),p.2.val)))[k]?:=by rw[he]
   simp only[List.getElem?_map,Array.getElem?_toList,Array.getElem?_modify]at hk ⊢;cases ho':ov[k]? with
   | none =>
    rw[ho']at hk;cases Ue:es[k]? with
    | none=>simp
    | some e=>rw[Ue]at hk;simp at hk
   | some r =>
    rw[ho']at hk;cases Ue:es[k]? with
    | none=>rw[Ue]at hk;simp at hk
    | some e =>
     rw[Ue]at hk;simp only[Option.map_some,Option.some.injEq,Prod.mk.injEq]at hk;have aer:=h3 gN k r ho'
     by_cases hkj:j=k
     ·subst hkj
      have hr:r.1=id:=aer.2 rfl;simp[hr]
     ·have hr:¬r.1=id:=fun e=>hkj (aer.1 e).symm
      simp[hkj,hr,hk]
 | none =>
  have h1:=(mO .i64 id ov es.toList 0 he).1 hl;refine⟨{ w with heap:=w.heap.setIfInBounds m (.map (es.push { key:=.int .i64 (id:Int),val:=p.val,born:=c }) (c+1)) },?_,?_,ext _,by simp⟩
  ·simp[Instr.mapUpdate,run_underlying Tryz.underlying109,MapKept.run_getObj_map ho,MapKept.run_setObj_map _ ho,uX,MapKept.run_findKey Tryz.underlying3 h1,Result.andThen]
  ·refine⟨zX gN _ _,_,c+1,by simp only[Array.getElem?_setIfInBounds,if_pos rfl,hm,if_true];rfl,?_,zS dw _ _⟩
   unfold WO at he ⊢;have Ba:¬id∈ov.map (·.1):=(gL ov id).1 hl;rw[pG,if_neg Ba];simp[he]
open Classical in
noncomputable def nu (w:World) (m:Nat) (id:Nat) (p:bB):World :=
 if h:∃w',(Instr.mapUpdate 109 (.map (some m)) (.int .i64 (id:Int)) p.val).run Tryz.prog w=.ok () w'/\ah (fun b=>b=m) w w'/\w'.heap.size=w.heap.size then Classical.choose h else w
theorem tF (w:World) (m id:Nat) (p:bB):ah (fun b=>b=m) w (nu w m id p):=by
 unfold nu;split
 ·rename_i h;exact(Classical.choose_spec h).2.1
 ·exact ah.refl _ _
theorem RO (w:World) (m id:Nat) (p:bB):(nu w m id p).heap.size=w.heap.size:=by
 unfold nu;split
 ·rename_i h;exact(Classical.choose_spec h).2.2
 ·rfl
theorem mV (w:World) (m id:Nat) (p:bB) (g:Nat) (hg:g≠m):(nu w m id p).heap[g]?=w.heap[g]?:=by
 rcases Nat.lt_or_ge g w.heap.size with h|h
 ·exact(tF w m id p).block g h hg
 ·rw[Array.getElem?_eq_none h,Array.getElem?_eq_none (by rw[RO];exact h)]
theorem RP (w:World) (m id:Nat) (p:bB) (g i:Nat) (hg:g≠m):(nu w m id p).cell? ⟨g,i,none⟩=w.cell? ⟨g,i,none⟩:=World.cell?_of_block (mV w m id p g hg)
theorem KO (w:World) (m id:Nat) (p:bB) (g i:Nat) (hg:g≠m):(nu w m id p).frozen? ⟨g,i,none⟩=w.frozen? ⟨g,i,none⟩:=by
 unfold World.frozen?;simp only[mV w m id p g hg]
theorem lX {w:World}{m:Nat}{ov:List (Nat×bB)}(h:jM w m ov) (id:Nat) (p:bB) :
  (Instr.mapUpdate 109 (.map (some m)) (.int .i64 (id:Int)) p.val).run Tryz.prog w=.ok () (nu w m id p)/\jM (nu w m id p) m (pG ov id p):=by
 obtain⟨w',h1,h2,h3,h4⟩:=NT h id p;have hx:∃w',(Instr.mapUpdate 109 (.map (some m)) (.int .i64 (id:Int)) p.val).run Tryz.prog w=.ok () w'/\ah (fun b=>b=m) w w'/\w'.heap.size=w.heap.size:=⟨w',h1,h3,h4⟩;have hs:=Classical.choose_spec hx;have e:nu w m id p=Classical.choose hx:=by unfold nu;rw[dif_pos hx]
 rw[e];refine⟨hs.1,?_⟩;have:w'=Classical.choose hx:=by
  have:=h1.symm.trans hs.1;injection this
 rw[<-this];exact h2
end Go.Proofs.YtccnemmlkcmceaaGreatDoor
namespace Go.Proofs.YtccnemmlkcmceaaGreatDoor
open Go.RowKit Go.Maps Go.Sort Go.Shelf
def Tryz.F6:Go.Shelf.Ren:=⟨fun|7=>108|10=>157|n=>n,fun|23=>132|26=>3|3=>9|28=>176|0=>0|27=>175|33=>195|4=>4|n=>n,fun|n=>n⟩
theorem Tryz.aa0:Go.Proofs.SlLaysZI.n7 Tryz.prog Tryz.F6:={
 mixed:=by kernel_rfl
 f7:=⟨Tryz.f108.name,by decide,Tryz.func108.trans (congrArg some (by kernel_rfl))⟩
 f10:=⟨Tryz.f157.name,by decide,Tryz.func157.trans (congrArg some (by kernel_rfl))⟩
 t0:=Tryz.underlying0
 a0:=Tryz.isAgg0
 z0:=Tryz.sizeOf0
 v0:=Tryz.zeroValue0
 t4:=Tryz.underlying4
 a4:=Tryz.isAgg4
 z4:=Tryz.sizeOf4
 v4:=Tryz.zeroValue4
 t23:=Tryz.underlying132
 a23:=Tryz.isAgg132
 z23:=Tryz.sizeOf132
 v23:=Tryz.zeroValue132
 t26:=Tryz.underlying3
 a26:=Tryz.isAgg3
 z26:=Tryz.sizeOf3
 v26:=Tryz.zeroValue3
 t27:=Tryz.underlying175
 a27:=Tryz.isAgg175
 z27:=Tryz.sizeOf175
 v27:=Tryz.zeroValue175
 t28:=Tryz.underlying176
 a28:=Tryz.isAgg176
 z28:=Tryz.sizeOf176
 v28:=Tryz.zeroValue176
 t33:=Tryz.underlying195
 a33:=Tryz.isAgg195
 z33:=Tryz.sizeOf195
 v33:=Tryz.zeroValue195 }
def Tryz.zT:Go.Shelf.Ren:=⟨fun|6=>107|8=>155|9=>156|11=>189|13=>191|12=>190|23=>217|24=>218|14=>208|15=>209|16=>210|17=>211|18=>212|19=>213|20=>214|21=>215|22=>216|25=>226|26=>227|27=>228|28=>229|29=>230|30=>231|31=>236|n=>n,fun|26=>3|28=>176|24=>35|0=>0|3=>3|37=>158|48=>192|50=>185|4=>4|40=>265|39=>264|45=>163|5=>5|9=>9|51=>278|55=>282|57=>290|58=>291|33=>195|n=>n,fun|n=>n⟩
theorem Tryz.YV:Go.Proofs.SlLaysZI.n6 Tryz.prog Tryz.zT:={
 mixed:=by kernel_rfl
 f6:=⟨Tryz.f107.name,by decide,Tryz.func107.trans (congrArg some (by kernel_rfl))⟩
 f8:=⟨Tryz.f155.name,by decide,Tryz.func155.trans (congrArg some (by kernel_rfl))⟩
 f11:=⟨Tryz.f189.name,by decide,Tryz.func189.trans (congrArg some (by kernel_rfl))⟩
 t0:=Tryz.underlying0
 a0:=Tryz.isAgg0
 z0:=Tryz.sizeOf0
 v0:=Tryz.zeroValue0
 t24:=Tryz.underlying35
 a24:=Tryz.isAgg35
 z24:=Tryz.sizeOf35
 v24:=Tryz.zeroValue35
 t26:=Tryz.underlying3
 a26:=Tryz.isAgg3
 z26:=Tryz.sizeOf3
 v26:=Tryz.zeroValue3
 t28:=Tryz.underlying176
 a28:=Tryz.isAgg176
 z28:=Tryz.sizeOf176
 v28:=Tryz.zeroValue176
 i26:=by kernel_rfl }
def Tryz.Rm:Go.Shelf.Ren:=⟨fun|5=>156|8=>191|7=>190|19=>217|20=>218|10=>208|11=>209|12=>210|13=>211|14=>212|15=>213|16=>214|17=>215|18=>216|30=>226|31=>227|32=>228|33=>229|34=>230|35=>231|40=>236|n=>n,fun|23=>35|25=>3|3=>3|32=>158|22=>35|0=>0|44=>192|46=>185|4=>4|36=>265|35=>264|41=>163|5=>5|9=>9|53=>278|57=>282|63=>290|64=>291|n=>n,fun|n=>n⟩
theorem Tryz.aaW:Go.Proofs.SlLaysM.n5 Tryz.prog Tryz.Rm:={
 mixed:=by kernel_rfl
 f5:=⟨Tryz.f156.name,by decide,Tryz.func156.trans (congrArg some (by kernel_rfl))⟩
 f7:=⟨Tryz.f190.name,by decide,Tryz.func190.trans (congrArg some (by kernel_rfl))⟩
 f8:=Tryz.func191.trans (congrArg some (by kernel_rfl))
 f10:=⟨Tryz.f208.name,by decide,Tryz.func208.trans (congrArg some (by kernel_rfl))⟩
 f11:=⟨Tryz.f209.name,by decide,Tryz.func209.trans (congrArg some (by kernel_rfl))⟩
 f12:=⟨Tryz.f210.name,by decide,Tryz.func210.trans (congrArg some (by kernel_rfl))⟩
 f13:=⟨Tryz.f211.name,by decide,Tryz.func211.trans (congrArg some (by kernel_rfl))⟩
 f14:=⟨Tryz.f212.name,by decide,Tryz.func212.trans (congrArg some (by kernel_rfl))⟩
 f15:=⟨Tryz.f213.name,by decide,Tryz.func213.trans (congrArg some (by kernel_rfl))⟩
 f16:=⟨Tryz.f214.name,by decide,Tryz.func214.trans (congrArg some (by kernel_rfl))⟩
 f17:=⟨Tryz.f215.name,by decide,Tryz.func215.trans (congrArg some (by kernel_rfl))⟩
 f18:=⟨Tryz.f216.name,by decide,Tryz.func216.trans (congrArg some (by kernel_rfl))⟩
 f19:=Tryz.func217.trans (congrArg some (by kernel_rfl))
 f20:=Tryz.func218.trans (congrArg some (by kernel_rfl))
 f30:=⟨Tryz.f226.name,by decide,Tryz.func226.trans (congrArg some (by kernel_rfl))⟩
 f31:=Tryz.func227.trans (congrArg some (by kernel_rfl))
 f32:=Tryz.func228.trans (congrArg some (by kernel_rfl))
 f33:=⟨Tryz.f229.name,by decide,Tryz.func229.trans (congrArg some (by kernel_rfl))⟩
 f34:=⟨Tryz.f230.name,by decide,Tryz.func230.trans (congrArg some (by kernel_rfl))⟩
 f35:=⟨Tryz.f231.name,by decide,Tryz.func231.trans (congrArg some (by kernel_rfl))⟩
 f40:=⟨Tryz.f236.name,by decide,Tryz.func236.trans (congrArg some (by kernel_rfl))⟩
 t0:=Tryz.underlying0
 a0:=Tryz.isAgg0
 z0:=Tryz.sizeOf0
 v0:=Tryz.zeroValue0
 t3:=Tryz.underlying3
 a3:=Tryz.isAgg3
 z3:=Tryz.sizeOf3
 v3:=Tryz.zeroValue3
 t4:=Tryz.underlying4
 a4:=Tryz.isAgg4
 z4:=Tryz.sizeOf4
 v4:=Tryz.zeroValue4
 t5:=Tryz.underlying5
 a5:=Tryz.isAgg5
 z5:=Tryz.sizeOf5
 v5:=Tryz.zeroValue5
 t9:=Tryz.underlying9
 a9:=Tryz.isAgg9
 z9:=Tryz.sizeOf9
 v9:=Tryz.zeroValue9
 t22:=Tryz.underlying35
 a22:=Tryz.isAgg35
 z22:=Tryz.sizeOf35
 v22:=Tryz.zeroValue35
 t23:=Tryz.underlying35
 a23:=Tryz.isAgg35
 z23:=Tryz.sizeOf35
 v23:=Tryz.zeroValue35
 t25:=Tryz.underlying3
 a25:=Tryz.isAgg3
 z25:=Tryz.sizeOf3
 v25:=Tryz.zeroValue3
 t32:=Tryz.underlying158
 a32:=Tryz.isAgg158
 z32:=Tryz.sizeOf158
 v32:=Tryz.zeroValue158
 t35:=Tryz.underlying264
 a35:=Tryz.isAgg264
 z35:=Tryz.sizeOf264
 v35:=Tryz.zeroValue264
 t36:=Tryz.underlying265
 a36:=Tryz.isAgg265
 z36:=Tryz.sizeOf265
 v36:=Tryz.zeroValue265
 t41:=Tryz.underlying163
 a41:=Tryz.isAgg163
 z41:=Tryz.sizeOf163
 v41:=Tryz.zeroValue163
 t44:=Tryz.underlying192
 a44:=Tryz.isAgg192
 z44:=Tryz.sizeOf192
 v44:=Tryz.zeroValue192
 t46:=Tryz.underlying185
 a46:=Tryz.isAgg185
 z46:=Tryz.sizeOf185
 v46:=Tryz.zeroValue185
 t53:=Tryz.underlying278
 a53:=Tryz.isAgg278
 z53:=Tryz.sizeOf278
 v53:=Tryz.zeroValue278
 t57:=Tryz.underlying282
 a57:=Tryz.isAgg282
 z57:=Tryz.sizeOf282
 v57:=Tryz.zeroValue282
 t63:=Tryz.underlying290
 a63:=Tryz.isAgg290
 z63:=Tryz.sizeOf290
 v63:=Tryz.zeroValue290
 t64:=Tryz.underlying291
 a64:=Tryz.isAgg291
 z64:=Tryz.sizeOf291
 v64:=Tryz.zeroValue291 }
theorem Tryz.abG (m:Nat):AnyZI.SortsIn Tryz.prog Tryz.zT Fence.wide m :=
 ⟨fun blk off cap ss W hH Wn eZ=>callsIn_wide.2 (AnyM.slices_Sort_int Tryz.aaW blk off cap ss W hH Wn eZ),
  fun p cap W=>callsIn_wide.2 (AnyM.slices_Sort_int_none Tryz.aaW p cap W)⟩
end Go.Proofs.YtccnemmlkcmceaaGreatDoor
namespace Go.Proofs.YtccnemmlkcmceaaGreatDoor
open Go.RowKit
def bt (s:ByteArray) (i:Nat):Nat:=(s.data.toList.getD i 0).toNat
theorem jd (s:ByteArray) (i:Nat):bt s i<256:=(s.data.toList.getD i 0).toNat_lt
theorem oI (s:ByteArray) (i:Nat) (h:i<s.size) (w:World):(Instr.index 9 (.string s) (.int .i64 (i:Int))).run Tryz.prog w=.ok (.int .u8 (bt s i:Int)) w:=by
 rw[run_index_string w 9 s .i64 i Tryz.underlying9,dif_pos ⟨by omega,by omega⟩];have h':i<s.data.size:=h;simp[bt,List.getD,ByteArray.getElem_eq_getElem_data,Array.getElem?_eq_getElem h']
def n4 (n:Nat):List UInt8:=[UInt8.ofNat (n%256),UInt8.ofNat (n / 256%256),UInt8.ofNat (n / 65536%256),UInt8.ofNat (n / 16777216%256)]
def v4 (s:ByteArray):Nat:=bt s 0+256*bt s 1+65536*bt s 2+16777216*bt s 3
theorem adJ (s:ByteArray):v4 s<4294967296:=by
 have:=jd s 0;have:=jd s 1;have:=jd s 2;have:=jd s 3;unfold v4;omega
theorem o_ (n:Nat) (hn:n<4294967296) (l:List UInt8):v4 (au (n4 n++l))=n:=by
 unfold v4 bt n4;simp;omega
theorem bX (n:Nat):(n4 n).length=4:=rfl
theorem fq (n:Nat) (h:n<256):((UInt8.ofNat n).toNat:Int)=n:=by
 have:(UInt8.ofNat n).toNat=n:=by simp;omega
 rw[this]
theorem qG (n:Nat) (hn:n<4294967296) (w:World) :
  Calls Tryz.prog 106 #[.int .i64 (n:Int)] w fun e w'=>e=.returned (.string (au (n4 n)))/\ah No w w':=by
 have kc:(convert 98 9 (.slice (some ⟨w.heap.size,0,none⟩) 4 4)).run Tryz.prog (w.alloc (.cells #[.int .u8 ((n:Int)%256),.int .u8 ((n:Int) / 256%256),.int .u8 ((n:Int) / 65536%256),.int .u8 ((n:Int) / 16777216)] 5)) =
   .ok (.string (au (n4 n))) (w.alloc (.cells #[.int .u8 ((n:Int)%256),.int .u8 ((n:Int) / 256%256),.int .u8 ((n:Int) / 65536%256),.int .u8 ((n:Int) / 16777216)] 5)):=by
  have:=run_convert_bytes_back (P:=Tryz.prog) (w.alloc (.cells #[.int .u8 ((n:Int)%256),.int .u8 ((n:Int) / 256%256),.int .u8 ((n:Int) / 65536%256),.int .u8 ((n:Int) / 16777216)] 5)) 98 9 5 ⟨w.heap.size,0,none⟩ 4 (n4 n) Tryz.underlying98 Tryz.underlying5 Tryz.underlying9 (by
   intro j hj;have Uc:j<4:=hj;have e0:=fq (n%256) (by omega);have e1:=fq (n / 256%256) (by omega);have e2:=fq (n / 65536%256) (by omega);have e3:=fq (n / 16777216%256) (by omega)
   match j,Uc with
   | 0,_=>simp only[n4,List.getElem_cons_zero,e0];simp[Addr.add]
   | 1,_=>simp only[n4,List.getElem_cons_succ,List.getElem_cons_zero,e1];simp[Addr.add]
   | 2,_=>simp only[n4,List.getElem_cons_succ,List.getElem_cons_zero,e2];simp[Addr.add]
   | 3,_=>simp only[n4,List.getElem_cons_succ,List.getElem_cons_zero,e3];simp[Addr.add];omega)
  exact this
 go_enter Tryz.func106,Tryz.ntmps106;go_wp2;go_ret;exact⟨rfl,(ah.refl No w).alloc _⟩
theorem FX (a:Nat) (ha:a<9223372036854775808):(BitVec.ofInt 64 (a:Int)).toNat=a:=by
 rw[BitVec.ofInt_natCast,BitVec.toNat_ofNat];exact Nat.mod_eq_of_lt (by omega)
theorem qL (a b:Nat) (ha:a<9223372036854775808) (hb:b<9223372036854775808):bits .or .i64 (a:Int) (b:Int)=((a ||| b:Nat):Int):=by
 have hx:a ||| b<2 ^ 63:=Nat.or_lt_two_pow (by omega) (by omega)
 show IntKind.i64.wrap ((BitVec.ofInt 64 (a:Int) ||| BitVec.ofInt 64 (b:Int)).toNat:Int)=_;rw[BitVec.toNat_or,FX a ha,FX b hb,IntKind.wrap_i64];omega
theorem sZ (a b i:Nat) (h:a<2 ^ i):a ||| (b*2 ^ i)=a+b*2 ^ i:=by
 rw[Nat.or_comm,Nat.add_comm,<-Nat.shiftLeft_eq,Nat.shiftLeft_add_eq_or_of_lt h]
theorem dJ (a:Nat) (h:a<9223372036854775808):IntKind.i64.wrap (a:Int)=(a:Int):=by
 rw[IntKind.wrap_i64];omega
theorem qo (x:Int):IntKind.i64.wrap x=wrap64 x:=by rw[IntKind.wrap_i64];unfold wrap64;rfl
theorem or4 (b0 b1 b2 b3:Nat) (h0:b0<256) (h1:b1<256) (h2:b2<256) (h3:b3<256) :
  bits .or .i64 (bits .or .i64 (bits .or .i64 (IntKind.i64.wrap (b0:Int)) (IntKind.i64.wrap (IntKind.i64.wrap (b1:Int)*256))) (IntKind.i64.wrap (IntKind.i64.wrap (b2:Int)*65536))) (IntKind.i64.wrap (IntKind.i64.wrap (b3:Int)*16777216)) =
   ((b0+256*b1+65536*b2+16777216*b3:Nat):Int):=by
 have e1:((b1:Int)*256)=((b1*2 ^ 8:Nat):Int):=by omega
 have e2:((b2:Int)*65536)=((b2*2 ^ 16:Nat):Int):=by omega
 have e3:((b3:Int)*16777216)=((b3*2 ^ 24:Nat):Int):=by omega
 rw[dJ b0 (by omega),dJ b1 (by omega),dJ b2 (by omega),dJ b3 (by omega),e1,e2,e3,dJ _ (by omega),dJ _ (by omega),dJ _ (by omega),
  qL _ _ (by omega) (by omega),sZ _ _ 8 (by omega),qL _ _ (by omega) (by omega),sZ _ _ 16 (by omega),qL _ _ (by omega) (by omega),sZ _ _ 24 (by omega)]
 omega
theorem iT (s:ByteArray) (hn:4<=s.size) (w:World) :
  Calls Tryz.prog 55 #[.string s] w fun e w'=>e=.returned (.int .i64 (v4 s:Int))/\∃k,w'=w.drewN k:=by
 have i0:∀w,(Instr.index 9 (.string s) (.int .i64 0)).run Tryz.prog w=.ok (.int .u8 (bt s 0:Int)) w:=fun w=>oI s 0 (by omega) w
 have i1:∀w,(Instr.index 9 (.string s) (.int .i64 1)).run Tryz.prog w=.ok (.int .u8 (bt s 1:Int)) w:=fun w=>oI s 1 (by omega) w
 have i2:∀w,(Instr.index 9 (.string s) (.int .i64 2)).run Tryz.prog w=.ok (.int .u8 (bt s 2:Int)) w:=fun w=>oI s 2 (by omega) w
 have i3:∀w,(Instr.index 9 (.string s) (.int .i64 3)).run Tryz.prog w=.ok (.int .u8 (bt s 3:Int)) w:=fun w=>oI s 3 (by omega) w
 have hor:=aa (or4 (bt s 0) (bt s 1) (bt s 2) (bt s 3) (jd s 0) (jd s 1) (jd s 2) (jd s 3));go_enter Tryz.func55,Tryz.ntmps55;go_wp2;go_quiet (fail);go_wp2;go_ret;exact⟨lF (by simp only[<-qo];exact hor.out),_,rfl⟩
abbrev Bs:=List UInt8
structure aA where
 key:Bs
 val:Bs
 over:Nat
 len:Nat
structure Nd where
 leaf:Bool
 cells:List aA
 keys:List Bs
 kids:List Nat
def aA.vals (c:aA):List Value:=[.string (au c.key),.string (au c.val),.int .i64 (c.over:Int),.int .i64 (c.len:Int)]
def aA.agg (c:aA):Value:=.agg #[.string (au c.key),.string (au c.val),.int .i64 (c.over:Int),.int .i64 (c.len:Int)]
def Rd (w:World) (F:Nat->Prop) (sz:Nat) (A:Option Addr) (n:Nat) (xs:List Value):Prop :=
 xs.length=n*sz/\(0<n->∃b o,A=some ⟨b,o,none⟩/\¬F b/\∀j u,xs[j]?=some u->w.cell? ⟨b,o+j,none⟩=some u)
section
variable {w w':World}{F G:Nat->Prop}{sz n:Nat}{A:Option Addr}{xs:List Value}
theorem Rd.lV (A:Option Addr):Rd w F sz A 0 []:=⟨by simp,fun h=>absurd h (by omega)⟩
theorem Rd.ext (h:Rd w F sz A n xs) (he:ah F w w'):Rd w' F sz A n xs :=
 ⟨h.1,fun hn=>by
  obtain⟨b,o,e,hb,hc⟩:=h.2 hn;refine⟨b,o,e,hb,fun j u hu=>?_⟩;have OY:=hc j u hu;have bu:=World.block_lt_of_cell? w _ OY;rw[<-OY]
  exact World.cell?_of_block (he.block b bu hb)⟩
theorem Rd.mono (h:Rd w F sz A n xs) (hs:0<sz) (hG:∀b,b<w.heap.size->G b->F b):Rd w G sz A n xs :=
 ⟨h.1,fun hn=>by
  obtain⟨b,o,e,hb,hc⟩:=h.2 hn;refine⟨b,o,e,fun hg=>hb (hG b ?_ hg),hc⟩
  match xs,h.1,hc with
  | [],hl,_=>have:=Nat.mul_pos hn hs;simp at hl;omega
  | u::xs',_,hc=>exact World.block_lt_of_cell? w _ (hc 0 u rfl)⟩
theorem Rd.at1 (h:Rd w F 1 A n xs) {i:Nat}(hi:i<n):∃b o u,A=some ⟨b,o,none⟩/\¬F b/\xs[i]?=some u/\w.cell? ⟨b,o+i,none⟩=some u:=by
 obtain⟨b,o,e,hb,hc⟩:=h.2 (by omega);have hl:i<xs.length:=by have:=h.1;omega
 exact⟨b,o,xs[i],e,hb,List.getElem?_eq_getElem hl,hc i _ (List.getElem?_eq_getElem hl)⟩
end
def aC (cs:List aA):List Value:=cs.flatMap aA.vals
def aG (ks:List Bs):List Value:=ks.map fun k=>.string (au k)
def aK (ks:List Nat):List Value:=ks.map fun(k:Nat)=>.int .i64 (k:Int)
theorem jv (c:aA) (cs:List aA):aC (c::cs)=c.vals++aC cs:=rfl
theorem gT (a b:List aA):aC (a++b)=aC a++aC b:=by simp[aC]
theorem ou (cs:List aA) (i k:Nat) (c:aA) (hc:cs[i]?=some c) (hk:k<4):(aC cs)[i*4+k]?=c.vals[k]?:=by
 induction cs generalizing i with
 | nil=>simp at hc
 | cons d cs ih =>
  rw[jv];have hl:d.vals.length=4:=rfl
  match i with
  | 0 =>
   have:d=c:=by simpa using hc
   subst this;rw[List.getElem?_append_left (by omega)];simp
  | i+1 =>
   rw[List.getElem?_append_right (by omega),hl,show(i+1)*4+k-4=i*4+k from by omega];exact ih i (by simpa using hc)
theorem oP (cs:List aA) (k:Nat):(aC cs).drop (k*4)=aC (cs.drop k):=by
 induction cs generalizing k with
 | nil=>simp[aC]
 | cons c cs ih =>
  match k with
  | 0=>simp
  | k+1 =>
   rw[jv,List.drop_succ_cons,<-ih k,List.drop_append,show(k+1)*4-c.vals.length=k*4 from by simp[aA.vals];omega];simp[aA.vals];omega
theorem oO (cs:List aA) (k:Nat):(aC cs).take (k*4)=aC (cs.take k):=by
 induction cs generalizing k with
 | nil=>simp[aC]
 | cons c cs ih =>
  match k with
  | 0=>simp[aC]
  | k+1 =>
   rw[jv,List.take_succ_cons,jv,<-ih k,List.take_append,show(k+1)*4-c.vals.length=k*4 from by simp[aA.vals];omega];congr 1;exact List.take_of_length_le (by simp[aA.vals];omega)
theorem Rd.cellAt {w:World}{F:Nat->Prop}{A:Option Addr}{cs:List aA}(h:Rd w F 4 A cs.length (aC cs)) {i:Nat}{c:aA}(hc:cs[i]?=some c) :
  ∃b o,A=some ⟨b,o,none⟩/\¬F b/\w.cell? ⟨b,o+i*4,none⟩=some (.string (au c.key))/\w.cell? ⟨b,o+i*4+1,none⟩=some (.string (au c.val)) /\
   w.cell? ⟨b,o+i*4+2,none⟩=some (.int .i64 (c.over:Int))/\w.cell? ⟨b,o+i*4+3,none⟩=some (.int .i64 (c.len:Int)):=by
 have hi:i<cs.length:=(List.getElem?_eq_some_iff.1 hc).1;obtain⟨b,o,e,hb,hx⟩:=h.2 (by omega);refine⟨b,o,e,hb,?_,?_,?_,?_⟩
 ·have:=hx (i*4+0) _ ((ou cs i 0 c hc (by omega)).trans rfl)
  exact this
 ·have:=hx (i*4+1) _ ((ou cs i 1 c hc (by omega)).trans rfl)
  rw[<-Nat.add_assoc]at this;exact this
 ·have:=hx (i*4+2) _ ((ou cs i 2 c hc (by omega)).trans rfl)
  rw[<-Nat.add_assoc]at this;exact this
 ·have:=hx (i*4+3) _ ((ou cs i 3 c hc (by omega)).trans rfl)
  rw[<-Nat.add_assoc]at this;exact this
theorem Rd.rF {w:World}{F:Nat->Prop}{A:Option Addr}{ks:List Bs}(h:Rd w F 1 A ks.length (aG ks)) {i:Nat}{k:Bs}(hc:ks[i]?=some k) :
  ∃b o,A=some ⟨b,o,none⟩/\¬F b/\w.cell? ⟨b,o+i,none⟩=some (.string (au k)):=by
 have hi:i<ks.length:=(List.getElem?_eq_some_iff.1 hc).1;obtain⟨b,o,e,hb,hx⟩:=h.2 (by omega);exact⟨b,o,e,hb,hx i _ (by simp[aG,hc])⟩
theorem Rd.pU {w:World}{F:Nat->Prop}{A:Option Addr}{ks:List Nat}(h:Rd w F 1 A ks.length (aK ks)) {i:Nat}{k:Nat}(hc:ks[i]?=some k) :
  ∃b o,A=some ⟨b,o,none⟩/\¬F b/\w.cell? ⟨b,o+i,none⟩=some (.int .i64 (k:Int)):=by
 have hi:i<ks.length:=(List.getElem?_eq_some_iff.1 hc).1;obtain⟨b,o,e,hb,hx⟩:=h.2 (by omega);exact⟨b,o,e,hb,hx i _ (by simp[aK,hc])⟩
structure aW (w:World) (F:Nat->Prop) (A1:Option Addr) (c1:Nat) (A2:Option Addr) (c2:Nat) (A3:Option Addr) (c3:Nat) (n:Nd):Prop where
 cells:Rd w F 4 A1 n.cells.length (aC n.cells)
 keys:Rd w F 1 A2 n.keys.length (aG n.keys)
 kids:Rd w F 1 A3 n.kids.length (aK n.kids)
 l1:n.cells.length<=c1
 l2:n.keys.length<=c2
 l3:n.kids.length<=c3
 b1:n.cells.length<65536
 b2:n.keys.length<65536
 b3:n.kids.length<65536
 e1:A1=none->c1=0
 e2:A2=none->c2=0
 e3:A3=none->c3=0
def Nd.value (n:Nd) (A1:Option Addr) (c1:Nat) (A2:Option Addr) (c2:Nat) (A3:Option Addr) (c3:Nat):Value :=
 .agg #[.bool n.leaf,.slice A1 n.cells.length c1,.slice A2 n.keys.length c2,.slice A3 n.kids.length c3]
theorem aW.ext {w w':World}{F:Nat->Prop}{A1:Option Addr}{c1:Nat}{A2:Option Addr}{c2:Nat}{A3:Option Addr}{c3:Nat}{n:Nd}(h:aW w F A1 c1 A2 c2 A3 c3 n) (he:ah F w w') :
  aW w' F A1 c1 A2 c2 A3 c3 n:=⟨h.cells.ext he,h.keys.ext he,h.kids.ext he,h.l1,h.l2,h.l3,h.b1,h.b2,h.b3,h.e1,h.e2,h.e3⟩
def dV (k:Bs):Bool:=decide (1<=k.length/\k.length<=140)
def jE (n:Nat):Bool:=decide (1<=n/\n<=2147483647)
def aA.size (c:aA):Nat:=if 0<c.over then 10+c.key.length else 3+c.key.length+c.val.length
def aA.ok (c:aA):Bool :=
 if c.over=0 then dV c.key&&decide (c.len=0)&&decide (c.size<=160)else dV c.key&&jE c.over&&decide (c.len<=16384)&&c.val.isEmpty
theorem Qg (k:Bs) (w:World) (hk:k.length<4294967296):Calls Tryz.prog 131 #[.string (au k)] w fun e w'=>e=.returned (.bool (dV k))/\w=w':=by
 have h0:=az k
 by_cases h1:1<=k.length
 ·by_cases h2:k.length<=140
  ·have e:dV k=true:=by simp[dV,h1,h2]
   rw[e];go_enter Tryz.func131,Tryz.ntmps131;go_wp2;go_ret;exact⟨iH (by simp;omega),rfl⟩
  ·have e:dV k=false:=by simp[dV];omega
   rw[e];go_enter Tryz.func131,Tryz.ntmps131;go_wp2;go_ret;exact⟨iH (by simp;omega),rfl⟩
 ·have e:dV k=false:=by simp[dV];omega
  rw[e];go_enter Tryz.func131,Tryz.ntmps131;go_wp2;go_ret;exact⟨rfl,rfl⟩
theorem Vq (n:Nat) (w:World):Calls Tryz.prog 132 #[.int .i64 (n:Int)] w fun e w'=>e=.returned (.bool (jE n))/\w=w':=by
 by_cases h1:1<=n
 ·have Yr:((n:Int)>=1):=by omega
  by_cases h2:n<=2147483647
  ·have e:jE n=true:=by simp[jE,h1,h2]
   have h2':decide ((n:Int)<=2147483647)=true:=by simp;omega
   rw[e];clear h2;go_enter Tryz.func132,Tryz.ntmps132;go_wp2;go_ret;exact⟨rfl,rfl⟩
  ·have e:jE n=false:=by simp[jE];omega
   have h2':decide ((n:Int)<=2147483647)=false:=by simp;omega
   rw[e];clear h2;go_enter Tryz.func132,Tryz.ntmps132;go_wp2;go_ret;exact⟨rfl,rfl⟩
 ·have e:jE n=false:=by simp[jE];omega
  rw[e];go_enter Tryz.func132,Tryz.ntmps132;go_wp2;go_ret;exact⟨rfl,rfl⟩
theorem CQ (c:aA) (w:World) (hk:c.key.length<4294967296) (hv:c.val.length<4294967296) :
  Calls Tryz.prog 175 #[c.agg] w fun e w'=>e=.returned (.int .i64 (c.size:Int))/\∃o,w'=w.alloc o:=by
 have h0:=az c.key;have h00:=az c.val
 by_cases h1:(0:Int)<c.over
 ·have e:c.size=10+c.key.length:=by unfold aA.size;rw[if_pos (by omega)]
  rw[e];go_enter Tryz.func175,Tryz.ntmps175;simp only[aA.agg];go_wp2;go_ret;exact⟨lF (by omega),_,rfl⟩
 ·have e:c.size=3+c.key.length+c.val.length:=by unfold aA.size;rw[if_neg (by omega)]
  rw[e];go_enter Tryz.func175,Tryz.ntmps175;simp only[aA.agg];go_wp2;go_ret;exact⟨lF (by omega),_,rfl⟩
def aA.fits (c:aA):Prop:=c.key.length<65536/\c.val.length<65536/\c.over<4294967296/\c.len<4294967296
theorem Xg (c:aA) (w:World) (hf:c.fits) :
  Calls Tryz.prog 130 #[c.agg] w fun e w'=>e=.returned (.bool c.ok)/\ah No w w':=by
 obtain⟨hk,hv,ho,hl⟩:=hf;have HK:=aa (fun w=>Qg c.key w (by omega));have HI:=aa (fun w=>Vq c.over w);have HL:=aa (fun w=>CQ c w (by omega) (by omega));have h0:=az c.key;have h00:=az c.val
 by_cases h1:c.over=0
 ·have e:c.ok=(dV c.key&&decide (c.len=0)&&decide (c.size<=160)):=by unfold aA.ok;rw[if_pos h1]
  have Yr:((c.over:Int)==0)=true:=by simp[h1]
  rw[e];clear h1 e;have b2:((c.len:Int)==0)=decide (c.len=0):=by rw[Bool.eq_iff_iff];simp
  generalize dV c.key=k1 at *;generalize lJ:decide (c.len=0)=k2 at *;cases k1
  ·go_enter Tryz.func130,Tryz.ntmps130
   simp only[aA.agg];go_wp2_with (go_at_call 131;refine(HK.out _).mono ?_;rintro e w' ⟨rfl,rfl⟩);go_ret;exact⟨iH (by simp),by(repeat' (first|exact ah.refl _ _|assumption|apply ah.alloc|apply ah.drewN|apply ah.drew|refine ah.ai ?_ (by first|omega|(simp;omega)|simp) _ _|refine ah.ay ?_ (by first|exact Or.inl rfl|exact Or.inr rfl|rfl) _ _|refine ah.ag ?_ (by assumption)|refine ah.ag ?_ (ah.of_no (by assumption))))⟩
  ·cases k2
   ·go_enter Tryz.func130,Tryz.ntmps130
    simp only[aA.agg];go_wp2_with (go_at_call 131;refine(HK.out _).mono ?_;rintro e w' ⟨rfl,rfl⟩);go_ret;exact⟨iH (by simp),by(repeat' (first|exact ah.refl _ _|assumption|apply ah.alloc|apply ah.drewN|apply ah.drew|refine ah.ai ?_ (by first|omega|(simp;omega)|simp) _ _|refine ah.ay ?_ (by first|exact Or.inl rfl|exact Or.inr rfl|rfl) _ _|refine ah.ag ?_ (by assumption)|refine ah.ag ?_ (ah.of_no (by assumption))))⟩
   ·simp only[aA.agg]at HL
    go_enter Tryz.func130,Tryz.ntmps130;simp only[aA.agg];go_wp2_with (first|(go_at_call 131;refine(HK.out _).mono ?_;rintro e w' ⟨rfl,rfl⟩)|(go_at_call 175;refine(HL.out _).mono ?_;rintro e w' ⟨rfl,o,rfl⟩));go_ret;exact⟨iH (by simp;omega),by(repeat' (first|exact ah.refl _ _|assumption|apply ah.alloc|apply ah.drewN|apply ah.drew|refine ah.ai ?_ (by first|omega|(simp;omega)|simp) _ _|refine ah.ay ?_ (by first|exact Or.inl rfl|exact Or.inr rfl|rfl) _ _|refine ah.ag ?_ (by assumption)|refine ah.ag ?_ (ah.of_no (by assumption))))⟩
 ·have e:c.ok=(dV c.key&&jE c.over&&decide (c.len<=16384)&&c.val.isEmpty):=by unfold aA.ok;rw[if_neg h1]
  have Yr:((c.over:Int)==0)=false:=by simp;omega
  rw[e];clear h1 e;have b2:decide ((0:Int)<=c.len)=true:=by simp
  have b3:decide ((c.len:Int)<=16384)=decide (c.len<=16384):=by rw[Bool.eq_iff_iff];simp;omega
  generalize dV c.key=k1 at *;generalize jE c.over=k2 at *;generalize Qw:decide (c.len<=16384)=k3 at *;cases k1
  ·go_enter Tryz.func130,Tryz.ntmps130
   simp only[aA.agg];go_wp2_with (first|(go_at_call 131;refine(HK.out _).mono ?_;rintro e w' ⟨rfl,rfl⟩)|(go_at_call 132;refine(HI.out _).mono ?_;rintro e w' ⟨rfl,rfl⟩));go_ret;exact⟨iH (by simp),by(repeat' (first|exact ah.refl _ _|assumption|apply ah.alloc|apply ah.drewN|apply ah.drew|refine ah.ai ?_ (by first|omega|(simp;omega)|simp) _ _|refine ah.ay ?_ (by first|exact Or.inl rfl|exact Or.inr rfl|rfl) _ _|refine ah.ag ?_ (by assumption)|refine ah.ag ?_ (ah.of_no (by assumption))))⟩
  ·cases k2
   ·go_enter Tryz.func130,Tryz.ntmps130
    simp only[aA.agg];go_wp2_with (first|(go_at_call 131;refine(HK.out _).mono ?_;rintro e w' ⟨rfl,rfl⟩)|(go_at_call 132;refine(HI.out _).mono ?_;rintro e w' ⟨rfl,rfl⟩));go_ret;exact⟨iH (by simp),by(repeat' (first|exact ah.refl _ _|assumption|apply ah.alloc|apply ah.drewN|apply ah.drew|refine ah.ai ?_ (by first|omega|(simp;omega)|simp) _ _|refine ah.ay ?_ (by first|exact Or.inl rfl|exact Or.inr rfl|rfl) _ _|refine ah.ag ?_ (by assumption)|refine ah.ag ?_ (ah.of_no (by assumption))))⟩
   ·cases k3
    all_goals
     go_enter Tryz.func130,Tryz.ntmps130;simp only[aA.agg];go_wp2_with (first|(go_at_call 131;refine(HK.out _).mono ?_;rintro e w' ⟨rfl,rfl⟩)|(go_at_call 132;refine(HI.out _).mono ?_;rintro e w' ⟨rfl,rfl⟩));go_ret;exact⟨iH (by simp),by(repeat' (first|exact ah.refl _ _|assumption|apply ah.alloc|apply ah.drewN|apply ah.drew|refine ah.ai ?_ (by first|omega|(simp;omega)|simp) _ _|refine ah.ay ?_ (by first|exact Or.inl rfl|exact Or.inr rfl|rfl) _ _|refine ah.ag ?_ (by assumption)|refine ah.ag ?_ (ah.of_no (by assumption))))⟩
def di (cs:List aA):Nat:=(cs.map aA.size).sum
def cK (ks:List Bs):Nat:=(ks.map fun k=>5+k.length).sum
def Nd.size (n:Nd):Nat:=2+di n.cells+cK n.keys+(if n.leaf then 0 else 4)
theorem Rj (cs:List aA) (k:Nat) (c:aA) (h:cs[k]?=some c):di (cs.take (k+1))=di (cs.take k)+c.size:=by
 rw[List.take_add_one,h];simp[di]
theorem Ri (cs:List Bs) (k:Nat) (c:Bs) (h:cs[k]?=some c):cK (cs.take (k+1))=cK (cs.take k)+(5+c.length):=by
 rw[List.take_add_one,h];simp[cK]
structure Nd.fits (n:Nd):Prop where
 c:∀c∈n.cells,c.fits
 k:∀k∈n.keys,k.length<65536
 i:∀i∈n.kids,i<4294967296
theorem Cs {c:aA}(h:c.fits):c.size<131100:=by
 obtain⟨h1,h2,_,_⟩:=h;unfold aA.size;split <;> omega
theorem qA (cs:List aA) (h:∀c∈cs,c.fits):di cs<=cs.length*131100:=by
 induction cs with
 | nil=>simp[di]
 | cons c cs ih =>
  have h1:=Cs (h c (by simp));have h2:=ih (fun c hc=>h c (by simp[hc]));simp only[di,List.map_cons,List.sum_cons,List.length_cons]at *;omega
theorem qy (cs:List Bs) (h:∀k∈cs,k.length<65536):cK cs<=cs.length*65600:=by
 induction cs with
 | nil=>simp[cK]
 | cons c cs ih =>
  have h1:=h c (by simp);have h2:=ih (fun c hc=>h c (by simp[hc]));simp only[cK,List.map_cons,List.sum_cons,List.length_cons]at *;omega
theorem pF (n:Nd) (w:World) (F:Nat->Prop) (A1:Option Addr) (c1:Nat) (A2:Option Addr) (c2:Nat) (A3:Option Addr) (c3:Nat) (hn:aW w F A1 c1 A2 c2 A3 c3 n) (hf:n.fits) :
  Calls Tryz.prog 181 #[n.value A1 c1 A2 c2 A3 c3] w fun e w'=>e=.returned (.int .i64 (n.size:Int))/\ah No w w':=by
 have HL:=aa (fun c w hk hv=>CQ c w hk hv);have hb1:=hn.b1;have dO:=hn.b2;go_enter Tryz.func181,Tryz.ntmps181;simp only[Nd.value];go_wp2
 go_loopw [3,11] (fun s i wr=>∃k:Nat,k<=n.cells.length/\i=.int .i64 (k:Int)/\s=.int .i64 ((2+di (n.cells.take k):Nat):Int)/\ah No (w.alloc (.cells #[.bool n.leaf,.slice A1 n.cells.length c1,.slice A2 n.keys.length c2,.slice A3 n.kids.length c3] 40)) wr) (fun _ i _=>n.cells.length-(intOf i).toNat)
 case atStart=>exact⟨0,Nat.zero_le _,rfl,by simp[di],ah.refl _ _⟩
 case round =>
  obtain⟨k,hk,rfl,rfl,hE⟩:=hrel;have bb:=(ax.new w 40 #[.bool n.leaf,.slice A1 n.cells.length c1,.slice A2 n.keys.length c2,.slice A3 n.kids.length c3]).ext hE (fun h=>h)
  by_cases bu:k<n.cells.length
  ·obtain⟨c,hc⟩:∃c,n.cells[k]?=some c:=⟨_,List.getElem?_eq_getElem bu⟩
   have Fh:=hf.c c (List.mem_of_getElem? hc);have dw:=aa (Rj _ _ _ hc);have Sc:=qA _ (fun c hc=>hf.c c (List.mem_of_mem_take hc):∀c∈n.cells.take k,c.fits);have hln:(n.cells.take k).length<=k:=List.length_take_le _ _;have ai6:=Cs Fh;obtain⟨b,o,hA,_,e0,e1,e2,e3⟩:=(hn.cells.ext (((ah.refl _ w).alloc _).ag hE.of_no)).cellAt hc;subst hA;generalize di (n.cells.take k)=sk at *;have lt0:=World.block_lt_of_cell? wr _ e0;obtain⟨q1,q2,_,_⟩:=Fh;go_wp2_with (go_at_call 175;refine(HL.out c _ (by omega) (by omega)).mono ?_;rintro e w' ⟨rfl,o,rfl⟩)
   go_roundw
   case rel=>exact⟨k+1,by omega,by go_num,by rw[dw.out];go_num,by(repeat' (first|exact ah.refl _ _|assumption|apply ah.alloc|apply ah.drewN|apply ah.drew|refine ah.ai ?_ (by first|omega|(simp;omega)|simp) _ _|refine ah.ay ?_ (by first|exact Or.inl rfl|exact Or.inr rfl|rfl) _ _|refine ah.ag ?_ (by assumption)|refine ah.ag ?_ (ah.of_no (by assumption))))⟩
   case measure=>simp[intOf];omega
  ·have qN:k=n.cells.length:=by omega
   have k2:=bb.cell 2;have k0:=bb.cell 0;simp at k2 k0;have Sc:=qA _ (fun c hc=>hf.c c (List.mem_of_mem_take hc):∀c∈n.cells.take k,c.fits);have hln:(n.cells.take k).length<=k:=List.length_take_le _ _;have dw:di (n.cells.take k)=di n.cells:=by rw[qN,List.take_length]
   rw[dw]at Sc ⊢;clear dw qN;generalize hsk:di n.cells=sk at *;have HSK:=aa hsk;clear hsk;obtain⟨wo,rfl⟩:∃wo:World,wo=wr:=⟨_,rfl⟩;go_wp2
   go_loopw [3,23] (fun s i wr=>∃k:Nat,k<=n.keys.length/\i=.int .i64 (k:Int)/\s=.int .i64 ((2+sk+cK (n.keys.take k):Nat):Int)/\wo=wr) (fun _ i _=>n.keys.length-(intOf i).toNat)
   case atStart=>exact⟨0,Nat.zero_le _,rfl,by simp[cK],rfl⟩
   case round =>
    obtain⟨j,hj,rfl,rfl,rfl⟩:=hrel
    by_cases iK:j<n.keys.length
    ·obtain⟨c,hc⟩:∃c,n.keys[j]?=some c:=⟨_,List.getElem?_eq_getElem iK⟩
     have Fh:=hf.k c (List.mem_of_getElem? hc);have dw:=aa (Ri _ _ _ hc);have ab8:=qy _ (fun c hc=>hf.k c (List.mem_of_mem_take hc):∀c∈n.keys.take j,c.length<65536);have ajd:(n.keys.take j).length<=j:=List.length_take_le _ _;have eZ:=az c;obtain⟨b,o,hA,_,e0⟩:=(hn.keys.ext (((ah.refl _ w).alloc _).ag hE.of_no)).rF hc;subst hA;generalize cK (n.keys.take j)=sk2 at *;go_wp2
     go_roundw
     case rel=>exact⟨j+1,by omega,by go_num,by rw[dw.out];go_num,trivial⟩
     case measure=>simp[intOf];omega
    ·have hje:j=n.keys.length:=by omega
     have ab8:=qy _ hf.k;have Dz:(2+sk+cK (n.keys.take j):Nat)+(if n.leaf then 0 else 4)=n.size:=by rw[hje,List.take_length,<-HSK.out];unfold Nd.size;rfl
     have dw:cK (n.keys.take j)=cK n.keys:=by rw[hje,List.take_length]
     have HF:=aa Dz;clear Dz;rw[dw]at HF ⊢;clear dw hje;generalize cK n.keys=sk2 at *;cases bL:n.leaf
     all_goals
      rw[bL]at k0 HF;go_wp2;go_ret;refine⟨lF ?_,by(repeat' (first|exact ah.refl _ _|assumption|apply ah.alloc|apply ah.drewN|apply ah.drew|refine ah.ai ?_ (by first|omega|(simp;omega)|simp) _ _|refine ah.ay ?_ (by first|exact Or.inl rfl|exact Or.inr rfl|rfl) _ _|refine ah.ag ?_ (by assumption)|refine ah.ag ?_ (ah.of_no (by assumption))))⟩;have:=HF.out;simp at this ⊢;omega
structure Pt (w:World) where
 x:World
 h:ah No w x
instance (w:World):Nonempty (Pt w):=⟨⟨w,ah.refl _ _⟩⟩
def up (w:World) (i:Pt w):World:=i.x
@[go_sem] theorem agc (w:World) (i:Pt w) (a:Addr) (h:a.block<w.heap.size):(up w i).cell? a=w.cell? a:=World.cell?_of_block (i.h.block a.block h (fun h=>h))
@[go_sem] theorem adG (w:World) (i:Pt w) (a:Addr) (h:a.block<w.heap.size):(up w i).frozen? a=w.frozen? a:=by
 have:(up w i).heap[a.block]?=w.heap[a.block]?:=i.h.block a.block h (fun h=>h);unfold World.frozen?;simp only[this]
theorem fK {P:Program}{id:Nat}{Q:Exit->Act->World->Prop}{a:Act}{w:World}{l:List Oper}(hm:P.follows .mixedOrders=true) (hB:Region.lexB .any l.toArray=true)
  (h:wpQuiet P l.toArray (fun w'=>∃i:Pt w,w'=up w i) (fun a'=>∀w',(∃i:Pt w,w'=up w i)->Q .normal a' w') l a):(Code.region id l.toArray true).wp P Q a w :=
 wp_region_quiet (C:=fun w'=>∃i:Pt w,w'=up w i) hm hB ⟨⟨{ w with drawn:=w.drawn+1 },⟨rfl,rfl,rfl,Nat.le_refl _,fun _ _ _=>rfl⟩⟩,rfl⟩ (by simpa using h)
theorem Calls.vD {P:Program}{f:FuncId}{args:Array Value}{w:World}{i:Pt w}{v:Value}(h:Calls P f args (up w i) fun e w'=>e=.returned v/\ah No (up w i) w') :
  Calls P f args (up w i) fun e w''=>e=.returned v/\∃j:Pt w,w''=up w j :=
 h.mono fun _ w'' ⟨he,hx⟩=>⟨he,⟨w'',i.h.ag hx⟩,rfl⟩
theorem Cb (w:World) (i:Pt w):ah No w (up w i):=i.h
end Go.Proofs.YtccnemmlkcmceaaGreatDoor
namespace Go.Proofs.YtccnemmlkcmceaaGreatDoor
open Go.RowKit Go.BigFrame
abbrev fA (a b:Bs):Bool:=Op.bytesLess a b
def EL (cs:List aA):Nat->Bool
 | 0=>true
 | k+1=>EL cs k&&(match cs[k]? with
  | some c=>c.ok&&(match k with
   | 0=>true
   | j+1=>(match cs[j]? with|some d=>fA d.key c.key|none=>false))
  | none=>false)
def EK (cs:List Bs):Nat->Bool
 | 0=>true
 | k+1=>EK cs k&&(match cs[k]? with
  | some c=>dV c&&(match k with
   | 0=>true
   | j+1=>(match cs[j]? with|some d=>fA d c|none=>false))
  | none=>false)
def Nd.shape (n:Nd):Bool:=decide (n.cells.length<=255)&&decide (n.keys.length<=255) &&
 (if n.leaf then decide (n.keys.length=0)&&decide (n.kids.length=0)else decide (n.cells.length=0)&&decide (n.kids.length=n.keys.length+1))
def Nd.ok (n:Nd):Bool:=n.shape&&EL n.cells n.cells.length&&EK n.keys n.keys.length&&n.kids.all jE
def Nd.chk (n:Nd):Int:=if n.ok then 0 else 2
theorem dG (n:Nd) (w:World) (F:Nat->Prop) (A1:Option Addr) (c1:Nat) (A2:Option Addr) (c2:Nat) (A3:Option Addr) (c3:Nat) (hn:aW w F A1 c1 A2 c2 A3 c3 n) (hf:n.fits) :
  Calls Tryz.prog 91 #[n.value A1 c1 A2 c2 A3 c3] w fun e w'=>e=.returned (.int .i64 n.chk)/\ah No w w':=by
 have HC:=aa (fun c w h=>Xg c w h);have hb1:=hn.b1;have dO:=hn.b2;have SA:=hn.b3;simp only[Nd.value];generalize bL:n.leaf=lf;have Ef:=aa bL;clear bL;go_enter Tryz.func91,Tryz.ntmps91;go_upto_region 1 with fail;go_cut [3] (fun s3 wx=>s3=.bool (decide (n.cells.length<=255)&&decide (n.keys.length<=255))/\wx=(w.alloc (.cells #[.bool lf,.slice A1 n.cells.length c1,.slice A2 n.keys.length c2,.slice A3 n.kids.length c3] 40)))
 case first =>
  by_cases h1:(n.cells.length:Int)<=255
  ·have Yr:n.cells.length<=255:=by omega
   go_wp2_with fail;go_meet;exact⟨by simp[Yr];omega,rfl⟩
  ·have Yr:¬n.cells.length<=255:=by omega
   go_wp2_with fail;go_meet;exact⟨by simp[Yr],rfl⟩
 case rest =>
  obtain⟨rfl,rfl⟩:=hcut;generalize j_:(decide (n.cells.length<=255)&&decide (n.keys.length<=255))=k1;go_upto_if 21 with fail;go_cut [3] (fun s3 wx=>s3=.bool n.shape/\wx=(w.alloc (.cells #[.bool lf,.slice A1 n.cells.length c1,.slice A2 n.keys.length c2,.slice A3 n.kids.length c3] 40)))
  case first =>
   have hs:n.shape=(k1&&(if n.leaf then decide (n.keys.length=0)&&decide (n.kids.length=0)else decide (n.cells.length=0)&&decide (n.kids.length=n.keys.length+1))):=by unfold Nd.shape;rw[j_]
   have HS:=aa hs;clear hs j_;rw[Ef.out]at HS;cases k1
   ·cases lf
    all_goals
     go_wp2_with fail;go_meet;exact⟨by rw[HS.out];rfl,rfl⟩
   ·cases lf
    ·by_cases OO:n.cells.length=0
     ·have aco:((n.cells.length:Int)==0)=true:=by simp[OO]
      have HZ:=aa OO;clear OO;go_wp2_with fail;go_meet;exact⟨by rw[HS.out];simp[HZ.out];try (rw[Bool.eq_iff_iff];simp;omega),by simp⟩
     ·have aco:((n.cells.length:Int)==0)=false:=by simp[OO]
      have HZ:=aa OO;clear OO;go_wp2_with fail;go_meet;exact⟨by rw[HS.out];simp[HZ.out],by simp⟩
    ·by_cases OO:n.keys.length=0
     ·have aco:((n.keys.length:Int)==0)=true:=by simp[OO]
      have HZ:=aa OO;clear OO;go_wp2_with fail;go_meet;exact⟨by rw[HS.out];simp[HZ.out];try (rw[Bool.eq_iff_iff];simp),by simp⟩
     ·have aco:((n.keys.length:Int)==0)=false:=by simp[OO]
      have HZ:=aa OO;clear OO;go_wp2_with fail;go_meet;exact⟨by rw[HS.out];simp[HZ.out],by simp⟩
  case rest =>
   obtain⟨rfl,rfl⟩:=hcut;clear j_;generalize hsh:n.shape=sh;go_wp2_with fail;go_loopg [3,55] n.cells.length (fun g s i wr=>∃k:Nat,k+g=n.cells.length/\i=.int .i64 (k:Int)/\s=.bool (sh&&EL n.cells k)/\ah No (w.alloc (.cells #[.bool lf,.slice A1 n.cells.length c1,.slice A2 n.keys.length c2,.slice A3 n.kids.length c3] 40)) wr)
   case atStart=>exact⟨0,by omega,rfl,by simp[EL],ah.refl _ _⟩
   case round =>
    obtain⟨k,jK,rfl,rfl,hE⟩:=hrel;have hk:k<=n.cells.length:=by omega
    have jS:=aa jK;clear jK;have bb:=(ax.new w 40 #[.bool lf,.slice A1 n.cells.length c1,.slice A2 n.keys.length c2,.slice A3 n.kids.length c3]).ext hE (fun h=>h);have q0:=bb.cell 0;have q1:=bb.cell 1;have q2:=bb.cell 2;have q3:=bb.cell 3;have bl:=bb.lt;simp at q0 q1 q2 q3
    by_cases bu:k<n.cells.length
    ·obtain⟨c,hc⟩:∃c,n.cells[k]?=some c:=⟨_,List.getElem?_eq_getElem bu⟩
     have Fh:=hf.c c (List.mem_of_getElem? hc);obtain⟨b,o,hA,_,e0,e1,e2,e3⟩:=(hn.cells.ext (((ah.refl _ w).alloc _).ag hE.of_no)).cellAt hc;subst hA;have lt0:b<wr.heap.size:=World.block_lt_of_cell? wr _ e0;have HE:=aa hE;cases aX:(sh&&EL n.cells k)
     ·have lY:(sh&&EL n.cells (k+1))=false:=by
       cases sh
       ·rfl
       ·simp at aX;simp[EL,aX]
      have HN:=aa lY;clear lY aX;go_wp2_with fail;go_quiet (fail);go_wp2_with fail;go_roundg (gk-1)
      case rel=>exact⟨k+1,by have:=jS.out;omega,by go_num,by rw[HN.out],by have:=HE.out;(repeat' (first|exact ah.refl _ _|assumption|apply ah.alloc|apply ah.drewN|apply ah.drew|refine ah.ai ?_ (by first|omega|(simp;omega)|simp) _ _|refine ah.ay ?_ (by first|exact Or.inl rfl|exact Or.inr rfl|rfl) _ _|refine ah.ag ?_ (by assumption)|refine ah.ag ?_ (ah.of_no (by assumption))))⟩
      case measure=>have:=jS.out;omega
     ·cases LP:c.ok
      ·have lY:(sh&&EL n.cells (k+1))=false:=by simp[EL,hc,LP]
       have HN:=aa lY;have rC:=aa (fun w=>HC.out c w Fh);simp only[aA.agg,LP]at rC;clear lY aX LP;go_wp2_with fail;have lt1:b<wr.heap.size+1:=by omega
       have bl1:w.heap.size<wr.heap.size+1:=by omega
       refine fK (by kernel_rfl) (by kernel_rfl) ?_;(repeat (go_big_quiet_step ((go_at_call 130;exact Calls.vD (rC.out _)))));refine wpQuiet_nil ?_;intro _ Nf;obtain⟨⟨wq,hq⟩,jZ⟩:=Nf;change _=wq at jZ;subst jZ
       go_wp2_with fail;go_roundg (gk-1)
       case rel=>exact⟨k+1,by have:=jS.out;omega,by go_num,by rw[HN.out],by have:=HE.out;(repeat' (first|exact ah.refl _ _|assumption|apply ah.alloc|apply ah.drewN|apply ah.drew|refine ah.ai ?_ (by first|omega|(simp;omega)|simp) _ _|refine ah.ay ?_ (by first|exact Or.inl rfl|exact Or.inr rfl|rfl) _ _|refine ah.ag ?_ (by assumption)|refine ah.ag ?_ (ah.of_no (by assumption))))⟩
       case measure=>have:=jS.out;omega
      ·have rC:=aa (fun w=>HC.out c w Fh)
       simp only[aA.agg,LP]at rC
       match k with
       | 0 =>
        have lY:(sh&&EL n.cells (0+1))=true:=by
         cases sh
         ·simp at aX
         ·simp[EL,hc,LP]
        have HN:=aa lY;clear lY aX LP;simp only[Nat.zero_mul,Nat.add_zero]at e0 e1 e2 e3;have lt1:b<wr.heap.size+1:=by omega
        have bl1:w.heap.size<wr.heap.size+1:=by omega
        go_wp2_with fail;refine fK (by kernel_rfl) (by kernel_rfl) ?_;(repeat (go_big_quiet_step ((go_at_call 130;exact Calls.vD (rC.out _)))));refine wpQuiet_nil ?_;intro _ Nf;obtain⟨⟨wq,hq⟩,jZ⟩:=Nf;change _=wq at jZ;subst jZ
        go_wp2_with fail;go_roundg (gk-1)
        case rel=>exact⟨0+1,by have:=jS.out;omega,by go_num,by rw[HN.out],by have:=HE.out;(repeat' (first|exact ah.refl _ _|assumption|apply ah.alloc|apply ah.drewN|apply ah.drew|refine ah.ai ?_ (by first|omega|(simp;omega)|simp) _ _|refine ah.ay ?_ (by first|exact Or.inl rfl|exact Or.inr rfl|rfl) _ _|refine ah.ag ?_ (by assumption)|refine ah.ag ?_ (ah.of_no (by assumption))))⟩
        case measure=>have:=jS.out;omega
       | j+1 =>
        obtain⟨d,hd⟩:∃d,n.cells[j]?=some d:=⟨_,List.getElem?_eq_getElem (by omega)⟩;have lY:(sh&&EL n.cells (j+1+1))=fA d.key c.key:=by
         cases sh
         ·simp at aX
         ·simp only[Bool.true_and]at aX
          rw[EL,aX];simp[hc,LP,hd]
        have HN:=aa lY;obtain⟨b',o',SH,_,p0,_⟩:=(hn.cells.ext (((ah.refl _ w).alloc _).ag hE.of_no)).cellAt hd;injection SH with SH;injection SH with mY JM;subst mY;subst JM;clear lY aX LP;have hz:(((j:Int)+1)==0)=false:=by simp;omega
        have hji:(j:Int)<n.cells.length:=by omega
        have hjn:j<n.cells.length:=by omega
        have lt1:b<wr.heap.size+1:=by omega
        have bl1:w.heap.size<wr.heap.size+1:=by omega
        go_wp2_with fail;refine fK (by kernel_rfl) (by kernel_rfl) ?_;(repeat (go_big_quiet_step ((go_at_call 130;exact Calls.vD (rC.out _)))));refine wpQuiet_nil ?_;intro _ Nf;obtain⟨⟨wq,hq⟩,jZ⟩:=Nf;change _=wq at jZ;subst jZ
        go_wp2_with fail;go_roundg (gk-1)
        case rel=>exact⟨j+1+1,by have:=jS.out;omega,by go_num,by rw[HN.out],by have:=HE.out;(repeat' (first|exact ah.refl _ _|assumption|apply ah.alloc|apply ah.drewN|apply ah.drew|refine ah.ai ?_ (by first|omega|(simp;omega)|simp) _ _|refine ah.ay ?_ (by first|exact Or.inl rfl|exact Or.inr rfl|rfl) _ _|refine ah.ag ?_ (by assumption)|refine ah.ag ?_ (ah.of_no (by assumption))))⟩
        case measure=>have:=jS.out;omega
    ·have qN:k=n.cells.length:=by omega
     subst qN;generalize nT:(sh&&EL n.cells n.cells.length)=s1;have HS1:=aa nT;clear nT;have wR:=aa (fun k w hk=>Qg k w hk);have HII:=aa (fun n w=>Vq n w);have HE:=aa (((ah.refl No w).alloc _).ag hE);have Qt:=hn.keys.ext (((ah.refl _ w).alloc _).ag hE.of_no);have hni:=hn.kids.ext (((ah.refl _ w).alloc _).ag hE.of_no);clear hn hE bb bu hk jS;obtain⟨wo,rfl⟩:∃wo:World,wo=wr:=⟨_,rfl⟩;go_wp2_with fail;go_loopg [3,85] n.keys.length (fun g s i wr=>∃k:Nat,k+g=n.keys.length/\i=.int .i64 (k:Int)/\s=.bool (s1&&EK n.keys k)/\∃q,wr=wo.drewN q)
     case atStart=>exact⟨0,by omega,rfl,by simp[EK],0,rfl⟩
     case round =>
      obtain⟨k,jK,rfl,rfl,q,rfl⟩:=hrel;have hk:k<=n.keys.length:=by omega
      have jS:=aa jK;clear jK
      by_cases bu:k<n.keys.length
      ·obtain⟨c,hc⟩:∃c,n.keys[k]?=some c:=⟨_,List.getElem?_eq_getElem bu⟩
       have Fh:=hf.k c (List.mem_of_getElem? hc);obtain⟨b,o,hA,_,e0⟩:=Qt.rF hc;subst hA;cases aX:(s1&&EK n.keys k)
       ·have lY:(s1&&EK n.keys (k+1))=false:=by
         cases s1
         ·rfl
         ·simp at aX;simp[EK,aX]
        have HN:=aa lY;clear lY aX;go_wp2_with fail;go_roundg (gk-1)
        case rel=>exact⟨k+1,by have:=jS.out;omega,by go_num,by rw[HN.out],q,rfl⟩
        case measure=>have:=jS.out;omega
       ·have rC:=aa (fun w=>wR.out c w (by omega))
        cases LP:dV c
        ·have lY:(s1&&EK n.keys (k+1))=false:=by simp[EK,hc,LP]
         have HN:=aa lY;simp only[LP]at rC;clear lY aX LP;go_wp2_with (go_at_call 131;refine(rC.out _).mono ?_;rintro e w' ⟨rfl,rfl⟩);go_roundg (gk-1)
         case rel=>exact⟨k+1,by have:=jS.out;omega,by go_num,by rw[HN.out],q,rfl⟩
         case measure=>have:=jS.out;omega
        ·simp only[LP]at rC
         match k with
         | 0 =>
          have lY:(s1&&EK n.keys (0+1))=true:=by
           cases s1
           ·simp at aX
           ·simp[EK,hc,LP]
          have HN:=aa lY;clear lY aX LP;simp only[Nat.add_zero]at e0;go_wp2_with (go_at_call 131;refine(rC.out _).mono ?_;rintro e w' ⟨rfl,rfl⟩);go_roundg (gk-1)
          case rel=>exact⟨0+1,by have:=jS.out;omega,by go_num,by rw[HN.out],q,rfl⟩
          case measure=>have:=jS.out;omega
         | j+1 =>
          obtain⟨d,hd⟩:∃d,n.keys[j]?=some d:=⟨_,List.getElem?_eq_getElem (by omega)⟩;have lY:(s1&&EK n.keys (j+1+1))=fA d c:=by
           cases s1
           ·simp at aX
           ·simp only[Bool.true_and]at aX
            rw[EK,aX];simp[hc,LP,hd]
          have HN:=aa lY;obtain⟨b',o',SH,_,p0⟩:=Qt.rF hd;injection SH with SH;injection SH with mY JM;subst mY;subst JM;clear lY aX LP;have hz:(((j:Int)+1)==0)=false:=by simp;omega
          have hji:(j:Int)<n.keys.length:=by omega
          have hjn:j<n.keys.length:=by omega
          go_wp2_with (go_at_call 131;refine(rC.out _).mono ?_;rintro e w' ⟨rfl,rfl⟩);go_roundg (gk-1)
          case rel=>exact⟨j+1+1,by have:=jS.out;omega,by go_num,by rw[HN.out],q,rfl⟩
          case measure=>have:=jS.out;omega
      ·have qN:k=n.keys.length:=by omega
       subst qN;generalize rW:(s1&&EK n.keys n.keys.length)=s2;have Nt:=aa rW;clear rW hk jS bu;go_wp2_with fail;go_loopg [3,113] n.kids.length (fun g s i wr=>∃k:Nat,k+g=n.kids.length/\i=.int .i64 (k:Int)/\s=.bool (s2&&(n.kids.take k).all jE)/\∃q,wr=wo.drewN q)
       case atStart=>exact⟨0,by omega,rfl,by simp,q,rfl⟩
       case round =>
        obtain⟨k,jK,rfl,rfl,q,rfl⟩:=hrel;have hk:k<=n.kids.length:=by omega
        have jS:=aa jK;clear jK
        by_cases bu:k<n.kids.length
        ·obtain⟨c,hc⟩:∃c,n.kids[k]?=some c:=⟨_,List.getElem?_eq_getElem bu⟩
         obtain⟨b,o,hA,_,e0⟩:=hni.pU hc;subst hA;have og:(n.kids.take (k+1)).all jE=((n.kids.take k).all jE&&jE c):=by rw[List.take_add_one,hc];simp
         cases aX:(s2&&(n.kids.take k).all jE)
         ·have lY:(s2&&(n.kids.take (k+1)).all jE)=false:=by rw[og,<-Bool.and_assoc,aX];rfl
          have HN:=aa lY;clear lY aX og;go_wp2_with fail;go_roundg (gk-1)
          case rel=>exact⟨k+1,by have:=jS.out;omega,by go_num,by rw[HN.out],q,rfl⟩
          case measure=>have:=jS.out;omega
         ·have lY:(s2&&(n.kids.take (k+1)).all jE)=jE c:=by rw[og,<-Bool.and_assoc,aX];rfl
          have HN:=aa lY;clear lY aX og;have rC:=aa (fun w=>HII.out c w);generalize jE c=ic at *;go_wp2_with (go_at_call 132;refine(rC.out _).mono ?_;rintro e w' ⟨rfl,rfl⟩);go_roundg (gk-1)
          case rel=>exact⟨k+1,by have:=jS.out;omega,by go_num,by rw[HN.out],q,rfl⟩
          case measure=>have:=jS.out;omega
        ·have qN:k=n.kids.length:=by omega
         subst qN;have Dz:(s2&&(n.kids.take n.kids.length).all jE)=n.ok:=by
          rw[List.take_length,<-Nt.out,<-HS1.out,<-hsh];rfl
         rw[Dz];have HQ:=aa (((ah.refl No w).ag HE.out).drewN q);clear Dz;cases uM:n.ok
         all_goals
          go_wp2_with fail;go_ret;exact⟨lF (by unfold Nd.chk;rw[uM];rfl),HQ.out⟩
end Go.Proofs.YtccnemmlkcmceaaGreatDoor
namespace Go.Proofs.YtccnemmlkcmceaaGreatDoor
open Go.RowKit
def Nd.Size (n:Nd):Nat:=if n.ok then n.size else 0
theorem Nd.jh {n:Nd}(h:n.ok=true):n.chk=0:=by simp[Nd.chk,h]
theorem Nd.oq {n:Nd}(h:n.ok=false):n.chk=2:=by simp[Nd.chk,h]
theorem ML (n:Nd) (w:World) (F:Nat->Prop) (A1:Option Addr) (c1:Nat) (A2:Option Addr) (c2:Nat) (A3:Option Addr) (c3:Nat) (hn:aW w F A1 c1 A2 c2 A3 c3 n) (hf:n.fits) :
  Calls Tryz.prog 148 #[n.value A1 c1 A2 c2 A3 c3] w fun e w'=>e=.returned (.int .i64 (n.Size:Int))/\ah No w w':=by
 have HC:=aa (fun w hn=>dG n w F A1 c1 A2 c2 A3 c3 hn hf);have HS:=aa (fun w hn=>pF n w F A1 c1 A2 c2 A3 c3 hn hf);cases uM:n.ok
 ·have e:n.Size=0:=by simp[Nd.Size,uM]
  rw[Nd.oq uM]at HC;rw[e];clear e uM;go_enter Tryz.func148,Tryz.ntmps148;simp only[Nd.value];go_wp2_with fail;refine(HC.out _ (hn.ext ((ah.refl _ w).alloc _))).mono ?_;rintro e w1 ⟨rfl,hb1⟩;go_wp2_with fail;go_ret;exact⟨rfl,by(repeat' (first|exact ah.refl _ _|assumption|apply ah.alloc|apply ah.drewN|apply ah.drew|refine ah.ai ?_ (by first|omega|(simp;omega)|simp) _ _|refine ah.ay ?_ (by first|exact Or.inl rfl|exact Or.inr rfl|rfl) _ _|refine ah.ag ?_ (by assumption)|refine ah.ag ?_ (ah.of_no (by assumption))))⟩
 ·have e:n.Size=n.size:=by simp[Nd.Size,uM]
  rw[Nd.jh uM]at HC;rw[e];clear e uM;go_enter Tryz.func148,Tryz.ntmps148;simp only[Nd.value];go_wp2_with fail;refine(HC.out _ (hn.ext ((ah.refl _ w).alloc _))).mono ?_;rintro e w1 ⟨rfl,hb1⟩;have bb:=(ax.new w 40 #[.bool n.leaf,.slice A1 n.cells.length c1,.slice A2 n.keys.length c2,.slice A3 n.kids.length c3]).ext hb1 (fun h=>h);have q0:=bb.cell 0;have q1:=bb.cell 1;have q2:=bb.cell 2;have q3:=bb.cell 3;have bl:=bb.lt;simp at q0 q1 q2 q3;go_wp2_with fail;refine(HS.out _ (hn.ext (((ah.refl _ w).alloc _).ag hb1.of_no))).mono ?_;rintro e w2 ⟨rfl,dO⟩;go_wp2_with fail;go_ret;exact⟨rfl,by(repeat' (first|exact ah.refl _ _|assumption|apply ah.alloc|apply ah.drewN|apply ah.drew|refine ah.ai ?_ (by first|omega|(simp;omega)|simp) _ _|refine ah.ay ?_ (by first|exact Or.inl rfl|exact Or.inr rfl|rfl) _ _|refine ah.ag ?_ (by assumption)|refine ah.ag ?_ (ah.of_no (by assumption))))⟩
def dn (l:Bs):List Value:=l.map fun b=>.int .u8 (b.toNat:Int)
theorem iO (a b:Bs):dn (a++b)=dn a++dn b:=by simp[dn]
theorem lK (a:Bs):(dn a).length=a.length:=by simp[dn]
theorem ah.grown {F:Nat->Prop}{w0 w w':World}{row:Option Nat}(h:ah F w0 w) (hg:w.grownBy w' row) (hr:∀g,row=some g->F g\/w0.heap.size<=g):ah F w0 w' :=
 ⟨hg.os.trans h.os,hg.tape.trans h.tape,hg.output.trans h.output,Nat.le_trans h.size hg.size,fun i hi hn=>(hg.block i (Nat.lt_of_lt_of_le hi h.size) (by
  rintro e;rcases hr i e.symm with h'|h'
  ·exact hn h'
  ·omega)).trans (h.block i hi hn)⟩
theorem Tryz.info5:(Tryz.prog.info? 5).map (fun i=>(i.zero,i.size,i.bytes))=some (some (.int .u8 0),1,1):=by kernel_rfl
theorem ac1 (n:Nat) (hn:n<4294967296):dn (n4 n) = [.int .u8 ((n:Int)%256),.int .u8 ((n:Int) / 256%256),.int .u8 ((n:Int) / 65536%256),.int .u8 ((n:Int) / 16777216)]:=by
 have e0:=fq (n%256) (by omega);have e1:=fq (n / 256%256) (by omega);have e2:=fq (n / 65536%256) (by omega);have e3:=fq (n / 16777216%256) (by omega);have e4:((n / 16777216%256:Nat):Int)=(n:Int) / 16777216:=by omega
 unfold dn n4;simp only[List.map_cons,List.map_nil,e0,e1,e2,e3,e4];simp
def aga (base:Nat) (v:Value) (l:Bs) (w:World) (e:Ending) (w':World):Prop :=
 ∃g cap,e=.returned (.slice (some ⟨g,0,none⟩) l.length cap)/\w'.ownsRow base 5 1 (.slice (some ⟨g,0,none⟩) l.length cap) l.length (dn l)/\w.grownBy w' v.ownBlock/\(v.ownBlock=some g\/w.heap.size<=g)
theorem xU (base:Nat) (v:Value) (l:Bs) (n:Nat) (hn:n<4294967296) (w:World) (aP:w.ownsRow base 5 1 v l.length (dn l)) (hb:base<=w.heap.size) (hl:l.length<1000000) :
  Calls Tryz.prog 202 #[v,.int .i64 (n:Int)] w (aga base v (l++n4 n) w):=by
 obtain⟨i0,hi,hz0,Na,TV⟩:=info_parts Tryz.info5;have HO:=aa aP;clear aP;have hn4:=ac1 n hn;have HN:=aa hn4;clear hn4;go_enter Tryz.func202,Tryz.ntmps202;go_wp2_with (at_builtin;refine wpList_append_lies _ rfl (.tmp 5) (.tmp 17) 98 rfl base 5 i0 (.int .u8 0) 1 1 Tryz.underlying98 hi hz0 Na TV rfl (by decide) v l.length (dn l) rfl (HO.out.alloc _) ⟨w.heap.size,0,none⟩ 4 4 [.int .u8 ((n:Int)%256),.int .u8 ((n:Int) / 256%256),.int .u8 ((n:Int) / 65536%256),.int .u8 ((n:Int) / 16777216)] rfl rfl ?c1 ?c2 ?c3 ?c4 ?c5 ?c6 _ rfl ?_)
 case c1=>exact World.news_of_block (cs:=#[.int .u8 ((n:Int)%256),.int .u8 ((n:Int) / 256%256),.int .u8 ((n:Int) / 65536%256),.int .u8 ((n:Int) / 16777216)]) (t:=5) (fr:=(0,0)) (heap_alloc_new w _)
 case c2=>simp[Value.oneCell']
 case c3=>decide
 case c4=>unfold maxLen;omega
 case c5=>omega
 case c6=>simp;omega
 intro g cap w1 nA rH qP bu;go_wp2_with fail;go_ret;refine⟨g,cap,by simp[n4],?_,?_,?_⟩
 ·rw[List.length_append,bX,iO,HN.out];exact nA
 ·exact⟨rH.os,rH.tape,rH.output,Nat.le_trans (by simp) rH.size,fun k hk bQ=>(rH.block k (by simp;omega) bQ).trans (Below.heap_alloc w _ k hk)⟩
 ·rcases qP with h|h
  ·exact .inl h
  ·right;rw[h];simp
theorem Cx {P:Program}(w:World) (base:Nat) (t u ty e:TypeId) (i:TypeInfo) (ht:P.underlying t=some (.slice e)) (hu:P.underlying u=some .string) (hi:P.info? e=some i) (hz:i.zero=some (.int .u8 0))
  (vI:i.size=1) (Sy:i.bytes=1) (g cap n:Nat) (xs:List Value) (aP:w.ownsRow base e 1 (.slice (some ⟨g,0,none⟩) n cap) n xs) (s:ByteArray)
  (h63:n+s.size<=maxLen) (DD:n+s.size<=140737488355328) (DI:base<=w.heap.size) :
  ∃g' cap' w',(Builtin.append_ #[t,u] ty #[.slice (some ⟨g,0,none⟩) n cap,.string s]).run P w=.ok (.slice (some ⟨g',0,none⟩) (n+s.size) cap') w' /\
   w'.ownsRow base e 1 (.slice (some ⟨g',0,none⟩) (n+s.size) cap') (n+s.size) (xs++Lib.strCells s)/\w.grownBy w' (some g)/\(g'=g\/g'=w.heap.size):=by
 obtain⟨v',w',hr,h2,h3,_⟩:=Lib.run_append_own_string (P:=P) w base t u ty e i ht hu hi hz vI Sy _ n xs aP s h63 DD DI;have BC:xs.length=n:=by simpa using aP.1
 have agB:n+s.size<=9223372036854775807:=by simp only[maxLen]at h63;omega
 rcases aP.2 with ⟨h,_⟩|⟨g0,cap0,cur,hv,Bc,hg,OI,LU,xK,Lm⟩
 ·cases h
 ·injection hv with e1 _ e2
  injection e1 with e1;injection e1 with e1;subst e1;subst e2
  by_cases rG:n+s.size<=cap
  ·have rX:=Lib.run_append_room_string (P:=P) w t u ty e i ht hu hi vI g n cap cur hg s rG (by omega)
   rw[hr]at rX;injection rX with e1 e2;subst e1;subst e2;exact⟨g,cap,_,hr,h2,h3,.inl rfl⟩
  ·have rX:=Lib.run_append_grow_string (P:=P) w t u ty e i (.int .u8 0) ht hu hi hz ⟨g,0,none⟩ n cap xs (by rw[vI];simpa using BC) (aP.cells (g:=g) rfl) s (by omega) (by omega) (by rw[Sy];exact growslice_fits (by omega) (by omega))
   rw[hr]at rX;injection rX with e1 e2;subst e1;subst e2;exact⟨_,_,_,hr,h2,h3,.inr rfl⟩
theorem wS {P:Program}(w:World) {ops:Array Oper}{rest:List Oper}{o:Oper}{a:Act}{Q:Exit->Act->World->Prop}(OT:o.guard=none) (sl x:Operand) (t u:TypeId)
  (ho:o.op=.call { callee:=.builtin .append,args:=#[sl,x],argTypes:=#[t,u] })
  (base:Nat) (e:TypeId) (i:TypeInfo) (ht:P.underlying t=some (.slice e)) (hu:P.underlying u=some .string) (hi:P.info? e=some i) (hz:i.zero=some (.int .u8 0))
  (vI:i.size=1) (Sy:i.bytes=1) (g cap n:Nat) (xs:List Value) (hs:a.eval sl=.slice (some ⟨g,0,none⟩) n cap) (aP:w.ownsRow base e 1 (.slice (some ⟨g,0,none⟩) n cap) n xs) (s:ByteArray) (hx:a.eval x=.string s)
  (h63:n+s.size<=maxLen) (DD:n+s.size<=140737488355328) (DI:base<=w.heap.size)
  (h:∀g' cap' w',w'.ownsRow base e 1 (.slice (some ⟨g',0,none⟩) (n+s.size) cap') (n+s.size) (xs++Lib.strCells s)->w.grownBy w' (some g)->(g'=g\/g'=w.heap.size)->wpList P ops Q rest (a.put o.dst (.slice (some ⟨g',0,none⟩) (n+s.size) cap')) w'):wpList P ops Q (o::rest) a w:=by
 refine wpList_plain OT fun K hK=>?_
 obtain⟨g',cap',w',hr,h2,h3,h4⟩:=Cx (P:=P) w base t u o.type e i ht hu hi hz vI Sy g cap n xs aP s h63 DD DI;unfold Oper.wp execOp;simp only[ho,resolve,invoke,builtin,Sem.run_bind,Sem.run_pure,Result.andThen_ok,List.map_toArray,List.map_cons,List.map_nil,hs,hx,hr];exact hK _ _ (h g' cap' w' h2 h3 h4)
theorem qB (l:Bs):Lib.strCells (au l)=dn l:=by simp[Lib.strCells,dn]
theorem Ci (base:Nat) (v:Value) (l:Bs) (s:Bs) (hs:s.length<256) (w:World) (aP:w.ownsRow base 5 1 v l.length (dn l)) (hb:base<=w.heap.size) (hl:l.length<1000000) :
  Calls Tryz.prog 203 #[v,.string (au s)] w (aga base v (l++UInt8.ofNat s.length::s) w):=by
 obtain⟨i0,hi,hz0,Na,TV⟩:=info_parts Tryz.info5;have HO:=aa aP;clear aP;have eZ:=az s;have e0:=aa (fq s.length hs);have ai_:(s.length:Int)%256=s.length:=by omega
 go_enter Tryz.func203,Tryz.ntmps203;go_wp2_with (at_builtin;refine wpList_append_lies _ rfl (.tmp 5) (.tmp 9) 98 rfl base 5 i0 (.int .u8 0) 1 1 Tryz.underlying98 hi hz0 Na TV rfl (by decide) v l.length (dn l) rfl (HO.out.alloc _) ⟨w.heap.size,0,none⟩ 1 1 [.int .u8 (s.length:Int)] rfl rfl ?c1 ?c2 ?c3 ?c4 ?c5 ?c6 _ rfl ?_)
 case c1=>exact World.news_of_block (cs:=#[.int .u8 (s.length:Int)]) (t:=5) (fr:=(0,0)) (heap_alloc_new w _)
 case c2=>simp[Value.oneCell']
 case c3=>decide
 case c4=>unfold maxLen;omega
 case c5=>omega
 case c6=>simp;omega
 intro g cap w1 nA rH qP bu;have Nv:=aa nA;clear nA;have vk:=rH.size;simp at vk;go_wp2_with (refine wS _ rfl (.tmp 10) (.tmp 11) 98 9 rfl base 5 i0 Tryz.underlying98 Tryz.underlying9 hi hz0 Na TV g cap (l.length+1) _ rfl Nv.out (au s) rfl ?d1 ?d2 ?d3 ?_)
 case d1=>unfold maxLen;omega
 case d2=>omega
 case d3=>omega
 intro g' cap' w2 bJ a_ uf;go_wp2_with fail;go_ret;refine⟨g',cap',by simp;omega,?_,?_,?_⟩
 ·have e1:(l++UInt8.ofNat s.length::s).length=l.length+1+(au s).size:=by rw[az];simp;omega
  have e2:dn (l++UInt8.ofNat s.length::s)=dn l ++ [.int .u8 (s.length:Int)]++Lib.strCells (au s):=by rw[qB];simp[iO];simp[dn,e0.out];omega
  rw[e1,e2,az,List.append_assoc];exact bJ
 ·refine⟨a_.os.trans rH.os,a_.tape.trans rH.tape,a_.output.trans rH.output,by have:=a_.size;omega,fun k hk bQ=>?_⟩
  rcases qP with h|h
  ·exact(a_.block k (by omega) (fun e=>bQ (e.trans h.symm))).trans ((rH.block k (by simp;omega) bQ).trans (Below.heap_alloc w _ k hk))
  ·have:g=w.heap.size+1:=by rw[h]
   exact(a_.block k (by omega) (fun e=>by injection e with e;omega)).trans ((rH.block k (by simp;omega) bQ).trans (Below.heap_alloc w _ k hk))
 ·rcases uf with h2|h2
  ·rcases qP with h|h
   ·exact .inl (h.trans (by rw[h2]))
   ·right;rw[h2,h];simp
  ·right;omega
end Go.Proofs.YtccnemmlkcmceaaGreatDoor
namespace Go.Proofs
open Go.Shelf
def Tryz.EP:Go.Shelf.Ren:=⟨fun|22=>144|29=>183|30=>184|36=>205|17=>223|n=>n,fun|24=>38|9=>9|3=>3|4=>4|0=>0|n=>n,fun|n=>n⟩
theorem Tryz.pO:Go.Proofs.Lays2.n22 Tryz.prog Tryz.EP:={
 mixed:=by kernel_rfl
 f17:=Tryz.func223.trans (congrArg some (by kernel_rfl))
 f22:=Tryz.func144.trans (congrArg some (by kernel_rfl))
 f29:=Tryz.func183.trans (congrArg some (by kernel_rfl))
 f30:=Tryz.func184.trans (congrArg some (by kernel_rfl))
 f36:=Tryz.func205.trans (congrArg some (by kernel_rfl))
 t0:=Tryz.underlying0
 a0:=Tryz.isAgg0
 z0:=Tryz.sizeOf0
 v0:=Tryz.zeroValue0
 t3:=Tryz.underlying3
 a3:=Tryz.isAgg3
 z3:=Tryz.sizeOf3
 v3:=Tryz.zeroValue3
 t4:=Tryz.underlying4
 a4:=Tryz.isAgg4
 z4:=Tryz.sizeOf4
 v4:=Tryz.zeroValue4
 t9:=Tryz.underlying9
 a9:=Tryz.isAgg9
 z9:=Tryz.sizeOf9
 v9:=Tryz.zeroValue9
 t24:=Tryz.underlying38
 a24:=Tryz.isAgg38
 z24:=Tryz.sizeOf38
 v24:=Tryz.zeroValue38
 i9:=by kernel_rfl }
def Tryz.ER:Go.Shelf.Ren:=⟨fun|21=>145|27=>185|28=>186|35=>206|39=>224|n=>n,fun|22=>35|3=>3|4=>4|0=>0|n=>n,fun|n=>n⟩
theorem Tryz.pQ:Go.Proofs.Lays2.n21 Tryz.prog Tryz.ER:={
 mixed:=by kernel_rfl
 f21:=Tryz.func145.trans (congrArg some (by kernel_rfl))
 f27:=Tryz.func185.trans (congrArg some (by kernel_rfl))
 f28:=Tryz.func186.trans (congrArg some (by kernel_rfl))
 f35:=Tryz.func206.trans (congrArg some (by kernel_rfl))
 f39:=Tryz.func224.trans (congrArg some (by kernel_rfl))
 t0:=Tryz.underlying0
 a0:=Tryz.isAgg0
 z0:=Tryz.sizeOf0
 v0:=Tryz.zeroValue0
 t3:=Tryz.underlying3
 a3:=Tryz.isAgg3
 z3:=Tryz.sizeOf3
 v3:=Tryz.zeroValue3
 t4:=Tryz.underlying4
 a4:=Tryz.isAgg4
 z4:=Tryz.sizeOf4
 v4:=Tryz.zeroValue4
 t22:=Tryz.underlying35
 a22:=Tryz.isAgg35
 z22:=Tryz.sizeOf35
 v22:=Tryz.zeroValue35
 i3:=by kernel_rfl }
end Go.Proofs
