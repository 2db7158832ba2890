/- Proofs about the given program, joined out of the texts M, T, T1, SL, N, U. -/
import Derived.Test.YtccnemmlkcmceaaGreatDoorProg
import Derived.WalkKit
import Derived.WalkSpells
import Derived.WalkLawsBesides
import Derived.KernelRfl
import Derived.Laws.OwnMore
import Derived.Deep.Draws
import Derived.Deep.QuietTactic
import Derived.BigQuiet
import Derived.Lib.Hide
import Derived.LaidEqlPtr
import Derived.Lib.Builder
import Derived.Deep.RegionHeld3
import Derived.StillTactics
import Derived.Shelf.SlGeneric
import Derived.Shelf.SlIterI.Nil
import Derived.Shelf.SortM.Plain
import Derived.Shelf.SortM.SortNone
import Derived.Ground.GgzProg
import Derived.Ground.SlgmProg
import Derived.Laws.BitsAllLaws
import Derived.Laws.BitsLemmas
import Derived.Laws.IdiomStrings
set_option linter.unusedVariables false
set_option linter.unusedSimpArgs false
set_option maxRecDepth 100000
set_option maxHeartbeats 6400000
namespace Go.Proofs.YtccnemmlkcmceaaGreatDoor
open Go.RowKit
def str (l:List UInt8):ByteArray:=⟨l.toArray⟩
@[simp] theorem str_toList (l:List UInt8):(str l).data.toList = l:=by simp [str]
@[simp] theorem str_size (l:List UInt8):(str l).size = l.length:=by simp [str,ByteArray.size]
@[simp] theorem str_toList' (l:List UInt8):(str l).toList = l:=by rw [ByteArray.toList_eq];simp
theorem str_of (s:ByteArray):str s.data.toList = s:=by cases s;simp [str]
def Blk (w:World) (g:Nat) (t:TypeId) (cs:Array Value):Prop:=w.heap[g]? = some (.cells cs t (0,0))
structure Ext (F:Nat → Prop) (w w':World):Prop where
 os:w'.os = w.os
 tape:w'.tape = w.tape
 output:w'.output = w.output
 size:w.heap.size ≤ w'.heap.size
 block:∀ i,i < w.heap.size → ¬ F i → w'.heap[i]? = w.heap[i]?
def No:Nat → Prop:=fun _=>False
section
variable {F G:Nat → Prop} {w w' w1:World} {g:Nat} {t:TypeId} {cs:Array Value}
theorem Blk.lt (h:Blk w g t cs):g < w.heap.size:=by
 rcases Nat.lt_or_ge g w.heap.size with hlt | hge
 ·exact hlt
 ·unfold Blk at h;rw [Array.getElem?_eq_none hge] at h;cases h
theorem Blk.cell (h:Blk w g t cs) (i:Nat):w.cell? ⟨g,i,none⟩ = cs[i]?:=cell_of_row w g i cs t (0,0) h
theorem Blk.frozen (h:Blk w g t cs) (i:Nat):w.frozen? ⟨g,i,none⟩ = false:=by
 unfold Blk at h
 simp [World.frozen?,h]
theorem Blk.new (w:World) (t:TypeId) (cs:Array Value):Blk (w.alloc (.cells cs t)) w.heap.size t cs:=heap_alloc_new w _
theorem Blk.drewN (h:Blk w g t cs) (n:Nat):Blk (w.drewN n) g t cs:=h
theorem Blk.alloc (h:Blk w g t cs) (o:Obj):Blk (w.alloc o) g t cs:=(Below.heap_alloc w o g h.lt).trans h
theorem Blk.set_ (h:Blk w g t cs) (i:Nat) (u:Value):Blk (w.setCell ⟨g,i,none⟩ u) g t (cs.setIfInBounds i u):=by
 unfold Blk at h ⊢
 simp [World.setCell,Array.getElem?_modify,h]
theorem Blk.far (h:Blk w g t cs) {p:Addr} (hp:g ≠ p.block) (u:Value):Blk (w.setCell p u) g t cs:=(Below.heap_setCell w p u g hp).trans h
theorem Blk.ext (h:Blk w g t cs) (hb:Ext F w w') (hg:¬ F g):Blk w' g t cs:=(hb.block g h.lt hg).trans h
theorem Blk.ne_ {g':Nat} {t':TypeId} {cs':Array Value} (h:Blk w g t cs) (h':Blk w g' t' cs') (hne:t ≠ t'):g ≠ g':=by
 rintro rfl
 unfold Blk at h h'
 rw [h] at h'
 injection h' with h'
 injection h' with _ ht
 exact hne ht
theorem Ext.refl (F:Nat → Prop) (w:World):Ext F w w:=⟨rfl,rfl,rfl,Nat.le_refl _,fun _ _ _=>rfl⟩
theorem Ext.drewN (h:Ext F w w') (n:Nat):Ext F w (w'.drewN n):=⟨h.os,h.tape,h.output,h.size,h.block⟩
theorem Ext.drew (h:Ext F w w'):Ext F w w'.drew:=⟨h.os,h.tape,h.output,h.size,h.block⟩
theorem Ext.alloc (h:Ext F w w') (o:Obj):Ext F w (w'.alloc o) :=
 ⟨h.os,h.tape,h.output,Nat.le_trans h.size (by simp),fun i hi hne=>(Below.heap_alloc w' o i (Nat.lt_of_lt_of_le hi h.size)).trans (h.block i hi hne)⟩
theorem Ext.setCell (h:Ext F w w') {p:Addr} (hp:F p.block ∨ w.heap.size ≤ p.block) (u:Value):Ext F w (w'.setCell p u) :=
 ⟨h.os,h.tape,h.output,by simpa [World.setCell] using h.size,fun i hi hne=>(Below.heap_setCell w' p u i (by
  rintro rfl
  rcases hp with hp | hp
  ·exact hne hp
  ·omega)).trans (h.block i hi hne)⟩
theorem Ext.setNew (h:Ext F w w') {b:Nat} (hb:w.heap.size ≤ b) (o:Nat) (u:Value):Ext F w (w'.setCell ⟨b,o,none⟩ u):=h.setCell (.inr hb) u
theorem Ext.setF (h:Ext F w w') {b:Nat} (hb:F b) (o:Nat) (u:Value):Ext F w (w'.setCell ⟨b,o,none⟩ u):=h.setCell (.inl hb) u
theorem Ext.trans (h:Ext F w w1) (h':Ext G w1 w') (hG:∀ i,i < w.heap.size → G i → F i):Ext F w w' :=
 ⟨h'.os.trans h.os,h'.tape.trans h.tape,h'.output.trans h.output,Nat.le_trans h.size h'.size,
  fun i hi hne=>(h'.block i (Nat.lt_of_lt_of_le hi h.size) (fun hg=>hne (hG i hi hg))).trans (h.block i hi hne)⟩
theorem Ext.trans_ (h:Ext F w w1) (h':Ext F w1 w'):Ext F w w':=h.trans h' fun _ _ h=>h
theorem Ext.mono (h:Ext F w w') (hG:∀ i,i < w.heap.size → F i → G i):Ext G w w' :=
 ⟨h.os,h.tape,h.output,h.size,fun i hi hne=>h.block i hi (fun hf=>hne (hG i hi hf))⟩
theorem Ext.of_no (h:Ext No w w'):Ext F w w':=h.mono fun _ _ h=>h.elim
theorem Ext.below (h:Ext No w w'):Below w.heap.size w w':=⟨h.os,h.tape,h.output,h.size,fun i hi=>h.block i hi (fun h=>h)⟩
theorem Ext.of_below (h:Below w.heap.size w w') (F:Nat → Prop):Ext F w w':=⟨h.os,h.tape,h.output,h.size,fun i hi _=>h.block i hi⟩
end
theorem ret_int {k:IntKind} {a b:Int} (h:a = b):Ending.returned (.int k a) = .returned (.int k b):=by rw [h]
theorem ret_bool {a b:Bool} (h:a = b):Ending.returned (.bool a) = .returned (.bool b):=by rw [h]
theorem cell_ext {F:Nat → Prop} {w w':World} (h:Ext F w w') {g i:Nat} {u:Value} (hc:w.cell? ⟨g,i,none⟩ = some u) (hg:¬ F g):w'.cell? ⟨g,i,none⟩ = some u:=by
 have hlt:=World.block_lt_of_cell? w _ hc
 rw [← hc]
 exact World.cell?_of_block (h.block g hlt hg)
structure Leaf where
 kind:Nat
 body:List UInt8
def Leaf.val (p:Leaf):Value:=.agg #[.int .i64 (p.kind:Int),.string (str p.body)]
structure V where
 r:Nat → Nat
 high:Nat
 free:Nat
 cnt:Nat
 pg:Nat → Leaf
 marked:Bool
 spoilt:Bool
structure Sys where
 d:Nat
 x:Nat
 t:Nat
 m:Nat
 ka:Addr
 nsec:Nat
 log:Nat
 db:World → Prop
 bh:Nat
 base:Nat → Leaf
 img:Nat → ByteArray
def Sys.F (s:Sys):Nat → Prop:=fun b=>b = s.t ∨ b = s.m
def Sys.cap (s:Sys):Nat:=(s.nsec - s.log) / 8
def Stamps (es:Array MapEntry) (c:Nat):Prop:=(∀ e ∈ es.toList,e.born < c) ∧ (es.toList.map (·.born)).Nodup
def entOk (es:Array MapEntry) (ov:List (Nat × Leaf)):Prop :=
 es.toList.map (fun e=>(e.key,e.val)) = ov.map (fun p=>(Value.int .i64 (p.1:Int),p.2.val))
structure MapAt (w:World) (m:Nat) (ov:List (Nat × Leaf)):Prop where
 nodup:(ov.map (·.1)).Nodup
 obj:∃ es c,w.heap[m]? = some (.map es c) ∧ entOk es ov ∧ Stamps es c
structure Sys.Ok (s:Sys):Prop where
 keep:∀ w w',Ext s.F w w' → s.db w → s.db w'
 x0:∀ w,s.db w → w.cell? ⟨s.x,0,none⟩ = some (.pointer (some ⟨s.d,0,none⟩))
 x2:∀ w,s.db w → w.cell? ⟨s.x,2,none⟩ = some (.int .i64 (s.log:Int))
 x10:∀ w,s.db w → w.cell? ⟨s.x,10,none⟩ = some (.pointer (some ⟨s.t,0,none⟩))
 x11:∀ w,s.db w → w.cell? ⟨s.x,11,none⟩ = some (.bool false)
 d0:∀ w,s.db w → w.cell? ⟨s.d,0,none⟩ = some (.slice (some s.ka) s.nsec s.nsec)
 d2:∀ w,s.db w → w.cell? ⟨s.d,2,none⟩ = some (.bool false)
 tx:s.t ≠ s.x
 td:s.t ≠ s.d
 n1:1 ≤ s.nsec
 n2:s.nsec ≤ 65536
 ll:s.log ≤ s.nsec
 img:∀ w (id:Nat),s.db w → 1 ≤ id → id < s.bh →
  Calls Tryz.prog 83 #[.pointer (some ⟨s.x,0,none⟩),.int .i64 (id:Int)] w (fun e w'=>e = .returned (.tuple #[.string (s.img id),.int .i64 0]) ∧ Ext No w w')
 opn:∀ w (id:Nat),s.db w → 1 ≤ id → id < s.bh →
  Calls Tryz.prog 85 #[.int .i64 (id:Int),.string (s.img id)] w (fun e w'=>e = .returned (.tuple #[.int .i64 ((s.base id).kind:Int),.string (str (s.base id).body),.int .i64 0]) ∧ Ext No w w')
def V.cells (v:V) (s:Sys):Array Value:=#[.pointer (some ⟨s.x,0,none⟩),.int .i64 (v.r 0:Int),.int .i64 (v.r 1:Int),.int .i64 (v.r 2:Int),.int .i64 (v.r 3:Int),
 .int .i64 (v.high:Int),.int .i64 (v.free:Int),.int .i64 (v.cnt:Int),.map (some s.m),.bool v.marked,.bool v.spoilt]
structure TxAt (w:World) (s:Sys) (v:V):Prop where
 tx:Blk w s.t 111 (v.cells s)
 db:s.db w
 h1:1 ≤ v.high
 h2:v.high ≤ s.cap
 hb:s.bh ≤ v.high
 hc:v.cnt ≤ v.high
 mp:∃ ov,MapAt w s.m ov ∧ (∀ i p,(i,p) ∈ ov → 1 ≤ i ∧ i < v.high) ∧ (∀ i,1 ≤ i → i < v.high → (i ∈ ov.map (·.1) ∨ i < s.bh) ∧ v.pg i = (ov.lookup i).getD (s.base i))
theorem MapAt.ext {F:Nat → Prop} {w w':World} {m:Nat} {ov:List (Nat × Leaf)} (h:MapAt w m ov) (he:Ext F w w') (hm:¬ F m):MapAt w' m ov:=by
 obtain ⟨hn,es,c,ho,he'⟩:=h
 refine ⟨hn,es,c,?_,he'⟩
 have hlt:m < w.heap.size:=by
  rcases Nat.lt_or_ge m w.heap.size with hlt | hge
  ·exact hlt
  ·rw [Array.getElem?_eq_none hge] at ho;cases ho
 exact (he.block m hlt hm).trans ho
theorem MapAt.ne {w:World} {m g:Nat} {ov:List (Nat × Leaf)} {t:TypeId} {cs:Array Value} (h:MapAt w m ov) (hb:Blk w g t cs):g ≠ m:=by
 rintro rfl
 obtain ⟨_,es,c,ho,_⟩:=h
 unfold Blk at hb
 rw [ho] at hb
 cases hb
theorem TxAt.no {w w':World} {s:Sys} {v:V} (h:TxAt w s v) (hs:s.Ok) (he:Ext No w w'):TxAt w' s v:=by
 obtain ⟨ov,hm,h1,h2⟩:=h.mp
 exact ⟨h.tx.ext he (fun h=>h),hs.keep _ _ he.of_no h.db,h.h1,h.h2,h.hb,h.hc,ov,hm.ext he (fun h=>h),h1,h2⟩
theorem neq_tx_same (a:Addr) (w:World):(binOp .neq 25 (.pointer (some a)) (.pointer (some a))).run Tryz.prog w = .ok (.bool false) w:=by
 obtain ⟨j,hj⟩:∃ j,Tryz.prog.info? 111 = some j:=by
  have h:(Tryz.prog.info? 111).isSome = true:=by kernel_rfl
  exact Option.isSome_iff_exists.1 h
 exact Lib.run_neq_ptr_same w a Tryz.underlying25 hj
theorem dnone_no (d n:Nat) (ka:Addr) (w:World) (c0:w.cell? ⟨d,0,none⟩ = some (.slice (some ka) n n)) (hn:1 ≤ n) :
  Calls Tryz.prog 79 #[.pointer (some ⟨d,0,none⟩)] w fun e w'=>e = .returned (.bool false) ∧ w = w':=by
 obtain ⟨n,rfl⟩:∃ k,n = k + 1:=⟨n - 1,by omega⟩
 go_enter Tryz.func79,Tryz.ntmps79
 go_wp2
 go_ret
 exact ⟨rfl,rfl⟩
theorem ddown_any (d n:Nat) (ka:Addr) (w:World) (b:Bool) (c0:w.cell? ⟨d,0,none⟩ = some (.slice (some ka) n n)) (hn:1 ≤ n)
 (c2:w.cell? ⟨d,2,none⟩ = some (.bool b)) :
  Calls Tryz.prog 40 #[.pointer (some ⟨d,0,none⟩)] w fun e w'=>e = .returned (.bool b) ∧ w = w':=by
 go_enter Tryz.func40,Tryz.ntmps40
 go_wp2_with (go_at_call 79;refine (dnone_no d n ka _ c0 hn).mono ?_;rintro e w' ⟨rfl,rfl⟩)
 go_ret
 exact ⟨rfl,rfl⟩
theorem dsize_any (d n:Nat) (ka:Addr) (w:World) (c0:w.cell? ⟨d,0,none⟩ = some (.slice (some ka) n n)) (hn:1 ≤ n) :
  Calls Tryz.prog 93 #[.pointer (some ⟨d,0,none⟩)] w fun e w'=>e = .returned (.int .i64 n) ∧ w = w':=by
 go_enter Tryz.func93,Tryz.ntmps93
 go_wp2_with (go_at_call 79;refine (dnone_no d n ka _ c0 hn).mono ?_;rintro e w' ⟨rfl,rfl⟩)
 go_ret
 exact ⟨rfl,rfl⟩
theorem xnone_no (x d:Nat) (w:World) (c0:w.cell? ⟨x,0,none⟩ = some (.pointer (some ⟨d,0,none⟩))) :
  Calls Tryz.prog 76 #[.pointer (some ⟨x,0,none⟩)] w fun e w'=>e = .returned (.bool false) ∧ w = w':=by
 go_enter Tryz.func76,Tryz.ntmps76
 go_wp2
 go_ret
 exact ⟨rfl,rfl⟩
theorem xup_any (x d n:Nat) (ka:Addr) (w:World) (b lost:Bool) (c0:w.cell? ⟨d,0,none⟩ = some (.slice (some ka) n n)) (hn:1 ≤ n)
 (c2:w.cell? ⟨d,2,none⟩ = some (.bool b)) (x0:w.cell? ⟨x,0,none⟩ = some (.pointer (some ⟨d,0,none⟩))) (x11:w.cell? ⟨x,11,none⟩ = some (.bool lost)) :
  Calls Tryz.prog 74 #[.pointer (some ⟨x,0,none⟩)] w fun e w'=>e = .returned (.int .i64 (if lost || b then 10 else 0)) ∧ w = w':=by
 cases lost
 ·cases b
  all_goals
  go_enter Tryz.func74,Tryz.ntmps74
  go_wp2_with (first | (go_at_call 76;refine (xnone_no x d _ x0).mono ?_;rintro e w' ⟨rfl,rfl⟩) | (go_at_call 40;refine (ddown_any d n ka _ _ c0 hn c2).mono ?_;rintro e w' ⟨rfl,rfl⟩))
  go_ret
  exact ⟨rfl,rfl⟩
 ·go_enter Tryz.func74,Tryz.ntmps74
  go_wp2_with (first | (go_at_call 76;refine (xnone_no x d _ x0).mono ?_;rintro e w' ⟨rfl,rfl⟩) | (go_at_call 40;refine (ddown_any d n ka _ _ c0 hn c2).mono ?_;rintro e w' ⟨rfl,rfl⟩))
  go_ret
  exact ⟨rfl,rfl⟩
theorem txup (s:Sys) (hs:s.Ok) (w:World) (hd:s.db w) (t0:w.cell? ⟨s.t,0,none⟩ = some (.pointer (some ⟨s.x,0,none⟩))) :
  Calls Tryz.prog 53 #[.pointer (some ⟨s.t,0,none⟩)] w fun e w'=>e = .returned (.int .i64 0) ∧ w = w':=by
 have k:=fun w=>neq_tx_same ⟨s.t,0,none⟩ w
 have x10:=hs.x10 w hd
 go_enter Tryz.func53,Tryz.ntmps53
 go_wp2_with (go_at_call 74;refine (xup_any s.x s.d s.nsec s.ka _ false false (hs.d0 _ hd) hs.n1 (hs.d2 _ hd) (hs.x0 _ hd) (hs.x11 _ hd)).mono ?_;rintro e w' ⟨rfl,rfl⟩)
 go_ret
 exact ⟨rfl,rfl⟩
theorem xcount (s:Sys) (hs:s.Ok) (w:World) (hd:s.db w) :
  Calls Tryz.prog 56 #[.pointer (some ⟨s.x,0,none⟩)] w fun e w'=>e = .returned (.int .i64 (s.cap:Int)) ∧ ∃ k,w' = w.drewN k:=by
 have x0:=hs.x0 w hd
 have x2:=hs.x2 w hd
 have n2:=hs.n2
 have ll:=hs.ll
 go_enter Tryz.func56,Tryz.ntmps56
 go_wp2_with (go_at_call 76;refine (xnone_no s.x s.d _ x0).mono ?_;rintro e w' ⟨rfl,rfl⟩)
 go_quiet ((go_at_call 93;exact Calls.quiet_of_same ((dsize_any s.d s.nsec s.ka _ (by exact hs.d0 w hd) hs.n1).mono fun _ _ ⟨h1,h2⟩=>⟨h1,h2.symm⟩)))
 go_wp2
 go_ret
 exact ⟨ret_int (by unfold Sys.cap;omega),_,rfl⟩
def setOv (ov:List (Nat × Leaf)) (id:Nat) (p:Leaf):List (Nat × Leaf) :=
 if id ∈ ov.map (·.1) then ov.map (fun q=>if q.1 = id then (id,p) else q) else ov ++ [(id,p)]
theorem setOv_keys (ov:List (Nat × Leaf)) (id:Nat) (p:Leaf):(setOv ov id p).map (·.1) = if id ∈ ov.map (·.1) then ov.map (·.1) else ov.map (·.1) ++ [id]:=by
 unfold setOv
 split
 ·rw [List.map_map]
  apply List.map_congr_left
  intro q _
  simp only [Function.comp]
  split
  ·rename_i h;exact h.symm
  ·rfl
 ·simp
theorem setOv_nodup {ov:List (Nat × Leaf)} (h:(ov.map (·.1)).Nodup) (id:Nat) (p:Leaf):((setOv ov id p).map (·.1)).Nodup:=by
 rw [setOv_keys]
 split
 ·exact h
 ·rename_i hn
  rw [List.nodup_append]
  refine ⟨h,by simp,?_⟩
  intro a ha b hb e
  simp at hb
  subst hb;subst e
  exact hn ha
theorem lookup_none_iff (ov:List (Nat × Leaf)) (id:Nat):ov.lookup id = none ↔ id ∉ ov.map (·.1):=by
 induction ov with
 | nil=>simp
 | cons q l ih =>
  obtain ⟨a,b⟩:=q
  simp only [List.lookup_cons,List.map_cons,List.mem_cons]
  by_cases h:id = a
  ·subst h;simp
  ·have:(id == a) = false:=by simpa using h
   simp [this,h,ih]
theorem lookup_map_set (ov:List (Nat × Leaf)) (id:Nat) (p:Leaf) (j:Nat) :
  (ov.map (fun q=>if q.1 = id then (id,p) else q)).lookup j = if j = id then (if id ∈ ov.map (·.1) then some p else none) else ov.lookup j:=by
 induction ov with
 | nil=>simp
 | cons q l ih =>
  obtain ⟨a,b⟩:=q
  simp only [List.map_cons,List.lookup_cons,List.mem_cons]
  by_cases h:a = id
  ·subst h
   by_cases hj:j = a
   ·subst hj;simp
   ·have:(j == a) = false:=by simpa using hj
    rw [if_pos rfl,List.lookup_cons,this,ih];simp [hj]
  ·by_cases hj:j = id
   ·subst hj
    have:(j == a) = false:=by simpa using (Ne.symm h)
    have h':¬ j = a:=Ne.symm h
    rw [if_neg h,List.lookup_cons,this,ih];simp only [List.map_cons,List.mem_cons,h',false_or,if_true]
   ·rw [if_neg h,List.lookup_cons,ih]
    cases hja:(j == a) <;> simp [hj]
theorem setOv_lookup (ov:List (Nat × Leaf)) (id:Nat) (p:Leaf) (j:Nat):(setOv ov id p).lookup j = if j = id then some p else ov.lookup j:=by
 unfold setOv
 split
 ·rename_i h
  rw [lookup_map_set,if_pos h]
 ·rename_i h
  rw [List.lookup_append]
  by_cases hj:j = id
  ·subst hj
   rw [(lookup_none_iff ov j).2 h]
   simp
  ·have:(j == id) = false:=by simpa using hj
   simp [hj,List.lookup_cons,this]
theorem setOv_mem {ov:List (Nat × Leaf)} {id:Nat} {p:Leaf} {q:Nat × Leaf} (h:q ∈ setOv ov id p):q.1 = id ∨ q ∈ ov:=by
 unfold setOv at h
 split at h
 ·obtain ⟨r,hr,he⟩:=List.mem_map.1 h
  split at he
  ·exact .inl (by rw [← he])
  ·exact .inr (he ▸ hr)
 ·rcases List.mem_append.1 h with h | h
  ·exact .inr h
  ·simp at h;exact .inl (by rw [h])
theorem findNow_spec (q:IntKind) (id:Nat) (ov:List (Nat × Leaf)):∀ (es:List MapEntry) (i:Nat),es.map (fun e=>(e.key,e.val)) = ov.map (fun p=>(Value.int .i64 (p.1:Int),p.2.val)) →
  (ov.lookup id = none → Instr.findNow (.int q) (.int .i64 (id:Int)) es i = some none) ∧
  (∀ p,ov.lookup id = some p → ∃ j,Instr.findNow (.int q) (.int .i64 (id:Int)) es i = some (some (i + j,p.val)) ∧ (es[j]?).map (·.key) = some (.int .i64 (id:Int)) ∧
   ((ov.map (·.1)).Nodup → ∀ (k:Nat) (r:Nat × Leaf),ov[k]? = some r → (r.1 = id ↔ k = j))):=by
 induction ov with
 | nil =>
  intro es i h
  have:es = []:=by simpa using h
  subst this
  exact ⟨fun _=>rfl,fun p hp=>by simp at hp⟩
 | cons r ov ih =>
  intro es i h
  obtain ⟨a,b⟩:=r
  match es,h with
  | [],h=>simp at h
  | e :: es,h =>
   simp only [List.map_cons,List.cons.injEq,Prod.mk.injEq] at h
   obtain ⟨⟨hk,hv⟩,ht⟩:=h
   obtain ⟨ih1,ih2⟩:=ih es (i + 1) ht
   by_cases hid:id = a
   ·subst hid
    refine ⟨fun hn=>by simp at hn,fun p hp=>?_⟩
    have hbp:b = p:=by simpa using hp
    subst hbp
    refine ⟨0,?_,by simp [hk],?_⟩
    ·simp [Instr.findNow,hk,Instr.sameNow,hv]
    ·intro hnd k r hr
     match k with
     | 0=>simp at hr;simp [← hr]
     | k + 1 =>
      simp only [List.getElem?_cons_succ] at hr
      simp only [List.map_cons,List.nodup_cons] at hnd
      constructor
      ·intro e1
       exact absurd (List.mem_map.2 ⟨r,List.mem_of_getElem? hr,e1⟩) hnd.1
      ·intro e1;omega
   ·have hne:((id:Int) == (a:Int)) = false:=by simpa using (by omega:¬ (id:Int) = (a:Int))
    have hne':(id == a) = false:=by simpa using hid
    refine ⟨fun hn=>?_,fun p hp=>?_⟩
    ·have:ov.lookup id = none:=by simpa [List.lookup_cons,hne'] using hn
     simp [Instr.findNow,hk,Instr.sameNow,hne,ih1 this]
    ·have hp':ov.lookup id = some p:=by simpa [List.lookup_cons,hne'] using hp
     obtain ⟨j,h1,h2,h3⟩:=ih2 p hp'
     refine ⟨j + 1,?_,by simpa using h2,?_⟩
     ·simp [Instr.findNow,hk,Instr.sameNow,hne,h1,Nat.add_assoc,Nat.add_comm 1 j]
     ·intro hnd k r hr
      simp only [List.map_cons,List.nodup_cons] at hnd
      match k with
      | 0 =>
       simp at hr
       constructor
       ·intro e1;rw [← hr] at e1;exact absurd e1.symm hid
       ·intro e1;omega
      | k + 1 =>
       simp only [List.getElem?_cons_succ] at hr
       rw [h3 hnd.2 k r hr]
       omega
theorem chk_int (b:Bool) (i:Int) (w:World):(Instr.checkKey b 10000 3 (.int .i64 i)).run Tryz.prog w = .ok () w:=MapKept.run_checkKey (k:=.int .i64 i) Tryz.underlying3 (by simp [MapKept.IsKey]) b 9999
theorem run_look_hit {w:World} {m:Nat} {ov:List (Nat × Leaf)} (h:MapAt w m ov) {id:Nat} {p:Leaf} (hp:ov.lookup id = some p) :
  (Instr.lookup 109 (.map (some m)) (.int .i64 (id:Int)) true).run Tryz.prog w = .ok (.tuple #[p.val,.bool true]) w:=by
 obtain ⟨_,es,c,ho,he⟩:=h
 obtain ⟨j,h1,_,_⟩:=(findNow_spec .i64 id ov es.toList 0 he.1).2 p hp
 simp [Instr.lookup,run_underlying Tryz.underlying109,MapKept.run_getObj_map ho,chk_int,MapKept.run_findKey Tryz.underlying3 h1,Result.andThen]
theorem run_look_miss {w:World} {m:Nat} {ov:List (Nat × Leaf)} (h:MapAt w m ov) {id:Nat} (hp:ov.lookup id = none) :
  (Instr.lookup 109 (.map (some m)) (.int .i64 (id:Int)) true).run Tryz.prog w = .ok (.tuple #[.agg #[.int .i64 0,.string (str [])],.bool false]) w:=by
 obtain ⟨_,es,c,ho,he⟩:=h
 have h1:=(findNow_spec .i64 id ov es.toList 0 he.1).1 hp
 have hz:(zeroValue 113).run Tryz.prog w = .ok (.agg #[.int .i64 0,.string (str [])]) w:=by kernel_rfl
 simp [Instr.lookup,run_underlying Tryz.underlying109,MapKept.run_getObj_map ho,chk_int,MapKept.run_findKey Tryz.underlying3 h1,hz,Result.andThen]
theorem stamps_modify {es:Array MapEntry} {c:Nat} (h:Stamps es c) (j:Nat) (k v:Value):Stamps (es.modify j fun e=>{ e with key:=k,val:=v }) c:=by
 have e:(es.modify j fun e=>{ e with key:=k,val:=v }).toList.map (·.born) = es.toList.map (·.born):=by
  apply List.ext_getElem?
  intro i
  simp only [List.getElem?_map,Array.getElem?_toList,Array.getElem?_modify]
  by_cases hi:j = i
  ·subst hi
   cases es[j]? <;> simp
  ·simp [hi]
 refine ⟨fun x hx=>?_,by rw [e];exact h.2⟩
 have h1:x.born ∈ (es.modify j fun e=>{ e with key:=k,val:=v }).toList.map (·.born):=List.mem_map.2 ⟨x,hx,rfl⟩
 rw [e] at h1
 obtain ⟨y,hy,e2⟩:=List.mem_map.1 h1
 rw [← e2];exact h.1 y hy
theorem stamps_push {es:Array MapEntry} {c:Nat} (h:Stamps es c) (k v:Value):Stamps (es.push { key:=k,val:=v,born:=c }) (c + 1):=by
 refine ⟨fun x hx=>?_,?_⟩
 ·rw [Array.toList_push] at hx
  rcases List.mem_append.1 hx with hx | hx
  ·have:=h.1 x hx;omega
  ·have:=List.mem_singleton.1 hx
   subst this
   exact Nat.lt_succ_self c
 ·rw [Array.toList_push,List.map_append]
  refine List.nodup_append.2 ⟨h.2,by simp,?_⟩
  intro a ha b hb e
  obtain ⟨y,hy,e2⟩:=List.mem_map.1 ha
  have hb':b = c:=by simpa using hb
  have:=h.1 y hy
  omega
theorem run_mapset {w:World} {m:Nat} {ov:List (Nat × Leaf)} (h:MapAt w m ov) (id:Nat) (p:Leaf) :
  ∃ w',(Instr.mapUpdate 109 (.map (some m)) (.int .i64 (id:Int)) p.val).run Tryz.prog w = .ok () w' ∧ MapAt w' m (setOv ov id p) ∧ Ext (fun b=>b = m) w w' ∧ w'.heap.size = w.heap.size:=by
 obtain ⟨hnd,es,c,ho,he,hst⟩:=h
 have hm:m < w.heap.size:=by
  rcases Nat.lt_or_ge m w.heap.size with hlt | hge
  ·exact hlt
  ·rw [Array.getElem?_eq_none hge] at ho;cases ho
 have ext:∀ o,Ext (fun b=>b = m) w { w with heap:=w.heap.setIfInBounds m o }:=fun o=>⟨rfl,rfl,rfl,by simp,fun i hi hne=>by
  simp only [Array.getElem?_setIfInBounds]
  rw [if_neg (fun e=>hne e.symm)]⟩
 cases hl:ov.lookup id with
 | some q =>
  obtain ⟨j,h1,h2,h3⟩:=(findNow_spec .i64 id ov es.toList 0 he).2 q hl
  have hj:es[j]?.map (·.key) = some (.int .i64 (id:Int)):=by simpa using h2
  refine ⟨{ w with heap:=w.heap.setIfInBounds m (.map (es.modify j fun e=>{ e with key:=.int .i64 (id:Int),val:=p.val }) c) },?_,?_,ext _,by simp⟩
  ·simp only [Nat.zero_add] at h1
   simp [Instr.mapUpdate,run_underlying Tryz.underlying109,MapKept.run_getObj_map ho,MapKept.run_setObj_map _ ho,chk_int,MapKept.run_findKey Tryz.underlying3 h1,Instr.keyThatStays,hj,Instr.sameBits,Result.andThen]
  ·refine ⟨setOv_nodup hnd _ _,_,c,by simp only [Array.getElem?_setIfInBounds,if_pos rfl,hm,if_true];rfl,?_,stamps_modify hst j _ _⟩
   unfold entOk at he ⊢
   have hmem:id ∈ ov.map (·.1):=by
    rcases Classical.em (id ∈ ov.map (·.1)) with h | h
    ·exact h
    ·rw [(lookup_none_iff ov id).2 h] at hl;cases hl
   rw [setOv,if_pos hmem]
   apply List.ext_getElem?
   intro k
   have hk:(es.toList.map (fun e=>(e.key,e.val)))[k]? = (ov.map (fun p=>(Value.int .i64 (p.1:Int),p.2.val)))[k]?:=by rw [he]
   simp only [List.getElem?_map,Array.getElem?_toList,Array.getElem?_modify] at hk ⊢
   cases ho':ov[k]? with
   | none =>
    rw [ho'] at hk
    cases hes:es[k]? with
    | none=>simp
    | some e=>rw [hes] at hk;simp at hk
   | some r =>
    rw [ho'] at hk
    cases hes:es[k]? with
    | none=>rw [hes] at hk;simp at hk
    | some e =>
     rw [hes] at hk
     simp only [Option.map_some,Option.some.injEq,Prod.mk.injEq] at hk
     have hiff:=h3 hnd k r ho'
     by_cases hkj:j = k
     ·subst hkj
      have hr:r.1 = id:=hiff.2 rfl
      simp [hr]
     ·have hr:¬ r.1 = id:=fun e=>hkj (hiff.1 e).symm
      simp [hkj,hr,hk]
 | none =>
  have h1:=(findNow_spec .i64 id ov es.toList 0 he).1 hl
  refine ⟨{ w with heap:=w.heap.setIfInBounds m (.map (es.push { key:=.int .i64 (id:Int),val:=p.val,born:=c }) (c + 1)) },?_,?_,ext _,by simp⟩
  ·simp [Instr.mapUpdate,run_underlying Tryz.underlying109,MapKept.run_getObj_map ho,MapKept.run_setObj_map _ ho,chk_int,MapKept.run_findKey Tryz.underlying3 h1,Result.andThen]
  ·refine ⟨setOv_nodup hnd _ _,_,c + 1,by simp only [Array.getElem?_setIfInBounds,if_pos rfl,hm,if_true];rfl,?_,stamps_push hst _ _⟩
   unfold entOk at he ⊢
   have hmem:¬ id ∈ ov.map (·.1):=(lookup_none_iff ov id).1 hl
   rw [setOv,if_neg hmem]
   simp [he]
open Classical in
noncomputable def mset (w:World) (m:Nat) (id:Nat) (p:Leaf):World :=
 if h:∃ w',(Instr.mapUpdate 109 (.map (some m)) (.int .i64 (id:Int)) p.val).run Tryz.prog w = .ok () w' ∧ Ext (fun b=>b = m) w w' ∧ w'.heap.size = w.heap.size then Classical.choose h else w
theorem mset_ext (w:World) (m id:Nat) (p:Leaf):Ext (fun b=>b = m) w (mset w m id p):=by
 unfold mset
 split
 ·rename_i h;exact (Classical.choose_spec h).2.1
 ·exact Ext.refl _ _
theorem mset_size (w:World) (m id:Nat) (p:Leaf):(mset w m id p).heap.size = w.heap.size:=by
 unfold mset
 split
 ·rename_i h;exact (Classical.choose_spec h).2.2
 ·rfl
theorem mset_heap (w:World) (m id:Nat) (p:Leaf) (g:Nat) (hg:g ≠ m):(mset w m id p).heap[g]? = w.heap[g]?:=by
 rcases Nat.lt_or_ge g w.heap.size with h | h
 ·exact (mset_ext w m id p).block g h hg
 ·rw [Array.getElem?_eq_none h,Array.getElem?_eq_none (by rw [mset_size];exact h)]
theorem mset_cell (w:World) (m id:Nat) (p:Leaf) (g i:Nat) (hg:g ≠ m):(mset w m id p).cell? ⟨g,i,none⟩ = w.cell? ⟨g,i,none⟩:=World.cell?_of_block (mset_heap w m id p g hg)
theorem mset_frozen (w:World) (m id:Nat) (p:Leaf) (g i:Nat) (hg:g ≠ m):(mset w m id p).frozen? ⟨g,i,none⟩ = w.frozen? ⟨g,i,none⟩:=by
 unfold World.frozen?
 simp only [mset_heap w m id p g hg]
theorem mset_run {w:World} {m:Nat} {ov:List (Nat × Leaf)} (h:MapAt w m ov) (id:Nat) (p:Leaf) :
  (Instr.mapUpdate 109 (.map (some m)) (.int .i64 (id:Int)) p.val).run Tryz.prog w = .ok () (mset w m id p) ∧ MapAt (mset w m id p) m (setOv ov id p):=by
 obtain ⟨w',h1,h2,h3,h4⟩:=run_mapset h id p
 have hx:∃ w',(Instr.mapUpdate 109 (.map (some m)) (.int .i64 (id:Int)) p.val).run Tryz.prog w = .ok () w' ∧ Ext (fun b=>b = m) w w' ∧ w'.heap.size = w.heap.size:=⟨w',h1,h3,h4⟩
 have hs:=Classical.choose_spec hx
 have e:mset w m id p = Classical.choose hx:=by unfold mset;rw [dif_pos hx]
 rw [e]
 refine ⟨hs.1,?_⟩
 have:w' = Classical.choose hx:=by
  have:=h1.symm.trans hs.1
  injection this
 rw [← this]
 exact h2
end Go.Proofs.YtccnemmlkcmceaaGreatDoor
namespace Go.Proofs.YtccnemmlkcmceaaGreatDoor
open Go.RowKit Go.Maps Go.Sort Go.Shelf
def Tryz.keysA_ren:Go.Shelf.Ren:=⟨fun | 7=>108 | 10=>157 | n=>n,fun | 23=>132 | 26=>3 | 3=>9 | 28=>176 | 0=>0 | 27=>175 | 33=>195 | 4=>4 | n=>n,fun | n=>n⟩
theorem Tryz.keysA:Go.Proofs.SlLaysZI.n7 Tryz.prog Tryz.keysA_ren:={
 mixed:=by kernel_rfl
 f7:=⟨Tryz.f108.name,by decide,Tryz.func108.trans (congrArg some (by kernel_rfl))⟩
 f10:=⟨Tryz.f157.name,by decide,Tryz.func157.trans (congrArg some (by kernel_rfl))⟩
 t0:=Tryz.underlying0
 a0:=Tryz.isAgg0
 z0:=Tryz.sizeOf0
 v0:=Tryz.zeroValue0
 t4:=Tryz.underlying4
 a4:=Tryz.isAgg4
 z4:=Tryz.sizeOf4
 v4:=Tryz.zeroValue4
 t23:=Tryz.underlying132
 a23:=Tryz.isAgg132
 z23:=Tryz.sizeOf132
 v23:=Tryz.zeroValue132
 t26:=Tryz.underlying3
 a26:=Tryz.isAgg3
 z26:=Tryz.sizeOf3
 v26:=Tryz.zeroValue3
 t27:=Tryz.underlying175
 a27:=Tryz.isAgg175
 z27:=Tryz.sizeOf175
 v27:=Tryz.zeroValue175
 t28:=Tryz.underlying176
 a28:=Tryz.isAgg176
 z28:=Tryz.sizeOf176
 v28:=Tryz.zeroValue176
 t33:=Tryz.underlying195
 a33:=Tryz.isAgg195
 z33:=Tryz.sizeOf195
 v33:=Tryz.zeroValue195 }
def Tryz.sortedA_ren:Go.Shelf.Ren:=⟨fun | 6=>107 | 8=>155 | 9=>156 | 11=>189 | 13=>191 | 12=>190 | 23=>217 | 24=>218 | 14=>208 | 15=>209 | 16=>210 | 17=>211 | 18=>212 | 19=>213 | 20=>214 | 21=>215 | 22=>216 | 25=>226 | 26=>227 | 27=>228 | 28=>229 | 29=>230 | 30=>231 | 31=>236 | n=>n,fun | 26=>3 | 28=>176 | 24=>35 | 0=>0 | 3=>3 | 37=>158 | 48=>192 | 50=>185 | 4=>4 | 40=>265 | 39=>264 | 45=>163 | 5=>5 | 9=>9 | 51=>278 | 55=>282 | 57=>290 | 58=>291 | 33=>195 | n=>n,fun | n=>n⟩
theorem Tryz.sortedA:Go.Proofs.SlLaysZI.n6 Tryz.prog Tryz.sortedA_ren:={
 mixed:=by kernel_rfl
 f6:=⟨Tryz.f107.name,by decide,Tryz.func107.trans (congrArg some (by kernel_rfl))⟩
 f8:=⟨Tryz.f155.name,by decide,Tryz.func155.trans (congrArg some (by kernel_rfl))⟩
 f11:=⟨Tryz.f189.name,by decide,Tryz.func189.trans (congrArg some (by kernel_rfl))⟩
 t0:=Tryz.underlying0
 a0:=Tryz.isAgg0
 z0:=Tryz.sizeOf0
 v0:=Tryz.zeroValue0
 t24:=Tryz.underlying35
 a24:=Tryz.isAgg35
 z24:=Tryz.sizeOf35
 v24:=Tryz.zeroValue35
 t26:=Tryz.underlying3
 a26:=Tryz.isAgg3
 z26:=Tryz.sizeOf3
 v26:=Tryz.zeroValue3
 t28:=Tryz.underlying176
 a28:=Tryz.isAgg176
 z28:=Tryz.sizeOf176
 v28:=Tryz.zeroValue176
 i26:=by kernel_rfl }
def Tryz.sortA_ren:Go.Shelf.Ren:=⟨fun | 5=>156 | 8=>191 | 7=>190 | 19=>217 | 20=>218 | 10=>208 | 11=>209 | 12=>210 | 13=>211 | 14=>212 | 15=>213 | 16=>214 | 17=>215 | 18=>216 | 30=>226 | 31=>227 | 32=>228 | 33=>229 | 34=>230 | 35=>231 | 40=>236 | n=>n,fun | 23=>35 | 25=>3 | 3=>3 | 32=>158 | 22=>35 | 0=>0 | 44=>192 | 46=>185 | 4=>4 | 36=>265 | 35=>264 | 41=>163 | 5=>5 | 9=>9 | 53=>278 | 57=>282 | 63=>290 | 64=>291 | n=>n,fun | n=>n⟩
theorem Tryz.sortA:Go.Proofs.SlLaysM.n5 Tryz.prog Tryz.sortA_ren:={
 mixed:=by kernel_rfl
 f5:=⟨Tryz.f156.name,by decide,Tryz.func156.trans (congrArg some (by kernel_rfl))⟩
 f7:=⟨Tryz.f190.name,by decide,Tryz.func190.trans (congrArg some (by kernel_rfl))⟩
 f8:=Tryz.func191.trans (congrArg some (by kernel_rfl))
 f10:=⟨Tryz.f208.name,by decide,Tryz.func208.trans (congrArg some (by kernel_rfl))⟩
 f11:=⟨Tryz.f209.name,by decide,Tryz.func209.trans (congrArg some (by kernel_rfl))⟩
 f12:=⟨Tryz.f210.name,by decide,Tryz.func210.trans (congrArg some (by kernel_rfl))⟩
 f13:=⟨Tryz.f211.name,by decide,Tryz.func211.trans (congrArg some (by kernel_rfl))⟩
 f14:=⟨Tryz.f212.name,by decide,Tryz.func212.trans (congrArg some (by kernel_rfl))⟩
 f15:=⟨Tryz.f213.name,by decide,Tryz.func213.trans (congrArg some (by kernel_rfl))⟩
 f16:=⟨Tryz.f214.name,by decide,Tryz.func214.trans (congrArg some (by kernel_rfl))⟩
 f17:=⟨Tryz.f215.name,by decide,Tryz.func215.trans (congrArg some (by kernel_rfl))⟩
 f18:=⟨Tryz.f216.name,by decide,Tryz.func216.trans (congrArg some (by kernel_rfl))⟩
 f19:=Tryz.func217.trans (congrArg some (by kernel_rfl))
 f20:=Tryz.func218.trans (congrArg some (by kernel_rfl))
 f30:=⟨Tryz.f226.name,by decide,Tryz.func226.trans (congrArg some (by kernel_rfl))⟩
 f31:=Tryz.func227.trans (congrArg some (by kernel_rfl))
 f32:=Tryz.func228.trans (congrArg some (by kernel_rfl))
 f33:=⟨Tryz.f229.name,by decide,Tryz.func229.trans (congrArg some (by kernel_rfl))⟩
 f34:=⟨Tryz.f230.name,by decide,Tryz.func230.trans (congrArg some (by kernel_rfl))⟩
 f35:=⟨Tryz.f231.name,by decide,Tryz.func231.trans (congrArg some (by kernel_rfl))⟩
 f40:=⟨Tryz.f236.name,by decide,Tryz.func236.trans (congrArg some (by kernel_rfl))⟩
 t0:=Tryz.underlying0
 a0:=Tryz.isAgg0
 z0:=Tryz.sizeOf0
 v0:=Tryz.zeroValue0
 t3:=Tryz.underlying3
 a3:=Tryz.isAgg3
 z3:=Tryz.sizeOf3
 v3:=Tryz.zeroValue3
 t4:=Tryz.underlying4
 a4:=Tryz.isAgg4
 z4:=Tryz.sizeOf4
 v4:=Tryz.zeroValue4
 t5:=Tryz.underlying5
 a5:=Tryz.isAgg5
 z5:=Tryz.sizeOf5
 v5:=Tryz.zeroValue5
 t9:=Tryz.underlying9
 a9:=Tryz.isAgg9
 z9:=Tryz.sizeOf9
 v9:=Tryz.zeroValue9
 t22:=Tryz.underlying35
 a22:=Tryz.isAgg35
 z22:=Tryz.sizeOf35
 v22:=Tryz.zeroValue35
 t23:=Tryz.underlying35
 a23:=Tryz.isAgg35
 z23:=Tryz.sizeOf35
 v23:=Tryz.zeroValue35
 t25:=Tryz.underlying3
 a25:=Tryz.isAgg3
 z25:=Tryz.sizeOf3
 v25:=Tryz.zeroValue3
 t32:=Tryz.underlying158
 a32:=Tryz.isAgg158
 z32:=Tryz.sizeOf158
 v32:=Tryz.zeroValue158
 t35:=Tryz.underlying264
 a35:=Tryz.isAgg264
 z35:=Tryz.sizeOf264
 v35:=Tryz.zeroValue264
 t36:=Tryz.underlying265
 a36:=Tryz.isAgg265
 z36:=Tryz.sizeOf265
 v36:=Tryz.zeroValue265
 t41:=Tryz.underlying163
 a41:=Tryz.isAgg163
 z41:=Tryz.sizeOf163
 v41:=Tryz.zeroValue163
 t44:=Tryz.underlying192
 a44:=Tryz.isAgg192
 z44:=Tryz.sizeOf192
 v44:=Tryz.zeroValue192
 t46:=Tryz.underlying185
 a46:=Tryz.isAgg185
 z46:=Tryz.sizeOf185
 v46:=Tryz.zeroValue185
 t53:=Tryz.underlying278
 a53:=Tryz.isAgg278
 z53:=Tryz.sizeOf278
 v53:=Tryz.zeroValue278
 t57:=Tryz.underlying282
 a57:=Tryz.isAgg282
 z57:=Tryz.sizeOf282
 v57:=Tryz.zeroValue282
 t63:=Tryz.underlying290
 a63:=Tryz.isAgg290
 z63:=Tryz.sizeOf290
 v63:=Tryz.zeroValue290
 t64:=Tryz.underlying291
 a64:=Tryz.isAgg291
 z64:=Tryz.sizeOf291
 v64:=Tryz.zeroValue291 }
theorem Tryz.sortsA (m:Nat):AnyZI.SortsIn Tryz.prog Tryz.sortedA_ren Fence.wide m :=
 ⟨fun blk off cap ss W hH hblk hsz=>callsIn_wide.2 (AnyM.slices_Sort_int Tryz.sortA blk off cap ss W hH hblk hsz),
  fun p cap W=>callsIn_wide.2 (AnyM.slices_Sort_int_none Tryz.sortA p cap W)⟩
end Go.Proofs.YtccnemmlkcmceaaGreatDoor
namespace Go.Proofs.YtccnemmlkcmceaaGreatDoor
open Go.RowKit
def bt (s:ByteArray) (i:Nat):Nat:=(s.data.toList.getD i 0).toNat
theorem bt_lt (s:ByteArray) (i:Nat):bt s i < 256:=(s.data.toList.getD i 0).toNat_lt
theorem idx9 (s:ByteArray) (i:Nat) (h:i < s.size) (w:World):(Instr.index 9 (.string s) (.int .i64 (i:Int))).run Tryz.prog w = .ok (.int .u8 (bt s i:Int)) w:=by
 rw [run_index_string w 9 s .i64 i Tryz.underlying9,dif_pos ⟨by omega,by omega⟩]
 have h':i < s.data.size:=h
 simp [bt,List.getD,ByteArray.getElem_eq_getElem_data,Array.getElem?_eq_getElem h']
def n4 (n:Nat):List UInt8:=[UInt8.ofNat (n % 256),UInt8.ofNat (n / 256 % 256),UInt8.ofNat (n / 65536 % 256),UInt8.ofNat (n / 16777216 % 256)]
def v4 (s:ByteArray):Nat:=bt s 0 + 256 * bt s 1 + 65536 * bt s 2 + 16777216 * bt s 3
theorem v4_lt (s:ByteArray):v4 s < 4294967296:=by
 have:=bt_lt s 0;have:=bt_lt s 1;have:=bt_lt s 2;have:=bt_lt s 3
 unfold v4;omega
theorem v4_n4 (n:Nat) (hn:n < 4294967296) (l:List UInt8):v4 (str (n4 n ++ l)) = n:=by
 unfold v4 bt n4
 simp
 omega
theorem n4_len (n:Nat):(n4 n).length = 4:=rfl
theorem ofNat_lt (n:Nat) (h:n < 256):((UInt8.ofNat n).toNat:Int) = n:=by
 have:(UInt8.ofNat n).toNat = n:=by simp;omega
 rw [this]
theorem number_any (n:Nat) (hn:n < 4294967296) (w:World) :
  Calls Tryz.prog 106 #[.int .i64 (n:Int)] w fun e w'=>e = .returned (.string (str (n4 n))) ∧ Ext No w w':=by
 have kc:(convert 98 9 (.slice (some ⟨w.heap.size,0,none⟩) 4 4)).run Tryz.prog (w.alloc (.cells #[.int .u8 ((n:Int) % 256),.int .u8 ((n:Int) / 256 % 256),.int .u8 ((n:Int) / 65536 % 256),.int .u8 ((n:Int) / 16777216)] 5)) =
   .ok (.string (str (n4 n))) (w.alloc (.cells #[.int .u8 ((n:Int) % 256),.int .u8 ((n:Int) / 256 % 256),.int .u8 ((n:Int) / 65536 % 256),.int .u8 ((n:Int) / 16777216)] 5)):=by
  have:=run_convert_bytes_back (P:=Tryz.prog) (w.alloc (.cells #[.int .u8 ((n:Int) % 256),.int .u8 ((n:Int) / 256 % 256),.int .u8 ((n:Int) / 65536 % 256),.int .u8 ((n:Int) / 16777216)] 5)) 98 9 5 ⟨w.heap.size,0,none⟩ 4 (n4 n) Tryz.underlying98 Tryz.underlying5 Tryz.underlying9 (by
   intro j hj
   have hj4:j < 4:=hj
   have e0:=ofNat_lt (n % 256) (by omega)
   have e1:=ofNat_lt (n / 256 % 256) (by omega)
   have e2:=ofNat_lt (n / 65536 % 256) (by omega)
   have e3:=ofNat_lt (n / 16777216 % 256) (by omega)
   match j,hj4 with
   | 0,_=>simp only [n4,List.getElem_cons_zero,e0];simp [Addr.add]
   | 1,_=>simp only [n4,List.getElem_cons_succ,List.getElem_cons_zero,e1];simp [Addr.add]
   | 2,_=>simp only [n4,List.getElem_cons_succ,List.getElem_cons_zero,e2];simp [Addr.add]
   | 3,_=>simp only [n4,List.getElem_cons_succ,List.getElem_cons_zero,e3];simp [Addr.add];omega)
  exact this
 go_enter Tryz.func106,Tryz.ntmps106
 go_wp2
 go_ret
 exact ⟨rfl,(Ext.refl No w).alloc _⟩
theorem ofInt_i64 (a:Nat) (ha:a < 9223372036854775808):(BitVec.ofInt 64 (a:Int)).toNat = a:=by
 rw [BitVec.ofInt_natCast,BitVec.toNat_ofNat];exact Nat.mod_eq_of_lt (by omega)
theorem i64_or_nat (a b:Nat) (ha:a < 9223372036854775808) (hb:b < 9223372036854775808):bits .or .i64 (a:Int) (b:Int) = ((a ||| b:Nat):Int):=by
 have hx:a ||| b < 2 ^ 63:=Nat.or_lt_two_pow (by omega) (by omega)
 show IntKind.i64.wrap ((BitVec.ofInt 64 (a:Int) ||| BitVec.ofInt 64 (b:Int)).toNat:Int) = _
 rw [BitVec.toNat_or,ofInt_i64 a ha,ofInt_i64 b hb,IntKind.wrap_i64]
 omega
theorem or_add (a b i:Nat) (h:a < 2 ^ i):a ||| (b * 2 ^ i) = a + b * 2 ^ i:=by
 rw [Nat.or_comm,Nat.add_comm,← Nat.shiftLeft_eq,Nat.shiftLeft_add_eq_or_of_lt h]
theorem wrap_small (a:Nat) (h:a < 9223372036854775808):IntKind.i64.wrap (a:Int) = (a:Int):=by
 rw [IntKind.wrap_i64];omega
theorem wrapEq (x:Int):IntKind.i64.wrap x = wrap64 x:=by rw [IntKind.wrap_i64];unfold wrap64;rfl
theorem or4 (b0 b1 b2 b3:Nat) (h0:b0 < 256) (h1:b1 < 256) (h2:b2 < 256) (h3:b3 < 256) :
  bits .or .i64 (bits .or .i64 (bits .or .i64 (IntKind.i64.wrap (b0:Int)) (IntKind.i64.wrap (IntKind.i64.wrap (b1:Int) * 256))) (IntKind.i64.wrap (IntKind.i64.wrap (b2:Int) * 65536))) (IntKind.i64.wrap (IntKind.i64.wrap (b3:Int) * 16777216)) =
   ((b0 + 256 * b1 + 65536 * b2 + 16777216 * b3:Nat):Int):=by
 have e1:((b1:Int) * 256) = ((b1 * 2 ^ 8:Nat):Int):=by omega
 have e2:((b2:Int) * 65536) = ((b2 * 2 ^ 16:Nat):Int):=by omega
 have e3:((b3:Int) * 16777216) = ((b3 * 2 ^ 24:Nat):Int):=by omega
 rw [wrap_small b0 (by omega),wrap_small b1 (by omega),wrap_small b2 (by omega),wrap_small b3 (by omega),e1,e2,e3,wrap_small _ (by omega),wrap_small _ (by omega),wrap_small _ (by omega),
  i64_or_nat _ _ (by omega) (by omega),or_add _ _ 8 (by omega),i64_or_nat _ _ (by omega) (by omega),or_add _ _ 16 (by omega),i64_or_nat _ _ (by omega) (by omega),or_add _ _ 24 (by omega)]
 omega
theorem value_any (s:ByteArray) (hn:4 ≤ s.size) (w:World) :
  Calls Tryz.prog 55 #[.string s] w fun e w'=>e = .returned (.int .i64 (v4 s:Int)) ∧ ∃ k,w' = w.drewN k:=by
 have i0:∀ w,(Instr.index 9 (.string s) (.int .i64 0)).run Tryz.prog w = .ok (.int .u8 (bt s 0:Int)) w:=fun w=>idx9 s 0 (by omega) w
 have i1:∀ w,(Instr.index 9 (.string s) (.int .i64 1)).run Tryz.prog w = .ok (.int .u8 (bt s 1:Int)) w:=fun w=>idx9 s 1 (by omega) w
 have i2:∀ w,(Instr.index 9 (.string s) (.int .i64 2)).run Tryz.prog w = .ok (.int .u8 (bt s 2:Int)) w:=fun w=>idx9 s 2 (by omega) w
 have i3:∀ w,(Instr.index 9 (.string s) (.int .i64 3)).run Tryz.prog w = .ok (.int .u8 (bt s 3:Int)) w:=fun w=>idx9 s 3 (by omega) w
 have hor:=Lib.hid (or4 (bt s 0) (bt s 1) (bt s 2) (bt s 3) (bt_lt s 0) (bt_lt s 1) (bt_lt s 2) (bt_lt s 3))
 go_enter Tryz.func55,Tryz.ntmps55
 go_wp2
 go_quiet (fail)
 go_wp2
 go_ret
 exact ⟨ret_int (by simp only [← wrapEq];exact hor.out),_,rfl⟩
structure Upd (w:World) where
 x:World
 h:Ext No w x
instance (w:World):Nonempty (Upd w):=⟨⟨w,Ext.refl _ _⟩⟩
def up (w:World) (i:Upd w):World:=i.x
@[go_sem] theorem up_cell (w:World) (i:Upd w) (a:Addr) (h:a.block < w.heap.size):(up w i).cell? a = w.cell? a:=World.cell?_of_block (i.h.block a.block h (fun h=>h))
@[go_sem] theorem up_frozen (w:World) (i:Upd w) (a:Addr) (h:a.block < w.heap.size):(up w i).frozen? a = w.frozen? a:=by
 have:(up w i).heap[a.block]? = w.heap[a.block]?:=i.h.block a.block h (fun h=>h)
 unfold World.frozen?
 simp only [this]
theorem wp_region_up {P:Program} {id:Nat} {Q:Exit → Act → World → Prop} {a:Act} {w:World} {l:List Oper} (hm:P.follows .mixedOrders = true) (hB:Region.lexB .any l.toArray = true)
  (h:wpQuiet P l.toArray (fun w'=>∃ i:Upd w,w' = up w i) (fun a'=>∀ w',(∃ i:Upd w,w' = up w i) → Q .normal a' w') l a):(Code.region id l.toArray true).wp P Q a w :=
 wp_region_quiet (C:=fun w'=>∃ i:Upd w,w' = up w i) hm hB ⟨⟨{ w with drawn:=w.drawn + 1 },⟨rfl,rfl,rfl,Nat.le_refl _,fun _ _ _=>rfl⟩⟩,rfl⟩ (by simpa using h)
theorem Calls.up_of {P:Program} {f:FuncId} {args:Array Value} {w:World} {i:Upd w} {v:Value} (h:Calls P f args (up w i) fun e w'=>e = .returned v ∧ Ext No (up w i) w') :
  Calls P f args (up w i) fun e w''=>e = .returned v ∧ ∃ j:Upd w,w'' = up w j :=
 h.mono fun _ w'' ⟨he,hx⟩=>⟨he,⟨w'',i.h.trans_ hx⟩,rfl⟩
theorem up_ext (w:World) (i:Upd w):Ext No w (up w i):=i.h
end Go.Proofs.YtccnemmlkcmceaaGreatDoor
