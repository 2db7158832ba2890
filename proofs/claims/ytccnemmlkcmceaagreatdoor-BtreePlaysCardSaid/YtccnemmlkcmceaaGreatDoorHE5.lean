/- Proofs about the given program, joined out of the texts S4, MG, B0, W1, Z1, Z2. -/
import Derived.Test.YtccnemmlkcmceaaGreatDoorHE3
import Derived.Test.YtccnemmlkcmceaaGreatDoorHE4
import Derived.Deep.AppendLies
import Derived.Lib.AppendStr
import Derived.Maps.RangeWalk
import Derived.Laws.MakeOwn
set_option linter.unusedVariables false
set_option linter.unusedSimpArgs false
set_option maxRecDepth 100000
set_option maxHeartbeats 6400000
namespace Go.Proofs.YtccnemmlkcmceaaGreatDoor
open Go.RowKit
def bcs (l:Bs):List Value:=l.map fun b=>.int .u8 (b.toNat:Int)
theorem bcs_append (a b:Bs):bcs (a ++ b) = bcs a ++ bcs b:=by simp [bcs]
theorem bcs_len (a:Bs):(bcs a).length = a.length:=by simp [bcs]
theorem Ext.grown {F:Nat → Prop} {w0 w w':World} {row:Option Nat} (h:Ext F w0 w) (hg:w.grownBy w' row) (hr:∀ g,row = some g → F g ∨ w0.heap.size ≤ g):Ext F w0 w' :=
 ⟨hg.os.trans h.os,hg.tape.trans h.tape,hg.output.trans h.output,Nat.le_trans h.size hg.size,fun i hi hn=>(hg.block i (Nat.lt_of_lt_of_le hi h.size) (by
  rintro e
  rcases hr i e.symm with h' | h'
  ·exact hn h'
  ·omega)).trans (h.block i hi hn)⟩
theorem Tryz.info5:(Tryz.prog.info? 5).map (fun i=>(i.zero,i.size,i.bytes)) = some (some (.int .u8 0),1,1):=by kernel_rfl
theorem bcs_n4 (n:Nat) (hn:n < 4294967296):bcs (n4 n) = [.int .u8 ((n:Int) % 256),.int .u8 ((n:Int) / 256 % 256),.int .u8 ((n:Int) / 65536 % 256),.int .u8 ((n:Int) / 16777216)]:=by
 have e0:=ofNat_lt (n % 256) (by omega)
 have e1:=ofNat_lt (n / 256 % 256) (by omega)
 have e2:=ofNat_lt (n / 65536 % 256) (by omega)
 have e3:=ofNat_lt (n / 16777216 % 256) (by omega)
 have e4:((n / 16777216 % 256:Nat):Int) = (n:Int) / 16777216:=by omega
 unfold bcs n4
 simp only [List.map_cons,List.map_nil,e0,e1,e2,e3,e4]
 simp
def Grew (base:Nat) (v:Value) (l:Bs) (w:World) (e:Ending) (w':World):Prop :=
 ∃ g cap,e = .returned (.slice (some ⟨g,0,none⟩) l.length cap) ∧ w'.ownsRow base 5 1 (.slice (some ⟨g,0,none⟩) l.length cap) l.length (bcs l) ∧ w.grownBy w' v.ownBlock ∧ (v.ownBlock = some g ∨ w.heap.size ≤ g)
theorem four_any (base:Nat) (v:Value) (l:Bs) (n:Nat) (hn:n < 4294967296) (w:World) (hown:w.ownsRow base 5 1 v l.length (bcs l)) (hb:base ≤ w.heap.size) (hl:l.length < 1000000) :
  Calls Tryz.prog 202 #[v,.int .i64 (n:Int)] w (Grew base v (l ++ n4 n) w):=by
 obtain ⟨i0,hi,hz0,hz1,hz2⟩:=info_parts Tryz.info5
 have HO:=Lib.hid hown
 clear hown
 have hn4:=bcs_n4 n hn
 have HN:=Lib.hid hn4
 clear hn4
 go_enter Tryz.func202,Tryz.ntmps202
 go_wp2_with (at_builtin;refine wpList_append_lies _ rfl (.tmp 5) (.tmp 17) 98 rfl base 5 i0 (.int .u8 0) 1 1 Tryz.underlying98 hi hz0 hz1 hz2 rfl (by decide) v l.length (bcs l) rfl (HO.out.alloc _) ⟨w.heap.size,0,none⟩ 4 4 [.int .u8 ((n:Int) % 256),.int .u8 ((n:Int) / 256 % 256),.int .u8 ((n:Int) / 65536 % 256),.int .u8 ((n:Int) / 16777216)] rfl rfl ?c1 ?c2 ?c3 ?c4 ?c5 ?c6 _ rfl ?_)
 case c1=>exact World.news_of_block (cs:=#[.int .u8 ((n:Int) % 256),.int .u8 ((n:Int) / 256 % 256),.int .u8 ((n:Int) / 65536 % 256),.int .u8 ((n:Int) / 16777216)]) (t:=5) (fr:=(0,0)) (heap_alloc_new w _)
 case c2=>simp [Value.oneCell']
 case c3=>decide
 case c4=>unfold maxLen;omega
 case c5=>omega
 case c6=>simp;omega
 intro g cap w1 hown1 hgrow hat hlt
 go_wp2_with fail
 go_ret
 refine ⟨g,cap,by simp [n4],?_,?_,?_⟩
 ·rw [List.length_append,n4_len,bcs_append,HN.out];exact hown1
 ·exact ⟨hgrow.os,hgrow.tape,hgrow.output,Nat.le_trans (by simp) hgrow.size,fun k hk hne=>(hgrow.block k (by simp;omega) hne).trans (Below.heap_alloc w _ k hk)⟩
 ·rcases hat with h | h
  ·exact .inl h
  ·right;rw [h];simp
theorem run_append_str {P:Program} (w:World) (base:Nat) (t u ty e:TypeId) (i:TypeInfo) (ht:P.underlying t = some (.slice e)) (hu:P.underlying u = some .string) (hi:P.info? e = some i) (hz:i.zero = some (.int .u8 0))
  (hsize:i.size = 1) (hby:i.bytes = 1) (g cap n:Nat) (xs:List Value) (hown:w.ownsRow base e 1 (.slice (some ⟨g,0,none⟩) n cap) n xs) (s:ByteArray)
  (h63:n + s.size ≤ maxLen) (hbytes:n + s.size ≤ 140737488355328) (hbase:base ≤ w.heap.size) :
  ∃ g' cap' w',(Builtin.append_ #[t,u] ty #[.slice (some ⟨g,0,none⟩) n cap,.string s]).run P w = .ok (.slice (some ⟨g',0,none⟩) (n + s.size) cap') w' ∧
   w'.ownsRow base e 1 (.slice (some ⟨g',0,none⟩) (n + s.size) cap') (n + s.size) (xs ++ Lib.strCells s) ∧ w.grownBy w' (some g) ∧ (g' = g ∨ g' = w.heap.size):=by
 obtain ⟨v',w',hr,h2,h3,_⟩:=Lib.run_append_own_string (P:=P) w base t u ty e i ht hu hi hz hsize hby _ n xs hown s h63 hbytes hbase
 have hxl:xs.length = n:=by simpa using hown.1
 have hsmall:n + s.size ≤ 9223372036854775807:=by simp only [maxLen] at h63;omega
 rcases hown.2 with ⟨h,_⟩ | ⟨g0,cap0,cur,hv,hbg,hg,hnc,hcm,hcs,htake⟩
 ·cases h
 ·injection hv with e1 _ e2
  injection e1 with e1
  injection e1 with e1
  subst e1;subst e2
  by_cases hroom:n + s.size ≤ cap
  ·have hr2:=Lib.run_append_room_string (P:=P) w t u ty e i ht hu hi hsize g n cap cur hg s hroom (by omega)
   rw [hr] at hr2
   injection hr2 with e1 e2
   subst e1;subst e2
   exact ⟨g,cap,_,hr,h2,h3,.inl rfl⟩
  ·have hr2:=Lib.run_append_grow_string (P:=P) w t u ty e i (.int .u8 0) ht hu hi hz ⟨g,0,none⟩ n cap xs (by rw [hsize];simpa using hxl) (hown.cells (g:=g) rfl) s (by omega) (by omega) (by rw [hby];exact growslice_fits (by omega) (by omega))
   rw [hr] at hr2
   injection hr2 with e1 e2
   subst e1;subst e2
   exact ⟨_,_,_,hr,h2,h3,.inr rfl⟩
theorem wpList_append_str {P:Program} (w:World) {ops:Array Oper} {rest:List Oper} {o:Oper} {a:Act} {Q:Exit → Act → World → Prop} (hgd:o.guard = none) (sl x:Operand) (t u:TypeId)
  (ho:o.op = .call { callee:=.builtin .append,args:=#[sl,x],argTypes:=#[t,u] })
  (base:Nat) (e:TypeId) (i:TypeInfo) (ht:P.underlying t = some (.slice e)) (hu:P.underlying u = some .string) (hi:P.info? e = some i) (hz:i.zero = some (.int .u8 0))
  (hsize:i.size = 1) (hby:i.bytes = 1) (g cap n:Nat) (xs:List Value) (hs:a.eval sl = .slice (some ⟨g,0,none⟩) n cap) (hown:w.ownsRow base e 1 (.slice (some ⟨g,0,none⟩) n cap) n xs) (s:ByteArray) (hx:a.eval x = .string s)
  (h63:n + s.size ≤ maxLen) (hbytes:n + s.size ≤ 140737488355328) (hbase:base ≤ w.heap.size)
  (h:∀ g' cap' w',w'.ownsRow base e 1 (.slice (some ⟨g',0,none⟩) (n + s.size) cap') (n + s.size) (xs ++ Lib.strCells s) → w.grownBy w' (some g) → (g' = g ∨ g' = w.heap.size) → wpList P ops Q rest (a.put o.dst (.slice (some ⟨g',0,none⟩) (n + s.size) cap')) w'):wpList P ops Q (o :: rest) a w:=by
 refine wpList_plain hgd fun K hK=>?_
 obtain ⟨g',cap',w',hr,h2,h3,h4⟩:=run_append_str (P:=P) w base t u o.type e i ht hu hi hz hsize hby g cap n xs hown s h63 hbytes hbase
 unfold Oper.wp execOp
 simp only [ho,resolve,invoke,builtin,Sem.run_bind,Sem.run_pure,Result.andThen_ok,List.map_toArray,List.map_cons,List.map_nil,hs,hx,hr]
 exact hK _ _ (h g' cap' w' h2 h3 h4)
theorem strCells_str (l:Bs):Lib.strCells (str l) = bcs l:=by simp [Lib.strCells,bcs]
theorem text_any (base:Nat) (v:Value) (l:Bs) (s:Bs) (hs:s.length < 256) (w:World) (hown:w.ownsRow base 5 1 v l.length (bcs l)) (hb:base ≤ w.heap.size) (hl:l.length < 1000000) :
  Calls Tryz.prog 203 #[v,.string (str s)] w (Grew base v (l ++ UInt8.ofNat s.length :: s) w):=by
 obtain ⟨i0,hi,hz0,hz1,hz2⟩:=info_parts Tryz.info5
 have HO:=Lib.hid hown
 clear hown
 have hsz:=str_size s
 have e0:=Lib.hid (ofNat_lt s.length hs)
 have hmod:(s.length:Int) % 256 = s.length:=by omega
 go_enter Tryz.func203,Tryz.ntmps203
 go_wp2_with (at_builtin;refine wpList_append_lies _ rfl (.tmp 5) (.tmp 9) 98 rfl base 5 i0 (.int .u8 0) 1 1 Tryz.underlying98 hi hz0 hz1 hz2 rfl (by decide) v l.length (bcs l) rfl (HO.out.alloc _) ⟨w.heap.size,0,none⟩ 1 1 [.int .u8 (s.length:Int)] rfl rfl ?c1 ?c2 ?c3 ?c4 ?c5 ?c6 _ rfl ?_)
 case c1=>exact World.news_of_block (cs:=#[.int .u8 (s.length:Int)]) (t:=5) (fr:=(0,0)) (heap_alloc_new w _)
 case c2=>simp [Value.oneCell']
 case c3=>decide
 case c4=>unfold maxLen;omega
 case c5=>omega
 case c6=>simp;omega
 intro g cap w1 hown1 hgrow hat hlt
 have HO1:=Lib.hid hown1
 clear hown1
 have hw1:=hgrow.size
 simp at hw1
 go_wp2_with (refine wpList_append_str _ rfl (.tmp 10) (.tmp 11) 98 9 rfl base 5 i0 Tryz.underlying98 Tryz.underlying9 hi hz0 hz1 hz2 g cap (l.length + 1) _ rfl HO1.out (str s) rfl ?d1 ?d2 ?d3 ?_)
 case d1=>unfold maxLen;omega
 case d2=>omega
 case d3=>omega
 intro g' cap' w2 hown2 hgrow2 hat2
 go_wp2_with fail
 go_ret
 refine ⟨g',cap',by simp;omega,?_,?_,?_⟩
 ·have e1:(l ++ UInt8.ofNat s.length :: s).length = l.length + 1 + (str s).size:=by rw [str_size];simp;omega
  have e2:bcs (l ++ UInt8.ofNat s.length :: s) = bcs l ++ [.int .u8 (s.length:Int)] ++ Lib.strCells (str s):=by rw [strCells_str];simp [bcs_append];simp [bcs,e0.out];omega
  rw [e1,e2,str_size,List.append_assoc]
  exact hown2
 ·refine ⟨hgrow2.os.trans hgrow.os,hgrow2.tape.trans hgrow.tape,hgrow2.output.trans hgrow.output,by have:=hgrow2.size;omega,fun k hk hne=>?_⟩
  rcases hat with h | h
  ·exact (hgrow2.block k (by omega) (fun e=>hne (e.trans h.symm))).trans ((hgrow.block k (by simp;omega) hne).trans (Below.heap_alloc w _ k hk))
  ·have:g = w.heap.size + 1:=by rw [h]
   exact (hgrow2.block k (by omega) (fun e=>by injection e with e;omega)).trans ((hgrow.block k (by simp;omega) hne).trans (Below.heap_alloc w _ k hk))
 ·rcases hat2 with h2 | h2
  ·rcases hat with h | h
   ·exact .inl (h.trans (by rw [h2]))
   ·right;rw [h2,h];simp
  ·right;omega
section
variable {α:Type} {val:α → Value}
def entG (val:α → Value) (es:Array MapEntry) (ov:List (Nat × α)):Prop:=es.toList.map (fun e=>(e.key,e.val)) = ov.map (fun p=>(Value.int .i64 (p.1:Int),val p.2))
structure MapG (val:α → Value) (w:World) (m:Nat) (ov:List (Nat × α)):Prop where
 nodup:(ov.map (·.1)).Nodup
 obj:∃ es c,w.heap[m]? = some (.map es c) ∧ entG val es ov ∧ Stamps es c
theorem MapG.lt {w:World} {m:Nat} {ov:List (Nat × α)} (h:MapG val w m ov):m < w.heap.size:=by
 obtain ⟨_,es,c,ho,_⟩:=h
 rcases Nat.lt_or_ge m w.heap.size with hlt | hge
 ·exact hlt
 ·rw [Array.getElem?_eq_none hge] at ho;cases ho
theorem MapG.ext {F:Nat → Prop} {w w':World} {m:Nat} {ov:List (Nat × α)} (h:MapG val w m ov) (he:Ext F w w') (hm:¬ F m):MapG val w' m ov:=by
 have hlt:=h.lt
 obtain ⟨hn,es,c,ho,hr⟩:=h
 exact ⟨hn,es,c,(he.block m hlt hm).trans ho,hr⟩
theorem MapG.made (w:World):MapG val (w.alloc (.map #[] 0)) w.heap.size []:=⟨by simp,#[],0,heap_alloc_new w _,rfl,by simp [Stamps]⟩
theorem findG_none (q:IntKind) (id:Nat):∀ (ov:List (Nat × α)) (es:List MapEntry) (i:Nat),es.map (fun e=>(e.key,e.val)) = ov.map (fun p=>(Value.int .i64 (p.1:Int),val p.2)) → id ∉ ov.map (·.1) → Instr.findNow (.int q) (.int .i64 (id:Int)) es i = some none
 | [],es,i,h,_=>by
  have:es = []:=by simpa using h
  subst this;rfl
 | (a,b) :: ov,[],i,h,_=>by simp at h
 | (a,b) :: ov,e :: es,i,h,hn=>by
  simp only [List.map_cons,List.cons.injEq,Prod.mk.injEq] at h
  obtain ⟨⟨hk,hv⟩,ht⟩:=h
  simp only [List.map_cons,List.mem_cons,not_or] at hn
  have hne:((id:Int) == (a:Int)) = false:=by simpa using (by omega:¬ (id:Int) = (a:Int))
  simp [Instr.findNow,hk,Instr.sameNow,hne,findG_none q id ov es (i + 1) ht hn.2]
theorem findG_some (q:IntKind) (id:Nat) (x:α):∀ (ov:List (Nat × α)) (es:List MapEntry) (i:Nat),es.map (fun e=>(e.key,e.val)) = ov.map (fun p=>(Value.int .i64 (p.1:Int),val p.2)) → ov.lookup id = some x → ∃ j,Instr.findNow (.int q) (.int .i64 (id:Int)) es i = some (some (j,val x))
 | [],es,i,h,hl=>by cases hl
 | (a,b) :: ov,[],i,h,_=>by simp at h
 | (a,b) :: ov,e :: es,i,h,hl=>by
  simp only [List.map_cons,List.cons.injEq,Prod.mk.injEq] at h
  obtain ⟨⟨hk,hv⟩,ht⟩:=h
  by_cases hid:id = a
  ·subst hid
   have:b = x:=by simpa using hl
   subst this
   exact ⟨i,by simp [Instr.findNow,hk,Instr.sameNow,hv]⟩
  ·have hne:((id:Int) == (a:Int)) = false:=by simpa using (by omega:¬ (id:Int) = (a:Int))
   have hne':(id == a) = false:=by simpa using hid
   rw [List.lookup_cons,hne'] at hl
   obtain ⟨j,hj⟩:=findG_some q id x ov es (i + 1) ht hl
   exact ⟨j,by simp [Instr.findNow,hk,Instr.sameNow,hne,hj]⟩
end
theorem run_imgpush {w:World} {m:Nat} {ov:List (Nat × Bs)} (h:MapG (fun b=>.string (str b)) w m ov) {id:Nat} (x:Bs) (hid:id ∉ ov.map (·.1)) :
  ∃ w',(Instr.mapUpdate 132 (.map (some m)) (.int .i64 (id:Int)) (.string (str x))).run Tryz.prog w = .ok () w' ∧ MapG (fun b=>.string (str b)) w' m (ov ++ [(id,x)]) ∧ Ext (fun b=>b = m) w w' ∧ w'.heap.size = w.heap.size:=by
 have hm:=h.lt
 obtain ⟨hnd,es,c,ho,he,hst⟩:=h
 have ext:∀ o,Ext (fun b=>b = m) w { w with heap:=w.heap.setIfInBounds m o }:=fun o=>⟨rfl,rfl,rfl,by simp,fun i hi hne=>by
  simp only [Array.getElem?_setIfInBounds]
  rw [if_neg (fun e=>hne e.symm)]⟩
 have h1:=findG_none (val:=fun b=>.string (str b)) .i64 id ov es.toList 0 he hid
 refine ⟨{ w with heap:=w.heap.setIfInBounds m (.map (es.push { key:=.int .i64 (id:Int),val:=.string (str x),born:=c }) (c + 1)) },?_,?_,ext _,by simp⟩
 ·simp [Instr.mapUpdate,run_underlying Tryz.underlying132,MapKept.run_getObj_map ho,MapKept.run_setObj_map _ ho,chk_int,MapKept.run_findKey Tryz.underlying3 h1,Result.andThen]
 ·refine ⟨?_,_,c + 1,by simp only [Array.getElem?_setIfInBounds,if_pos rfl,hm,if_true];rfl,?_,stamps_push hst _ _⟩
  ·rw [List.map_append]
   refine List.nodup_append.2 ⟨hnd,by simp,?_⟩
   intro a ha b hb e
   have:b = id:=by simpa using hb
   subst this;subst e
   exact hid ha
  ·unfold entG at he ⊢
   simp [he]
theorem run_imglook {w:World} {m:Nat} {ov:List (Nat × Bs)} (h:MapG (fun b=>.string (str b)) w m ov) {id:Nat} {x:Bs} (hl:ov.lookup id = some x) :
  (Instr.lookup 132 (.map (some m)) (.int .i64 (id:Int)) false).run Tryz.prog w = .ok (.string (str x)) w:=by
 obtain ⟨_,es,c,ho,he,_⟩:=h
 obtain ⟨j,h1⟩:=findG_some (val:=fun b=>.string (str b)) .i64 id x ov es.toList 0 he hl
 simp [Instr.lookup,run_underlying Tryz.underlying132,MapKept.run_getObj_map ho,chk_int,MapKept.run_findKey Tryz.underlying3 h1,Result.andThen]
theorem run_imglen {w:World} {m:Nat} {ov:List (Nat × Bs)} (h:MapG (fun b=>.string (str b)) w m ov) (ty:TypeId):(Builtin.len_ #[132] ty #[.map (some m)]).run Tryz.prog w = .ok (.int .i64 (ov.length:Int)) w:=by
 obtain ⟨_,es,c,ho,he,_⟩:=h
 have hl:es.size = ov.length:=by
  have:=congrArg List.length he
  simpa using this
 simp [Builtin.len_,run_underlying Tryz.underlying132,MapKept.run_getObj_map ho,hl,goInt]
theorem wf_small {n:Nat} (h:n < 65536):(Lit.int .i64 (n:Int)).wf = true:=by
 have h1:IntKind.i64.min = -9223372036854775808:=by decide
 have h2:IntKind.i64.max = 9223372036854775807:=by decide
 simp only [Lit.wf,h1,h2,Bool.and_eq_true,decide_eq_true_eq]
 omega
open Go.Maps Go.WideElems in
theorem MapG.owns {α:Type} {val:α → Value} {w:World} {m:Nat} {ov:List (Nat × α)} (h:MapG val w m ov) (hk:∀ p ∈ ov,p.1 < 65536) (hn:ov.length < 65536) :
  ∃ D:DataW Unit,w.ownsMap Tryz.prog 3 (fun _=>some (.nil,[])) m ov.length D ∧ (intKeys D).Perm (ov.map fun p=>(p.1:Int)) ∧ size D = ov.length:=by
 obtain ⟨hnd,es,c,ho,he,hst⟩:=h
 have hl:es.size = ov.length:=by
  have:=congrArg List.length he
  simpa using this
 have hkey:es.toList.map (·.key) = ov.map (fun p=>Value.int .i64 (p.1:Int)):=by
  have:=congrArg (List.map Prod.fst) he
  rw [List.map_map,List.map_map] at this
  exact this
 have hrd:∀ x ∈ es.toList,∃ p ∈ ov,rd Tryz.prog 3 (fun _=>some ((.nil:DataW Unit),([]:List MemPlace))) x = some (.int .i64 (p.1:Int),.nil) ∧ x.key = .int .i64 (p.1:Int):=fun x hx=>by
  have h1:x.key ∈ es.toList.map (·.key):=List.mem_map.2 ⟨x,hx,rfl⟩
  rw [hkey] at h1
  obtain ⟨p,hp,e⟩:=List.mem_map.1 h1
  refine ⟨p,hp,?_,e.symm⟩
  unfold rd
  rw [← e,keyOf_int_mk Tryz.underlying3 (wf_small (hk p hp))]
  rfl
 have hrg:(es.toList.map (rg Tryz.prog 3 (fun _=>some ((.nil:DataW Unit),([]:List MemPlace))))).map (fun p=>Go.intOf p.1) = ov.map fun p=>(p.1:Int):=by
  have h2:es.toList.map (fun x=>Go.intOf (rg Tryz.prog 3 (fun _=>some ((.nil:DataW Unit),([]:List MemPlace))) x).1) = (es.toList.map (·.key)).map (fun v=>match v with | .int _ a=>a | _=>0):=by
   rw [List.map_map]
   apply List.map_congr_left
   intro x hx
   obtain ⟨p,_,h1,h3⟩:=hrd x hx
   unfold rg
   rw [h1]
   show _ = (match x.key with | .int _ a=>a | _=>0)
   rw [h3]
   rfl
  rw [List.map_map]
  simp only [Function.comp_def]
  refine h2.trans ?_
  rw [hkey,List.map_map]
  simp only [Function.comp_def]
 refine ⟨_,⟨es,c,ho,⟨by rw [hl];unfold maxLen;omega,⟨hst.1,hst.2,?_⟩,fun x hx=>?_⟩,by omega,rfl⟩,?_,?_⟩
 ·rw [hkey]
  have e:ov.map (fun p=>Value.int .i64 (p.1:Int)) = (ov.map (fun p=>p.1)).map (fun i:Nat=>Value.int .i64 (i:Int)):=by rw [List.map_map];rfl
  rw [e]
  exact List.Pairwise.map (fun i:Nat=>Value.int .i64 (i:Int)) (fun a b hab e=>hab (by injection e with _ e;omega)) hnd
 ·obtain ⟨p,_,h1,_⟩:=hrd x hx
  exact ⟨_,h1⟩
 ·show (((es.toList.map _).foldr DataW.insert []).map fun p=>Go.intOf p.1).Perm _
  rw [← hrg]
  exact (Go.WideShapes.sorted_perm _).map _
 ·show ((es.toList.map _).foldr DataW.insert []).length = _
  rw [(Go.WideShapes.sorted_perm _).length_eq,List.length_map,Array.length_toList,hl]
structure V.Fr (v:V) (l:List Nat):Prop where
 nd:l.Nodup
 cnt:v.cnt = l.length
 hd:v.free = l.headD 0
 mem:∀ a,(1 ≤ a ∧ a < v.high ∧ (v.pg a).kind = 255) ↔ a ∈ l
 body:∀ k a,l[k]? = some a → (v.pg a).body = n4 (l.getD (k + 1) 0)
 top:v.high ≤ 65536
 h1:1 ≤ v.high
 bd:∀ a,1 ≤ a → a < v.high → (v.pg a).body.length ≤ 500
def V.Good (v:V):Prop:=∃ l,v.Fr l
theorem nodup_len:∀ (n:Nat) (l:List Nat),l.Nodup → (∀ a ∈ l,1 ≤ a ∧ a < n) → 1 ≤ n → l.length < n
 | 0,_,_,_,h=>absurd h (by omega)
 | 1,[],_,_,_=>by simp
 | 1,a :: l,_,h,_=>by have:=h a (by simp);omega
 | n + 2,l,hd,h,_=>by
  by_cases hm:n + 1 ∈ l
  ·have he:=nodup_len (n + 1) (l.erase (n + 1)) (hd.erase _) (fun a ha=>by
    have h1:=h a (List.mem_of_mem_erase ha)
    have h2:a ≠ n + 1:=(hd.mem_erase_iff.1 ha).1
    omega) (by omega)
   rw [List.length_erase_of_mem hm] at he
   omega
  ·have:=nodup_len (n + 1) l hd (fun a ha=>by
    have h1:=h a ha
    have h2:a ≠ n + 1:=fun e=>hm (e ▸ ha)
    omega) (by omega)
   omega
theorem V.Fr.lt {v:V} {l:List Nat} (h:v.Fr l):l.length < v.high:=nodup_len _ l h.nd (fun a ha=>by have:=(h.mem a).2 ha;omega) h.h1
theorem V.Fr.put {v:V} {l:List Nat} (h:v.Fr l) {id:Nat} {p:Leaf} (he:v.err id = 0) (hp:p.kind ≠ 255) (hq:p.body.length ≤ 500):(v.put id p).Fr l:=by
 obtain ⟨h1,h2,h3⟩:=V.err_ok he
 have hn:id ∉ l:=fun hm=>h3 ((h.mem id).2 hm).2.2
 refine ⟨h.nd,h.cnt,h.hd,fun a=>?_,fun k a hk=>?_,h.top,h.h1,fun a a1 a2=>by simp only [V.put];split;exact hq;exact h.bd a a1 a2⟩
 ·rw [← h.mem a]
  simp only [V.put]
  by_cases ha:a = id
  ·subst ha
   simp only [if_true]
   constructor
   ·rintro ⟨_,_,e⟩;exact absurd e hp
   ·rintro ⟨_,_,e⟩;exact absurd e h3
  ·simp only [if_neg ha]
 ·have ha:a ≠ id:=by
   rintro rfl
   exact hn (List.mem_of_getElem? hk)
  simp only [V.put,if_neg ha]
  exact h.body k a hk
theorem V.Fr.new {v:V} {l:List Nat} (h:v.Fr l) (hc:v.high < 65536):v.allocNew.Fr l:=by
 refine ⟨h.nd,h.cnt,h.hd,fun a=>?_,fun k a hk=>?_,by show v.high + 1 ≤ 65536;omega,by show 1 ≤ v.high + 1;omega,fun a a1 a2=>by
  simp only [V.allocNew,V.put] at a2 ⊢
  split
  ·simp
  ·exact h.bd a a1 (by omega)⟩
 ·rw [← h.mem a]
  simp only [V.allocNew,V.put]
  by_cases ha:a = v.high
  ·subst ha
   simp only [if_true]
   constructor
   ·rintro ⟨_,_,e⟩;cases e
   ·rintro ⟨_,e,_⟩;omega
  ·simp only [if_neg ha]
   constructor
   ·rintro ⟨a1,a2,a3⟩;exact ⟨a1,by omega,a3⟩
   ·rintro ⟨a1,a2,a3⟩;exact ⟨a1,by omega,a3⟩
 ·have ha:a ≠ v.high:=by
   have:=(h.mem a).2 (List.mem_of_getElem? hk)
   omega
  simp only [V.allocNew,V.put,if_neg ha]
  exact h.body k a hk
theorem V.Fr.cons {v:V} {l:List Nat} (h:v.Fr l) (hf:v.free ≠ 0):∃ l',l = v.free :: l':=by
 have:=h.hd
 match l,this with
 | [],e=>exact absurd e hf
 | a :: l',e=>exact ⟨l',by rw [e];rfl⟩
theorem V.Fr.old {v:V} {l:List Nat} (h:v.Fr (v.free :: l)):v.allocFree.Fr l:=by
 have hb:=h.body 0 v.free rfl
 have hnd:=List.nodup_cons.1 h.nd
 have hfree:v4 (str (v.pg v.free).body) = l.headD 0:=by
  rw [hb]
  have:(v.free :: l).getD (0 + 1) 0 < 4294967296:=by
   match l with
   | []=>simp
   | b :: l=>have:=(h.mem b).2 (by simp);have:=h.top;simp;omega
  have e:=v4_n4 _ this []
  rw [List.append_nil] at e
  rw [e]
  cases l <;> simp
 have hc:=h.cnt
 simp at hc
 refine ⟨hnd.2,by show v.cnt - 1 = _;omega,hfree,fun a=>?_,fun k a hk=>?_,h.top,h.h1,fun a a1 a2=>by
  simp only [V.allocFree,V.put]
  split
  ·simp
  ·exact h.bd a a1 a2⟩
 ·simp only [V.allocFree,V.put]
  by_cases ha:a = v.free
  ·subst ha
   simp only [if_true]
   constructor
   ·rintro ⟨_,_,e⟩;cases e
   ·intro hm;exact absurd hm hnd.1
  ·simp only [if_neg ha]
   rw [h.mem a]
   simp [ha]
 ·have ha:a ≠ v.free:=by
   rintro rfl
   exact hnd.1 (List.mem_of_getElem? hk)
  simp only [V.allocFree,V.put,if_neg ha]
  have:=h.body (k + 1) a (by simpa using hk)
  rw [this]
  simp
theorem V.Fr.let_ {v:V} {l:List Nat} (h:v.Fr l) {id:Nat} (he:v.err id = 0):(v.letFree id).Fr (id :: l):=by
 obtain ⟨h1,h2,h3⟩:=V.err_ok he
 have hn:id ∉ l:=fun hm=>h3 ((h.mem id).2 hm).2.2
 refine ⟨List.nodup_cons.2 ⟨hn,h.nd⟩,by show v.cnt + 1 = _;rw [h.cnt];rfl,rfl,fun a=>?_,fun k a hk=>?_,h.top,h.h1,fun a a1 a2=>by
  simp only [V.letFree,V.put]
  split
  ·simp [n4]
  ·exact h.bd a a1 a2⟩
 ·simp only [V.letFree,V.put]
  by_cases ha:a = id
  ·subst ha
   simp [h1,h2]
  ·simp only [if_neg ha]
   rw [h.mem a]
   simp [ha]
 ·simp only [V.letFree,V.put]
  match k,hk with
  | 0,hk =>
   have:id = a:=by simpa using hk
   subst this
   rw [if_pos rfl]
   simp [h.hd]
   cases l <;> simp
  | k + 1,hk =>
   have hk':l[k]? = some a:=by simpa using hk
   have ha:a ≠ id:=by
    rintro rfl
    exact hn (List.mem_of_getElem? hk')
   rw [if_neg ha,h.body k a hk']
   simp
theorem V.Fr.re {v v':V} {l:List Nat} (h:v.Fr l) (h1:v'.free = v.free) (h2:v'.cnt = v.cnt) (h3:v'.high = v.high) (h4:v'.pg = v.pg):v'.Fr l :=
 ⟨h.nd,h2 ▸ h.cnt,h1 ▸ h.hd,fun a=>by rw [h3,h4];exact h.mem a,fun k a hk=>by rw [h4];exact h.body k a hk,h3 ▸ h.top,h3 ▸ h.h1,by rw [h3,h4];exact h.bd⟩
def V.alloc (cap:Nat) (v:V):Nat × Nat × V :=
 if v.free = 0 then (if v.high = cap then (0,7,v) else (v.high,0,v.allocNew)) else (v.free,0,v.allocFree)
def V.drop (v:V) (id:Nat):Nat × V:=if v.err id = 0 then (0,v.letFree id) else (v.err id,v)
def V.set (v:V) (id kind:Nat) (body:List UInt8):Nat × V:=if v.err id = 0 then (0,v.put id ⟨kind,body⟩) else (v.err id,v)
def V.read (v:V) (id:Nat):Nat × List UInt8 × Nat:=if v.err id = 0 then ((v.pg id).kind,(v.pg id).body,0) else (0,[],v.err id)
theorem V.Good.alloc {v:V} (h:v.Good) {cap:Nat} (h1:v.high ≤ cap) (h2:cap ≤ 65536):(v.alloc cap).2.2.Good ∧ (v.alloc cap).2.2.high ≤ cap:=by
 obtain ⟨l,h⟩:=h
 unfold V.alloc
 split
 ·split
  ·exact ⟨⟨l,h⟩,h1⟩
  ·exact ⟨⟨l,h.new (by omega)⟩,by show v.high + 1 ≤ cap;omega⟩
 ·rename_i hf
  obtain ⟨l',rfl⟩:=h.cons hf
  exact ⟨⟨l',h.old⟩,h1⟩
theorem V.Good.drop {v:V} (h:v.Good) (id:Nat):(v.drop id).2.Good:=by
 obtain ⟨l,h⟩:=h
 unfold V.drop
 split
 ·rename_i he;exact ⟨_,h.let_ he⟩
 ·exact ⟨l,h⟩
theorem V.Good.set {v:V} (h:v.Good) (id kind:Nat) (body:List UInt8) (hk:kind ≠ 255) (hb:body.length ≤ 500):(v.set id kind body).2.Good:=by
 obtain ⟨l,h⟩:=h
 unfold V.set
 split
 ·rename_i he;exact ⟨_,h.put he hk hb⟩
 ·exact ⟨l,h⟩
theorem V.Good.setR {v:V} (h:v.Good) (i n:Nat):(v.setR i n).Good:=by
 obtain ⟨l,h⟩:=h
 exact ⟨l,h.re rfl rfl rfl rfl⟩
theorem V.Good.spoil {v:V} (h:v.Good):({ v with spoilt:=true }:V).Good:=by
 obtain ⟨l,h⟩:=h
 exact ⟨l,h.re rfl rfl rfl rfl⟩
theorem alloc_any (s:Sys) (hs:s.Ok) (w:World) (v:V) (h:TxAt w s v) (hg:v.Good) :
  Calls Tryz.prog 19 #[.pointer (some ⟨s.t,0,none⟩)] w fun e w'=>e = .returned (.tuple #[.int .i64 ((v.alloc s.cap).1:Int),.int .i64 ((v.alloc s.cap).2.1:Int)]) ∧ TxAt w' s (v.alloc s.cap).2.2 ∧ Ext s.F w w':=by
 unfold V.alloc
 split
 ·rename_i h0
  split
  ·rename_i h1
   exact (alloc_full s hs w v h h0 h1).mono fun e w' ⟨h1,h2⟩=>⟨h1,h.no hs h2,h2.of_no⟩
  ·rename_i h1
   have:=h.h2
   exact alloc_new s hs w v h h0 (by omega)
 ·rename_i h0
  obtain ⟨l,hl⟩:=hg
  obtain ⟨l',rfl⟩:=hl.cons h0
  have hm:=(hl.mem v.free).2 (by simp)
  have hc:=hl.cnt
  have hb:=hl.body 0 v.free rfl
  exact alloc_free s hs w v h (by omega) hm.2.1 (by rw [hb];simp [n4]) (by simp at hc;omega)
theorem free_any (s:Sys) (hs:s.Ok) (w:World) (v:V) (h:TxAt w s v) (hg:v.Good) (id:Nat) :
  Calls Tryz.prog 142 #[.pointer (some ⟨s.t,0,none⟩),.int .i64 (id:Int)] w fun e w'=>e = .returned (.int .i64 ((v.drop id).1:Int)) ∧ TxAt w' s (v.drop id).2 ∧ Ext s.F w w':=by
 unfold V.drop
 split
 ·rename_i h0
  obtain ⟨l,hl⟩:=hg
  have:=hl.lt
  have:=hl.cnt
  have:=hl.top
  refine free_ok s hs w v h id h0 ?_ (by omega)
  have hd:=hl.hd
  match l,hl,hd with
  | [],_,hd=>simp at hd;omega
  | a :: l,hl,hd =>
   have hm:=(hl.mem a).2 (by simp)
   simp at hd
   omega
 ·rename_i h0
  exact (free_bad s hs w v h id h0).mono fun e w' ⟨h1,h2⟩=>⟨h1,h.no hs h2,h2.of_no⟩
theorem write_any (s:Sys) (hs:s.Ok) (w:World) (v:V) (h:TxAt w s v) (id kind:Nat) (body:List UInt8) (hk1:1 ≤ kind) (hk2:kind < 255) (hb:body.length ≤ 500) :
  Calls Tryz.prog 20 #[.pointer (some ⟨s.t,0,none⟩),.int .i64 (id:Int),.int .i64 (kind:Int),.string (str body)] w fun e w'=>e = .returned (.int .i64 ((v.set id kind body).1:Int)) ∧ TxAt w' s (v.set id kind body).2 ∧ Ext s.F w w':=by
 unfold V.set
 split
 ·rename_i h0
  exact write_ok s hs w v h id kind body h0 hk1 hk2 hb
 ·rename_i h0
  exact (write_bad s hs w v h id kind _ h0).mono fun e w' ⟨h1,h2⟩=>⟨h1,h.no hs h2,h2.of_no⟩
theorem read_any (s:Sys) (hs:s.Ok) (w:World) (v:V) (h:TxAt w s v) (id:Nat) :
  Calls Tryz.prog 47 #[.pointer (some ⟨s.t,0,none⟩),.int .i64 (id:Int)] w fun e w'=>e = .returned (.tuple #[.int .i64 ((v.read id).1:Int),.string (str (v.read id).2.1),.int .i64 ((v.read id).2.2:Int)]) ∧ Ext No w w':=by
 unfold V.read
 split
 ·rename_i h0
  exact read_ok s hs w v h id h0
 ·rename_i h0
  exact read_bad s hs w v h id h0
def treeCells (s:Sys) (i:Nat):Array Value:=#[.pointer (some ⟨s.t,0,none⟩),.int .i64 (i:Int)]
theorem tree_off {w:World} {s:Sys} {v:V} {gx i:Nat} (ht:TxAt w s v) (h:Blk w gx 70 (treeCells s i)):¬ s.F gx:=by
 rintro (e | e)
 ·exact (h.ne_ ht.tx (by decide)) e
 ·obtain ⟨ov,hm,_⟩:=ht.mp
  exact hm.ne h e
theorem tree_ext {w w':World} {s:Sys} {v:V} {gx i:Nat} (ht:TxAt w s v) (h:Blk w gx 70 (treeCells s i)) (he:Ext s.F w w'):Blk w' gx 70 (treeCells s i):=h.ext he (tree_off ht h)
theorem V.read_err (v:V) (id:Nat):(v.read id).2.2 = 0 ∨ (v.read id).2.2 = 2 ∨ (v.read id).2.2 = 8:=by
 unfold V.read
 split
 ·exact .inl rfl
 ·rename_i h
  rcases V.err_cases h with ⟨h,_⟩ | ⟨h,_⟩
  ·exact .inr (.inl h)
  ·exact .inr (.inr h)
theorem of_any (t:Option Addr) (i:Nat) (hi:i < 4) (w:World) :
  Calls Tryz.prog 13 #[.pointer t,.int .i64 (i:Int)] w fun e w'=>e = .returned (.pointer (some ⟨w.heap.size,0,none⟩)) ∧ w' = w.alloc (.cells #[.pointer t,.int .i64 (i:Int)] 70):=by
 have g1:¬ ((i:Int) < 0):=by omega
 have g2:¬ ((4:Int) ≤ i):=by omega
 go_enter Tryz.func13,Tryz.ntmps13
 go_wp2_with fail
 go_ret
 exact ⟨rfl,rfl⟩
theorem none_no (t:Addr) (i:Value) (gx:Nat) (w:World) (h:Blk w gx 70 #[.pointer (some t),i]) :
  Calls Tryz.prog 45 #[.pointer (some ⟨gx,0,none⟩)] w fun e w'=>e = .returned (.bool false) ∧ w = w':=by
 have c0:=h.cell 0
 simp at c0
 go_enter Tryz.func45,Tryz.ntmps45
 go_wp2
 go_ret
 exact ⟨rfl,rfl⟩
theorem alive_any (s:Sys) (hs:s.Ok) (w:World) (v:V) (h:TxAt w s v) (gx i:Nat) (hx:Blk w gx 70 (treeCells s i)) :
  Calls Tryz.prog 64 #[.pointer (some ⟨gx,0,none⟩)] w fun e w'=>e = .returned (.int .i64 0) ∧ Ext No w w':=by
 have HR:=Lib.hid (read_any s hs w v h 1)
 have c0:=hx.cell 0
 simp [treeCells] at c0
 have he:=v.read_err 1
 generalize (v.read 1).2.2 = e at HR he
 generalize (v.read 1).1 = k at HR
 generalize (v.read 1).2.1 = b at HR
 go_enter Tryz.func64,Tryz.ntmps64
 go_wp2_with fail
 refine (HR.out).mono ?_
 rintro e' w1 ⟨rfl,hx1⟩
 rcases he with rfl | rfl | rfl
 all_goals
  go_wp2_with fail
  go_ret
  exact ⟨rfl,hx1⟩
def may (key val:List UInt8):Nat:=if key = [] then 2 else if 140 < key.length ∨ 16384 < val.length then 3 else 0
theorem may_any (s:Sys) (hs:s.Ok) (w:World) (v:V) (h:TxAt w s v) (gx i:Nat) (hx:Blk w gx 70 (treeCells s i)) (key val:List UInt8) :
  Calls Tryz.prog 59 #[.pointer (some ⟨gx,0,none⟩),.string (str key),.string (str val)] w fun e w'=>e = .returned (.int .i64 (may key val:Int)) ∧ Ext No w w':=by
 have HN:=Lib.hid (none_no ⟨s.t,0,none⟩ (.int .i64 (i:Int)) gx w hx)
 have HA:=Lib.hid (alive_any s hs w v h gx i hx)
 have hk:=str_size key
 have hv:=str_size val
 clear h hs hx
 cases key with
 | nil =>
  go_enter Tryz.func59,Tryz.ntmps59
  go_wp2_with fail
  refine (HN.out).mono ?_
  rintro e' w1 ⟨rfl,rfl⟩
  go_wp2_with fail
  go_ret
  exact ⟨rfl,Ext.refl _ _⟩
 | cons a key =>
  have hne:(a :: key).isEmpty = false:=rfl
  have hm:may (a :: key) val = if 140 < (a :: key).length ∨ 16384 < val.length then 3 else 0:=by simp [may]
  rw [hm]
  generalize a :: key = k at *
  have HK:=Lib.hid hk;have HV:=Lib.hid hv
  clear hm
  by_cases h1:140 < k.length
  ·rw [if_pos (.inl h1)]
   go_enter Tryz.func59,Tryz.ntmps59
   go_wp2_with fail
   refine (HN.out).mono ?_
   rintro e' w1 ⟨rfl,rfl⟩
   go_wp2_with fail
   go_ret
   exact ⟨rfl,Ext.refl _ _⟩
  ·by_cases h2:16384 < val.length
   ·rw [if_pos (.inr h2)]
    go_enter Tryz.func59,Tryz.ntmps59
    go_wp2_with fail
    refine (HN.out).mono ?_
    rintro e' w1 ⟨rfl,rfl⟩
    go_wp2_with fail
    go_ret
    exact ⟨rfl,Ext.refl _ _⟩
   ·rw [if_neg (by omega)]
    go_enter Tryz.func59,Tryz.ntmps59
    go_wp2_with fail
    refine (HN.out).mono ?_
    rintro e' w1 ⟨rfl,rfl⟩
    go_wp2_with fail
    refine (HA.out).mono ?_
    rintro e' w1 ⟨rfl,hx1⟩
    go_wp2_with fail
    go_ret
    exact ⟨rfl,hx1⟩
theorem treeroot_any (s:Sys) (hs:s.Ok) (w:World) (v:V) (h:TxAt w s v) (gx i:Nat) (hx:Blk w gx 70 (treeCells s i)) (hi:i < 4) :
  Calls Tryz.prog 15 #[.pointer (some ⟨gx,0,none⟩)] w fun e w'=>e = .returned (.int .i64 (v.r i:Int)) ∧ Ext No w w':=by
 have HN:=Lib.hid (none_no ⟨s.t,0,none⟩ (.int .i64 (i:Int)) gx w hx)
 have HR:=Lib.hid (fun w h=>root_any s hs w v h i hi)
 have c0:=hx.cell 0
 have c1:=hx.cell 1
 simp [treeCells] at c0 c1
 have HT:=Lib.hid h
 clear h
 go_enter Tryz.func15,Tryz.ntmps15
 go_wp2_with fail
 refine (HN.out).mono ?_
 rintro e' w1 ⟨rfl,rfl⟩
 go_wp2_with fail
 go_quiet ((go_at_call 46;exact Calls.quiet_of_same ((HR.out _ (HT.out.no hs ((Ext.refl No w).drewN _))).mono fun _ _ ⟨h1,h2⟩=>⟨h1,h2.symm⟩)))
 go_wp2_with fail
 go_ret
 exact ⟨rfl,by (repeat' (first | exact Ext.refl _ _ | assumption | apply Ext.alloc | apply Ext.drewN | apply Ext.drew | refine Ext.setNew ?_ (by first | omega | (simp;omega) | simp) _ _ | refine Ext.setF ?_ (by first | exact Or.inl rfl | exact Or.inr rfl | rfl) _ _ | refine Ext.trans_ ?_ (by assumption) | refine Ext.trans_ ?_ (Ext.of_no (by assumption))))⟩
def zero64:Array Value:=Array.replicate 64 (.int .u8 0)
theorem Tryz.info142:(Tryz.prog.info? 142).map (fun i=>(i.zero,i.size,i.bytes)) = some (some (.agg zero64),64,64):=by kernel_rfl
theorem Tryz.underlying137':Tryz.prog.underlying 137 = some (.slice 142):=by kernel_rfl
theorem run_make_blocks (n:Nat) (hn:n ≤ 65536) (w:World) :
  (Instr.makeSlice 137 (.int .i64 (n:Int)) (.int .i64 (n:Int))).run Tryz.prog w = .ok (.slice (some ⟨w.heap.size,0,none⟩) n n) (w.alloc (.cells (madeCells zero64 (n * 64)) 142)):=by
 obtain ⟨i,hi,hzz⟩:=Option.map_eq_some_iff.1 Tryz.info142
 simp only [Prod.mk.injEq] at hzz
 obtain ⟨hz,hs,hb⟩:=hzz
 have hr:=run_make (P:=Tryz.prog) w 137 142 i (.agg zero64) Tryz.underlying137' hi hz .i64 .i64 n n (by omega) (Int.le_refl _) (by rw [hb];omega) (by omega)
 simp only [Int.toNat_natCast,hs] at hr
 exact hr
def diskCells (kb n:Nat):Array Value:=#[.slice (some ⟨kb,0,none⟩) n n,.slice none 0 0,.bool false,.bool false,.int .i64 0,.int .i64 0]
theorem disk_zero {w:World} {kb n:Nat} (h:Blk w kb 142 (madeCells zero64 (n * 64))) {j:Nat} (hj:j < n * 64):w.cell? ⟨kb,j,none⟩ = some (.int .u8 0):=by
 rw [h.cell j]
 unfold madeCells
 rw [Array.getElem?_map,Array.getElem?_range,if_pos hj]
 have h1:zero64.size = 64:=rfl
 have h2:j % 64 < 64:=Nat.mod_lt _ (by omega)
 simp only [Option.map_some,h1]
 rw [getElem!_pos zero64 (j % 64) (by omega)]
 simp [zero64]
theorem disk_new (n:Nat) (h1:1 ≤ n) (hn:n ≤ 65536) (w:World) :
  Calls Tryz.prog 44 #[.int .i64 (n:Int)] w fun e w'=>e = .returned (.tuple #[.pointer (some ⟨w.heap.size + 1,0,none⟩),.int .i64 0]) ∧
   Blk w' (w.heap.size + 1) 140 (diskCells w.heap.size n) ∧ Blk w' w.heap.size 142 (madeCells zero64 (n * 64)) ∧ w'.heap.size = w.heap.size + 2 ∧ Ext No w w':=by
 have g1:¬ ((n:Int) < 1):=by omega
 have g2:¬ ((65536:Int) < n):=by omega
 have hmk:=run_make_blocks n hn
 generalize madeCells zero64 (n * 64) = cs at *
 go_enter Tryz.func44,Tryz.ntmps44
 go_wp2_with fail
 go_ret2
 refine ⟨by simp,?_,?_,by simp,by (repeat' (first | exact Ext.refl _ _ | assumption | apply Ext.alloc | apply Ext.drewN | apply Ext.drew | refine Ext.setNew ?_ (by first | omega | (simp;omega) | simp) _ _ | refine Ext.setF ?_ (by first | exact Or.inl rfl | exact Or.inr rfl | rfl) _ _ | refine Ext.trans_ ?_ (by assumption) | refine Ext.trans_ ?_ (Ext.of_no (by assumption))))⟩
 ·exact (show (w.alloc (.cells cs 142)).heap.size = w.heap.size + 1 by simp) ▸ Blk.new (w.alloc (.cells cs 142)) 140 _
 ·exact (Blk.new w 142 cs).alloc _
theorem disk_up {w:World} {d kb n:Nat} (h:Blk w d 140 (diskCells kb n)) (hn:1 ≤ n) :
  Calls Tryz.prog 78 #[.pointer (some ⟨d,0,none⟩)] w fun e w'=>e = .returned (.int .i64 0) ∧ w = w':=by
 have c0:=h.cell 0
 have c2:=h.cell 2
 simp [diskCells] at c0 c2
 go_enter Tryz.func78,Tryz.ntmps78
 go_wp2_with (go_at_call 79;refine (dnone_no d n _ _ c0 hn).mono ?_;rintro e w' ⟨rfl,rfl⟩)
 go_ret
 exact ⟨rfl,rfl⟩
theorem disk_is {w:World} {d kb n:Nat} (h:Blk w d 140 (diskCells kb n)) (i:Nat) (hi:i < n) :
  Calls Tryz.prog 163 #[.pointer (some ⟨d,0,none⟩),.int .i64 (i:Int)] w fun e w'=>e = .returned (.bool true) ∧ w = w':=by
 have c0:=h.cell 0
 simp [diskCells] at c0
 have h1:(0:Int) ≤ i:=by omega
 have h2:(i:Int) < n:=by omega
 go_enter Tryz.func163,Tryz.ntmps163
 go_wp2_with fail
 go_ret
 exact ⟨rfl,rfl⟩
theorem Addr.add_none (b o j:Nat):(⟨b,o,none⟩:Addr).add j = ⟨b,o + j,none⟩:=by
 unfold Addr.add;split
 ·rename_i h;have:j = 0:=by simpa using h
  subst this;rfl
 ·rfl
def zs (n:Nat):List UInt8:=List.replicate n 0
theorem zs_len (n:Nat):(zs n).length = n:=by simp [zs]
theorem disk_read (d kb n:Nat) (i:Nat) (hi:i < n) (hn:n ≤ 65536) (w:World) (h:Blk w d 140 (diskCells kb n)) (hk:Blk w kb 142 (madeCells zero64 (n * 64))) :
  Calls Tryz.prog 119 #[.pointer (some ⟨d,0,none⟩),.int .i64 (i:Int)] w fun e w'=>e = .returned (.tuple #[.string (str (zs 64)),.int .i64 0]) ∧ Ext No w w':=by
 have HU:=Lib.hid (disk_up h (by omega))
 have HI:=Lib.hid (disk_is h i hi)
 have c0:=h.cell 0
 have c1:=h.cell 1
 simp [diskCells] at c0 c1
 have hz:=Lib.hid (fun j (hj:j < n * 64)=>disk_zero hk hj)
 have h1:(0:Int) ≤ i:=by omega
 have h2:(i:Int) < n:=by omega
 go_enter Tryz.func119,Tryz.ntmps119
 go_wp2_with fail
 refine (HU.out).mono ?_
 rintro e w1 ⟨rfl,rfl⟩
 go_wp2_with fail
 refine (HI.out).mono ?_
 rintro e w1 ⟨rfl,rfl⟩
 go_wp2_with fail
 go_loopg [7] 0 (fun gk k wr=>k = .int .i64 (-1) ∧ w = wr)
 case atStart=>exact ⟨rfl,rfl⟩
 case round =>
  obtain ⟨rfl,rfl⟩:=hrel
  have kc:(convert 98 9 (.slice (some ⟨kb,i * 64,none⟩) 64 64)).run Tryz.prog w = .ok (.string (str (zs 64))) w:=by
   refine run_convert_bytes_back (P:=Tryz.prog) w 98 9 5 ⟨kb,i * 64,none⟩ 64 (zs 64) Tryz.underlying98 Tryz.underlying5 Tryz.underlying9 ?_
   intro j hj
   have hj4:j < 64:=by rw [zs_len] at hj;exact hj
   have:=hz.out (i * 64 + j) (by omega)
   rw [Addr.add_none,this]
   simp only [zs,List.getElem_replicate]
   rfl
  go_wp2_with fail
  go_ret2
  exact ⟨rfl,Ext.refl _ _⟩
end Go.Proofs.YtccnemmlkcmceaaGreatDoor
namespace Go.Proofs.YtccnemmlkcmceaaGreatDoor
open Go.RowKit Go.BigFrame
theorem str_app (a b:List UInt8):str a ++ str b = str (a ++ b):=by
 apply ByteArray.ext
 simp [str,ByteArray.data_append]
theorem zs_app (a b:Nat):zs a ++ zs b = zs (a + b):=by simp [zs]
theorem image_zero (x d kb n log id:Nat) (w:World) (x0:w.cell? ⟨x,0,none⟩ = some (.pointer (some ⟨d,0,none⟩))) (x2:w.cell? ⟨x,2,none⟩ = some (.int .i64 (log:Int)))
  (h:Blk w d 140 (diskCells kb n)) (hk:Blk w kb 142 (madeCells zero64 (n * 64))) (hn:n ≤ 65536) (hi:log + id * 8 + 8 ≤ n) :
  Calls Tryz.prog 83 #[.pointer (some ⟨x,0,none⟩),.int .i64 (id:Int)] w fun e w'=>e = .returned (.tuple #[.string (str (zs 512)),.int .i64 0]) ∧ Ext No w w':=by
 have HD:=Lib.hid h;have HK:=Lib.hid hk
 have HR:=Lib.hid (fun k (hk8:k < 8) w (h:Blk w d 140 (diskCells kb n)) (hk:Blk w kb 142 (madeCells zero64 (n * 64)))=>(show ((log + id * 8 + k:Nat):Int) = (log:Int) + (id:Int) * 8 + (k:Int) by omega) ▸ disk_read d kb n (log + id * 8 + k) (by omega) hn w h hk)
 obtain ⟨z,hz⟩:∃ z,z = str (zs 64):=⟨_,rfl⟩
 rw [← hz] at HR
 have HZ:=Lib.hid hz
 clear h hk hz
 go_enter Tryz.func83,Tryz.ntmps83
 go_wp2_with fail
 go_loopg [6,10] 8 (fun gk s k wr=>∃ K:Nat,K + gk = 8 ∧ k = .int .i64 (K:Int) ∧ s = .string (str (List.replicate (K * 64) 0)) ∧ Ext No w wr)
 case atStart=>exact ⟨0,rfl,rfl,rfl,Ext.refl _ _⟩
 case round =>
  obtain ⟨K,hK,rfl,rfl,hE⟩:=hrel
  have y0:=cell_ext hE x0 (fun h=>h)
  have y2:=cell_ext hE x2 (fun h=>h)
  have l0:=World.block_lt_of_cell? wr _ y0
  simp only at l0
  have HE:=Lib.hid hE
  have HKK:=Lib.hid hK
  clear hE
  by_cases h8:K < 8
  ·have HR1:=Lib.hid (fun (i:Upd wr)=>HR.out K h8 (up wr i) (HD.out.ext (HE.out.trans_ (up_ext wr i)) (fun h=>h)) (HK.out.ext (HE.out.trans_ (up_ext wr i)) (fun h=>h)))
   have h8':(K:Int) < 8:=by omega
   have b1:(log:Int) + (id:Int) * 8 + K < 65536:=by omega
   have b2:(0:Int) ≤ (log:Int) + (id:Int) * 8 + K:=by omega
   clear hK h8 hi
   go_wp2_with fail
   refine wp_region_up (by kernel_rfl) (by kernel_rfl) ?_;(repeat (go_big_quiet_step ((go_at_call 119;exact Calls.up_of (HR1.out _)))));refine wpQuiet_nil ?_;intro _ hw';obtain ⟨⟨wq,hq⟩,hw''⟩:=hw';change _ = wq at hw'';subst hw''
   clear HR HD HK HR1 b1 b2 hn x0 x2 y0 y2 l0
   have hzs:z.size = 64:=by rw [HZ.out,str_size,zs_len]
   have hK7:K * 64 ≤ 448:=by omega
   go_wp2_with fail

   go_roundg (gk - 1)
   case rel=>exact ⟨K + 1,by have:=HKK.out;omega,by go_num,by rw [HZ.out,str_app];show Value.string (str (zs (K * 64) ++ zs 64)) = Value.string (str (zs ((K + 1) * 64)));rw [zs_app,Nat.succ_mul],HE.out.trans_ hq⟩
   case measure=>have:=HKK.out;omega
  ·have hK8:K = 8:=by omega
   subst hK8
   clear hK h8 hi
   go_wp2_with fail
   go_ret2
   exact ⟨rfl,HE.out⟩
end Go.Proofs.YtccnemmlkcmceaaGreatDoor
