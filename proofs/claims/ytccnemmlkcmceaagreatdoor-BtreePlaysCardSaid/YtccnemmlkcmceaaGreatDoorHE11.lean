/- Proofs about the given program, joined out of the texts DK2, DK4, DK3, DK5. -/
import Derived.Test.YtccnemmlkcmceaaGreatDoorHE9
import Derived.Lib.BufferWrite
import Derived.Deep.WholeRow
set_option linter.unusedVariables false
set_option linter.unusedSimpArgs false
set_option maxRecDepth 100000
set_option maxHeartbeats 6400000
namespace Go.Proofs.YtccnemmlkcmceaaGreatDoor
open Go.RowKit
def zero65:Array Value:=#[.int .i64 0] ++ zero64
theorem Tryz.info144:(Tryz.prog.info? 144).map (fun i=>(i.zero,i.size,i.bytes)) = some (some (.agg zero65),65,72):=by kernel_rfl
def wrVals (i:Nat) (b:Bs):List Value:=.int .i64 (i:Int) :: bcs b
theorem wrVals_len {i:Nat} {b:Bs} (h:b.length = 64):(wrVals i b).length = 65:=by simp [wrVals,bcs_len,h]
theorem pendVals_snoc (pd:List (Nat × Bs)) (i:Nat) (b:Bs):pendVals (pd ++ [(i,b)]) = pendVals pd ++ wrVals i b:=by
 rw [pendVals_append];simp [pendVals,wrVals]
theorem box_list (i:Nat):(#[Value.int .i64 (i:Int)] ++ zero64).toList = Value.int .i64 (i:Int) :: List.replicate 64 (.int .u8 0):=by
 rw [Array.toList_append]
 show [Value.int .i64 (i:Int)] ++ (Array.replicate 64 (Value.int .u8 0)).toList = _
 rw [Array.toList_replicate];rfl
theorem box_copy (i:Nat) {s:Bs} (hs:s.length ≤ 64):((#[Value.int .i64 (i:Int)] ++ zero64).toList.take 1 ++ bcs s ++ (#[Value.int .i64 (i:Int)] ++ zero64).toList.drop (1 + s.length)) = wrVals i (sect s):=by
 rw [box_list,show 1 + s.length = s.length + 1 by omega,List.drop_succ_cons,List.drop_replicate]
 have h1:bcs (zs (64 - s.length)) = List.replicate (64 - s.length) (.int .u8 0):=by unfold bcs zs;rw [List.map_replicate];rfl
 unfold wrVals sect
 rw [bcs_append,h1]
 rfl
theorem zero144_list:Tryz.zeroCells144.toList = Value.int .i64 0 :: List.replicate 64 (.int .u8 0):=by kernel_rfl
theorem box_set (w:World) (i:Nat):(storeCells ⟨w.heap.size,0,none⟩ (Tryz.zeroCells144.toList.set 0 (.int .i64 (i:Int)))).run Tryz.prog (w.alloc (.cells Tryz.zeroCells144 144)) = .ok () (w.alloc (.cells (#[.int .i64 (i:Int)] ++ zero64) 144)):=by
 have h:=run_storeCells_new (P:=Tryz.prog) w 144 Tryz.zeroCells144 (#[.int .i64 (i:Int)] ++ zero64) (by kernel_rfl) (by kernel_rfl) (by
  rw [Array.all_eq_true_iff_forall_mem]
  intro v hv
  have hv':v ∈ (#[Value.int .i64 (i:Int)] ++ zero64).toList:=Array.mem_toList_iff.2 hv
  rw [box_list] at hv'
  rcases List.mem_cons.1 hv' with rfl | hv'
  ·rfl
  ·rw [List.eq_of_mem_replicate hv'];rfl)
 rw [box_list] at h
 rw [zero144_list]
 exact h
theorem copied_gen (w:World) (C:Array Value) {s:Bs} (hs:s.length ≤ 64) (hC:C.size = 65) (ty:TypeId):(Builtin.copy_ #[98,9] ty #[.slice (some ⟨w.heap.size,1,none⟩) 64 64,.string (str s)]).run Tryz.prog (w.alloc (.cells C 144)) = .ok (goInt s.length) (w.alloc (.cells (C.toList.take 1 ++ bcs s ++ C.toList.drop (1 + s.length)).toArray 144)):=by
 have h5:(Tryz.prog.info? 5).map (·.size) = some 1:=by kernel_rfl
 have h:=Lib.run_copy_row_string (P:=Tryz.prog) (w.alloc (.cells C 144)) 98 9 ty 5 w.heap.size 1 64 64 (str s) C 144 Tryz.underlying98 h5 (heap_alloc_new w (.cells C 144)) (by rw [str_size];exact hs) (by rw [str_size,hC];omega)
 rw [World.setRow_alloc_new,str_size,str_toList] at h
 exact h
theorem box_copied (w:World) (i:Nat) {s:Bs} (hs:s.length ≤ 64) (ty:TypeId):(Builtin.copy_ #[98,9] ty #[.slice (some ⟨w.heap.size,1,none⟩) 64 64,.string (str s)]).run Tryz.prog (w.alloc (.cells (#[.int .i64 (i:Int)] ++ zero64) 144)) = .ok (goInt s.length) (w.alloc (.cells (wrVals i (sect s)).toArray 144)):=by
 have e:=box_copy i hs
 have hz:(#[Value.int .i64 (i:Int)] ++ zero64).size = 65:=by rw [← Array.length_toList,box_list];rfl
 generalize (#[Value.int .i64 (i:Int)] ++ zero64) = C at *
 rw [copied_gen w C hs hz ty,e]
def setRange (cs:Array Value):Nat → List Value → Array Value
 | _,[]=>cs
 | o,v :: r=>setRange (cs.setIfInBounds o v) (o + 1) r
theorem Blk.setCells {g:Nat} {t:TypeId}:∀ (vs:List Value) {cs:Array Value} {o:Nat} {w:World},Blk w g t cs → Blk (w.setCells g o vs) g t (setRange cs o vs)
 | [],cs,o,w,h=>h
 | v :: r,cs,o,w,h=>Blk.setCells r (h.set_ o v)
theorem setRange_size:∀ (vs:List Value) (cs:Array Value) (o:Nat),(setRange cs o vs).size = cs.size
 | [],cs,o=>rfl
 | v :: r,cs,o=>by rw [setRange,setRange_size];simp
theorem setRange_get:∀ (vs:List Value) (cs:Array Value) (o i:Nat),o + vs.length ≤ cs.size → (setRange cs o vs)[i]? = if o ≤ i ∧ i < o + vs.length then vs[i - o]? else cs[i]?
 | [],cs,o,i,h=>by rw [if_neg (by rintro ⟨h1,h2⟩;simp at h2;omega)];rfl
 | v :: r,cs,o,i,h=>by
  rw [List.length_cons] at h
  rw [setRange,setRange_get r _ _ _ (by simp;omega)]
  by_cases h1:o = i
  ·subst h1
   rw [if_neg (by omega),if_pos (by simp)]
   simp [show o < cs.size by omega]
  ·by_cases h2:o + 1 ≤ i ∧ i < o + 1 + r.length
   ·rw [if_pos h2,if_pos (by simp;omega),show i - o = (i - (o + 1)) + 1 by omega]
    simp
   ·rw [if_neg h2,if_neg (by simp;omega)]
    simp [h1]
theorem Ext.setCellsF {F:Nat → Prop} {w:World} {b:Nat} (hb:F b):∀ (vs:List Value) (o:Nat) {w':World},Ext F w w' → Ext F w (w'.setCells b o vs)
 | [],o,w',h=>h
 | v :: r,o,w',h=>Ext.setCellsF hb r (o + 1) (h.setF hb o v)
theorem fold_range:∀ (l:List Value) (k:Nat) (base:Array Value),(l.zipIdx k).foldl (fun cs x=>cs.setIfInBounds x.2 x.1) base = setRange base k l
 | [],k,base=>rfl
 | v :: l,k,base=>by rw [List.zipIdx_cons,List.foldl_cons,fold_range l (k + 1)];rfl
theorem range_all {base cs:Array Value} (h:base.size = cs.size):setRange base 0 cs.toList = cs:=by
 apply Array.ext_getElem?
 intro i
 rw [setRange_get _ _ _ _ (by rw [Array.length_toList];omega)]
 by_cases hi:i < cs.size
 ·rw [if_pos ⟨by omega,by rw [Array.length_toList];omega⟩];simp
 ·rw [if_neg (by rintro ⟨_,h2⟩;rw [Array.length_toList] at h2;omega),Array.getElem?_eq_none (by omega),Array.getElem?_eq_none (by omega)]
theorem fold_all {base cs:Array Value} (h:base.size = cs.size):cs.zipIdx.foldl (fun a x=>a.setIfInBounds (0 + x.2) x.1) base = cs:=by
 have e:(fun (a:Array Value) (x:Value × Nat)=>a.setIfInBounds (0 + x.2) x.1) = fun a x=>a.setIfInBounds x.2 x.1:=by funext a x;rw [Nat.zero_add]
 rw [e,← Array.foldl_toList,Array.toList_zipIdx,fold_range,range_all h]
theorem fill_box {base cs:Array Value} (hb:base.size = 65) (h:cs.size = 65):Instr.fill (fun i=>some (i * 65,65)) base [(0,Value.agg cs)] = some cs:=by
 unfold Instr.fill
 simp only [Nat.zero_mul,Value.cells]
 rw [if_neg (by simp [h,hb])]
 unfold Instr.fill
 exact congrArg some (fold_all (by rw [hb,h]))
theorem zero65_size:zero65.size = 65:=by
 have h:=congrArg List.length (box_list 0)
 rw [Array.length_toList] at h
 exact h.trans (by simp)
theorem run_build_box (w:World) {cs:Array Value} (h:cs.size = 65):(Instr.buildSlice 138 1 #[(0,.agg cs)]).run Tryz.prog w = .ok (.slice (some ⟨w.heap.size,0,none⟩) 1 1) (w.alloc (.cells cs 144)):=by
 obtain ⟨i,hi,hzz⟩:=Option.map_eq_some_iff.1 Tryz.info144
 simp only [Prod.mk.injEq] at hzz
 obtain ⟨hz,hs,hb⟩:=hzz
 have hzs:=zero65_size
 generalize zero65 = Z at *
 have hfl:=fill_box (base:=(Array.range 65).map (fun x=>Z[x % 65]!)) (by simp) h
 unfold Instr.buildSlice
 rw [Sem.run_bind,run_underlying Tryz.underlying138]
 simp [Sem.run_bind,sizeOf,typeInfo,hi,hs,zeroValue,hz,Value.cells,hzs,hfl,newRow,Result.andThen]
theorem wp_build_box {P:Program} {o:Oper} {a:Act} {K:Act → World → Prop} {Q:Exit → Act → World → Prop} {W:World} {cs:Array Value} (hP:P = Tryz.prog) (x:Operand) (ho:o.op = .buildSlice 138 1 #[(0,x)]) (hx:a.eval x = .agg cs) (hs:cs.size = 65)
  (h:K (a.put o.dst (.slice (some ⟨W.heap.size,0,none⟩) 1 1)) (W.alloc (.cells cs 144))):Oper.wp P o a W K Q:=by
 subst hP
 have hr:=run_build_box W hs
 unfold Oper.wp execOp
 simp only [ho,List.map_toArray,List.map_cons,List.map_nil,hx,hr,Sem.run_bind,Sem.run_pure,Result.andThen_ok]
 exact h
theorem step_build_box {P:Program} {ops:Array Oper} {o:Oper} {a:Act} {K:Act → World → Prop} {Q:Exit → Act → World → Prop} {E:Prop} {W:World} {cs:Array Value} (hP:P = Tryz.prog) (hgd:o.guard = none) (x:Operand) (ho:o.op = .buildSlice 138 1 #[(0,x)]) (hx:a.eval x = .agg cs) (hs:cs.size = 65)
  (h:K (a.put o.dst (.slice (some ⟨W.heap.size,0,none⟩) 1 1)) (W.alloc (.cells cs 144))):if Region.wanted o (yielded ops a.tmps) = true then Oper.wp P o a W K Q else E:=by
 have hw:Region.wanted o (yielded ops a.tmps) = true:=by simp [Region.wanted,hgd]
 rw [if_pos hw]
 exact wp_build_box hP x ho hx hs h
theorem owns_ext {F:Nat → Prop} {w w':World} {e:TypeId} {size:Nat} {v:Value} {n:Nat} {xs:List Value} (h:w.ownsRow 0 e size v n xs) (hx:Ext F w w') (hF:∀ g,v.ownBlock = some g → ¬ F g):w'.ownsRow 0 e size v n xs:=by
 refine ⟨h.1,?_⟩
 rcases h.2 with h0 | ⟨g,cap,cur,e1,hg,hb,r⟩
 ·exact .inl h0
 ·refine .inr ⟨g,cap,cur,e1,hg,?_,r⟩
  have hlt:g < w.heap.size:=by
   rcases Nat.lt_or_ge g w.heap.size with hl | hl
   ·exact hl
   ·rw [Array.getElem?_eq_none hl] at hb;cases hb
  rw [hx.block g hlt (hF g (by rw [e1];rfl))];exact hb
theorem wr_one {p:Nat × Bs}:∀ v ∈ wrVals p.1 p.2,v.oneCell' = true:=by
 intro v hv
 rcases List.mem_cons.1 hv with rfl | hv
 ·rfl
 ·obtain ⟨u,_,rfl⟩:=List.mem_map.1 hv
  rfl
theorem dk_pushed {w W W6 w7:World} {D:Nat → Prop} {d kb c:Nat} {k:Dk} {A:Option Addr} {p:Nat × Bs} (h:DiskAt W D d kb k) (hb:Blk W d 140 (k.cells kb A c)) (hw:w.heap.size ≤ W.heap.size) (hD:∀ b,D b → b < w.heap.size) (hx:Ext No W W6) {g cap:Nat}
  (hown:w7.ownsRow 0 144 65 (.slice (some ⟨g,0,none⟩) (k.pd.length + 1) cap) (k.pd.length + 1) (pendVals k.pd ++ wrVals p.1 p.2)) (hg:W6.grownBy w7 (Value.slice A k.pd.length c).ownBlock) (ha:(Value.slice A k.pd.length c).ownBlock = some g ∨ g = W6.heap.size) (hlt:g < w7.heap.size) (hp:p.1 < k.n ∧ p.2.length = 64) :
  DiskAt (w7.setCell ⟨d,1,none⟩ (.slice (some ⟨g,0,none⟩) (k.pd.length + 1) cap)) (Grow D w (w7.setCell ⟨d,1,none⟩ (.slice (some ⟨g,0,none⟩) (k.pd.length + 1) cap))) d kb { k with pd:=k.pd ++ [p] } ∧
  Ext D W (w7.setCell ⟨d,1,none⟩ (.slice (some ⟨g,0,none⟩) (k.pd.length + 1) cap)):=by
 obtain ⟨A2,c2,h1,h2,h3⟩:=h.cells
 have e:A2 = A ∧ c2 = c:=by
  unfold Blk at hb h1
  rw [hb] at h1
  simp only [Dk.cells,Option.some.injEq,Obj.cells.injEq,and_true] at h1
  have:=congrArg (fun a:Array Value=>a[1]?) h1
  simp at this
  exact ⟨this.1.symm,this.2.symm⟩
 obtain ⟨rfl,rfl⟩:=e
 have hx7:Ext (fun b=>(Value.slice A2 k.pd.length c2).ownBlock = some b) W w7:=⟨hg.os.trans hx.os,hg.tape.trans hx.tape,hg.output.trans hx.output,Nat.le_trans hx.size hg.size,fun b hbl hne=>(hg.block b (Nat.lt_of_lt_of_le hbl hx.size) (fun e=>hne e.symm)).trans (hx.block b hbl (fun h=>h))⟩
 have hd7:Blk w7 d 140 (k.cells kb A2 c2):=h1.ext hx7 (fun e=>(h3 d e).2.1 rfl)
 have hk7:∀ b,D b → (Value.slice A2 k.pd.length c2).ownBlock ≠ some b → w7.heap[b]? = W.heap[b]?:=fun b hb hne=>hx7.block b (h.old b hb) hne
 have hgd:g ≠ d ∧ g ≠ kb:=by
  rcases ha with ha | ha
  ·exact (h3 g ha).2
  ·have:=hx.size
   have h4:=h.old d h.dd
   have h5:=h.old kb h.dk
   exact ⟨by omega,by omega⟩
 have hx9:=hx7.setCell (p:=⟨d,1,none⟩)
 have hxD:Ext D W (w7.setCell ⟨d,1,none⟩ (.slice (some ⟨g,0,none⟩) (k.pd.length + 1) cap)):=(hx7.mono (fun b _ hb=>(h3 b hb).1)).setF (F:=D) h.dd 1 _
 have hsz:(w7.setCell ⟨d,1,none⟩ (.slice (some ⟨g,0,none⟩) (k.pd.length + 1) cap)).heap.size = w7.heap.size:=by simp
 have hsz7:=hx7.size
 obtain ⟨cs,h4,h5,h6⟩:=h.kept
 have hlen:(k.pd ++ [p]).length = k.pd.length + 1:=by simp
 refine ⟨⟨⟨some ⟨g,0,none⟩,cap,?_,?_,?_⟩,⟨cs,?_,h5,h6⟩,h.klen,?_,.inl h.dd,.inl h.dk,h.ne,?_,h.n1,h.n2⟩,hxD⟩
 ·have:=hd7.set_ 1 (.slice (some ⟨g,0,none⟩) (k.pd.length + 1) cap)
  have e2:({ k with pd:=k.pd ++ [p] }:Dk).cells kb (some ⟨g,0,none⟩) cap = (k.cells kb A2 c2).setIfInBounds 1 (.slice (some ⟨g,0,none⟩) (k.pd.length + 1) cap):=by
   unfold Dk.cells
   simp only [hlen]
   rfl
  rw [e2]
  exact this
 ·show (w7.setCell _ _).ownsRow 0 144 65 (.slice (some ⟨g,0,none⟩) (k.pd ++ [p]).length cap) (k.pd ++ [p]).length (pendVals (k.pd ++ [p]))
  rw [hlen,show pendVals (k.pd ++ [p]) = pendVals k.pd ++ wrVals p.1 p.2 from pendVals_snoc _ _ _]
  refine owns_ext (F:=On d) hown ((Ext.refl _ _).setF (F:=On d) rfl 1 _) (fun b hb e=>?_)
  have hb':g = b:=by simpa [Value.ownBlock] using hb
  have e':b = d:=e
  exact hgd.1 (hb'.trans e')
 ·intro b hb
  have hb':g = b:=by simpa [Value.ownBlock] using hb
  subst hb'
  refine ⟨?_,hgd⟩
  rcases ha with ha | ha
  ·exact .inl (h3 g ha).1
  ·exact .inr ⟨by have:=hx.size;omega,by omega⟩
 ·have hkb:Blk w7 kb 142 cs:=h4.ext hx7 (fun e=>(h3 kb e).2.2 rfl)
  exact hkb.far (p:=⟨d,1,none⟩) (fun e=>h.ne e.symm) _
 ·intro q hq
  rcases List.mem_append.1 hq with hq | hq
  ·exact h.plen q hq
  ·rw [List.mem_singleton.1 hq];exact hp
 ·exact Grow.old hD (by omega)
theorem cur_snoc (K:Bs) (pd:List (Nat × Bs)) (p:Nat × Bs) (i:Nat):(pd ++ [p]).foldl (fun b p=>if p.1 = i then p.2 else b) K = if p.1 = i then p.2 else pd.foldl (fun b p=>if p.1 = i then p.2 else b) K:=by
 rw [List.foldl_append];rfl
theorem pend_range {pd:List (Nat × Bs)} (h:∀ p ∈ pd,p.2.length = 64) {j:Nat} {p:Nat × Bs} (hj:pd[j]? = some p):∀ (x:Nat) (u:Value),(wrVals p.1 p.2)[x]? = some u → (pendVals pd)[j * 65 + x]? = some u:=by
 induction pd generalizing j with
 | nil=>cases hj
 | cons q pd ih =>
  have e:pendVals (q :: pd) = wrVals q.1 q.2 ++ pendVals pd:=rfl
  have hl:=wrVals_len (i:=q.1) (h q (by simp))
  intro x u hu
  rw [e]
  cases j with
  | zero =>
   have:q = p:=by simpa using hj
   subst this
   have hx:=(List.getElem?_eq_some_iff.1 hu).1
   rw [List.getElem?_append_left (by omega)]
   simpa using hu
  | succ j =>
   rw [List.getElem?_append_right (by omega),hl,show (j + 1) * 65 + x - 65 = j * 65 + x by omega]
   exact ih (fun q hq=>h q (by simp [hq])) (by simpa using hj) x u hu
theorem load_pend {w:World} {D:Nat → Prop} {d kb:Nat} {k:Dk} (h:DiskAt w D d kb k) {j:Nat} {p:Nat × Bs} (hj:k.pd[j]? = some p):∃ g c,w.cell? ⟨d,1,none⟩ = some (.slice (some ⟨g,0,none⟩) k.pd.length c) ∧ k.pd.length ≤ c ∧ w.rangeAt g (j * 65) (wrVals p.1 p.2) ∧ g < w.heap.size:=by
 obtain ⟨A,c,h1,h2,h3⟩:=h.cells
 have hjl:=(List.getElem?_eq_some_iff.1 hj).1
 have hpl:∀ p ∈ k.pd,p.2.length = 64:=fun p hp=>(h.plen p hp).2
 have hcell:=h1.cell 1
 rcases h2.2 with ⟨h0,h00⟩ | ⟨g,cap,cur,e,hg,hbb,r1,r2,r3,r4⟩
 ·omega
 ·injection e with e1 e2 e3
  subst e1;subst e3
  have hwl:=wrVals_len (i:=p.1) (hpl p (List.mem_of_getElem? hj))
  refine ⟨g,c,hcell,r1,fun x u hx=>?_,World.ownsRow.lt h2 g rfl |>.2⟩
  have hx1:=(List.getElem?_eq_some_iff.1 hx).1
  have:=pend_range hpl hj x u hx
  rw [h2.cellAt (j * 65 + x) (by omega)]
  exact this
theorem run_store_box (w:World) {i:Nat} {b:Bs} (hb:b.length = 64):(storeCells ⟨w.heap.size,0,none⟩ (wrVals i b)).run Tryz.prog (w.alloc (.cells Tryz.zeroCells144 144)) = .ok () (w.alloc (.cells (wrVals i b).toArray 144)):=by
 have hz:(wrVals i b).toArray.size = 65:=by rw [List.size_toArray,wrVals_len hb]
 have h:=run_storeCells_new (P:=Tryz.prog) w 144 Tryz.zeroCells144 (wrVals i b).toArray (by rw [hz];kernel_rfl) (by rw [hz];kernel_rfl) (all_oneCell_toArray (wr_one (p:=(i,b))))
 simpa using h
theorem DiskAt.keep {w:World} {D:Nat → Prop} {d kb:Nat} {k:Dk} (h:DiskAt w D d kb k) {i:Nat} {b:Bs} (hi:i < k.n) (hb:b.length = 64) :
  DiskAt (w.setCells kb (i * 64) (bcs b)) D d kb { k with K:=fun j=>if i = j then b else k.K j }:=by
 have hx:Ext (On kb) w (w.setCells kb (i * 64) (bcs b)):=Ext.setCellsF (F:=On kb) (b:=kb) rfl _ _ (Ext.refl _ _)
 obtain ⟨A,c,h1,h2,h3⟩:=h.cells
 obtain ⟨cs,h4,h5,h6⟩:=h.kept
 have hl:(bcs b).length = 64:=by rw [bcs_len,hb]
 refine ⟨⟨A,c,h1.ext hx (fun e=>h.ne e),?_,h3⟩,⟨_,Blk.setCells _ h4,by rw [setRange_size];exact h5,fun j hj x hx64=>?_⟩,fun j hj=>?_,h.plen,h.dd,h.dk,h.ne,fun y hy=>Nat.lt_of_lt_of_le (h.old y hy) hx.size,h.n1,h.n2⟩
 ·refine ⟨h2.1,?_⟩
  rcases h2.2 with h0 | ⟨g,cap,cur,e,hg,hbb,r1,r2,r3,r4⟩
  ·exact .inl h0
  ·have hgD:=h3 g (by rw [e];rfl)
   refine .inr ⟨g,cap,cur,e,hg,?_,r1,r2,r3,r4⟩
   rw [hx.block g (h.old g hgD.1) hgD.2.2];exact hbb
 ·have hj':j < k.n:=hj
  rw [setRange_get _ _ _ _ (by rw [hl,h5];omega),hl]
  by_cases hij:i = j
  ·subst hij
   rw [if_pos (by omega),show i * 64 + x - i * 64 = x by omega]
   show (bcs b)[x]? = some (.int .u8 (((if i = i then b else k.K i).getD x 0).toNat:Int))
   rw [if_pos rfl]
   simp [bcs,List.getElem?_eq_getElem (show x < b.length by omega)]
  ·rw [if_neg (by omega)]
   show cs[j * 64 + x]? = some (.int .u8 (((if i = j then b else k.K j).getD x 0).toNat:Int))
   rw [if_neg hij]
   exact h6 j hj' x hx64
 ·show (if i = j then b else k.K j).length = 64
  split
  ·exact hb
  ·exact h.klen j hj
theorem DiskAt.there {w:World} {D:Nat → Prop} {d kb:Nat} {k:Dk} (h:DiskAt w D d kb k) {i:Nat} (hi:i < k.n):w.there kb (i * 64) 64:=fun j hj=>by
 obtain ⟨cs,h4,h5,h6⟩:=h.kept
 refine ⟨?_,h4.frozen _⟩
 rw [h4.cell,h6 i hi j hj];rfl
theorem bcs_one {b:Bs}:∀ v ∈ bcs b,v.oneCell' = true:=fun v hv=>by
 obtain ⟨u,_,rfl⟩:=List.mem_map.1 hv
 rfl
theorem DiskAt.emptied {w:World} {D:Nat → Prop} {d kb:Nat} {k:Dk} (h:DiskAt w D d kb k):DiskAt (w.setCell ⟨d,1,none⟩ (.slice none 0 0)) D d kb { k with pd:=[] }:=by
 have hx:Ext (On d) w (w.setCell ⟨d,1,none⟩ (.slice none 0 0)):=(Ext.refl _ _).setF (F:=On d) rfl 1 _
 obtain ⟨A,c,h1,h2,h3⟩:=h.cells
 obtain ⟨cs,h4,h5,h6⟩:=h.kept
 refine ⟨⟨none,0,h1.set_ 1 _,⟨rfl,.inl ⟨rfl,rfl⟩⟩,(fun g hg=>by cases hg)⟩,⟨cs,h4.ext hx (fun e=>h.ne e.symm),h5,h6⟩,h.klen,(fun p hp=>by cases hp),h.dd,h.dk,h.ne,fun y hy=>Nat.lt_of_lt_of_le (h.old y hy) hx.size,h.n1,h.n2⟩
def Dk.upto (k:Dk) (j:Nat):Dk:={ k with K:=fun i=>(k.pd.take j).foldl (fun b p=>if p.1 = i then p.2 else b) (k.K i) }
theorem Dk.upto_next {k:Dk} {j:Nat} {p:Nat × Bs} (hp:k.pd[j]? = some p):{ k.upto j with K:=fun i=>if p.1 = i then p.2 else (k.upto j).K i } = k.upto (j + 1):=by
 have hj:=(List.getElem?_eq_some_iff.1 hp).1
 have e:(fun i=>if p.1 = i then p.2 else (k.upto j).K i) = (k.upto (j + 1)).K:=by
  funext i
  show _ = (k.pd.take (j + 1)).foldl (fun b p=>if p.1 = i then p.2 else b) (k.K i)
  rw [List.take_add_one,hp,Option.toList_some,cur_snoc];rfl
 rw [e];rfl
def Dk.flushed (k:Dk):Dk:={ k.upto k.pd.length with pd:=[] }
theorem Dk.flush_eq {k:Dk} (hd:k.down = false):k.flush = if k.does.1 ≠ 0 then k.does else (0,k.does.2.flushed):=by
 have h1:=k.does_same
 have e:k.does.2.flushed = { k.does.2 with K:=k.cur,pd:=[] }:=by
  unfold Dk.flushed Dk.upto Dk.cur
  simp [h1.2.1,h1.2.2.1]
 unfold Dk.flush
 rw [hd,e];rfl
theorem dk_flush {w:World} {D:Nat → Prop} {d kb:Nat} {k:Dk} (h:DiskAt w D d kb k) (hl:k.left < 2^40) (hdn:k.done < 2^40) (hpd:k.pd.length < 2^30) :
  Calls Tryz.prog 110 #[.pointer (some ⟨d,0,none⟩)] w fun e w'=>e = .returned (.int .i64 ((k.flush).1:Int)) ∧ DiskAt w' D d kb k.flush.2 ∧ Ext D w w':=by
 have HU:=Lib.hid (dk_up h)
 have HDO:=Lib.hid (dk_does h hl hdn)
 have HH:=Lib.hid h
 have hon:∀ b,On d b → D b:=fun b hb=>by have:b = d:=hb;rw [this];exact HH.out.dd
 cases hd:k.down
 ·have e0:=Dk.flush_eq hd
  rw [e0]
  rw [hd] at HU
  clear h hd
  rcases k.does_code with hc | hc
  ·rw [if_neg (by omega)]
   rw [hc] at HDO
   have hpd1:k.does.2.pd = k.pd:=k.does_same.2.2.1
   have hK1:k.does.2.n = k.n:=k.does_same.1
   have hpb:(k.does.2.pd.length:Int) < 1073741824:=by rw [hpd1];omega
   have hpl:=HH.out.plen
   rw [← hpd1,← hK1] at hpl
   have HPL:=Lib.hid hpl
   clear hpl
   generalize k.does.2 = k2 at *
   clear hpd1 hK1 e0
   go_enter Tryz.func110,Tryz.ntmps110
   go_wp2_with fail
   refine (HU.out).mono ?_
   rintro e w1 ⟨rfl,rfl⟩
   go_wp2_with fail
   refine (HDO.out).mono ?_
   rintro e w1 ⟨rfl,hd1,hx1⟩
   have HD1:=Lib.hid hd1;have HX1:=Lib.hid (hx1.mono (fun b _=>hon b))
   clear hd1 hx1 HDO HU
   obtain ⟨A,c,_,_,c1,_,_,_,_,hlt,_⟩:=HD1.out.c
   have HC1:=Lib.hid c1
   go_wp2_with fail
   clear c1
   go_loopg [22] k2.pd.length (fun gk q22 wr=>∃ j:Nat,j + gk = k2.pd.length ∧ q22 = .int .i64 (j:Int) ∧ Hid (DiskAt wr D d kb (k2.upto j)) ∧ Hid (Ext D w wr) ∧ Hid (wr.cell? ⟨d,1,none⟩ = some (.slice A k2.pd.length c)))
   case atStart=>exact ⟨0,by omega,rfl,HD1,HX1,HC1⟩
   case round =>
    obtain ⟨j,hk,rfl,HD,HX,HC⟩:=hrel
    have HK:=Lib.hid hk
    by_cases hj:j < k2.pd.length
    ·obtain ⟨p,hp⟩:∃ p,k2.pd[j]? = some p:=⟨_,List.getElem?_eq_getElem hj⟩
     obtain ⟨g,c9,x1,x2,x3,x4⟩:=load_pend HD.out hp
     have hAc:A = some ⟨g,0,none⟩ ∧ c = c9:=by
      rw [HC.out] at x1
      injection x1 with e
      injection e with e1 e2 e3
      exact ⟨e1,e3⟩
     obtain ⟨rfl,rfl⟩:=hAc
     have hpm:=HPL.out p (List.mem_of_getElem? hp)
     have hpl:=hpm.2
     have hpn:=hpm.1
     have HX3:=Lib.hid x3
     have HPP:=Lib.hid hpl
     have hst:=run_store_box wr (i:=p.1) hpl
     have hwl:=wrVals_len (i:=p.1) hpl
     have HB:=Lib.hid (Blk.new wr 144 (wrVals p.1 p.2).toArray)
     have HXW:=Lib.hid ((Ext.refl No wr).alloc (.cells (wrVals p.1 p.2).toArray 144))
     have hlt:d < wr.heap.size:=HD.out.old d HD.out.dd
     have hltk:kb < wr.heap.size:=HD.out.old kb HD.out.dk
     have hj1:(0:Int) ≤ j:=by omega
     have hj2:(j:Int) < k2.pd.length:=by omega
     clear hk x1 x3 hpm
     go_upto_region 9 with fail
     refine wp_region_lit ?_
     iterate 1 (refine wpList_step (fun K hK=>?_);go_simp;refine hK _ _ ?_;clear hK K)
     refine wpList_load_mid (P:=Tryz.prog) (by rfl) 144 (.tmp 24) (by rfl) g (j * 65) (by rfl) (wrVals p.1 p.2) _ HX3.out Tryz.underlying144 rfl (by rw [wrVals_len HPP.out];kernel_rfl) ?_
     refine wpList_step (fun K hK=>?_);go_simp;refine hK _ _ ?_;clear hK K
     refine wpList_step (fun K hK=>?_);go_simp;refine hK _ _ ?_;clear hK K hst hwl
     have hWs:(wr.alloc (.cells (wrVals p.1 p.2).toArray 144)).heap.size = wr.heap.size + 1:=by simp
     generalize wr.alloc (.cells (wrVals p.1 p.2).toArray 144) = W at *
     have HDW:=Lib.hid (HD.out.ext HXW.out (fun _ _ h=>h))
     go_upto_region 10 with fail
     have HDD:=Lib.hid (HDW.out.ext ((Ext.refl No W).drew) (fun _ _ h=>h))
     have hs1:W.drew.cell? ⟨d,0,none⟩ = some (.slice (some ⟨kb,0,none⟩) k2.n k2.n):=by
      obtain ⟨_,_,_,y0,_⟩:=HDD.out.c
      exact y0
     have hs2:W.drew.cell? ⟨wr.heap.size,0,none⟩ = some (.int .i64 (p.1:Int)):=(HB.out.drewN 1).cell 0
     have hs3:W.drew.rangeAt wr.heap.size 1 (bcs p.2):=fun x u hx=>by
      rw [show W.drew.cell? ⟨wr.heap.size,1 + x,none⟩ = _ from (HB.out.drewN 1).cell (1 + x),Nat.add_comm]
      simpa [wrVals] using hx
     have hb64:(bcs p.2).length = 64:=by rw [bcs_len,hpl]
     have hxk:Ext (On kb) W.drew (W.drew.setCells kb (p.1 * 64) (bcs p.2)):=Ext.setCellsF (F:=On kb) (b:=kb) rfl _ _ (Ext.refl _ _)
     have hS':((W.drew.setCells kb (p.1 * 64) (bcs p.2)).cell? ⟨d,0,none⟩ = some (.slice (some ⟨kb,0,none⟩) k2.n k2.n) ∧ (W.drew.setCells kb (p.1 * 64) (bcs p.2)).cell? ⟨wr.heap.size,0,none⟩ = some (.int .i64 (p.1:Int)) ∧ (W.drew.setCells kb (p.1 * 64) (bcs p.2)).rangeAt wr.heap.size 1 (bcs p.2)):=by
      have hne1:¬ On kb d:=fun e=>HH.out.ne e
      have hne2:¬ On kb wr.heap.size:=fun e=>by have:wr.heap.size = kb:=e;omega
      refine ⟨cell_ext hxk hs1 hne1,cell_ext hxk hs2 hne2,World.rangeAt_setCells_apart hs3 _ _ _ (.inl hne2)⟩
     have HKEEP:=Lib.hid (HDD.out.keep hpn hpl)
     rw [Dk.upto_next hp] at HKEEP
     have HTH:=Lib.hid (HDD.out.there hpn)
     have HXF:=Lib.hid ((HX.out.trans_ (HXW.out.of_no)).drew |>.trans hxk (fun b _ hb=>by have:b = kb:=hb;rw [this];exact HH.out.dk))
     have HC9:Hid ((W.drew.setCells kb (p.1 * 64) (bcs p.2)).cell? ⟨d,1,none⟩ = some (.slice (some ⟨g,0,none⟩) k2.pd.length c)):=Lib.hid (cell_ext hxk (cell_ext ((Ext.refl No W).drew) (cell_ext HXW.out HC.out (fun h=>h)) (fun h=>h)) (fun e=>HH.out.ne e))
     have hi1:(0:Int) ≤ p.1:=by omega
     have hi2:(p.1:Int) < k2.n:=by omega
     have hu142:=Tryz.underlying142
     have hi142:(Tryz.prog.info? 142).map (·.size) = some (bcs p.2).length:=by rw [hb64];kernel_rfl
     have hone:∀ v ∈ bcs p.2,v.oneCell' = true:=bcs_one
     have hth:=HTH.out
     clear hxk
     go_region_held3 (fun w'=>w'.cell? ⟨d,0,none⟩ = some (.slice (some ⟨kb,0,none⟩) k2.n k2.n) ∧ w'.cell? ⟨wr.heap.size,0,none⟩ = some (.int .i64 (p.1:Int)) ∧ w'.rangeAt wr.heap.size 1 (bcs p.2)) (first | exact ⟨hs1,hs2,hs3⟩ | exact hS') (fail)
     clear hs1 hs2 hs3 hS' hone hi142 hu142 hth
     clear HB HDW HDD HTH
     generalize W.drew.setCells kb (p.1 * 64) (bcs p.2) = W9 at *
     go_wp2_with fail
     go_roundg (gk - 1)
     case rel=>exact ⟨j + 1,by have:=HK.out;omega,by go_num,HKEEP,HXF,HC9⟩
     case measure=>have:=HK.out;omega
    ·have hge:¬ ((j:Int) < (k2.pd.length:Int)):=by omega
     have hjl:j = k2.pd.length:=by omega
     have HR:=Lib.hid HD.out.emptied
     rw [hjl] at HR
     have HXR:=Lib.hid (HX.out.setF (F:=D) HH.out.dd 1 (.slice none 0 0))
     have hf:=HC.out
     obtain ⟨_,_,hb9,_⟩:=HD.out.cells
     have f1:=hb9.frozen 1
     have hlt:d < wr.heap.size:=HD.out.old d HD.out.dd
     clear hk hjl hb9
     go_wp2_with fail
     go_ret
     exact ⟨rfl,HR.out,HXR.out⟩
  ·rw [if_pos (by omega),hc]
   rw [hc] at HDO
   go_enter Tryz.func110,Tryz.ntmps110
   go_wp2_with fail
   refine (HU.out).mono ?_
   rintro e w1 ⟨rfl,rfl⟩
   go_wp2_with fail
   refine (HDO.out).mono ?_
   rintro e w1 ⟨rfl,hd1,hx1⟩
   go_wp2_with fail
   go_ret
   exact ⟨rfl,hd1,hx1.mono (fun b _ hb=>hon b hb)⟩
 ·have e0:k.flush = (10,k):=by unfold Dk.flush;rw [hd];rfl
  rw [e0]
  rw [hd] at HU
  clear h hd
  go_enter Tryz.func110,Tryz.ntmps110
  go_wp2_with fail
  refine (HU.out).mono ?_
  rintro e w1 ⟨rfl,rfl⟩
  go_wp2_with fail
  go_ret
  exact ⟨rfl,HH.out,Ext.refl _ _⟩
theorem World.rangeAt_set_far {w:World} {b o:Nat} {cs:List Value} (h:w.rangeAt b o cs) {p:Addr} (hp:b ≠ p.block) {v:Value}:(w.setCell p v).rangeAt b o cs:=fun j u hu=>by
 rw [World.cell?_setCell_far _ _ _ _ (fun e=>hp e.symm)]
 exact h j u hu
theorem dk_write {w:World} {D:Nat → Prop} {d kb:Nat} {k:Dk} (h:DiskAt w D d kb k) (i:Nat) (hi:i < k.n) (s:Bs) (hs:s.length ≤ 64) (hl:k.left < 2^40) (hdn:k.done < 2^40) (hpd:k.pd.length < 2^30) :
  Calls Tryz.prog 161 #[.pointer (some ⟨d,0,none⟩),.int .i64 (i:Int),.string (str s)] w fun e w'=>e = .returned (.int .i64 ((k.write i s).1:Int)) ∧ DiskAt w' (Grow D w w') d kb (k.write i s).2 ∧ Ext D w w':=by
 have HU:=Lib.hid (dk_up h)
 have HI:=Lib.hid (dk_is h i hi)
 have HDO:=Lib.hid (dk_does h hl hdn)
 have HH:=Lib.hid h
 have hss:=str_size s
 have h64:¬ ((64:Int) < (s.length:Int)):=by omega
 cases hd:k.down
 ·have e0:k.write i s = if k.does.1 ≠ 0 then k.does else (0,{ k.does.2 with pd:=k.pd ++ [(i,sect s)] }):=by unfold Dk.write;rw [hd];rfl
  rw [e0]
  rw [hd] at HU
  clear h hd
  rcases k.does_code with hc | hc
  ·rw [if_neg (by omega)]
   rw [hc] at HDO
   go_enter Tryz.func161,Tryz.ntmps161
   go_wp2_with fail
   refine (HU.out).mono ?_
   rintro e w1 ⟨rfl,rfl⟩
   go_wp2_with fail
   refine (HI.out).mono ?_
   rintro e w1 ⟨rfl,rfl⟩
   go_wp2_with fail
   refine (HDO.out).mono ?_
   rintro e w1 ⟨rfl,hd1,hx1⟩
   have HD1:=Lib.hid hd1;have HX1:=Lib.hid hx1
   clear hd1 hx1
   have hbs:=box_set w1 i
   have hbc:=box_copied w1 i hs
   go_upto_region 13 with fail
   clear hbs hbc
   have HBX:=Lib.hid (Blk.new w1 144 (wrVals i (sect s)).toArray)
   have HD2:=Lib.hid (HD1.out.ext ((Ext.refl No w1).alloc (.cells (wrVals i (sect s)).toArray 144)) (fun _ _ h=>h))
   have HX2:=Lib.hid (HX1.out.alloc (.cells (wrVals i (sect s)).toArray 144))
   have hsz:(w1.alloc (.cells (wrVals i (sect s)).toArray 144)).heap.size = w1.heap.size + 1:=by simp
   generalize w1.alloc (.cells (wrVals i (sect s)).toArray 144) = W at *
   have hsl:=sect_len hs
   obtain ⟨i0,hti,htz0,htz1,htz2⟩:=info_parts Tryz.info144
   have hpd1:k.does.2.pd = k.pd:=k.does_same.2.2.1
   have hw1:w1.heap.size < W.heap.size:=by omega
   obtain ⟨A,c,hbk,hown,hblk⟩:=HD2.out.cells
   rw [hpd1] at hown
   have HOWN:=Lib.hid hown
   have HBK:=Lib.hid hbk
   clear hown hbk
   have c1:W.cell? ⟨d,1,none⟩ = some (.slice A k.pd.length c):=by rw [HBK.out.cell 1,← hpd1];rfl
   have f1:W.frozen? ⟨d,1,none⟩ = false:=HBK.out.frozen 1
   have hne1:(Value.slice A k.pd.length c).ownBlock ≠ some w1.heap.size:=fun e=>by
    have:=HD1.out.old _ (hblk _ (by rw [hpd1];exact e)).1
    omega
   have hned:(Value.slice A k.pd.length c).ownBlock ≠ some d:=fun e=>(hblk _ (by rw [hpd1];exact e)).2.1 rfl
   have hlt:d < w1.heap.size:=HD1.out.old d HD1.out.dd
   have hne2:d ≠ w1.heap.size:=by omega
   clear hblk
   refine wp_region_held_drew (S:=fun w'=>w'.rangeAt w1.heap.size 0 (wrVals i (sect s))) (by kernel_rfl) (fun j v hv=>by
    rw [Nat.zero_add,show W.drew.cell? ⟨w1.heap.size,j,none⟩ = (wrVals i (sect s)).toArray[j]? from (HBX.out.drewN 1).cell j]
    simpa using hv) (fun hS0=>?_)
   (refine wpAnyH_take (i:=0) (v:=?_) rfl (by kernel_rfl) (by kernel_rfl) (by kernel_rfl) (fun _ _ _ h=>h) (Or.inl ⟨by rfl,?_⟩) hS0 ?_;rotate_left;(intro w _;go_simp;try with_reducible rfl);rotate_left)
   (refine wpAnyH_take (i:=1) (v:=?_) rfl (by kernel_rfl) (by kernel_rfl) (by kernel_rfl) (fun _ _ _ h=>h) (Or.inl ⟨by rfl,?_⟩) hS0 ?_;rotate_left;(intro w _;go_simp;try with_reducible rfl);rotate_left)
   (refine wpAnyH_take (i:=2) (v:=?_) rfl (by kernel_rfl) (by kernel_rfl) (by kernel_rfl) (fun _ _ _ h=>h) (Or.inl ⟨by rfl,?_⟩) hS0 ?_;rotate_left;(intro w _;go_simp;try with_reducible rfl);rotate_left)
   (refine wpAnyH_take (i:=3) (v:=?_) rfl (by kernel_rfl) (by kernel_rfl) (by kernel_rfl) (fun _ _ _ h=>h) (Or.inl ⟨by rfl,?_⟩) hS0 ?_;rotate_left;(intro w _;go_simp;try with_reducible rfl);rotate_left)
   refine' wpAnyH_take (i:=5) (v:=_) rfl (by kernel_rfl) (by kernel_rfl) (by kernel_rfl) (fun _ _ _ h=>h) (yieldsIf_load_mid (by rfl) 144 (.tmp 9) rfl _ _ rfl (wrVals i (sect s)) _ (fun _ h=>h) Tryz.underlying144 rfl (by rw [wrVals_len hsl];kernel_rfl)) hS0 ?_
   refine wpAnyH_ready (rs:=[4,6]) (by kernel_rfl) (by simp) ?_
   have hA1:(W.drew.alloc (.cells (wrVals i (sect s)).toArray 144)).rangeAt w1.heap.size 0 (wrVals i (sect s)):=World.rangeAt_alloc hS0 _
   have hX6:Ext No W (W.drew.alloc (.cells (wrVals i (sect s)).toArray 144)):=((Ext.refl No W).drewN 1).alloc (.cells (wrVals i (sect s)).toArray 144)
   have HNW:=Lib.hid (Blk.new W.drew 144 (wrVals i (sect s)).toArray)
   have HO6:=Lib.hid (owns_ext HOWN.out hX6 (fun _ _ h=>h))
   have HSZ:W.drew.heap.size = W.heap.size:=rfl
   refine AllReadyH.cons rfl (fun K hK=>?_) (AllReadyH.cons rfl (fun K hK=>?_) AllReadyH.nil)
   ·go_simp
    refine hK.out _ _ hS0 (fun _=>?_)
    clear hK K
    refine wpAnyH_ready (rs:=[6]) (by kernel_rfl) (by simp) ?_
    refine AllReadyH.cons rfl (fun K hK=>?_) AllReadyH.nil
    refine step_build_box rfl (by rfl) (.tmp 40) (by rfl) (by rfl) (by rw [List.size_toArray,wrVals_len hsl]) ?_
    refine hK.out _ _ hA1 (fun _=>?_)
    clear hK K
    refine wpAnyH_ready (rs:=[7]) (by kernel_rfl) (by simp) ?_
    refine AllReadyH.cons rfl (fun K hK=>?_) AllReadyH.nil
    refine step_append_lies (P:=Tryz.prog) _ (by rfl) (.tmp 39) (.tmp 41) 138 (by rfl) 0 144 i0 (.agg zero65) 65 72 Tryz.underlying138 hti htz0 htz1 htz2 (by exact zero65_size) (by omega) _ k.pd.length (pendVals k.pd) (by rfl) HO6.out ⟨W.heap.size,0,none⟩ 1 1 (wrVals i (sect s)) (by first | rfl | (rw [hsz];rfl)) (wrVals_len hsl) (World.news_of_block HNW.out) (wr_one (p:=(i,sect s))) (by omega) (by unfold maxLen;omega) (by omega) (Nat.zero_le _) _ rfl ?_
    intro g cap w7 hown7 hg7 ha7 hlt7
    have hS7:w7.rangeAt w1.heap.size 0 (wrVals i (sect s)):=fun j v hv=>by
     rw [Nat.zero_add,World.cell?_of_block (hg7.block w1.heap.size (by simp;omega) (fun e=>hne1 e.symm))]
     exact (Nat.zero_add j) ▸ hA1 j v hv
    obtain ⟨hd9,hx9⟩:=dk_pushed (w:=w) (p:=(i,sect s)) HD2.out HBK.out (by have:=HX1.out.size;omega) HH.out.old hX6 (by rw [hpd1];exact hown7) (by rw [hpd1];exact hg7) (by rw [hpd1];exact ha7) hlt7 ⟨by rw [k.does_same.1];exact hi,hsl⟩
    rw [hpd1] at hd9 hx9
    have c17:w7.cell? ⟨d,1,none⟩ = some (.slice A k.pd.length c):=by
     rw [hg7.cell_far ⟨d,1,none⟩ (by simp;omega) (fun e=>hned e.symm)]
     exact (HBK.out.ext hX6 (fun h=>h)).cell 1 |>.trans (by rw [← hpd1];rfl)
    have f17:w7.frozen? ⟨d,1,none⟩ = false:=by
     rw [hg7.frozen_far ⟨d,1,none⟩ (by simp;omega) (fun e=>hned e.symm)]
     exact (HBK.out.ext hX6 (fun h=>h)).frozen 1
    refine hK.out _ _ hS7 (fun _=>?_)
    clear hK K hown7 hg7 ha7 hlt7
    (refine wpAnyH_take (i:=8) (v:=?_) rfl (by kernel_rfl) (by kernel_rfl) (by kernel_rfl) (fun _ _ _ h=>h) (Or.inl ⟨by rfl,?_⟩) hS7 ?_;rotate_left;(intro w _;go_simp;try with_reducible rfl);rotate_left)
    (refine wpAnyH_take (i:=9) (v:=?_) rfl (by kernel_rfl) (by kernel_rfl) (by kernel_rfl) (fun _ _ _ h=>h) (Or.inl ⟨by rfl,?_⟩) hS7 ?_;rotate_left;(intro w _;go_simp;try with_reducible rfl);rotate_left)
    refine wpAnyH_ready (rs:=[10]) (by kernel_rfl) (by simp) ?_
    refine AllReadyH.cons rfl (fun K hK=>?_) AllReadyH.nil
    go_simp
    refine hK.out _ _ (World.rangeAt_set_far hS7 hne2.symm) (fun _=>?_)
    clear hK K
    refine wpAnyH_done (by kernel_rfl) ?_ _
    go_wp2_with fail
    go_ret
    exact ⟨rfl,hd9,(HX2.out.mono (fun b _ hb=>by have:b = d:=hb;rw [this];exact HH.out.dd)).trans hx9 (fun _ _ h=>h)⟩
   ·refine step_build_box rfl (by rfl) (.tmp 40) (by rfl) (by rfl) (by rw [List.size_toArray,wrVals_len hsl]) ?_
    refine hK.out _ _ hA1 (fun _=>?_)
    clear hK K
    refine wpAnyH_ready (rs:=[4]) (by kernel_rfl) (by simp) ?_
    refine AllReadyH.cons rfl (fun K hK=>?_) AllReadyH.nil
    go_simp
    refine hK.out _ _ hA1 (fun _=>?_)
    clear hK K
    refine wpAnyH_ready (rs:=[7]) (by kernel_rfl) (by simp) ?_
    refine AllReadyH.cons rfl (fun K hK=>?_) AllReadyH.nil
    refine step_append_lies (P:=Tryz.prog) _ (by rfl) (.tmp 39) (.tmp 41) 138 (by rfl) 0 144 i0 (.agg zero65) 65 72 Tryz.underlying138 hti htz0 htz1 htz2 (by exact zero65_size) (by omega) _ k.pd.length (pendVals k.pd) (by rfl) HO6.out ⟨W.heap.size,0,none⟩ 1 1 (wrVals i (sect s)) (by first | rfl | (rw [hsz];rfl)) (wrVals_len hsl) (World.news_of_block HNW.out) (wr_one (p:=(i,sect s))) (by omega) (by unfold maxLen;omega) (by omega) (Nat.zero_le _) _ rfl ?_
    intro g cap w7 hown7 hg7 ha7 hlt7
    have hS7:w7.rangeAt w1.heap.size 0 (wrVals i (sect s)):=fun j v hv=>by
     rw [Nat.zero_add,World.cell?_of_block (hg7.block w1.heap.size (by simp;omega) (fun e=>hne1 e.symm))]
     exact (Nat.zero_add j) ▸ hA1 j v hv
    obtain ⟨hd9,hx9⟩:=dk_pushed (w:=w) (p:=(i,sect s)) HD2.out HBK.out (by have:=HX1.out.size;omega) HH.out.old hX6 (by rw [hpd1];exact hown7) (by rw [hpd1];exact hg7) (by rw [hpd1];exact ha7) hlt7 ⟨by rw [k.does_same.1];exact hi,hsl⟩
    rw [hpd1] at hd9 hx9
    have c17:w7.cell? ⟨d,1,none⟩ = some (.slice A k.pd.length c):=by
     rw [hg7.cell_far ⟨d,1,none⟩ (by simp;omega) (fun e=>hned e.symm)]
     exact (HBK.out.ext hX6 (fun h=>h)).cell 1 |>.trans (by rw [← hpd1];rfl)
    have f17:w7.frozen? ⟨d,1,none⟩ = false:=by
     rw [hg7.frozen_far ⟨d,1,none⟩ (by simp;omega) (fun e=>hned e.symm)]
     exact (HBK.out.ext hX6 (fun h=>h)).frozen 1
    refine hK.out _ _ hS7 (fun _=>?_)
    clear hK K hown7 hg7 ha7 hlt7
    (refine wpAnyH_take (i:=8) (v:=?_) rfl (by kernel_rfl) (by kernel_rfl) (by kernel_rfl) (fun _ _ _ h=>h) (Or.inl ⟨by rfl,?_⟩) hS7 ?_;rotate_left;(intro w _;go_simp;try with_reducible rfl);rotate_left)
    (refine wpAnyH_take (i:=9) (v:=?_) rfl (by kernel_rfl) (by kernel_rfl) (by kernel_rfl) (fun _ _ _ h=>h) (Or.inl ⟨by rfl,?_⟩) hS7 ?_;rotate_left;(intro w _;go_simp;try with_reducible rfl);rotate_left)
    refine wpAnyH_ready (rs:=[10]) (by kernel_rfl) (by simp) ?_
    refine AllReadyH.cons rfl (fun K hK=>?_) AllReadyH.nil
    go_simp
    refine hK.out _ _ (World.rangeAt_set_far hS7 hne2.symm) (fun _=>?_)
    clear hK K
    refine wpAnyH_done (by kernel_rfl) ?_ _
    go_wp2_with fail
    go_ret
    exact ⟨rfl,hd9,(HX2.out.mono (fun b _ hb=>by have:b = d:=hb;rw [this];exact HH.out.dd)).trans hx9 (fun _ _ h=>h)⟩
  ·rw [if_pos (by omega),hc]
   rw [hc] at HDO
   go_enter Tryz.func161,Tryz.ntmps161
   go_wp2_with fail
   refine (HU.out).mono ?_
   rintro e w1 ⟨rfl,rfl⟩
   go_wp2_with fail
   refine (HI.out).mono ?_
   rintro e w1 ⟨rfl,rfl⟩
   go_wp2_with fail
   refine (HDO.out).mono ?_
   rintro e w1 ⟨rfl,hd1,hx1⟩
   go_wp2_with fail
   go_ret
   exact ⟨rfl,hd1.mono (fun _ hb=>.inl hb) (Grow.old HH.out.old hx1.size),hx1.mono (fun b _ hb=>by have:b = d:=hb;rw [this];exact HH.out.dd)⟩
 ·have e0:k.write i s = (10,k):=by unfold Dk.write;rw [hd];rfl
  rw [e0]
  rw [hd] at HU
  clear h hd
  go_enter Tryz.func161,Tryz.ntmps161
  go_wp2_with fail
  refine (HU.out).mono ?_
  rintro e w1 ⟨rfl,rfl⟩
  go_wp2_with fail
  go_ret
  exact ⟨rfl,HH.out.mono (fun _ hb=>.inl hb) (Grow.old HH.out.old (Nat.le_refl _)),Ext.refl _ _⟩
end Go.Proofs.YtccnemmlkcmceaaGreatDoor
