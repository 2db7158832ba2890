/- Proofs about the given program, joined out of the texts S4, MG, T2, T3, T4, T5, T6, B0, W1, Z1, Z2, S5. -/
import Derived.Test.YtccnemmlkcmceaaGreatDoorHB1
import Derived.Deep.AppendLies
import Derived.Lib.AppendStr
import Derived.Maps.RangeWalk
import Derived.Deep.RegionHeld3
import Derived.Laws.MakeOwn
import Derived.Laws.IdiomStrings
import Derived.Deep.LoopGhost
set_option linter.unusedVariables false
set_option linter.unusedSimpArgs false
set_option maxRecDepth 100000
set_option maxHeartbeats 6400000
namespace Go.Proofs.YtccnemmlkcmceaaGreatDoor
open Go.RowKit
def bcs (l : Bs) : List Value := l.map fun b => .int .u8 (b.toNat : Int)
theorem bcs_append (a b : Bs) : bcs (a ++ b) = bcs a ++ bcs b := by simp [bcs]
theorem bcs_len (a : Bs) : (bcs a).length = a.length := by simp [bcs]
theorem Ext.grown {F : Nat → Prop} {w0 w w' : World} {row : Option Nat} (h : Ext F w0 w) (hg : w.grownBy w' row) (hr : ∀ g,row = some g → F g ∨ w0.heap.size ≤ g) : Ext F w0 w' :=
 ⟨hg.os.trans h.os,hg.tape.trans h.tape,hg.output.trans h.output,Nat.le_trans h.size hg.size,fun i hi hn => (hg.block i (Nat.lt_of_lt_of_le hi h.size) (by
  rintro e
  rcases hr i e.symm with h' | h'
  ·exact hn h'
  ·omega)).trans (h.block i hi hn)⟩
theorem Tryz.info5 : (Tryz.prog.info? 5).map (fun i => (i.zero,i.size,i.bytes)) = some (some (.int .u8 0),1,1) := by kernel_rfl
theorem bcs_n4 (n : Nat) (hn : n < 4294967296) : bcs (n4 n) = [.int .u8 ((n : Int) % 256),.int .u8 ((n : Int) / 256 % 256),.int .u8 ((n : Int) / 65536 % 256),.int .u8 ((n : Int) / 16777216)] := by
 have e0 := ofNat_lt (n % 256) (by omega)
 have e1 := ofNat_lt (n / 256 % 256) (by omega)
 have e2 := ofNat_lt (n / 65536 % 256) (by omega)
 have e3 := ofNat_lt (n / 16777216 % 256) (by omega)
 have e4 : ((n / 16777216 % 256 : Nat) : Int) = (n : Int) / 16777216 := by omega
 unfold bcs n4
 simp only [List.map_cons,List.map_nil,e0,e1,e2,e3,e4]
 simp
def Grew (base : Nat) (v : Value) (l : Bs) (w : World) (e : Ending) (w' : World) : Prop :=
 ∃ g cap,e = .returned (.slice (some ⟨g,0,none⟩) l.length cap) ∧ w'.ownsRow base 5 1 (.slice (some ⟨g,0,none⟩) l.length cap) l.length (bcs l) ∧ w.grownBy w' v.ownBlock ∧ (v.ownBlock = some g ∨ w.heap.size ≤ g)
theorem four_any (base : Nat) (v : Value) (l : Bs) (n : Nat) (hn : n < 4294967296) (w : World) (hown : w.ownsRow base 5 1 v l.length (bcs l)) (hb : base ≤ w.heap.size) (hl : l.length < 1000000) :
  Calls Tryz.prog 202 #[v,.int .i64 (n : Int)] w (Grew base v (l ++ n4 n) w) := by
 obtain ⟨i0,hi,hz0,hz1,hz2⟩ := info_parts Tryz.info5
 have HO := Lib.hid hown
 clear hown
 have hn4 := bcs_n4 n hn
 have HN := Lib.hid hn4
 clear hn4
 go_enter Tryz.func202,Tryz.ntmps202
 go_wp2_with (at_builtin; refine wpList_append_lies _ rfl (.tmp 5) (.tmp 17) 98 rfl base 5 i0 (.int .u8 0) 1 1 Tryz.underlying98 hi hz0 hz1 hz2 rfl (by decide) v l.length (bcs l) rfl (HO.out.alloc _) ⟨w.heap.size,0,none⟩ 4 4 [.int .u8 ((n : Int) % 256),.int .u8 ((n : Int) / 256 % 256),.int .u8 ((n : Int) / 65536 % 256),.int .u8 ((n : Int) / 16777216)] rfl rfl ?c1 ?c2 ?c3 ?c4 ?c5 ?c6 _ rfl ?_)
 case c1 => exact World.news_of_block (cs := #[.int .u8 ((n : Int) % 256),.int .u8 ((n : Int) / 256 % 256),.int .u8 ((n : Int) / 65536 % 256),.int .u8 ((n : Int) / 16777216)]) (t := 5) (fr := (0,0)) (heap_alloc_new w _)
 case c2 => simp [Value.oneCell']
 case c3 => decide
 case c4 => unfold maxLen; omega
 case c5 => omega
 case c6 => simp; omega
 intro g cap w1 hown1 hgrow hat hlt
 go_wp2_with fail
 go_ret
 refine ⟨g,cap,by simp [n4],?_,?_,?_⟩
 ·rw [List.length_append,n4_len,bcs_append,HN.out]; exact hown1
 ·exact ⟨hgrow.os,hgrow.tape,hgrow.output,Nat.le_trans (by simp) hgrow.size,fun k hk hne => (hgrow.block k (by simp; omega) hne).trans (Below.heap_alloc w _ k hk)⟩
 ·rcases hat with h | h
  ·exact .inl h
  ·right; rw [h]; simp
theorem run_append_str {P : Program} (w : World) (base : Nat) (t u ty e : TypeId) (i : TypeInfo) (ht : P.underlying t = some (.slice e)) (hu : P.underlying u = some .string) (hi : P.info? e = some i) (hz : i.zero = some (.int .u8 0))
  (hsize : i.size = 1) (hby : i.bytes = 1) (g cap n : Nat) (xs : List Value) (hown : w.ownsRow base e 1 (.slice (some ⟨g,0,none⟩) n cap) n xs) (s : ByteArray)
  (h63 : n + s.size ≤ maxLen) (hbytes : n + s.size ≤ 140737488355328) (hbase : base ≤ w.heap.size) :
  ∃ g' cap' w',(Builtin.append_ #[t,u] ty #[.slice (some ⟨g,0,none⟩) n cap,.string s]).run P w = .ok (.slice (some ⟨g',0,none⟩) (n + s.size) cap') w' ∧
   w'.ownsRow base e 1 (.slice (some ⟨g',0,none⟩) (n + s.size) cap') (n + s.size) (xs ++ Lib.strCells s) ∧ w.grownBy w' (some g) ∧ (g' = g ∨ g' = w.heap.size) := by
 obtain ⟨v',w',hr,h2,h3,_⟩ := Lib.run_append_own_string (P := P) w base t u ty e i ht hu hi hz hsize hby _ n xs hown s h63 hbytes hbase
 have hxl : xs.length = n := by simpa using hown.1
 have hsmall : n + s.size ≤ 9223372036854775807 := by simp only [maxLen] at h63; omega
 rcases hown.2 with ⟨h,_⟩ | ⟨g0,cap0,cur,hv,hbg,hg,hnc,hcm,hcs,htake⟩
 ·cases h
 ·injection hv with e1 _ e2
  injection e1 with e1
  injection e1 with e1
  subst e1; subst e2
  by_cases hroom : n + s.size ≤ cap
  ·have hr2 := Lib.run_append_room_string (P := P) w t u ty e i ht hu hi hsize g n cap cur hg s hroom (by omega)
   rw [hr] at hr2
   injection hr2 with e1 e2
   subst e1; subst e2
   exact ⟨g,cap,_,hr,h2,h3,.inl rfl⟩
  ·have hr2 := Lib.run_append_grow_string (P := P) w t u ty e i (.int .u8 0) ht hu hi hz ⟨g,0,none⟩ n cap xs (by rw [hsize]; simpa using hxl) (hown.cells (g := g) rfl) s (by omega) (by omega) (by rw [hby]; exact growslice_fits (by omega) (by omega))
   rw [hr] at hr2
   injection hr2 with e1 e2
   subst e1; subst e2
   exact ⟨_,_,_,hr,h2,h3,.inr rfl⟩
theorem wpList_append_str {P : Program} (w : World) {ops : Array Oper} {rest : List Oper} {o : Oper} {a : Act} {Q : Exit → Act → World → Prop} (hgd : o.guard = none) (sl x : Operand) (t u : TypeId)
  (ho : o.op = .call { callee := .builtin .append,args := #[sl,x],argTypes := #[t,u] })
  (base : Nat) (e : TypeId) (i : TypeInfo) (ht : P.underlying t = some (.slice e)) (hu : P.underlying u = some .string) (hi : P.info? e = some i) (hz : i.zero = some (.int .u8 0))
  (hsize : i.size = 1) (hby : i.bytes = 1) (g cap n : Nat) (xs : List Value) (hs : a.eval sl = .slice (some ⟨g,0,none⟩) n cap) (hown : w.ownsRow base e 1 (.slice (some ⟨g,0,none⟩) n cap) n xs) (s : ByteArray) (hx : a.eval x = .string s)
  (h63 : n + s.size ≤ maxLen) (hbytes : n + s.size ≤ 140737488355328) (hbase : base ≤ w.heap.size)
  (h : ∀ g' cap' w',w'.ownsRow base e 1 (.slice (some ⟨g',0,none⟩) (n + s.size) cap') (n + s.size) (xs ++ Lib.strCells s) → w.grownBy w' (some g) → (g' = g ∨ g' = w.heap.size) → wpList P ops Q rest (a.put o.dst (.slice (some ⟨g',0,none⟩) (n + s.size) cap')) w') : wpList P ops Q (o :: rest) a w := by
 refine wpList_plain hgd fun K hK => ?_
 obtain ⟨g',cap',w',hr,h2,h3,h4⟩ := run_append_str (P := P) w base t u o.type e i ht hu hi hz hsize hby g cap n xs hown s h63 hbytes hbase
 unfold Oper.wp execOp
 simp only [ho,resolve,invoke,builtin,Sem.run_bind,Sem.run_pure,Result.andThen_ok,List.map_toArray,List.map_cons,List.map_nil,hs,hx,hr]
 exact hK _ _ (h g' cap' w' h2 h3 h4)
theorem strCells_str (l : Bs) : Lib.strCells (str l) = bcs l := by simp [Lib.strCells,bcs]
theorem text_any (base : Nat) (v : Value) (l : Bs) (s : Bs) (hs : s.length < 256) (w : World) (hown : w.ownsRow base 5 1 v l.length (bcs l)) (hb : base ≤ w.heap.size) (hl : l.length < 1000000) :
  Calls Tryz.prog 203 #[v,.string (str s)] w (Grew base v (l ++ UInt8.ofNat s.length :: s) w) := by
 obtain ⟨i0,hi,hz0,hz1,hz2⟩ := info_parts Tryz.info5
 have HO := Lib.hid hown
 clear hown
 have hsz := str_size s
 have e0 := Lib.hid (ofNat_lt s.length hs)
 have hmod : (s.length : Int) % 256 = s.length := by omega
 go_enter Tryz.func203,Tryz.ntmps203
 go_wp2_with (at_builtin; refine wpList_append_lies _ rfl (.tmp 5) (.tmp 9) 98 rfl base 5 i0 (.int .u8 0) 1 1 Tryz.underlying98 hi hz0 hz1 hz2 rfl (by decide) v l.length (bcs l) rfl (HO.out.alloc _) ⟨w.heap.size,0,none⟩ 1 1 [.int .u8 (s.length : Int)] rfl rfl ?c1 ?c2 ?c3 ?c4 ?c5 ?c6 _ rfl ?_)
 case c1 => exact World.news_of_block (cs := #[.int .u8 (s.length : Int)]) (t := 5) (fr := (0,0)) (heap_alloc_new w _)
 case c2 => simp [Value.oneCell']
 case c3 => decide
 case c4 => unfold maxLen; omega
 case c5 => omega
 case c6 => simp; omega
 intro g cap w1 hown1 hgrow hat hlt
 have HO1 := Lib.hid hown1
 clear hown1
 have hw1 := hgrow.size
 simp at hw1
 go_wp2_with (refine wpList_append_str _ rfl (.tmp 10) (.tmp 11) 98 9 rfl base 5 i0 Tryz.underlying98 Tryz.underlying9 hi hz0 hz1 hz2 g cap (l.length + 1) _ rfl HO1.out (str s) rfl ?d1 ?d2 ?d3 ?_)
 case d1 => unfold maxLen; omega
 case d2 => omega
 case d3 => omega
 intro g' cap' w2 hown2 hgrow2 hat2
 go_wp2_with fail
 go_ret
 refine ⟨g',cap',by simp; omega,?_,?_,?_⟩
 ·have e1 : (l ++ UInt8.ofNat s.length :: s).length = l.length + 1 + (str s).size := by rw [str_size]; simp; omega
  have e2 : bcs (l ++ UInt8.ofNat s.length :: s) = bcs l ++ [.int .u8 (s.length : Int)] ++ Lib.strCells (str s) := by rw [strCells_str]; simp [bcs_append]; simp [bcs,e0.out]; omega
  rw [e1,e2,str_size,List.append_assoc]
  exact hown2
 ·refine ⟨hgrow2.os.trans hgrow.os,hgrow2.tape.trans hgrow.tape,hgrow2.output.trans hgrow.output,by have := hgrow2.size; omega,fun k hk hne => ?_⟩
  rcases hat with h | h
  ·exact (hgrow2.block k (by omega) (fun e => hne (e.trans h.symm))).trans ((hgrow.block k (by simp; omega) hne).trans (Below.heap_alloc w _ k hk))
  ·have : g = w.heap.size + 1 := by rw [h]
   exact (hgrow2.block k (by omega) (fun e => by injection e with e; omega)).trans ((hgrow.block k (by simp; omega) hne).trans (Below.heap_alloc w _ k hk))
 ·rcases hat2 with h2 | h2
  ·rcases hat with h | h
   ·exact .inl (h.trans (by rw [h2]))
   ·right; rw [h2,h]; simp
  ·right; omega
section
variable {α : Type} {val : α → Value}
def entG (val : α → Value) (es : Array MapEntry) (ov : List (Nat × α)) : Prop := es.toList.map (fun e => (e.key,e.val)) = ov.map (fun p => (Value.int .i64 (p.1 : Int),val p.2))
structure MapG (val : α → Value) (w : World) (m : Nat) (ov : List (Nat × α)) : Prop where
 nodup : (ov.map (·.1)).Nodup
 obj : ∃ es c,w.heap[m]? = some (.map es c) ∧ entG val es ov ∧ Stamps es c
theorem MapG.lt {w : World} {m : Nat} {ov : List (Nat × α)} (h : MapG val w m ov) : m < w.heap.size := by
 obtain ⟨_,es,c,ho,_⟩ := h
 rcases Nat.lt_or_ge m w.heap.size with hlt | hge
 ·exact hlt
 ·rw [Array.getElem?_eq_none hge] at ho; cases ho
theorem MapG.ext {F : Nat → Prop} {w w' : World} {m : Nat} {ov : List (Nat × α)} (h : MapG val w m ov) (he : Ext F w w') (hm : ¬ F m) : MapG val w' m ov := by
 have hlt := h.lt
 obtain ⟨hn,es,c,ho,hr⟩ := h
 exact ⟨hn,es,c,(he.block m hlt hm).trans ho,hr⟩
theorem MapG.made (w : World) : MapG val (w.alloc (.map #[] 0)) w.heap.size [] := ⟨by simp,#[],0,heap_alloc_new w _,rfl,by simp [Stamps]⟩
theorem findG_none (q : IntKind) (id : Nat) : ∀ (ov : List (Nat × α)) (es : List MapEntry) (i : Nat),es.map (fun e => (e.key,e.val)) = ov.map (fun p => (Value.int .i64 (p.1 : Int),val p.2)) → id ∉ ov.map (·.1) → Instr.findNow (.int q) (.int .i64 (id : Int)) es i = some none
 | [],es,i,h,_ => by
  have : es = [] := by simpa using h
  subst this; rfl
 | (a,b) :: ov,[],i,h,_ => by simp at h
 | (a,b) :: ov,e :: es,i,h,hn => by
  simp only [List.map_cons,List.cons.injEq,Prod.mk.injEq] at h
  obtain ⟨⟨hk,hv⟩,ht⟩ := h
  simp only [List.map_cons,List.mem_cons,not_or] at hn
  have hne : ((id : Int) == (a : Int)) = false := by simpa using (by omega : ¬ (id : Int) = (a : Int))
  simp [Instr.findNow,hk,Instr.sameNow,hne,findG_none q id ov es (i + 1) ht hn.2]
theorem findG_some (q : IntKind) (id : Nat) (x : α) : ∀ (ov : List (Nat × α)) (es : List MapEntry) (i : Nat),es.map (fun e => (e.key,e.val)) = ov.map (fun p => (Value.int .i64 (p.1 : Int),val p.2)) → ov.lookup id = some x → ∃ j,Instr.findNow (.int q) (.int .i64 (id : Int)) es i = some (some (j,val x))
 | [],es,i,h,hl => by cases hl
 | (a,b) :: ov,[],i,h,_ => by simp at h
 | (a,b) :: ov,e :: es,i,h,hl => by
  simp only [List.map_cons,List.cons.injEq,Prod.mk.injEq] at h
  obtain ⟨⟨hk,hv⟩,ht⟩ := h
  by_cases hid : id = a
  ·subst hid
   have : b = x := by simpa using hl
   subst this
   exact ⟨i,by simp [Instr.findNow,hk,Instr.sameNow,hv]⟩
  ·have hne : ((id : Int) == (a : Int)) = false := by simpa using (by omega : ¬ (id : Int) = (a : Int))
   have hne' : (id == a) = false := by simpa using hid
   rw [List.lookup_cons,hne'] at hl
   obtain ⟨j,hj⟩ := findG_some q id x ov es (i + 1) ht hl
   exact ⟨j,by simp [Instr.findNow,hk,Instr.sameNow,hne,hj]⟩
end
theorem run_imgpush {w : World} {m : Nat} {ov : List (Nat × Bs)} (h : MapG (fun b => .string (str b)) w m ov) {id : Nat} (x : Bs) (hid : id ∉ ov.map (·.1)) :
  ∃ w',(Instr.mapUpdate 132 (.map (some m)) (.int .i64 (id : Int)) (.string (str x))).run Tryz.prog w = .ok () w' ∧ MapG (fun b => .string (str b)) w' m (ov ++ [(id,x)]) ∧ Ext (fun b => b = m) w w' ∧ w'.heap.size = w.heap.size := by
 have hm := h.lt
 obtain ⟨hnd,es,c,ho,he,hst⟩ := h
 have ext : ∀ o,Ext (fun b => b = m) w { w with heap := w.heap.setIfInBounds m o } := fun o => ⟨rfl,rfl,rfl,by simp,fun i hi hne => by
  simp only [Array.getElem?_setIfInBounds]
  rw [if_neg (fun e => hne e.symm)]⟩
 have h1 := findG_none (val := fun b => .string (str b)) .i64 id ov es.toList 0 he hid
 refine ⟨{ w with heap := w.heap.setIfInBounds m (.map (es.push { key := .int .i64 (id : Int),val := .string (str x),born := c }) (c + 1)) },?_,?_,ext _,by simp⟩
 ·simp [Instr.mapUpdate,run_underlying Tryz.underlying132,MapKept.run_getObj_map ho,MapKept.run_setObj_map _ ho,chk_int,MapKept.run_findKey Tryz.underlying3 h1,Result.andThen]
 ·refine ⟨?_,_,c + 1,by simp only [Array.getElem?_setIfInBounds,if_pos rfl,hm,if_true]; rfl,?_,stamps_push hst _ _⟩
  ·rw [List.map_append]
   refine List.nodup_append.2 ⟨hnd,by simp,?_⟩
   intro a ha b hb e
   have : b = id := by simpa using hb
   subst this; subst e
   exact hid ha
  ·unfold entG at he ⊢
   simp [he]
theorem run_imglook {w : World} {m : Nat} {ov : List (Nat × Bs)} (h : MapG (fun b => .string (str b)) w m ov) {id : Nat} {x : Bs} (hl : ov.lookup id = some x) :
  (Instr.lookup 132 (.map (some m)) (.int .i64 (id : Int)) false).run Tryz.prog w = .ok (.string (str x)) w := by
 obtain ⟨_,es,c,ho,he,_⟩ := h
 obtain ⟨j,h1⟩ := findG_some (val := fun b => .string (str b)) .i64 id x ov es.toList 0 he hl
 simp [Instr.lookup,run_underlying Tryz.underlying132,MapKept.run_getObj_map ho,chk_int,MapKept.run_findKey Tryz.underlying3 h1,Result.andThen]
theorem run_imglen {w : World} {m : Nat} {ov : List (Nat × Bs)} (h : MapG (fun b => .string (str b)) w m ov) (ty : TypeId) : (Builtin.len_ #[132] ty #[.map (some m)]).run Tryz.prog w = .ok (.int .i64 (ov.length : Int)) w := by
 obtain ⟨_,es,c,ho,he,_⟩ := h
 have hl : es.size = ov.length := by
  have := congrArg List.length he
  simpa using this
 simp [Builtin.len_,run_underlying Tryz.underlying132,MapKept.run_getObj_map ho,hl,goInt]
theorem wf_small {n : Nat} (h : n < 65536) : (Lit.int .i64 (n : Int)).wf = true := by
 have h1 : IntKind.i64.min = -9223372036854775808 := by decide
 have h2 : IntKind.i64.max = 9223372036854775807 := by decide
 simp only [Lit.wf,h1,h2,Bool.and_eq_true,decide_eq_true_eq]
 omega
open Go.Maps Go.WideElems in
theorem MapG.owns {α : Type} {val : α → Value} {w : World} {m : Nat} {ov : List (Nat × α)} (h : MapG val w m ov) (hk : ∀ p ∈ ov,p.1 < 65536) (hn : ov.length < 65536) :
  ∃ D : DataW Unit,w.ownsMap Tryz.prog 3 (fun _ => some (.nil,[])) m ov.length D ∧ (intKeys D).Perm (ov.map fun p => (p.1 : Int)) ∧ size D = ov.length := by
 obtain ⟨hnd,es,c,ho,he,hst⟩ := h
 have hl : es.size = ov.length := by
  have := congrArg List.length he
  simpa using this
 have hkey : es.toList.map (·.key) = ov.map (fun p => Value.int .i64 (p.1 : Int)) := by
  have := congrArg (List.map Prod.fst) he
  rw [List.map_map,List.map_map] at this
  exact this
 have hrd : ∀ x ∈ es.toList,∃ p ∈ ov,rd Tryz.prog 3 (fun _ => some ((.nil : DataW Unit),([] : List MemPlace))) x = some (.int .i64 (p.1 : Int),.nil) ∧ x.key = .int .i64 (p.1 : Int) := fun x hx => by
  have h1 : x.key ∈ es.toList.map (·.key) := List.mem_map.2 ⟨x,hx,rfl⟩
  rw [hkey] at h1
  obtain ⟨p,hp,e⟩ := List.mem_map.1 h1
  refine ⟨p,hp,?_,e.symm⟩
  unfold rd
  rw [← e,keyOf_int_mk Tryz.underlying3 (wf_small (hk p hp))]
  rfl
 have hrg : (es.toList.map (rg Tryz.prog 3 (fun _ => some ((.nil : DataW Unit),([] : List MemPlace))))).map (fun p => Go.intOf p.1) = ov.map fun p => (p.1 : Int) := by
  have h2 : es.toList.map (fun x => Go.intOf (rg Tryz.prog 3 (fun _ => some ((.nil : DataW Unit),([] : List MemPlace))) x).1) = (es.toList.map (·.key)).map (fun v => match v with | .int _ a => a | _ => 0) := by
   rw [List.map_map]
   apply List.map_congr_left
   intro x hx
   obtain ⟨p,_,h1,h3⟩ := hrd x hx
   unfold rg
   rw [h1]
   show _ = (match x.key with | .int _ a => a | _ => 0)
   rw [h3]
   rfl
  rw [List.map_map]
  simp only [Function.comp_def]
  refine h2.trans ?_
  rw [hkey,List.map_map]
  simp only [Function.comp_def]
 refine ⟨_,⟨es,c,ho,⟨by rw [hl]; unfold maxLen; omega,⟨hst.1,hst.2,?_⟩,fun x hx => ?_⟩,by omega,rfl⟩,?_,?_⟩
 ·rw [hkey]
  have e : ov.map (fun p => Value.int .i64 (p.1 : Int)) = (ov.map (fun p => p.1)).map (fun i : Nat => Value.int .i64 (i : Int)) := by rw [List.map_map]; rfl
  rw [e]
  exact List.Pairwise.map (fun i : Nat => Value.int .i64 (i : Int)) (fun a b hab e => hab (by injection e with _ e; omega)) hnd
 ·obtain ⟨p,_,h1,_⟩ := hrd x hx
  exact ⟨_,h1⟩
 ·show (((es.toList.map _).foldr DataW.insert []).map fun p => Go.intOf p.1).Perm _
  rw [← hrg]
  exact (Go.WideShapes.sorted_perm _).map _
 ·show ((es.toList.map _).foldr DataW.insert []).length = _
  rw [(Go.WideShapes.sorted_perm _).length_eq,List.length_map,Array.length_toList,hl]
theorem sysKeepNo {s : Sys} (hs : s.Ok) {w w' : World} (he : Ext No w w') (h : s.db w) : s.db w' := hs.keep _ _ he.of_no h
section
variable {w : World} {s : Sys} {v : V}
theorem TxAt.c0 (h : TxAt w s v) : w.cell? ⟨s.t,0,none⟩ = some (.pointer (some ⟨s.x,0,none⟩)) := h.tx.cell 0
theorem TxAt.c1 (h : TxAt w s v) : w.cell? ⟨s.t,1,none⟩ = some (.int .i64 (v.r 0 : Int)) := h.tx.cell 1
theorem TxAt.c2 (h : TxAt w s v) : w.cell? ⟨s.t,2,none⟩ = some (.int .i64 (v.r 1 : Int)) := h.tx.cell 2
theorem TxAt.c3 (h : TxAt w s v) : w.cell? ⟨s.t,3,none⟩ = some (.int .i64 (v.r 2 : Int)) := h.tx.cell 3
theorem TxAt.c4 (h : TxAt w s v) : w.cell? ⟨s.t,4,none⟩ = some (.int .i64 (v.r 3 : Int)) := h.tx.cell 4
theorem TxAt.c5 (h : TxAt w s v) : w.cell? ⟨s.t,5,none⟩ = some (.int .i64 (v.high : Int)) := h.tx.cell 5
theorem TxAt.c6 (h : TxAt w s v) : w.cell? ⟨s.t,6,none⟩ = some (.int .i64 (v.free : Int)) := h.tx.cell 6
theorem TxAt.c7 (h : TxAt w s v) : w.cell? ⟨s.t,7,none⟩ = some (.int .i64 (v.cnt : Int)) := h.tx.cell 7
theorem TxAt.c8 (h : TxAt w s v) : w.cell? ⟨s.t,8,none⟩ = some (.map (some s.m)) := h.tx.cell 8
theorem TxAt.c9 (h : TxAt w s v) : w.cell? ⟨s.t,9,none⟩ = some (.bool v.marked) := h.tx.cell 9
theorem TxAt.c10 (h : TxAt w s v) : w.cell? ⟨s.t,10,none⟩ = some (.bool v.spoilt) := h.tx.cell 10
theorem TxAt.fz (h : TxAt w s v) (i : Nat) : w.frozen? ⟨s.t,i,none⟩ = false := h.tx.frozen i
end
theorem get_any (s : Sys) (hs : s.Ok) (w : World) (v : V) (h : TxAt w s v) (id : Nat) (h1 : 1 ≤ id) (h2 : id < v.high) :
  Calls Tryz.prog 54 #[.pointer (some ⟨s.t,0,none⟩),.int .i64 (id : Int)] w fun e w' => e = .returned (.tuple #[(v.pg id).val,.int .i64 0]) ∧ Ext No w w' := by
 obtain ⟨ov,hm,_,hv⟩ := h.mp
 obtain ⟨hin,hpg⟩ := hv id h1 h2
 clear hv
 have t5 := h.c5
 have t8 := h.c8
 have t0 := h.c0
 have lt := h.tx.lt
 have g1 : ¬ ((id : Int) < 1) := by omega
 have g2 : ¬ ((v.high : Int) ≤ (id : Int)) := by omega
 cases hl : ov.lookup id with
 | some p =>
  have hpp : v.pg id = p := by rw [hpg,hl]; rfl
  have lk : ∀ o,(Instr.lookup 109 (.map (some s.m)) (.int .i64 (id : Int)) true).run Tryz.prog (w.alloc o) = .ok (.tuple #[p.val,.bool true]) (w.alloc o) := fun o => run_look_hit (hm.ext ((Ext.refl No w).alloc o) (fun h => h)) hl
  simp only [Leaf.val] at lk
  rw [hpp]
  clear hl hpp hpg
  go_enter Tryz.func54,Tryz.ntmps54
  go_wp2
  refine bodyPost_ret (v := .tuple #[p.val,.int .i64 0]) (by simp [results,Tryz.results54,go_sem,Leaf.val]) rfl ⟨rfl,?_⟩
  exact (((Ext.refl No w).alloc _).alloc _)
 | none =>
  have hlt : id < s.bh := hin.resolve_left ((lookup_none_iff ov id).1 hl)
  have hpp : v.pg id = s.base id := by rw [hpg,hl]; rfl
  have lk : ∀ o,(Instr.lookup 109 (.map (some s.m)) (.int .i64 (id : Int)) true).run Tryz.prog (w.alloc o) = .ok (.tuple #[.agg #[.int .i64 0,.string (str [])],.bool false]) (w.alloc o) := fun o => run_look_miss (hm.ext ((Ext.refl No w).alloc o) (fun h => h)) hl
  rw [hpp]
  generalize hp : s.base id = p
  have HO := Lib.hid (fun w hd => hs.opn w id hd h1 hlt)
  simp only [hp] at HO
  clear hl hpp hpg hin hp
  have lx := World.block_lt_of_cell? w _ (hs.x0 w h.db)
  go_enter Tryz.func54,Tryz.ntmps54
  go_wp2_with fail
  refine (hs.img _ id (sysKeepNo hs (((Ext.refl No w).alloc _).alloc _) h.db) h1 hlt).mono ?_
  rintro e w1 ⟨rfl,hb1⟩
  have lt1 : s.t < w1.heap.size := Nat.lt_of_lt_of_le (by simp; omega) hb1.size
  have l41 : w.heap.size < w1.heap.size := Nat.lt_of_lt_of_le (by simp; omega) hb1.size
  have b4 := (((Blk.new w 113 #[.int .i64 0,.string (str [])]).alloc (.cells #[.int .i64 0,.string (str [])] 113))).ext hb1 (fun h => h)
  have k0 := b4.cell 0
  have k1 := b4.cell 1
  have f0 := b4.frozen 0
  have f1 := b4.frozen 1
  simp at k0 k1
  go_wp2_with fail
  refine (HO.out _ (sysKeepNo hs hb1 (sysKeepNo hs (((Ext.refl No w).alloc _).alloc _) h.db))).mono ?_
  rintro e w2 ⟨rfl,hb2⟩
  have l42 : w.heap.size < w2.heap.size := Nat.lt_of_lt_of_le l41 hb2.size
  have b5 := b4.ext hb2 (fun h => h)
  have k0 := b5.cell 0
  have k1 := b5.cell 1
  have f0 := b5.frozen 0
  have f1 := b5.frozen 1
  simp at k0 k1
  go_wp2_with fail
  refine bodyPost_ret (v := .tuple #[p.val,.int .i64 0]) (by simp [results,Tryz.results54,go_sem,Leaf.val,k0,k1,l42]) rfl ⟨rfl,?_⟩
  exact (((((Ext.refl No w).alloc _).alloc _).trans_ hb1).trans_ hb2).setCell (.inr (by simp)) _ |>.setCell (.inr (by simp)) _
def V.err (v : V) (id : Nat) : Nat := if id < 1 ∨ v.high ≤ id then 2 else if (v.pg id).kind = 255 then 8 else 0
theorem V.err_ok {v : V} {id : Nat} (h : v.err id = 0) : 1 ≤ id ∧ id < v.high ∧ (v.pg id).kind ≠ 255 := by
 unfold V.err at h
 split at h
 ·omega
 ·split at h
  ·omega
  ·exact ⟨by omega,by omega,by assumption⟩
theorem V.err_cases {v : V} {id : Nat} (h : v.err id ≠ 0) : (v.err id = 2 ∧ (id < 1 ∨ v.high ≤ id)) ∨ (v.err id = 8 ∧ 1 ≤ id ∧ id < v.high ∧ (v.pg id).kind = 255) := by
 unfold V.err at h ⊢
 split
 ·exact .inl ⟨rfl,by assumption⟩
 ·split
  ·exact .inr ⟨rfl,by omega,by omega,by assumption⟩
  ·rename_i h1 h2; rw [if_neg h1,if_neg h2] at h; exact absurd rfl h
theorem get_out (s : Sys) (hs : s.Ok) (w : World) (v : V) (h : TxAt w s v) (id : Nat) (h1 : id < 1 ∨ v.high ≤ id) :
  Calls Tryz.prog 54 #[.pointer (some ⟨s.t,0,none⟩),.int .i64 (id : Int)] w fun e w' => e = .returned (.tuple #[.agg #[.int .i64 0,.string (str [])],.int .i64 2]) ∧ Ext No w w' := by
 have t5 := h.c5
 have t0 := h.c0
 have lt := h.tx.lt
 by_cases g1 : (id : Int) < 1
 ·go_enter Tryz.func54,Tryz.ntmps54
  go_wp2_with fail
  refine bodyPost_ret (v := .tuple #[.agg #[.int .i64 0,.string (str [])],.int .i64 2]) (by simp [results,Tryz.results54,go_sem,str]) rfl ⟨rfl,?_⟩
  exact (((Ext.refl No w).alloc _))
 ·have g2 : ((v.high : Int) ≤ (id : Int)) := by omega
  go_enter Tryz.func54,Tryz.ntmps54
  go_wp2_with fail
  refine bodyPost_ret (v := .tuple #[.agg #[.int .i64 0,.string (str [])],.int .i64 2]) (by simp [results,Tryz.results54,go_sem,str]) rfl ⟨rfl,?_⟩
  exact (((Ext.refl No w).alloc _))
theorem there_ok (s : Sys) (hs : s.Ok) (w : World) (v : V) (h : TxAt w s v) (id : Nat) (he : v.err id = 0) :
  Calls Tryz.prog 57 #[.pointer (some ⟨s.t,0,none⟩),.int .i64 (id : Int)] w fun e w' => e = .returned (.tuple #[(v.pg id).val,.int .i64 0]) ∧ Ext No w w' := by
 obtain ⟨h1,h2,h3⟩ := V.err_ok he
 clear he
 have HG := Lib.hid (get_any s hs (w.alloc (.cells #[.int .i64 0,.string (str [])] 113)) v (h.no hs ((Ext.refl No w).alloc _)) id h1 h2)
 generalize v.pg id = p at *
 have h3' : ((p.kind : Int) == 255) = false := by simpa using (by omega : ¬ (p.kind : Int) = 255)
 clear h3
 have t0 := h.c0
 have lt := h.tx.lt
 go_enter Tryz.func57,Tryz.ntmps57
 go_wp2_with fail
 refine (txup s hs _ (sysKeepNo hs (((Ext.refl No w).alloc _)) h.db) (by simpa [World.cell?_alloc_lt,lt] using h.c0)).mono ?_
 rintro e w1 ⟨rfl,rfl⟩
 go_wp2_with fail
 refine (HG.out).mono ?_
 rintro e w2 ⟨rfl,hb2⟩
 have b4 := ((Blk.new w 113 #[.int .i64 0,.string (str [])])).ext hb2 (fun h => h)
 have k0 := b4.cell 0
 have k1 := b4.cell 1
 have f0 := b4.frozen 0
 have f1 := b4.frozen 1
 have l4 := b4.lt
 simp at k0 k1
 simp only [Leaf.val]
 go_wp2_with fail
 refine bodyPost_ret (v := .tuple #[p.val,.int .i64 0]) (by simp [results,Tryz.results57,go_sem,Leaf.val,k0,k1,l4]) rfl ⟨rfl,?_⟩
 (repeat' (first | exact Ext.refl _ _ | assumption | apply Ext.alloc | apply Ext.drewN | apply Ext.drew | refine Ext.setNew ?_ (by first | omega | (simp; omega) | simp) _ _ | refine Ext.setF ?_ (by first | exact Or.inl rfl | exact Or.inr rfl | rfl) _ _ | refine Ext.trans_ ?_ (by assumption) | refine Ext.trans_ ?_ (Ext.of_no (by assumption))))
theorem there_bad (s : Sys) (hs : s.Ok) (w : World) (v : V) (h : TxAt w s v) (id : Nat) (he : v.err id ≠ 0) :
  Calls Tryz.prog 57 #[.pointer (some ⟨s.t,0,none⟩),.int .i64 (id : Int)] w fun e w' => e = .returned (.tuple #[.agg #[.int .i64 0,.string (str [])],.int .i64 (v.err id : Int)]) ∧ Ext No w w' := by
 have t0 := h.c0
 have lt := h.tx.lt
 rcases V.err_cases he with ⟨e2,h1⟩ | ⟨e8,h1,h2,h3⟩
 ·rw [e2]
  clear he
  have HG := Lib.hid (get_out s hs (w.alloc (.cells #[.int .i64 0,.string (str [])] 113)) v (h.no hs ((Ext.refl No w).alloc _)) id h1)
  clear e2 h1
  go_enter Tryz.func57,Tryz.ntmps57
  go_wp2_with fail
  refine (txup s hs _ (sysKeepNo hs (((Ext.refl No w).alloc _)) h.db) (by simpa [World.cell?_alloc_lt,lt] using h.c0)).mono ?_
  rintro e w1 ⟨rfl,rfl⟩
  go_wp2_with fail
  refine (HG.out).mono ?_
  rintro e w2 ⟨rfl,hb2⟩
  have b4 := ((Blk.new w 113 #[.int .i64 0,.string (str [])])).ext hb2 (fun h => h)
  have k0 := b4.cell 0
  have k1 := b4.cell 1
  have f0 := b4.frozen 0
  have f1 := b4.frozen 1
  have l4 := b4.lt
  simp at k0 k1
  go_wp2_with fail
  refine bodyPost_ret (v := .tuple #[.agg #[.int .i64 0,.string (str [])],.int .i64 2]) (by simp [results,Tryz.results57,go_sem,Leaf.val,k0,k1,l4]) rfl ⟨rfl,?_⟩
  (repeat' (first | exact Ext.refl _ _ | assumption | apply Ext.alloc | apply Ext.drewN | apply Ext.drew | refine Ext.setNew ?_ (by first | omega | (simp; omega) | simp) _ _ | refine Ext.setF ?_ (by first | exact Or.inl rfl | exact Or.inr rfl | rfl) _ _ | refine Ext.trans_ ?_ (by assumption) | refine Ext.trans_ ?_ (Ext.of_no (by assumption))))
 ·rw [e8]
  clear he
  have HG := Lib.hid (get_any s hs (w.alloc (.cells #[.int .i64 0,.string (str [])] 113)) v (h.no hs ((Ext.refl No w).alloc _)) id h1 h2)
  clear e8
  generalize v.pg id = p at *
  obtain ⟨pk,pb⟩ := p
  simp only at h3
  subst h3
  go_enter Tryz.func57,Tryz.ntmps57
  go_wp2_with fail
  refine (txup s hs _ (sysKeepNo hs (((Ext.refl No w).alloc _)) h.db) (by simpa [World.cell?_alloc_lt,lt] using h.c0)).mono ?_
  rintro e w1 ⟨rfl,rfl⟩
  go_wp2_with fail
  refine (HG.out).mono ?_
  rintro e w2 ⟨rfl,hb2⟩
  have b4 := ((Blk.new w 113 #[.int .i64 0,.string (str [])])).ext hb2 (fun h => h)
  have k0 := b4.cell 0
  have k1 := b4.cell 1
  have f0 := b4.frozen 0
  have f1 := b4.frozen 1
  have l4 := b4.lt
  simp at k0 k1
  simp only [Leaf.val]
  go_wp2_with fail
  refine bodyPost_ret (v := .tuple #[.agg #[.int .i64 0,.string (str [])],.int .i64 8]) (by simp [results,Tryz.results57,go_sem,Leaf.val,k0,k1,l4,str]) rfl ⟨rfl,?_⟩
  (repeat' (first | exact Ext.refl _ _ | assumption | apply Ext.alloc | apply Ext.drewN | apply Ext.drew | refine Ext.setNew ?_ (by first | omega | (simp; omega) | simp) _ _ | refine Ext.setF ?_ (by first | exact Or.inl rfl | exact Or.inr rfl | rfl) _ _ | refine Ext.trans_ ?_ (by assumption) | refine Ext.trans_ ?_ (Ext.of_no (by assumption))))
theorem read_ok (s : Sys) (hs : s.Ok) (w : World) (v : V) (h : TxAt w s v) (id : Nat) (he : v.err id = 0) :
  Calls Tryz.prog 47 #[.pointer (some ⟨s.t,0,none⟩),.int .i64 (id : Int)] w fun e w' => e = .returned (.tuple #[.int .i64 ((v.pg id).kind : Int),.string (str (v.pg id).body),.int .i64 0]) ∧ Ext No w w' := by
 have HG := Lib.hid (there_ok s hs w v h id he)
 clear he
 generalize v.pg id = p at *
 go_enter Tryz.func47,Tryz.ntmps47
 go_wp2_with fail
 refine (HG.out).mono ?_
 rintro e w2 ⟨rfl,hb2⟩
 simp only [Leaf.val]
 go_wp2_with fail
 go_quiet (fail)
 go_wp2_with fail
 go_ret3
 exact ⟨rfl,(hb2.alloc _).drewN _⟩
theorem read_bad (s : Sys) (hs : s.Ok) (w : World) (v : V) (h : TxAt w s v) (id : Nat) (he : v.err id ≠ 0) :
  Calls Tryz.prog 47 #[.pointer (some ⟨s.t,0,none⟩),.int .i64 (id : Int)] w fun e w' => e = .returned (.tuple #[.int .i64 0,.string (str []),.int .i64 (v.err id : Int)]) ∧ Ext No w w' := by
 have HG := Lib.hid (there_bad s hs w v h id he)
 have hb : ((v.err id : Int) == 0) = false := by simpa using (by omega : ¬ (v.err id : Int) = 0)
 clear he
 generalize v.err id = p at *
 go_enter Tryz.func47,Tryz.ntmps47
 go_wp2_with fail
 refine (HG.out).mono ?_
 rintro e w2 ⟨rfl,hb2⟩
 go_wp2_with fail
 go_ret3
 exact ⟨rfl,(hb2.alloc _)⟩
def V.put (v : V) (id : Nat) (p : Leaf) : V := { v with pg := fun j => if j = id then p else v.pg j }
theorem TxAt.step {w w' : World} {s : Sys} {v : V} (hs : s.Ok) (h : TxAt w s v) {ov : List (Nat × Leaf)} {id : Nat} {p : Leaf} {v' : V}
  (hk : ∀ i q,(i,q) ∈ ov → 1 ≤ i ∧ i < v.high) (hv : ∀ i,1 ≤ i → i < v.high → (i ∈ ov.map (·.1) ∨ i < s.bh) ∧ v.pg i = (ov.lookup i).getD (s.base i))
  (hm : MapAt w' s.m (setOv ov id p)) (he : Ext s.F w w') (ht : Blk w' s.t 111 (v'.cells s)) (h1 : 1 ≤ id) (h2 : id < v'.high) (h3 : v'.high = v.high ∨ v'.high = v.high + 1 ∧ id = v.high)
  (h4 : v'.high ≤ s.cap) (h5 : v'.cnt ≤ v'.high) (hp : v'.pg = (v.put id p).pg) : TxAt w' s v' := by
 have hh := h.h1
 have hb := h.hb
 refine ⟨ht,hs.keep _ _ he h.db,by omega,h4,by omega,h5,_,hm,?_,?_⟩
 ·intro i q hq
  rcases setOv_mem hq with e | hq
  ·simp only at e; omega
  ·have := hk i q hq; omega
 ·intro i hi1 hi2
  rw [setOv_lookup,hp]
  simp only [V.put]
  by_cases hi : i = id
  ·subst hi
   refine ⟨.inl ?_,by simp⟩
   rw [setOv_keys]
   split
   ·assumption
   ·simp
  ·obtain ⟨k1,k2⟩ := hv i hi1 (by omega)
   refine ⟨k1.imp (fun hm => ?_) (fun h => h),by simp [hi,k2]⟩
   rw [setOv_keys]
   split
   ·exact hm
   ·exact List.mem_append.2 (.inl hm)
theorem V.cells_put (v : V) (s : Sys) (id : Nat) (p : Leaf) : (v.put id p).cells s = v.cells s := rfl
theorem Ext.of_m {s : Sys} {w w' : World} (h : Ext (fun b => b = s.m) w w') : Ext s.F w w' := h.mono fun _ _ e => .inr e
theorem write_ok (s : Sys) (hs : s.Ok) (w : World) (v : V) (h : TxAt w s v) (id kind : Nat) (body : List UInt8) (he : v.err id = 0) (hk1 : 1 ≤ kind) (hk2 : kind < 255) (hb : body.length ≤ 500) :
  Calls Tryz.prog 20 #[.pointer (some ⟨s.t,0,none⟩),.int .i64 (id : Int),.int .i64 (kind : Int),.string (str body)] w fun e w' => e = .returned (.int .i64 0) ∧ TxAt w' s (v.put id ⟨kind,body⟩) ∧ Ext s.F w w' := by
 have HG := Lib.hid (there_ok s hs w v h id he)
 obtain ⟨h1,h2,_⟩ := V.err_ok he
 clear he
 have g1 : ¬ ((kind : Int) < 1) := by omega
 have g2 : ¬ ((255 : Int) ≤ kind) := by omega
 have g3 : ¬ (500 < body.length) := by omega
 have g4 : (str body).size = body.length := str_size body
 go_enter Tryz.func20,Tryz.ntmps20
 go_wp2_with fail
 refine (HG.out).mono ?_
 rintro e w2 ⟨rfl,hb2⟩
 have h' := h.no hs hb2
 obtain ⟨ov,hm,hk,hv⟩ := h'.mp
 have hmt : s.t ≠ s.m := hm.ne h'.tx
 have ms : ∀ o,(Instr.mapUpdate 109 (.map (some s.m)) (.int .i64 (id : Int)) (.agg #[.int .i64 (kind : Int),.string (str body)])).run Tryz.prog (w2.alloc o) = .ok () (mset (w2.alloc o) s.m id ⟨kind,body⟩) := fun o => (mset_run (hm.ext ((Ext.refl No w2).alloc o) (fun h => h)) id ⟨kind,body⟩).1
 have ms2 := fun o => (mset_run (hm.ext ((Ext.refl No w2).alloc o) (fun h => h)) id ⟨kind,body⟩).2
 have t8 := h'.c8
 have lt := h'.tx.lt
 have HK := Lib.hid hk; have HV := Lib.hid hv; have HM := Lib.hid ms2
 clear hk hv ms2
 simp only [Leaf.val]
 go_wp2_with fail
 go_ret
 have hE : Ext s.F w2 (mset (w2.alloc (.cells #[.int .i64 ((v.pg id).kind : Int),.string (str (v.pg id).body)] 113)) s.m id ⟨kind,body⟩) := ((Ext.refl _ _).alloc _).trans_ (mset_ext _ _ _ _).of_m
 refine ⟨rfl,?_,hb2.of_no.trans_ hE⟩
 refine TxAt.step hs h' HK.out HV.out (HM.out _) hE ?_ h1 h2 (.inl rfl) h'.h2 h'.hc rfl
 rw [V.cells_put]
 exact (mset_heap _ _ _ _ _ hmt).trans (h'.tx.alloc _)
theorem write_bad (s : Sys) (hs : s.Ok) (w : World) (v : V) (h : TxAt w s v) (id kind : Nat) (body : ByteArray) (he : v.err id ≠ 0) :
  Calls Tryz.prog 20 #[.pointer (some ⟨s.t,0,none⟩),.int .i64 (id : Int),.int .i64 (kind : Int),.string body] w fun e w' => e = .returned (.int .i64 (v.err id : Int)) ∧ Ext No w w' := by
 have HG := Lib.hid (there_bad s hs w v h id he)
 have hb : ((v.err id : Int) == 0) = false := by simpa using (by omega : ¬ (v.err id : Int) = 0)
 clear he
 generalize v.err id = p at *
 go_enter Tryz.func20,Tryz.ntmps20
 go_wp2_with fail
 refine (HG.out).mono ?_
 rintro e w2 ⟨rfl,hb2⟩
 go_wp2_with fail
 go_ret
 exact ⟨rfl,by (repeat' (first | exact Ext.refl _ _ | assumption | apply Ext.alloc | apply Ext.drewN | apply Ext.drew | refine Ext.setNew ?_ (by first | omega | (simp; omega) | simp) _ _ | refine Ext.setF ?_ (by first | exact Or.inl rfl | exact Or.inr rfl | rfl) _ _ | refine Ext.trans_ ?_ (by assumption) | refine Ext.trans_ ?_ (Ext.of_no (by assumption))))⟩
theorem root_any (s : Sys) (hs : s.Ok) (w : World) (v : V) (h : TxAt w s v) (i : Nat) (hi : i < 4) :
  Calls Tryz.prog 46 #[.pointer (some ⟨s.t,0,none⟩),.int .i64 (i : Int)] w fun e w' => e = .returned (.int .i64 (v.r i : Int)) ∧ w = w' := by
 have t0 := h.c0
 have t1 := h.c1
 have t2 := h.c2
 have t3 := h.c3
 have t4 := h.c4
 have HU := Lib.hid (txup s hs w h.db t0)
 match i,hi with
 | 0,_ | 1,_ | 2,_ | 3,_ =>
  go_enter Tryz.func46,Tryz.ntmps46
  go_wp2_with fail
  refine (HU.out).mono ?_
  rintro e w2 ⟨rfl,rfl⟩
  go_wp2_with fail
  go_ret
  exact ⟨rfl,rfl⟩
theorem TxAt.re {w w' : World} {s : Sys} {v : V} (hs : s.Ok) (h : TxAt w s v) (v' : V) (he : Ext s.F w w') (ht : Blk w' s.t 111 (v'.cells s)) (hm : w'.heap[s.m]? = w.heap[s.m]?)
  (hp : v'.pg = v.pg) (hh : v'.high = v.high) (hc : v'.cnt ≤ v'.high) : TxAt w' s v' := by
 obtain ⟨ov,⟨hn,es,c,ho,hes⟩,hk,hv⟩ := h.mp
 exact ⟨ht,hs.keep _ _ he h.db,hh ▸ h.h1,hh ▸ h.h2,hh ▸ h.hb,hc,ov,⟨hn,es,c,hm.trans ho,hes⟩,hh ▸ hk,by rw [hh,hp]; exact hv⟩
theorem TxAt.tm {w : World} {s : Sys} {v : V} (h : TxAt w s v) : s.t ≠ s.m := by
 obtain ⟨ov,hm,_⟩ := h.mp
 exact hm.ne h.tx
theorem heap_set2 (w : World) (t m i j : Nat) (u u' : Value) (h : t ≠ m) : (((w.setCell ⟨t,i,none⟩ u).setCell ⟨t,j,none⟩ u').heap[m]?) = w.heap[m]? :=
 (Below.heap_setCell _ ⟨t,j,none⟩ u' m (Ne.symm h)).trans (Below.heap_setCell _ ⟨t,i,none⟩ u m (Ne.symm h))
def V.setR (v : V) (i n : Nat) : V := { v with r := fun j => if j = i then n else v.r j,marked := true }
theorem setroot_any (s : Sys) (hs : s.Ok) (w : World) (v : V) (h : TxAt w s v) (i n : Nat) (hi : i < 4) (hn : n < 2147483648) :
  Calls Tryz.prog 21 #[.pointer (some ⟨s.t,0,none⟩),.int .i64 (i : Int),.int .i64 (n : Int)] w fun e w' => e = .returned (.int .i64 0) ∧ TxAt w' s (v.setR i n) ∧ Ext s.F w w' := by
 have t0 := h.c0
 have t1 := h.c1
 have t2 := h.c2
 have t3 := h.c3
 have t4 := h.c4
 have t9 := h.c9
 have f0 := h.fz
 have HU := Lib.hid (txup s hs w h.db t0)
 have g2 : decide ((n : Int) ≥ 2147483648) = false := by simp; omega
 have g3 : decide ((n : Int) < 0) = false := by simp
 clear hn
 match i,hi with
 | 0,_ | 1,_ | 2,_ | 3,_ =>
  go_enter Tryz.func21,Tryz.ntmps21
  go_wp2_with fail
  refine (HU.out).mono ?_
  rintro e w2 ⟨rfl,rfl⟩
  go_wp2_with fail
  go_ret
  refine ⟨rfl,?_,by (repeat' (first | exact Ext.refl _ _ | assumption | apply Ext.alloc | apply Ext.drewN | apply Ext.drew | refine Ext.setNew ?_ (by first | omega | (simp; omega) | simp) _ _ | refine Ext.setF ?_ (by first | exact Or.inl rfl | exact Or.inr rfl | rfl) _ _ | refine Ext.trans_ ?_ (by assumption) | refine Ext.trans_ ?_ (Ext.of_no (by assumption))))⟩
  exact h.re hs _ (by (repeat' (first | exact Ext.refl _ _ | assumption | apply Ext.alloc | apply Ext.drewN | apply Ext.drew | refine Ext.setNew ?_ (by first | omega | (simp; omega) | simp) _ _ | refine Ext.setF ?_ (by first | exact Or.inl rfl | exact Or.inr rfl | rfl) _ _ | refine Ext.trans_ ?_ (by assumption) | refine Ext.trans_ ?_ (Ext.of_no (by assumption))))) ((h.tx.set_ _ _).set_ _ _) (heap_set2 _ _ _ _ _ _ _ h.tm) rfl rfl h.hc
theorem spoil_any (s : Sys) (hs : s.Ok) (w : World) (v : V) (h : TxAt w s v) :
  Calls Tryz.prog 96 #[.pointer (some ⟨s.t,0,none⟩)] w fun e w' => e = .returned (.tuple #[]) ∧ TxAt w' s { v with spoilt := true } ∧ Ext s.F w w' := by
 have t10 := h.c10
 have f0 := h.fz
 go_enter Tryz.func96,Tryz.ntmps96
 go_wp2_with fail
 go_end0
 refine ⟨rfl,?_,by (repeat' (first | exact Ext.refl _ _ | assumption | apply Ext.alloc | apply Ext.drewN | apply Ext.drew | refine Ext.setNew ?_ (by first | omega | (simp; omega) | simp) _ _ | refine Ext.setF ?_ (by first | exact Or.inl rfl | exact Or.inr rfl | rfl) _ _ | refine Ext.trans_ ?_ (by assumption) | refine Ext.trans_ ?_ (Ext.of_no (by assumption))))⟩
 exact h.re hs _ (by (repeat' (first | exact Ext.refl _ _ | assumption | apply Ext.alloc | apply Ext.drewN | apply Ext.drew | refine Ext.setNew ?_ (by first | omega | (simp; omega) | simp) _ _ | refine Ext.setF ?_ (by first | exact Or.inl rfl | exact Or.inr rfl | rfl) _ _ | refine Ext.trans_ ?_ (by assumption) | refine Ext.trans_ ?_ (Ext.of_no (by assumption))))) (h.tx.set_ _ _) (Below.heap_setCell _ ⟨_,_,none⟩ _ _ (Ne.symm h.tm)) rfl rfl h.hc
def V.allocNew (v : V) : V := V.put { v with high := v.high + 1,marked := true } v.high ⟨1,[]⟩
def V.allocFree (v : V) : V := V.put { v with free := v4 (str (v.pg v.free).body),cnt := v.cnt - 1,marked := true } v.free ⟨1,[]⟩
theorem alloc_full (s : Sys) (hs : s.Ok) (w : World) (v : V) (h : TxAt w s v) (h1 : v.free = 0) (h2 : v.high = s.cap) :
  Calls Tryz.prog 19 #[.pointer (some ⟨s.t,0,none⟩)] w fun e w' => e = .returned (.tuple #[.int .i64 0,.int .i64 7]) ∧ Ext No w w' := by
 have t0 := h.c0
 have t5 := h.c5
 have t6 := h.c6
 rw [h1] at t6
 rw [h2] at t5
 have x0 := hs.x0 w h.db
 have HU := Lib.hid (txup s hs w h.db t0)
 have hdb := Lib.hid h.db
 clear h1 h2 h
 go_enter Tryz.func19,Tryz.ntmps19
 go_wp2_with fail
 refine (HU.out).mono ?_
 rintro e w2 ⟨rfl,rfl⟩
 go_wp2_with fail
 go_quiet ((go_at_call 56; exact Calls.quiet_of (xcount s hs _ (by exact sysKeepNo hs ((Ext.refl No w).drewN _) hdb.out))))
 go_wp2_with fail
 go_ret2
 exact ⟨rfl,by (repeat' (first | exact Ext.refl _ _ | assumption | apply Ext.alloc | apply Ext.drewN | apply Ext.drew | refine Ext.setNew ?_ (by first | omega | (simp; omega) | simp) _ _ | refine Ext.setF ?_ (by first | exact Or.inl rfl | exact Or.inr rfl | rfl) _ _ | refine Ext.trans_ ?_ (by assumption) | refine Ext.trans_ ?_ (Ext.of_no (by assumption))))⟩
theorem alloc_new (s : Sys) (hs : s.Ok) (w : World) (v : V) (h : TxAt w s v) (h1 : v.free = 0) (h2 : v.high < s.cap) :
  Calls Tryz.prog 19 #[.pointer (some ⟨s.t,0,none⟩)] w fun e w' => e = .returned (.tuple #[.int .i64 (v.high : Int),.int .i64 0]) ∧ TxAt w' s v.allocNew ∧ Ext s.F w w' := by
 have t0 := h.c0
 have t5 := h.c5
 have t6 := h.c6
 have t8 := h.c8
 have t9 := h.c9
 have f0 := h.fz
 have x0 := hs.x0 w h.db
 have HU := Lib.hid (txup s hs w h.db t0)
 have hdb := Lib.hid h.db
 have hcap : s.cap ≤ 65536 := by unfold Sys.cap; have := hs.n2; omega
 have hne : ((v.high : Int) == (s.cap : Int)) = false := by simpa using (by omega : ¬ (v.high : Int) = (s.cap : Int))
 obtain ⟨ov,hm,hk,hv⟩ := h.mp
 have hmt : s.t ≠ s.m := hm.ne h.tx
 have hmx : ∀ W,W.heap[s.m]? = w.heap[s.m]? → MapAt W s.m ov := fun W e => by
  obtain ⟨hn,es,c,ho,hes⟩ := hm
  exact ⟨hn,es,c,e.trans ho,hes⟩
 have hmm : ∀ nq u u',MapAt (((w.drewN nq).setCell ⟨s.t,5,none⟩ u).setCell ⟨s.t,9,none⟩ u') s.m ov := fun nq u u' => hmx _ (heap_set2 (w.drewN nq) _ _ _ _ _ _ hmt)
 have ms : ∀ nq u u',(Instr.mapUpdate 109 (.map (some s.m)) (.int .i64 (v.high : Int)) (.agg #[.int .i64 1,.string { data := #[] }])).run Tryz.prog (((w.drewN nq).setCell ⟨s.t,5,none⟩ u).setCell ⟨s.t,9,none⟩ u') =
  .ok () (mset (((w.drewN nq).setCell ⟨s.t,5,none⟩ u).setCell ⟨s.t,9,none⟩ u') s.m v.high ⟨1,[]⟩) := fun nq u u' => (mset_run (hmm nq u u') v.high ⟨1,[]⟩).1
 have ms2 := fun nq u u' => (mset_run (hmm nq u u') v.high ⟨1,[]⟩).2
 have HK := Lib.hid hk; have HV := Lib.hid hv; have HM := Lib.hid ms2; have H1 := Lib.hid h1
 rw [h1] at t6
 clear hk hv ms2 hmm hmx h1
 go_enter Tryz.func19,Tryz.ntmps19
 go_wp2_with fail
 refine (HU.out).mono ?_
 rintro e w2 ⟨rfl,rfl⟩
 go_wp2_with fail
 go_quiet ((go_at_call 56; exact Calls.quiet_of (xcount s hs _ (by exact sysKeepNo hs ((Ext.refl No w).drewN _) hdb.out))))
 go_wp2_with fail
 go_ret2
 have hE : Ext s.F w (mset (((w.drewN nq).setCell ⟨s.t,5,none⟩ (.int .i64 ((v.high : Int) + 1))).setCell ⟨s.t,9,none⟩ (.bool true)) s.m v.high ⟨1,[]⟩) :=
  ((((Ext.refl _ w).drewN nq).setF (.inl rfl) _ _).setF (.inl rfl) _ _).trans_ (mset_ext _ _ _ _).of_m
 refine ⟨rfl,?_,hE⟩
 have hc := h.hc
 refine TxAt.step hs h HK.out HV.out (HM.out _ _ _) hE ?_ h.h1 (Nat.lt_succ_self _) (.inr ⟨rfl,rfl⟩) h2 (Nat.le_succ_of_le hc) rfl
 exact (mset_heap _ _ _ _ _ hmt).trans (((h.tx.drewN nq).set_ _ _).set_ _ _)
theorem heap_set3 (w : World) (t m i j k : Nat) (u u' u'' : Value) (h : t ≠ m) : ((((w.setCell ⟨t,i,none⟩ u).setCell ⟨t,j,none⟩ u').setCell ⟨t,k,none⟩ u'').heap[m]?) = w.heap[m]? :=
 (Below.heap_setCell _ ⟨t,k,none⟩ u'' m (Ne.symm h)).trans (heap_set2 w t m i j u u' h)
theorem alloc_free (s : Sys) (hs : s.Ok) (w : World) (v : V) (h : TxAt w s v) (h1 : 0 < v.free) (h2 : v.free < v.high) (h3 : 4 ≤ (v.pg v.free).body.length) (h4 : 1 ≤ v.cnt) :
  Calls Tryz.prog 19 #[.pointer (some ⟨s.t,0,none⟩)] w fun e w' => e = .returned (.tuple #[.int .i64 (v.free : Int),.int .i64 0]) ∧ TxAt w' s v.allocFree ∧ Ext s.F w w' := by
 have t0 := h.c0
 have t6 := h.c6
 have HU := Lib.hid (txup s hs w h.db t0)
 have HG := Lib.hid (get_any s hs w v h v.free h1 h2)
 have h3' : 4 ≤ (str (v.pg v.free).body).size := by rw [str_size]; exact h3
 have h1' : (0 : Int) < v.free := by omega
 go_enter Tryz.func19,Tryz.ntmps19
 go_wp2_with fail
 refine (HU.out).mono ?_
 rintro e w2 ⟨rfl,rfl⟩
 go_wp2_with fail
 refine (HG.out).mono ?_
 rintro e w1 ⟨rfl,hb1⟩
 have h' := h.no hs hb1
 have t0 := h'.c0
 have t5 := h'.c5
 have t6 := h'.c6
 have t7 := h'.c7
 have t8 := h'.c8
 have t9 := h'.c9
 have f0 := h'.fz
 have lt := h'.tx.lt
 have hne : w1.heap.size ≠ s.t := by omega
 obtain ⟨ov,hm,hk,hv⟩ := h'.mp
 have hmt : s.t ≠ s.m := hm.ne h'.tx
 have hmlt : s.m < w1.heap.size := by
  obtain ⟨_,es,c,ho,_⟩ := hm
  rcases Nat.lt_or_ge s.m w1.heap.size with hlt | hge
  ·exact hlt
  ·rw [Array.getElem?_eq_none hge] at ho; cases ho
 have hmx : ∀ W,W.heap[s.m]? = w1.heap[s.m]? → MapAt W s.m ov := fun W e => by
  obtain ⟨hn,es,c,ho,hes⟩ := hm
  exact ⟨hn,es,c,e.trans ho,hes⟩
 generalize hp : v.pg v.free = p at h3' h3
 have hmm : ∀ o k u u' u'',MapAt (((((w1.alloc o).drewN k).setCell ⟨s.t,6,none⟩ u).setCell ⟨s.t,7,none⟩ u').setCell ⟨s.t,9,none⟩ u'') s.m ov := fun o k u u' u'' =>
  hmx _ ((heap_set3 ((w1.alloc o).drewN k) _ _ _ _ _ _ _ _ hmt).trans (Below.heap_alloc w1 o s.m hmlt))
 have ms : ∀ o k u u' u'',(Instr.mapUpdate 109 (.map (some s.m)) (.int .i64 (v.free : Int)) (.agg #[.int .i64 1,.string { data := #[] }])).run Tryz.prog (((((w1.alloc o).drewN k).setCell ⟨s.t,6,none⟩ u).setCell ⟨s.t,7,none⟩ u').setCell ⟨s.t,9,none⟩ u'') =
  .ok () (mset (((((w1.alloc o).drewN k).setCell ⟨s.t,6,none⟩ u).setCell ⟨s.t,7,none⟩ u').setCell ⟨s.t,9,none⟩ u'') s.m v.free ⟨1,[]⟩) := fun o k u u' u'' => (mset_run (hmm o k u u' u'') v.free ⟨1,[]⟩).1
 have ms2 := fun o k u u' u'' => (mset_run (hmm o k u u' u'') v.free ⟨1,[]⟩).2
 have HK := Lib.hid hk; have HV := Lib.hid hv; have HM := Lib.hid ms2; have HP := Lib.hid hp
 clear hk hv ms2 hmm hmx hp
 simp only [Leaf.val]
 go_wp2_with fail
 refine (value_any (str p.body) h3' _).mono ?_
 rintro e w3 ⟨rfl,k,rfl⟩
 have g1 : (0:Int) ≤ v.cnt := by omega
 have hcb := h.hc
 have hhb := h.h2
 have hcap : s.cap ≤ 65536 := by unfold Sys.cap; have := hs.n2; omega
 go_wp2_with fail
 go_ret2
 have hE : Ext s.F w1 (mset (((((w1.alloc (.cells #[.int .i64 (p.kind : Int),.string (str p.body)] 113)).drewN k).setCell ⟨s.t,6,none⟩ (.int .i64 (v4 (str p.body) : Int))).setCell ⟨s.t,7,none⟩ (.int .i64 ((v.cnt : Int) - 1))).setCell ⟨s.t,9,none⟩ (.bool true)) s.m v.free ⟨1,[]⟩) :=
  ((((((Ext.refl _ w1).alloc _).drewN k).setF (.inl rfl) _ _).setF (.inl rfl) _ _).setF (.inl rfl) _ _).trans_ (mset_ext _ _ _ _).of_m
 refine ⟨rfl,?_,hb1.of_no.trans_ hE⟩
 refine TxAt.step hs h' HK.out HV.out (HM.out _ _ _ _ _) hE ?_ h1 h2 (.inl rfl) h.h2 (by show v.cnt - 1 ≤ v.high; omega) rfl
 refine (mset_heap _ _ _ _ _ hmt).trans ?_
 have e1 : (v.allocFree.cells s) = ((((v.cells s).setIfInBounds 6 (.int .i64 (v4 (str p.body) : Int))).setIfInBounds 7 (.int .i64 ((v.cnt : Int) - 1))).setIfInBounds 9 (.bool true)) := by
  have e2 : ((v.cnt - 1 : Nat) : Int) = (v.cnt : Int) - 1 := by omega
  simp only [V.allocFree,V.cells,V.put,HP.out,e2]
  rfl
 rw [e1]
 exact (((((h'.tx.alloc _).drewN k).set_ _ _).set_ _ _).set_ _ _)
def V.letFree (v : V) (id : Nat) : V := V.put { v with free := id,cnt := v.cnt + 1,marked := true } id ⟨255,n4 v.free⟩
theorem free_ok (s : Sys) (hs : s.Ok) (w : World) (v : V) (h : TxAt w s v) (id : Nat) (he : v.err id = 0) (hfr : v.free < 4294967296) (hcn : v.cnt < v.high) :
  Calls Tryz.prog 142 #[.pointer (some ⟨s.t,0,none⟩),.int .i64 (id : Int)] w fun e w' => e = .returned (.int .i64 0) ∧ TxAt w' s (v.letFree id) ∧ Ext s.F w w' := by
 have HG := Lib.hid (there_ok s hs w v h id he)
 obtain ⟨h1,h2,_⟩ := V.err_ok he
 clear he
 go_enter Tryz.func142,Tryz.ntmps142
 go_wp2_with fail
 refine (HG.out).mono ?_
 rintro e w1 ⟨rfl,hb1⟩
 have h' := h.no hs hb1
 have t6 := h'.c6
 have t7 := h'.c7
 have t8 := h'.c8
 have t9 := h'.c9
 have f0 := h'.fz
 have lt := h'.tx.lt
 obtain ⟨ov,hm,hk,hv⟩ := h'.mp
 have hmt : s.t ≠ s.m := hm.ne h'.tx
 have HK := Lib.hid hk; have HV := Lib.hid hv; have HM := Lib.hid hm
 clear hk hv hm
 have hmc : ∀ W i,(mset W s.m id ⟨255,n4 v.free⟩).cell? ⟨s.t,i,none⟩ = W.cell? ⟨s.t,i,none⟩ := fun W i => mset_cell W s.m id _ s.t i hmt
 have hmf : ∀ W i,(mset W s.m id ⟨255,n4 v.free⟩).frozen? ⟨s.t,i,none⟩ = W.frozen? ⟨s.t,i,none⟩ := fun W i => mset_frozen W s.m id _ s.t i hmt
 simp only [Leaf.val]
 go_wp2_with fail
 go_region_held3 (fun w' => w'.cell? ⟨s.t,8,none⟩ = some (.map (some s.m)) ∧ w'.cell? ⟨s.t,6,none⟩ = some (.int .i64 (v.free : Int))) (go_keep)
  ((go_at_call 106; refine (number_any v.free hfr _).mono ?_; rintro e w3 ⟨rfl,hb3⟩; have hx3 : Ext No w1 w3 := ((Ext.refl No w1).alloc _).drew.trans_ hb3; have h3 := h'.no hs hx3; have k8 := h3.c8; have k6 := h3.c6; have k7 := h3.c7; have k9 := h3.c9; have f3 := h3.fz; have ms : (Instr.mapUpdate 109 (.map (some s.m)) (.int .i64 (id : Int)) (.agg #[.int .i64 255,.string (str (n4 v.free))])).run Tryz.prog w3 = .ok () (mset w3 s.m id ⟨255,n4 v.free⟩) := (mset_run (HM.out.ext hx3 (fun h => h)) id ⟨255,n4 v.free⟩).1))
 have hcb := h.hc
 have hhb := h.h2
 have hcap : s.cap ≤ 65536 := by unfold Sys.cap; have := hs.n2; omega
 go_wp2_with fail
 go_ret
 have hM3 := (mset_run (HM.out.ext hx3 (fun h => h)) id ⟨255,n4 v.free⟩).2
 have hE : Ext s.F w1 ((((mset w3 s.m id ⟨255,n4 v.free⟩).setCell ⟨s.t,6,none⟩ (.int .i64 (id : Int))).setCell ⟨s.t,7,none⟩ (.int .i64 ((v.cnt : Int) + 1))).setCell ⟨s.t,9,none⟩ (.bool true)) :=
  (((hx3.of_no.trans_ (mset_ext _ _ _ _).of_m).setF (.inl rfl) _ _).setF (.inl rfl) _ _).setF (.inl rfl) _ _
 refine ⟨rfl,?_,hb1.of_no.trans_ hE⟩
 have hM : MapAt ((((mset w3 s.m id ⟨255,n4 v.free⟩).setCell ⟨s.t,6,none⟩ (.int .i64 (id : Int))).setCell ⟨s.t,7,none⟩ (.int .i64 ((v.cnt : Int) + 1))).setCell ⟨s.t,9,none⟩ (.bool true)) s.m (setOv ov id ⟨255,n4 v.free⟩) := by
  obtain ⟨hn,es,c,ho,hes⟩ := hM3
  exact ⟨hn,es,c,(heap_set3 _ _ _ _ _ _ _ _ _ hmt).trans ho,hes⟩
 refine TxAt.step hs h' HK.out HV.out hM hE ?_ h1 h2 (.inl rfl) h.h2 (by show v.cnt + 1 ≤ v.high; omega) rfl
 have b3 : Blk (mset w3 s.m id ⟨255,n4 v.free⟩) s.t 111 (v.cells s) := (mset_heap _ _ _ _ _ hmt).trans h3.tx
 have e1 : ((v.letFree id).cells s) = ((((v.cells s).setIfInBounds 6 (.int .i64 (id : Int))).setIfInBounds 7 (.int .i64 ((v.cnt : Int) + 1))).setIfInBounds 9 (.bool true)) := by
  have e2 : ((v.cnt + 1 : Nat) : Int) = (v.cnt : Int) + 1 := by omega
  simp only [V.letFree,V.cells,V.put,e2]
  rfl
 rw [e1]
 exact (((b3.set_ _ _).set_ _ _).set_ _ _)
theorem free_bad (s : Sys) (hs : s.Ok) (w : World) (v : V) (h : TxAt w s v) (id : Nat) (he : v.err id ≠ 0) :
  Calls Tryz.prog 142 #[.pointer (some ⟨s.t,0,none⟩),.int .i64 (id : Int)] w fun e w' => e = .returned (.int .i64 (v.err id : Int)) ∧ Ext No w w' := by
 have HG := Lib.hid (there_bad s hs w v h id he)
 have hb : ((v.err id : Int) == 0) = false := by simpa using (by omega : ¬ (v.err id : Int) = 0)
 clear he
 generalize v.err id = p at *
 go_enter Tryz.func142,Tryz.ntmps142
 go_wp2_with fail
 refine (HG.out).mono ?_
 rintro e w2 ⟨rfl,hb2⟩
 go_wp2_with fail
 go_ret
 exact ⟨rfl,by (repeat' (first | exact Ext.refl _ _ | assumption | apply Ext.alloc | apply Ext.drewN | apply Ext.drew | refine Ext.setNew ?_ (by first | omega | (simp; omega) | simp) _ _ | refine Ext.setF ?_ (by first | exact Or.inl rfl | exact Or.inr rfl | rfl) _ _ | refine Ext.trans_ ?_ (by assumption) | refine Ext.trans_ ?_ (Ext.of_no (by assumption))))⟩
structure V.Fr (v : V) (l : List Nat) : Prop where
 nd : l.Nodup
 cnt : v.cnt = l.length
 hd : v.free = l.headD 0
 mem : ∀ a,(1 ≤ a ∧ a < v.high ∧ (v.pg a).kind = 255) ↔ a ∈ l
 body : ∀ k a,l[k]? = some a → (v.pg a).body = n4 (l.getD (k + 1) 0)
 top : v.high ≤ 65536
 h1 : 1 ≤ v.high
 bd : ∀ a,1 ≤ a → a < v.high → (v.pg a).body.length ≤ 500
def V.Good (v : V) : Prop := ∃ l,v.Fr l
theorem nodup_len : ∀ (n : Nat) (l : List Nat),l.Nodup → (∀ a ∈ l,1 ≤ a ∧ a < n) → 1 ≤ n → l.length < n
 | 0,_,_,_,h => absurd h (by omega)
 | 1,[],_,_,_ => by simp
 | 1,a :: l,_,h,_ => by have := h a (by simp); omega
 | n + 2,l,hd,h,_ => by
  by_cases hm : n + 1 ∈ l
  ·have he := nodup_len (n + 1) (l.erase (n + 1)) (hd.erase _) (fun a ha => by
    have h1 := h a (List.mem_of_mem_erase ha)
    have h2 : a ≠ n + 1 := (hd.mem_erase_iff.1 ha).1
    omega) (by omega)
   rw [List.length_erase_of_mem hm] at he
   omega
  ·have := nodup_len (n + 1) l hd (fun a ha => by
    have h1 := h a ha
    have h2 : a ≠ n + 1 := fun e => hm (e ▸ ha)
    omega) (by omega)
   omega
theorem V.Fr.lt {v : V} {l : List Nat} (h : v.Fr l) : l.length < v.high := nodup_len _ l h.nd (fun a ha => by have := (h.mem a).2 ha; omega) h.h1
theorem V.Fr.put {v : V} {l : List Nat} (h : v.Fr l) {id : Nat} {p : Leaf} (he : v.err id = 0) (hp : p.kind ≠ 255) (hq : p.body.length ≤ 500) : (v.put id p).Fr l := by
 obtain ⟨h1,h2,h3⟩ := V.err_ok he
 have hn : id ∉ l := fun hm => h3 ((h.mem id).2 hm).2.2
 refine ⟨h.nd,h.cnt,h.hd,fun a => ?_,fun k a hk => ?_,h.top,h.h1,fun a a1 a2 => by simp only [V.put]; split; exact hq; exact h.bd a a1 a2⟩
 ·rw [← h.mem a]
  simp only [V.put]
  by_cases ha : a = id
  ·subst ha
   simp only [if_true]
   constructor
   ·rintro ⟨_,_,e⟩; exact absurd e hp
   ·rintro ⟨_,_,e⟩; exact absurd e h3
  ·simp only [if_neg ha]
 ·have ha : a ≠ id := by
   rintro rfl
   exact hn (List.mem_of_getElem? hk)
  simp only [V.put,if_neg ha]
  exact h.body k a hk
theorem V.Fr.new {v : V} {l : List Nat} (h : v.Fr l) (hc : v.high < 65536) : v.allocNew.Fr l := by
 refine ⟨h.nd,h.cnt,h.hd,fun a => ?_,fun k a hk => ?_,by show v.high + 1 ≤ 65536; omega,by show 1 ≤ v.high + 1; omega,fun a a1 a2 => by
  simp only [V.allocNew,V.put] at a2 ⊢
  split
  ·simp
  ·exact h.bd a a1 (by omega)⟩
 ·rw [← h.mem a]
  simp only [V.allocNew,V.put]
  by_cases ha : a = v.high
  ·subst ha
   simp only [if_true]
   constructor
   ·rintro ⟨_,_,e⟩; cases e
   ·rintro ⟨_,e,_⟩; omega
  ·simp only [if_neg ha]
   constructor
   ·rintro ⟨a1,a2,a3⟩; exact ⟨a1,by omega,a3⟩
   ·rintro ⟨a1,a2,a3⟩; exact ⟨a1,by omega,a3⟩
 ·have ha : a ≠ v.high := by
   have := (h.mem a).2 (List.mem_of_getElem? hk)
   omega
  simp only [V.allocNew,V.put,if_neg ha]
  exact h.body k a hk
theorem V.Fr.cons {v : V} {l : List Nat} (h : v.Fr l) (hf : v.free ≠ 0) : ∃ l',l = v.free :: l' := by
 have := h.hd
 match l,this with
 | [],e => exact absurd e hf
 | a :: l',e => exact ⟨l',by rw [e]; rfl⟩
theorem V.Fr.old {v : V} {l : List Nat} (h : v.Fr (v.free :: l)) : v.allocFree.Fr l := by
 have hb := h.body 0 v.free rfl
 have hnd := List.nodup_cons.1 h.nd
 have hfree : v4 (str (v.pg v.free).body) = l.headD 0 := by
  rw [hb]
  have : (v.free :: l).getD (0 + 1) 0 < 4294967296 := by
   match l with
   | [] => simp
   | b :: l => have := (h.mem b).2 (by simp); have := h.top; simp; omega
  have e := v4_n4 _ this []
  rw [List.append_nil] at e
  rw [e]
  cases l <;> simp
 have hc := h.cnt
 simp at hc
 refine ⟨hnd.2,by show v.cnt - 1 = _; omega,hfree,fun a => ?_,fun k a hk => ?_,h.top,h.h1,fun a a1 a2 => by
  simp only [V.allocFree,V.put]
  split
  ·simp
  ·exact h.bd a a1 a2⟩
 ·simp only [V.allocFree,V.put]
  by_cases ha : a = v.free
  ·subst ha
   simp only [if_true]
   constructor
   ·rintro ⟨_,_,e⟩; cases e
   ·intro hm; exact absurd hm hnd.1
  ·simp only [if_neg ha]
   rw [h.mem a]
   simp [ha]
 ·have ha : a ≠ v.free := by
   rintro rfl
   exact hnd.1 (List.mem_of_getElem? hk)
  simp only [V.allocFree,V.put,if_neg ha]
  have := h.body (k + 1) a (by simpa using hk)
  rw [this]
  simp
theorem V.Fr.let_ {v : V} {l : List Nat} (h : v.Fr l) {id : Nat} (he : v.err id = 0) : (v.letFree id).Fr (id :: l) := by
 obtain ⟨h1,h2,h3⟩ := V.err_ok he
 have hn : id ∉ l := fun hm => h3 ((h.mem id).2 hm).2.2
 refine ⟨List.nodup_cons.2 ⟨hn,h.nd⟩,by show v.cnt + 1 = _; rw [h.cnt]; rfl,rfl,fun a => ?_,fun k a hk => ?_,h.top,h.h1,fun a a1 a2 => by
  simp only [V.letFree,V.put]
  split
  ·simp [n4]
  ·exact h.bd a a1 a2⟩
 ·simp only [V.letFree,V.put]
  by_cases ha : a = id
  ·subst ha
   simp [h1,h2]
  ·simp only [if_neg ha]
   rw [h.mem a]
   simp [ha]
 ·simp only [V.letFree,V.put]
  match k,hk with
  | 0,hk =>
   have : id = a := by simpa using hk
   subst this
   rw [if_pos rfl]
   simp [h.hd]
   cases l <;> simp
  | k + 1,hk =>
   have hk' : l[k]? = some a := by simpa using hk
   have ha : a ≠ id := by
    rintro rfl
    exact hn (List.mem_of_getElem? hk')
   rw [if_neg ha,h.body k a hk']
   simp
theorem V.Fr.re {v v' : V} {l : List Nat} (h : v.Fr l) (h1 : v'.free = v.free) (h2 : v'.cnt = v.cnt) (h3 : v'.high = v.high) (h4 : v'.pg = v.pg) : v'.Fr l :=
 ⟨h.nd,h2 ▸ h.cnt,h1 ▸ h.hd,fun a => by rw [h3,h4]; exact h.mem a,fun k a hk => by rw [h4]; exact h.body k a hk,h3 ▸ h.top,h3 ▸ h.h1,by rw [h3,h4]; exact h.bd⟩
def V.alloc (cap : Nat) (v : V) : Nat × Nat × V :=
 if v.free = 0 then (if v.high = cap then (0,7,v) else (v.high,0,v.allocNew)) else (v.free,0,v.allocFree)
def V.drop (v : V) (id : Nat) : Nat × V := if v.err id = 0 then (0,v.letFree id) else (v.err id,v)
def V.set (v : V) (id kind : Nat) (body : List UInt8) : Nat × V := if v.err id = 0 then (0,v.put id ⟨kind,body⟩) else (v.err id,v)
def V.read (v : V) (id : Nat) : Nat × List UInt8 × Nat := if v.err id = 0 then ((v.pg id).kind,(v.pg id).body,0) else (0,[],v.err id)
theorem V.Good.alloc {v : V} (h : v.Good) {cap : Nat} (h1 : v.high ≤ cap) (h2 : cap ≤ 65536) : (v.alloc cap).2.2.Good ∧ (v.alloc cap).2.2.high ≤ cap := by
 obtain ⟨l,h⟩ := h
 unfold V.alloc
 split
 ·split
  ·exact ⟨⟨l,h⟩,h1⟩
  ·exact ⟨⟨l,h.new (by omega)⟩,by show v.high + 1 ≤ cap; omega⟩
 ·rename_i hf
  obtain ⟨l',rfl⟩ := h.cons hf
  exact ⟨⟨l',h.old⟩,h1⟩
theorem V.Good.drop {v : V} (h : v.Good) (id : Nat) : (v.drop id).2.Good := by
 obtain ⟨l,h⟩ := h
 unfold V.drop
 split
 ·rename_i he; exact ⟨_,h.let_ he⟩
 ·exact ⟨l,h⟩
theorem V.Good.set {v : V} (h : v.Good) (id kind : Nat) (body : List UInt8) (hk : kind ≠ 255) (hb : body.length ≤ 500) : (v.set id kind body).2.Good := by
 obtain ⟨l,h⟩ := h
 unfold V.set
 split
 ·rename_i he; exact ⟨_,h.put he hk hb⟩
 ·exact ⟨l,h⟩
theorem V.Good.setR {v : V} (h : v.Good) (i n : Nat) : (v.setR i n).Good := by
 obtain ⟨l,h⟩ := h
 exact ⟨l,h.re rfl rfl rfl rfl⟩
theorem V.Good.spoil {v : V} (h : v.Good) : ({ v with spoilt := true } : V).Good := by
 obtain ⟨l,h⟩ := h
 exact ⟨l,h.re rfl rfl rfl rfl⟩
theorem alloc_any (s : Sys) (hs : s.Ok) (w : World) (v : V) (h : TxAt w s v) (hg : v.Good) :
  Calls Tryz.prog 19 #[.pointer (some ⟨s.t,0,none⟩)] w fun e w' => e = .returned (.tuple #[.int .i64 ((v.alloc s.cap).1 : Int),.int .i64 ((v.alloc s.cap).2.1 : Int)]) ∧ TxAt w' s (v.alloc s.cap).2.2 ∧ Ext s.F w w' := by
 unfold V.alloc
 split
 ·rename_i h0
  split
  ·rename_i h1
   exact (alloc_full s hs w v h h0 h1).mono fun e w' ⟨h1,h2⟩ => ⟨h1,h.no hs h2,h2.of_no⟩
  ·rename_i h1
   have := h.h2
   exact alloc_new s hs w v h h0 (by omega)
 ·rename_i h0
  obtain ⟨l,hl⟩ := hg
  obtain ⟨l',rfl⟩ := hl.cons h0
  have hm := (hl.mem v.free).2 (by simp)
  have hc := hl.cnt
  have hb := hl.body 0 v.free rfl
  exact alloc_free s hs w v h (by omega) hm.2.1 (by rw [hb]; simp [n4]) (by simp at hc; omega)
theorem free_any (s : Sys) (hs : s.Ok) (w : World) (v : V) (h : TxAt w s v) (hg : v.Good) (id : Nat) :
  Calls Tryz.prog 142 #[.pointer (some ⟨s.t,0,none⟩),.int .i64 (id : Int)] w fun e w' => e = .returned (.int .i64 ((v.drop id).1 : Int)) ∧ TxAt w' s (v.drop id).2 ∧ Ext s.F w w' := by
 unfold V.drop
 split
 ·rename_i h0
  obtain ⟨l,hl⟩ := hg
  have := hl.lt
  have := hl.cnt
  have := hl.top
  refine free_ok s hs w v h id h0 ?_ (by omega)
  have hd := hl.hd
  match l,hl,hd with
  | [],_,hd => simp at hd; omega
  | a :: l,hl,hd =>
   have hm := (hl.mem a).2 (by simp)
   simp at hd
   omega
 ·rename_i h0
  exact (free_bad s hs w v h id h0).mono fun e w' ⟨h1,h2⟩ => ⟨h1,h.no hs h2,h2.of_no⟩
theorem write_any (s : Sys) (hs : s.Ok) (w : World) (v : V) (h : TxAt w s v) (id kind : Nat) (body : List UInt8) (hk1 : 1 ≤ kind) (hk2 : kind < 255) (hb : body.length ≤ 500) :
  Calls Tryz.prog 20 #[.pointer (some ⟨s.t,0,none⟩),.int .i64 (id : Int),.int .i64 (kind : Int),.string (str body)] w fun e w' => e = .returned (.int .i64 ((v.set id kind body).1 : Int)) ∧ TxAt w' s (v.set id kind body).2 ∧ Ext s.F w w' := by
 unfold V.set
 split
 ·rename_i h0
  exact write_ok s hs w v h id kind body h0 hk1 hk2 hb
 ·rename_i h0
  exact (write_bad s hs w v h id kind _ h0).mono fun e w' ⟨h1,h2⟩ => ⟨h1,h.no hs h2,h2.of_no⟩
theorem read_any (s : Sys) (hs : s.Ok) (w : World) (v : V) (h : TxAt w s v) (id : Nat) :
  Calls Tryz.prog 47 #[.pointer (some ⟨s.t,0,none⟩),.int .i64 (id : Int)] w fun e w' => e = .returned (.tuple #[.int .i64 ((v.read id).1 : Int),.string (str (v.read id).2.1),.int .i64 ((v.read id).2.2 : Int)]) ∧ Ext No w w' := by
 unfold V.read
 split
 ·rename_i h0
  exact read_ok s hs w v h id h0
 ·rename_i h0
  exact read_bad s hs w v h id h0
def treeCells (s : Sys) (i : Nat) : Array Value := #[.pointer (some ⟨s.t,0,none⟩),.int .i64 (i : Int)]
theorem tree_off {w : World} {s : Sys} {v : V} {gx i : Nat} (ht : TxAt w s v) (h : Blk w gx 70 (treeCells s i)) : ¬ s.F gx := by
 rintro (e | e)
 ·exact (h.ne_ ht.tx (by decide)) e
 ·obtain ⟨ov,hm,_⟩ := ht.mp
  exact hm.ne h e
theorem tree_ext {w w' : World} {s : Sys} {v : V} {gx i : Nat} (ht : TxAt w s v) (h : Blk w gx 70 (treeCells s i)) (he : Ext s.F w w') : Blk w' gx 70 (treeCells s i) := h.ext he (tree_off ht h)
theorem V.read_err (v : V) (id : Nat) : (v.read id).2.2 = 0 ∨ (v.read id).2.2 = 2 ∨ (v.read id).2.2 = 8 := by
 unfold V.read
 split
 ·exact .inl rfl
 ·rename_i h
  rcases V.err_cases h with ⟨h,_⟩ | ⟨h,_⟩
  ·exact .inr (.inl h)
  ·exact .inr (.inr h)
theorem of_any (t : Option Addr) (i : Nat) (hi : i < 4) (w : World) :
  Calls Tryz.prog 13 #[.pointer t,.int .i64 (i : Int)] w fun e w' => e = .returned (.pointer (some ⟨w.heap.size,0,none⟩)) ∧ w' = w.alloc (.cells #[.pointer t,.int .i64 (i : Int)] 70) := by
 have g1 : ¬ ((i : Int) < 0) := by omega
 have g2 : ¬ ((4 : Int) ≤ i) := by omega
 go_enter Tryz.func13,Tryz.ntmps13
 go_wp2_with fail
 go_ret
 exact ⟨rfl,rfl⟩
theorem none_no (t : Addr) (i : Value) (gx : Nat) (w : World) (h : Blk w gx 70 #[.pointer (some t),i]) :
  Calls Tryz.prog 45 #[.pointer (some ⟨gx,0,none⟩)] w fun e w' => e = .returned (.bool false) ∧ w = w' := by
 have c0 := h.cell 0
 simp at c0
 go_enter Tryz.func45,Tryz.ntmps45
 go_wp2
 go_ret
 exact ⟨rfl,rfl⟩
theorem alive_any (s : Sys) (hs : s.Ok) (w : World) (v : V) (h : TxAt w s v) (gx i : Nat) (hx : Blk w gx 70 (treeCells s i)) :
  Calls Tryz.prog 64 #[.pointer (some ⟨gx,0,none⟩)] w fun e w' => e = .returned (.int .i64 0) ∧ Ext No w w' := by
 have HR := Lib.hid (read_any s hs w v h 1)
 have c0 := hx.cell 0
 simp [treeCells] at c0
 have he := v.read_err 1
 generalize (v.read 1).2.2 = e at HR he
 generalize (v.read 1).1 = k at HR
 generalize (v.read 1).2.1 = b at HR
 go_enter Tryz.func64,Tryz.ntmps64
 go_wp2_with fail
 refine (HR.out).mono ?_
 rintro e' w1 ⟨rfl,hx1⟩
 rcases he with rfl | rfl | rfl
 all_goals
  go_wp2_with fail
  go_ret
  exact ⟨rfl,hx1⟩
def may (key val : List UInt8) : Nat := if key = [] then 2 else if 140 < key.length ∨ 16384 < val.length then 3 else 0
theorem may_any (s : Sys) (hs : s.Ok) (w : World) (v : V) (h : TxAt w s v) (gx i : Nat) (hx : Blk w gx 70 (treeCells s i)) (key val : List UInt8) :
  Calls Tryz.prog 59 #[.pointer (some ⟨gx,0,none⟩),.string (str key),.string (str val)] w fun e w' => e = .returned (.int .i64 (may key val : Int)) ∧ Ext No w w' := by
 have HN := Lib.hid (none_no ⟨s.t,0,none⟩ (.int .i64 (i : Int)) gx w hx)
 have HA := Lib.hid (alive_any s hs w v h gx i hx)
 have hk := str_size key
 have hv := str_size val
 clear h hs hx
 cases key with
 | nil =>
  go_enter Tryz.func59,Tryz.ntmps59
  go_wp2_with fail
  refine (HN.out).mono ?_
  rintro e' w1 ⟨rfl,rfl⟩
  go_wp2_with fail
  go_ret
  exact ⟨rfl,Ext.refl _ _⟩
 | cons a key =>
  have hne : (a :: key).isEmpty = false := rfl
  have hm : may (a :: key) val = if 140 < (a :: key).length ∨ 16384 < val.length then 3 else 0 := by simp [may]
  rw [hm]
  generalize a :: key = k at *
  have HK := Lib.hid hk; have HV := Lib.hid hv
  clear hm
  by_cases h1 : 140 < k.length
  ·rw [if_pos (.inl h1)]
   go_enter Tryz.func59,Tryz.ntmps59
   go_wp2_with fail
   refine (HN.out).mono ?_
   rintro e' w1 ⟨rfl,rfl⟩
   go_wp2_with fail
   go_ret
   exact ⟨rfl,Ext.refl _ _⟩
  ·by_cases h2 : 16384 < val.length
   ·rw [if_pos (.inr h2)]
    go_enter Tryz.func59,Tryz.ntmps59
    go_wp2_with fail
    refine (HN.out).mono ?_
    rintro e' w1 ⟨rfl,rfl⟩
    go_wp2_with fail
    go_ret
    exact ⟨rfl,Ext.refl _ _⟩
   ·rw [if_neg (by omega)]
    go_enter Tryz.func59,Tryz.ntmps59
    go_wp2_with fail
    refine (HN.out).mono ?_
    rintro e' w1 ⟨rfl,rfl⟩
    go_wp2_with fail
    refine (HA.out).mono ?_
    rintro e' w1 ⟨rfl,hx1⟩
    go_wp2_with fail
    go_ret
    exact ⟨rfl,hx1⟩
theorem treeroot_any (s : Sys) (hs : s.Ok) (w : World) (v : V) (h : TxAt w s v) (gx i : Nat) (hx : Blk w gx 70 (treeCells s i)) (hi : i < 4) :
  Calls Tryz.prog 15 #[.pointer (some ⟨gx,0,none⟩)] w fun e w' => e = .returned (.int .i64 (v.r i : Int)) ∧ Ext No w w' := by
 have HN := Lib.hid (none_no ⟨s.t,0,none⟩ (.int .i64 (i : Int)) gx w hx)
 have HR := Lib.hid (fun w h => root_any s hs w v h i hi)
 have c0 := hx.cell 0
 have c1 := hx.cell 1
 simp [treeCells] at c0 c1
 have HT := Lib.hid h
 clear h
 go_enter Tryz.func15,Tryz.ntmps15
 go_wp2_with fail
 refine (HN.out).mono ?_
 rintro e' w1 ⟨rfl,rfl⟩
 go_wp2_with fail
 go_quiet ((go_at_call 46; exact Calls.quiet_of_same ((HR.out _ (HT.out.no hs ((Ext.refl No w).drewN _))).mono fun _ _ ⟨h1,h2⟩ => ⟨h1,h2.symm⟩)))
 go_wp2_with fail
 go_ret
 exact ⟨rfl,by (repeat' (first | exact Ext.refl _ _ | assumption | apply Ext.alloc | apply Ext.drewN | apply Ext.drew | refine Ext.setNew ?_ (by first | omega | (simp; omega) | simp) _ _ | refine Ext.setF ?_ (by first | exact Or.inl rfl | exact Or.inr rfl | rfl) _ _ | refine Ext.trans_ ?_ (by assumption) | refine Ext.trans_ ?_ (Ext.of_no (by assumption))))⟩
def zero64 : Array Value := Array.replicate 64 (.int .u8 0)
theorem Tryz.info142 : (Tryz.prog.info? 142).map (fun i => (i.zero,i.size,i.bytes)) = some (some (.agg zero64),64,64) := by kernel_rfl
theorem Tryz.underlying137' : Tryz.prog.underlying 137 = some (.slice 142) := by kernel_rfl
theorem run_make_blocks (n : Nat) (hn : n ≤ 65536) (w : World) :
  (Instr.makeSlice 137 (.int .i64 (n : Int)) (.int .i64 (n : Int))).run Tryz.prog w = .ok (.slice (some ⟨w.heap.size,0,none⟩) n n) (w.alloc (.cells (madeCells zero64 (n * 64)) 142)) := by
 obtain ⟨i,hi,hzz⟩ := Option.map_eq_some_iff.1 Tryz.info142
 simp only [Prod.mk.injEq] at hzz
 obtain ⟨hz,hs,hb⟩ := hzz
 have hr := run_make (P := Tryz.prog) w 137 142 i (.agg zero64) Tryz.underlying137' hi hz .i64 .i64 n n (by omega) (Int.le_refl _) (by rw [hb]; omega) (by omega)
 simp only [Int.toNat_natCast,hs] at hr
 exact hr
def diskCells (kb n : Nat) : Array Value := #[.slice (some ⟨kb,0,none⟩) n n,.slice none 0 0,.bool false,.bool false,.int .i64 0,.int .i64 0]
theorem disk_zero {w : World} {kb n : Nat} (h : Blk w kb 142 (madeCells zero64 (n * 64))) {j : Nat} (hj : j < n * 64) : w.cell? ⟨kb,j,none⟩ = some (.int .u8 0) := by
 rw [h.cell j]
 unfold madeCells
 rw [Array.getElem?_map,Array.getElem?_range,if_pos hj]
 have h1 : zero64.size = 64 := rfl
 have h2 : j % 64 < 64 := Nat.mod_lt _ (by omega)
 simp only [Option.map_some,h1]
 rw [getElem!_pos zero64 (j % 64) (by omega)]
 simp [zero64]
theorem disk_new (n : Nat) (h1 : 1 ≤ n) (hn : n ≤ 65536) (w : World) :
  Calls Tryz.prog 44 #[.int .i64 (n : Int)] w fun e w' => e = .returned (.tuple #[.pointer (some ⟨w.heap.size + 1,0,none⟩),.int .i64 0]) ∧
   Blk w' (w.heap.size + 1) 140 (diskCells w.heap.size n) ∧ Blk w' w.heap.size 142 (madeCells zero64 (n * 64)) ∧ w'.heap.size = w.heap.size + 2 ∧ Ext No w w' := by
 have g1 : ¬ ((n : Int) < 1) := by omega
 have g2 : ¬ ((65536 : Int) < n) := by omega
 have hmk := run_make_blocks n hn
 generalize madeCells zero64 (n * 64) = cs at *
 go_enter Tryz.func44,Tryz.ntmps44
 go_wp2_with fail
 go_ret2
 refine ⟨by simp,?_,?_,by simp,by (repeat' (first | exact Ext.refl _ _ | assumption | apply Ext.alloc | apply Ext.drewN | apply Ext.drew | refine Ext.setNew ?_ (by first | omega | (simp; omega) | simp) _ _ | refine Ext.setF ?_ (by first | exact Or.inl rfl | exact Or.inr rfl | rfl) _ _ | refine Ext.trans_ ?_ (by assumption) | refine Ext.trans_ ?_ (Ext.of_no (by assumption))))⟩
 ·exact (show (w.alloc (.cells cs 142)).heap.size = w.heap.size + 1 by simp) ▸ Blk.new (w.alloc (.cells cs 142)) 140 _
 ·exact (Blk.new w 142 cs).alloc _
theorem disk_up {w : World} {d kb n : Nat} (h : Blk w d 140 (diskCells kb n)) (hn : 1 ≤ n) :
  Calls Tryz.prog 78 #[.pointer (some ⟨d,0,none⟩)] w fun e w' => e = .returned (.int .i64 0) ∧ w = w' := by
 have c0 := h.cell 0
 have c2 := h.cell 2
 simp [diskCells] at c0 c2
 go_enter Tryz.func78,Tryz.ntmps78
 go_wp2_with (go_at_call 79; refine (dnone_no d n _ _ c0 hn).mono ?_; rintro e w' ⟨rfl,rfl⟩)
 go_ret
 exact ⟨rfl,rfl⟩
theorem disk_is {w : World} {d kb n : Nat} (h : Blk w d 140 (diskCells kb n)) (i : Nat) (hi : i < n) :
  Calls Tryz.prog 163 #[.pointer (some ⟨d,0,none⟩),.int .i64 (i : Int)] w fun e w' => e = .returned (.bool true) ∧ w = w' := by
 have c0 := h.cell 0
 simp [diskCells] at c0
 have h1 : (0 : Int) ≤ i := by omega
 have h2 : (i : Int) < n := by omega
 go_enter Tryz.func163,Tryz.ntmps163
 go_wp2_with fail
 go_ret
 exact ⟨rfl,rfl⟩
theorem Addr.add_none (b o j : Nat) : (⟨b,o,none⟩ : Addr).add j = ⟨b,o + j,none⟩ := by
 unfold Addr.add; split
 ·rename_i h; have : j = 0 := by simpa using h
  subst this; rfl
 ·rfl
def zs (n : Nat) : List UInt8 := List.replicate n 0
theorem zs_len (n : Nat) : (zs n).length = n := by simp [zs]
theorem disk_read (d kb n : Nat) (i : Nat) (hi : i < n) (hn : n ≤ 65536) (w : World) (h : Blk w d 140 (diskCells kb n)) (hk : Blk w kb 142 (madeCells zero64 (n * 64))) :
  Calls Tryz.prog 119 #[.pointer (some ⟨d,0,none⟩),.int .i64 (i : Int)] w fun e w' => e = .returned (.tuple #[.string (str (zs 64)),.int .i64 0]) ∧ Ext No w w' := by
 have HU := Lib.hid (disk_up h (by omega))
 have HI := Lib.hid (disk_is h i hi)
 have c0 := h.cell 0
 have c1 := h.cell 1
 simp [diskCells] at c0 c1
 have hz := Lib.hid (fun j (hj : j < n * 64) => disk_zero hk hj)
 have h1 : (0 : Int) ≤ i := by omega
 have h2 : (i : Int) < n := by omega
 go_enter Tryz.func119,Tryz.ntmps119
 go_wp2_with fail
 refine (HU.out).mono ?_
 rintro e w1 ⟨rfl,rfl⟩
 go_wp2_with fail
 refine (HI.out).mono ?_
 rintro e w1 ⟨rfl,rfl⟩
 go_wp2_with fail
 go_loopg [7] 0 (fun gk k wr => k = .int .i64 (-1) ∧ w = wr)
 case atStart => exact ⟨rfl,rfl⟩
 case round =>
  obtain ⟨rfl,rfl⟩ := hrel
  have kc : (convert 98 9 (.slice (some ⟨kb,i * 64,none⟩) 64 64)).run Tryz.prog w = .ok (.string (str (zs 64))) w := by
   refine run_convert_bytes_back (P := Tryz.prog) w 98 9 5 ⟨kb,i * 64,none⟩ 64 (zs 64) Tryz.underlying98 Tryz.underlying5 Tryz.underlying9 ?_
   intro j hj
   have hj4 : j < 64 := by rw [zs_len] at hj; exact hj
   have := hz.out (i * 64 + j) (by omega)
   rw [Addr.add_none,this]
   simp only [zs,List.getElem_replicate]
   rfl
  go_wp2_with fail
  go_ret2
  exact ⟨rfl,Ext.refl _ _⟩
end Go.Proofs.YtccnemmlkcmceaaGreatDoor
namespace Go.Proofs.YtccnemmlkcmceaaGreatDoor
open Go.RowKit Go.BigFrame
theorem str_app (a b : List UInt8) : str a ++ str b = str (a ++ b) := by
 apply ByteArray.ext
 simp [str,ByteArray.data_append]
theorem zs_app (a b : Nat) : zs a ++ zs b = zs (a + b) := by simp [zs]
theorem image_zero (x d kb n log id : Nat) (w : World) (x0 : w.cell? ⟨x,0,none⟩ = some (.pointer (some ⟨d,0,none⟩))) (x2 : w.cell? ⟨x,2,none⟩ = some (.int .i64 (log : Int)))
  (h : Blk w d 140 (diskCells kb n)) (hk : Blk w kb 142 (madeCells zero64 (n * 64))) (hn : n ≤ 65536) (hi : log + id * 8 + 8 ≤ n) :
  Calls Tryz.prog 83 #[.pointer (some ⟨x,0,none⟩),.int .i64 (id : Int)] w fun e w' => e = .returned (.tuple #[.string (str (zs 512)),.int .i64 0]) ∧ Ext No w w' := by
 have HD := Lib.hid h; have HK := Lib.hid hk
 have HR := Lib.hid (fun k (hk8 : k < 8) w (h : Blk w d 140 (diskCells kb n)) (hk : Blk w kb 142 (madeCells zero64 (n * 64))) => (show ((log + id * 8 + k : Nat) : Int) = (log : Int) + (id : Int) * 8 + (k : Int) by omega) ▸ disk_read d kb n (log + id * 8 + k) (by omega) hn w h hk)
 obtain ⟨z,hz⟩ : ∃ z,z = str (zs 64) := ⟨_,rfl⟩
 rw [← hz] at HR
 have HZ := Lib.hid hz
 clear h hk hz
 go_enter Tryz.func83,Tryz.ntmps83
 go_wp2_with fail
 go_loopg [6,10] 8 (fun gk s k wr => ∃ K : Nat,K + gk = 8 ∧ k = .int .i64 (K : Int) ∧ s = .string (str (List.replicate (K * 64) 0)) ∧ Ext No w wr)
 case atStart => exact ⟨0,rfl,rfl,rfl,Ext.refl _ _⟩
 case round =>
  obtain ⟨K,hK,rfl,rfl,hE⟩ := hrel
  have y0 := cell_ext hE x0 (fun h => h)
  have y2 := cell_ext hE x2 (fun h => h)
  have l0 := World.block_lt_of_cell? wr _ y0
  simp only at l0
  have HE := Lib.hid hE
  have HKK := Lib.hid hK
  clear hE
  by_cases h8 : K < 8
  ·have HR1 := Lib.hid (fun (i : Upd wr) => HR.out K h8 (up wr i) (HD.out.ext (HE.out.trans_ (up_ext wr i)) (fun h => h)) (HK.out.ext (HE.out.trans_ (up_ext wr i)) (fun h => h)))
   have h8' : (K : Int) < 8 := by omega
   have b1 : (log : Int) + (id : Int) * 8 + K < 65536 := by omega
   have b2 : (0 : Int) ≤ (log : Int) + (id : Int) * 8 + K := by omega
   clear hK h8 hi
   go_wp2_with fail
   refine wp_region_up (by kernel_rfl) (by kernel_rfl) ?_; (repeat (go_big_quiet_step ((go_at_call 119; exact Calls.up_of (HR1.out _))))); refine wpQuiet_nil ?_; intro _ hw'; obtain ⟨⟨wq,hq⟩,hw''⟩ := hw'; change _ = wq at hw''; subst hw''
   clear HR HD HK HR1 b1 b2 hn x0 x2 y0 y2 l0
   have hzs : z.size = 64 := by rw [HZ.out,str_size,zs_len]
   have hK7 : K * 64 ≤ 448 := by omega
   go_wp2_with fail

   go_roundg (gk - 1)
   case rel => exact ⟨K + 1,by have := HKK.out; omega,by go_num,by rw [HZ.out,str_app]; show Value.string (str (zs (K * 64) ++ zs 64)) = Value.string (str (zs ((K + 1) * 64))); rw [zs_app,Nat.succ_mul],HE.out.trans_ hq⟩
   case measure => have := HKK.out; omega
  ·have hK8 : K = 8 := by omega
   subst hK8
   clear hK h8 hi
   go_wp2_with fail
   go_ret2
   exact ⟨rfl,HE.out⟩
end Go.Proofs.YtccnemmlkcmceaaGreatDoor
namespace Go.Proofs.YtccnemmlkcmceaaGreatDoor
open Go.RowKit
def txt (s : Bs) : Bs := UInt8.ofNat s.length :: s
def Cell.enc (c : Cell) : Bs := txt c.key ++ (if 0 < c.over then 1 :: (n4 c.len ++ n4 c.over) else 0 :: txt c.val)
def encCells (cs : List Cell) : Bs := cs.flatMap Cell.enc
def encKeys : List Bs → List Nat → Bs
 | k :: ks,i :: is => txt k ++ n4 i ++ encKeys ks is
 | _,_ => []
def Nd.enc (n : Nd) : Bs :=
 if n.leaf then 1 :: UInt8.ofNat n.cells.length :: encCells n.cells
 else 2 :: UInt8.ofNat n.keys.length :: (n4 (n.kids.headD 0) ++ encKeys n.keys n.kids.tail)
theorem okC_all (cs : List Cell) : ∀ k,okC cs k = true → ∀ c ∈ cs.take k,c.ok = true
 | 0,_,c,hc => by simp at hc
 | k + 1,h,c,hc => by
  simp only [okC,Bool.and_eq_true] at h
  obtain ⟨h1,h2⟩ := h
  cases hk : cs[k]? with
  | none =>
   rw [hk] at h2; simp at h2
  | some d =>
   rw [hk] at h2
   simp only [Bool.and_eq_true] at h2
   rw [List.take_add_one,hk] at hc
   rcases List.mem_append.1 hc with hc | hc
   ·exact okC_all cs k h1 c hc
   ·simp at hc; subst hc; exact h2.1
theorem okK_all (cs : List Bs) : ∀ k,okK cs k = true → ∀ c ∈ cs.take k,keyOk c = true
 | 0,_,c,hc => by simp at hc
 | k + 1,h,c,hc => by
  simp only [okK,Bool.and_eq_true] at h
  obtain ⟨h1,h2⟩ := h
  cases hk : cs[k]? with
  | none =>
   rw [hk] at h2; simp at h2
  | some d =>
   rw [hk] at h2
   simp only [Bool.and_eq_true] at h2
   rw [List.take_add_one,hk] at hc
   rcases List.mem_append.1 hc with hc | hc
   ·exact okK_all cs k h1 c hc
   ·simp at hc; subst hc; exact h2.1
theorem keyOk_len {k : Bs} (h : keyOk k = true) : 1 ≤ k.length ∧ k.length ≤ 140 := by simpa [keyOk] using h
theorem Cell.ok_bounds {c : Cell} (h : c.ok = true) : 1 ≤ c.key.length ∧ c.key.length ≤ 140 ∧ c.val.length ≤ 157 ∧ c.len ≤ 16384 ∧ c.over ≤ 2147483647 := by
 unfold Cell.ok at h
 split at h
 ·rename_i ho
  simp only [Bool.and_eq_true,decide_eq_true_eq] at h
  obtain ⟨⟨h1,h2⟩,h3⟩ := h
  obtain ⟨k1,k2⟩ := keyOk_len h1
  unfold Cell.size at h3
  rw [if_neg (by omega)] at h3
  omega
 ·simp only [Bool.and_eq_true,decide_eq_true_eq] at h
  obtain ⟨⟨⟨h1,h2⟩,h3⟩,h4⟩ := h
  obtain ⟨k1,k2⟩ := keyOk_len h1
  have : c.val = [] := by simpa using h4
  simp only [idOk,decide_eq_true_eq] at h2
  rw [this]; simp; omega
structure Nd.Ok (n : Nd) : Prop where
 a1 : n.cells.length ≤ 255
 a2 : n.keys.length ≤ 255
 lf : n.leaf = true → n.keys = [] ∧ n.kids = []
 br : n.leaf = false → n.cells = [] ∧ n.kids.length = n.keys.length + 1
 c : ∀ c ∈ n.cells,c.ok = true
 k : ∀ k ∈ n.keys,keyOk k = true
 i : ∀ i ∈ n.kids,idOk i = true
theorem Nd.Ok.of {n : Nd} (h : n.ok = true) : n.Ok := by
 unfold Nd.ok at h
 simp only [Bool.and_eq_true] at h
 obtain ⟨⟨⟨h1,h2⟩,h3⟩,h4⟩ := h
 unfold Nd.shape at h1
 simp only [Bool.and_eq_true,decide_eq_true_eq] at h1
 obtain ⟨⟨h5,h6⟩,h7⟩ := h1
 refine ⟨h5,h6,fun hl => ?_,fun hl => ?_,fun c hc => okC_all _ _ h2 c (by rwa [List.take_length]),fun c hc => okK_all _ _ h3 c (by rwa [List.take_length]),fun i hi => (List.all_eq_true.1 h4) i hi⟩
 ·rw [hl] at h7; simpa using h7
 ·rw [hl] at h7; simpa using h7
theorem Nd.Ok.fits {n : Nd} (h : n.Ok) : n.fits := by
 refine ⟨fun c hc => ?_,fun k hk => ?_,fun i hi => ?_⟩
 ·have := Cell.ok_bounds (h.c c hc); exact ⟨by omega,by omega,by omega,by omega⟩
 ·have := keyOk_len (h.k k hk); omega
 ·have := h.i i hi; simp [idOk] at this; omega
theorem enc_bad (n : Nd) (w : World) (F : Nat → Prop) (A1 : Option Addr) (c1 : Nat) (A2 : Option Addr) (c2 : Nat) (A3 : Option Addr) (c3 : Nat) (hn : NodeAt w F A1 c1 A2 c2 A3 c3 n) (hf : n.fits) (hno : n.ok = false) :
  Calls Tryz.prog 180 #[n.value A1 c1 A2 c2 A3 c3] w fun e w' => e = .returned (.tuple #[.string (str []),.int .i64 2]) ∧ Ext No w w' := by
 have HC := Lib.hid (fun w hn => check_any n w F A1 c1 A2 c2 A3 c3 hn hf)
 rw [Nd.chk_bad hno] at HC
 clear hno
 go_enter Tryz.func180,Tryz.ntmps180
 simp only [Nd.value]
 go_wp2_with fail
 refine (HC.out _ (hn.ext ((Ext.refl _ w).alloc _))).mono ?_
 rintro e w1 ⟨rfl,hb1⟩
 go_wp2_with fail
 go_ret2
 exact ⟨rfl,by (repeat' (first | exact Ext.refl _ _ | assumption | apply Ext.alloc | apply Ext.drewN | apply Ext.drew | refine Ext.setNew ?_ (by first | omega | (simp; omega) | simp) _ _ | refine Ext.setF ?_ (by first | exact Or.inl rfl | exact Or.inr rfl | rfl) _ _ | refine Ext.trans_ ?_ (by assumption) | refine Ext.trans_ ?_ (Ext.of_no (by assumption))))⟩
theorem enc_long (n : Nd) (w : World) (F : Nat → Prop) (A1 : Option Addr) (c1 : Nat) (A2 : Option Addr) (c2 : Nat) (A3 : Option Addr) (c3 : Nat) (hn : NodeAt w F A1 c1 A2 c2 A3 c3 n) (hf : n.fits) (hno : n.ok = true) (hl : 500 < n.size) :
  Calls Tryz.prog 180 #[n.value A1 c1 A2 c2 A3 c3] w fun e w' => e = .returned (.tuple #[.string (str []),.int .i64 3]) ∧ Ext No w w' := by
 have HC := Lib.hid (fun w hn => check_any n w F A1 c1 A2 c2 A3 c3 hn hf)
 have HS := Lib.hid (fun w hn => size_any n w F A1 c1 A2 c2 A3 c3 hn hf)
 rw [Nd.chk_ok hno] at HC
 clear hno
 have hl' : (500 : Int) < n.size := by omega
 go_enter Tryz.func180,Tryz.ntmps180
 simp only [Nd.value]
 go_wp2_with fail
 refine (HC.out _ (hn.ext ((Ext.refl _ w).alloc _))).mono ?_
 rintro e w1 ⟨rfl,hb1⟩
 have bb := (Blk.new w 40 #[.bool n.leaf,.slice A1 n.cells.length c1,.slice A2 n.keys.length c2,.slice A3 n.kids.length c3]).ext hb1 (fun h => h)
 have q0 := bb.cell 0
 have q1 := bb.cell 1
 have q2 := bb.cell 2
 have q3 := bb.cell 3
 have bl := bb.lt
 simp at q0 q1 q2 q3
 go_wp2_with fail
 refine (HS.out _ (hn.ext (((Ext.refl _ w).alloc _).trans_ hb1.of_no))).mono ?_
 rintro e w2 ⟨rfl,hb2⟩
 go_wp2_with fail
 go_ret2
 exact ⟨rfl,by (repeat' (first | exact Ext.refl _ _ | assumption | apply Ext.alloc | apply Ext.drewN | apply Ext.drew | refine Ext.setNew ?_ (by first | omega | (simp; omega) | simp) _ _ | refine Ext.setF ?_ (by first | exact Or.inl rfl | exact Or.inr rfl | rfl) _ _ | refine Ext.trans_ ?_ (by assumption) | refine Ext.trans_ ?_ (Ext.of_no (by assumption))))⟩
end Go.Proofs.YtccnemmlkcmceaaGreatDoor
