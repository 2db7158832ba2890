/- Proofs about the given program, joined out of the texts RC1, RC2, RC3, CM1. -/
import Derived.Test.YtccnemmlkcmceaaGreatDoorHE19
set_option linter.unusedVariables false
set_option linter.unusedSimpArgs false
set_option maxRecDepth 100000
set_option maxHeartbeats 6400000
namespace Go.Proofs.YtccnemmlkcmceaaGreatDoor
open Go.RowKit Go.Maps Go.Sort Go.Shelf
def sv:Bs → Value:=fun b=>.string (str b)
def V.mt (v:V):Mt:=⟨v.r,v.high,v.free,v.cnt⟩
def sealP (cr:Bs → Nat) (p:Nat × Leaf):Nat × Bs:=(p.1,sealed cr p.1 p.2.kind p.2.body)
def imgList (cr:Bs → Nat) (v:V) (ov:List (Nat × Leaf)):List (Nat × Bs):=ov.map (sealP cr) ++ (if v.marked then [(0,sealed cr 0 1 v.mt.body)] else [])
theorem sub_len:∀ {l m:List Nat},l.Nodup → (∀ a ∈ l,a ∈ m) → l.length ≤ m.length
 | [],m,_,_=>by simp
 | a :: l,m,h,hs=>by
  have h1:=List.nodup_cons.1 h
  have h2:l.length ≤ (m.erase a).length:=sub_len h1.2 (fun b hb=>by
   exact (List.mem_erase_of_ne (by rintro rfl;exact h1.1 hb)).2 (hs b (by simp [hb])))
  have h3:=hs a (by simp)
  rw [List.length_erase_of_mem h3] at h2
  have:0 < m.length:=List.length_pos_of_mem h3
  simp only [List.length_cons]
  omega
theorem setBlk_far {w:World} {b i:Nat} {o:Obj} (h:i ≠ b):(ChangeMaps.setBlock w b o).heap[i]? = w.heap[i]?:=by
 simp only [ChangeMaps.setBlock,Array.getElem?_setIfInBounds]
 rw [if_neg (fun e=>h e.symm)]
theorem setBlk_at {w:World} {b:Nat} {o:Obj} (h:b < w.heap.size):(ChangeMaps.setBlock w b o).heap[b]? = some o:=by
 simp [ChangeMaps.setBlock,h]
structure RecR (cr:Bs → Nat) (w wr:World) (bm r g:Nat) (es:Array MapEntry) (ov:List (Nat × Leaf)) (since:Nat) (dE:List MapEntry) (dP:List (Nat × Leaf)) (seen:Array Nat) (c0:Nat):Prop where
 kv:dE.map (fun e=>(e.key,e.val)) = dP.map (fun p=>(Value.int .i64 (p.1:Int),p.2.val))
 sub:∀ e ∈ dE,e ∈ es.toList
 subP:∀ p ∈ dP,p ∈ ov
 sn:seen.toList = dE.map (·.born)
 nd:(dE.map (·.born)).Nodup
 it:wr.heap[r]? = some (.mapIter (some bm) since seen c0)
 le:since ≤ c0
 img:MapG sv wr g (dP.map (sealP cr))
 x:Ext No w wr
structure RecM (w:World) (bm:Nat) (es:Array MapEntry) (c:Nat) (ov:List (Nat × Leaf)):Prop where
 at_:w.heap[bm]? = some (.map es c)
 nodup:(ov.map (·.1)).Nodup
 ent:es.toList.map (fun e=>(e.key,e.val)) = ov.map (fun p=>(Value.int .i64 (p.1:Int),p.2.val))
 st:Stamps es c
section
variable {cr:Bs → Nat} {w wr:World} {bm r g c:Nat} {es:Array MapEntry} {ov:List (Nat × Leaf)} {dE:List MapEntry} {dP:List (Nat × Leaf)} {seen:Array Nat} {c0:Nat}
theorem RecM.len (h:RecM w bm es c ov):es.toList.length = ov.length:=by
 have:=congrArg List.length h.ent
 simpa using this
theorem RecM.pair (h:RecM w bm es c ov) {e:MapEntry} (he:e ∈ es.toList):∃ p ∈ ov,e.key = .int .i64 (p.1:Int) ∧ e.val = p.2.val:=by
 have h1:(e.key,e.val) ∈ es.toList.map (fun e=>(e.key,e.val)):=List.mem_map.2 ⟨e,he,rfl⟩
 rw [h.ent] at h1
 obtain ⟨p,hp,e1⟩:=List.mem_map.1 h1
 injection e1 with e1 e2
 exact ⟨p,hp,e1.symm,e2.symm⟩
theorem RecM.keyInj (h:RecM w bm es c ov) {e e':MapEntry} (he:e ∈ es.toList) (he':e' ∈ es.toList) (hk:e.key = e'.key):e = e':=by
 have hkey:es.toList.map (·.key) = (ov.map (fun p=>p.1)).map (fun i:Nat=>Value.int .i64 (i:Int)):=by
  have:=congrArg (List.map Prod.fst) h.ent
  rw [List.map_map,List.map_map] at this
  rw [List.map_map]
  exact this
 have hnd:(es.toList.map (·.key)).Nodup:=by
  rw [hkey]
  exact List.Pairwise.map (fun i:Nat=>Value.int .i64 (i:Int)) (fun a b hab e=>hab (by injection e with _ e;omega)) h.nodup
 obtain ⟨i,hi⟩:=List.getElem?_of_mem he
 obtain ⟨j,hj⟩:=List.getElem?_of_mem he'
 have hi1:=(List.getElem?_eq_some_iff.1 hi).1
 have:i = j:=by
  have a1:(es.toList.map (·.key))[i]? = some e.key:=by rw [List.getElem?_map,hi];rfl
  have a2:(es.toList.map (·.key))[j]? = some e.key:=by rw [List.getElem?_map,hj,hk];rfl
  exact (List.getElem?_inj (by rw [List.length_map];exact hi1) hnd).1 (a1.trans a2.symm)
 subst this
 rw [hi] at hj
 exact Option.some.inj hj
theorem RecR.fresh (h:RecR cr w wr bm r g es ov c dE dP seen c0) (hm:RecM w bm es c ov) {e:MapEntry} (he:e ∈ (leftOf es seen).toList) {p:Nat × Leaf} (hp:e.key = .int .i64 (p.1:Int)):e ∈ es.toList ∧ e.born ∉ dE.map (·.born) ∧ p.1 ∉ (dP.map (sealP cr)).map (·.1):=by
 unfold leftOf at he
 have he':e ∈ Array.filter (fun e=>!seen.contains e.born) es:=Array.mem_toList_iff.1 he
 rw [Array.mem_filter] at he'
 have h1:e ∈ es.toList:=Array.mem_toList_iff.2 he'.1
 have h2:e.born ∉ dE.map (·.born):=by
  rw [← h.sn]
  intro hm'
  have h3:seen.contains e.born = true:=Array.contains_iff_mem.2 (Array.mem_toList_iff.1 hm')
  rw [h3] at he'
  exact absurd he'.2 (by simp)
 refine ⟨h1,h2,fun hk=>h2 ?_⟩
 rw [List.map_map] at hk
 obtain ⟨q,hq,e1⟩:=List.mem_map.1 hk
 have e1:q.1 = p.1:=e1
 have h4:(Value.int .i64 (q.1:Int),q.2.val) ∈ dE.map (fun e=>(e.key,e.val)):=by rw [h.kv];exact List.mem_map.2 ⟨q,hq,rfl⟩
 obtain ⟨e',he',e2⟩:=List.mem_map.1 h4
 injection e2 with e2 _
 have:e = e':=hm.keyInj h1 (h.sub e' he') (by rw [hp,e2,e1])
 subst this
 exact List.mem_map.2 ⟨e,he',rfl⟩
theorem RecR.step (h:RecR cr w wr bm r g es ov c dE dP seen c0) (hm:RecM w bm es c ov) {e:MapEntry} (he:e ∈ (leftOf es seen).toList) {p:Nat × Leaf} (hpo:p ∈ ov) (hp:e.key = .int .i64 (p.1:Int)) (hv:e.val = p.2.val) {w':World} {clock:Nat} (hcl:c ≤ clock)
  (hit:w'.heap[r]? = some (.mapIter (some bm) c (seen.push e.born) clock)) (himg:MapG sv w' g (dP.map (sealP cr) ++ [sealP cr p])) (hx:Ext No w w'):RecR cr w w' bm r g es ov c (dE ++ [e]) (dP ++ [p]) (seen.push e.born) clock:=by
 obtain ⟨h1,h2,_⟩:=h.fresh hm he hp
 refine ⟨by simp [h.kv,hp,hv],fun x hx=>?_,fun x hx=>?_,by simp [h.sn],?_,hit,hcl,by rw [List.map_append];exact himg,hx⟩
 ·rcases List.mem_append.1 hx with hx | hx
  ·exact h.sub x hx
  ·rw [List.mem_singleton.1 hx];exact h1
 ·rcases List.mem_append.1 hx with hx | hx
  ·exact h.subP x hx
  ·rw [List.mem_singleton.1 hx];exact hpo
 ·rw [List.map_append]
  refine List.nodup_append.2 ⟨h.nd,by simp,?_⟩
  intro a ha b hb e3
  have:b = e.born:=by simpa using hb
  subst this;subst e3
  exact h2 ha
theorem RecR.len (h:RecR cr w wr bm r g es ov c dE dP seen c0) (hm:RecM w bm es c ov):dP.length = dE.length ∧ dP.length ≤ ov.length:=by
 have h1:dE.length = dP.length:=by have:=congrArg List.length h.kv;simpa using this
 have h2:=sub_len h.nd (m:=es.toList.map (·.born)) (fun a ha=>by
  obtain ⟨e,he,rfl⟩:=List.mem_map.1 ha
  exact List.mem_map.2 ⟨e,h.sub e he,rfl⟩)
 rw [List.length_map,List.length_map,hm.len] at h2
 omega
theorem RecR.all (h:RecR cr w wr bm r g es ov c dE dP seen c0) (hm:RecM w bm es c ov) (h0:(leftOf es seen).size = 0):dP.Perm ov:=by
 have hin:∀ e ∈ es.toList,e ∈ dE:=fun e he=>by
  have h1:e.born ∈ dE.map (·.born):=by
   rw [← h.sn]
   rcases Classical.em (e.born ∈ seen.toList) with h1 | h1
   ·exact h1
   ·exfalso
    have h2:e ∈ leftOf es seen:=by
     unfold leftOf
     rw [Array.mem_filter]
     refine ⟨Array.mem_toList_iff.1 he,?_⟩
     have:seen.contains e.born = false:=by
      rw [Bool.eq_false_iff]
      intro h3
      exact h1 (Array.mem_toList_iff.2 (Array.contains_iff_mem.1 h3))
     rw [this];rfl
    have h3:leftOf es seen = #[]:=Array.eq_empty_of_size_eq_zero h0
    rw [h3] at h2
    simp at h2
  obtain ⟨e',he',e1⟩:=List.mem_map.1 h1
  have:e = e':=by
   obtain ⟨i,hi⟩:=List.getElem?_of_mem he
   obtain ⟨j,hj⟩:=List.getElem?_of_mem (h.sub e' he')
   have hi1:=(List.getElem?_eq_some_iff.1 hi).1
   have:i = j:=by
    have a1:(es.toList.map (·.born))[i]? = some e.born:=by rw [List.getElem?_map,hi];rfl
    have a2:(es.toList.map (·.born))[j]? = some e.born:=by rw [List.getElem?_map,hj];simp [e1]
    exact (List.getElem?_inj (by rw [List.length_map];exact hi1) hm.st.2).1 (a1.trans a2.symm)
   subst this
   rw [hi] at hj
   exact Option.some.inj hj
  rw [this];exact he'
 have hdn:(dP.map (·.1)).Nodup:=by
  have:=h.img.nodup
  rw [List.map_map] at this
  exact this
 have hPn:dP.Nodup:=List.Pairwise.imp (fun hab e=>hab (by rw [e])) (List.pairwise_map.1 hdn)
 have hOn:ov.Nodup:=List.Pairwise.imp (fun hab e=>hab (by rw [e])) (List.pairwise_map.1 hm.nodup)
 refine (List.perm_ext_iff_of_nodup hPn hOn).2 (fun p=>⟨h.subP p,fun hp=>?_⟩)
 have h1:(Value.int .i64 (p.1:Int),p.2.val) ∈ es.toList.map (fun e=>(e.key,e.val)):=by rw [hm.ent];exact List.mem_map.2 ⟨p,hp,rfl⟩
 obtain ⟨e,he,e1⟩:=List.mem_map.1 h1
 have h2:(e.key,e.val) ∈ dP.map (fun p=>(Value.int .i64 (p.1:Int),p.2.val)):=by rw [← h.kv];exact List.mem_map.2 ⟨e,hin e he,rfl⟩
 obtain ⟨q,hq,e2⟩:=List.mem_map.1 h2
 rw [e1] at e2
 injection e2 with e2 _
 have e3:q.1 = p.1:=by injection e2 with _ e2;omega
 -- keys of ov are distinct
 have hqo:=h.subP q hq
 have:q = p:=by
  obtain ⟨i,hi⟩:=List.getElem?_of_mem hqo
  obtain ⟨j,hj⟩:=List.getElem?_of_mem hp
  have hi1:=(List.getElem?_eq_some_iff.1 hi).1
  have:i = j:=by
   have a1:(ov.map (·.1))[i]? = some q.1:=by rw [List.getElem?_map,hi];rfl
   have a2:(ov.map (·.1))[j]? = some q.1:=by rw [List.getElem?_map,hj];simp [e3]
   exact (List.getElem?_inj (by rw [List.length_map];exact hi1) hm.nodup).1 (a1.trans a2.symm)
  subst this
  rw [hi] at hj
  exact Option.some.inj hj
 rw [← this];exact hq
end
end Go.Proofs.YtccnemmlkcmceaaGreatDoor
namespace Go.Proofs.YtccnemmlkcmceaaGreatDoor
open Go.RowKit Go.Maps Go.Sort Go.Shelf Go.BigFrame
theorem imgkeys_any (m:Nat) (w:World):Calls Tryz.prog 108 #[.map (some m)] w fun e w'=>e = .returned (.func (.func 157) #[] #[.pointer (some ⟨w.heap.size,0,none⟩)]) ∧ w' = w.alloc (.cells #[.map (some m)] 132) :=
 callsIn_wide.1 (AnyZI.keys_in Tryz.keysA Fence.wide 5 trivial rfl (some m) w)
theorem imgsorted_any {w:World} {m:Nat} {ov:List (Nat × Bs)} (h:MapG sv w m ov) (hk:∀ p ∈ ov,p.1 < 65536) (hn:ov.length < 65536) :
  Calls Tryz.prog 107 #[.func (.func 157) #[] #[.pointer (some ⟨w.heap.size,0,none⟩)]] (w.alloc (.cells #[.map (some m)] 132)) fun e w'=>∃ A c ks,e = .returned (.slice A ks.length c) ∧ ks.Perm (ov.map (·.1)) ∧ w'.ownsRow w.heap.size 3 1 (.slice A ks.length c) ks.length (kidVals ks) ∧ Ext No (w.alloc (.cells #[.map (some m)] 132)) w':=by
 obtain ⟨D,hown,hperm,hsize⟩:=h.owns hk hn
 have hbl:=hown.lt
 have hseq:SeqGives Fence.wide 2 Tryz.prog 157 #[.pointer (some ⟨w.heap.size,0,none⟩)] encZ (fun ss=>ss.Perm (intKeys D)) (Maps.size D) (w.alloc (.cells #[.map (some m)] 132)) :=
  AnyZI.keys_gives (ρ:=Tryz.keysA_ren) { Tryz.keysA with } Fence.wide _ trivial rfl (by omega) w.heap.size m ov.length D _ (by simp) (by simp) (by
   obtain ⟨es,clock,hb,Ft,hs,hD⟩:=hown
   exact ⟨es,clock,(Below.heap_alloc _ _ m hbl).trans hb,Ft,hs,hD⟩)
 have cS:=AnyZI.sorted_in Tryz.sortedA Fence.wide 5 trivial trivial trivial trivial rfl (by omega) (Tryz.sortsA _) (enters_of Tryz.func156 (by kernel_rfl) rfl) 157 #[.pointer (some ⟨w.heap.size,0,none⟩)] trivial (enters_of Tryz.func157 (by kernel_rfl) rfl) _ _ (by rw [hsize];unfold maxLen;omega) (by rw [hsize];omega) _ hseq
 change CallsIn _ _ Tryz.prog 107 _ _ _ at cS
 refine (callsIn_wide.1 cS).mono ?_
 rintro e w' ⟨v,ss,rfl,hS,hrow,hnil,hb⟩
 have hp:ss.Perm (ov.map fun p=>(p.1:Int)):=hS.trans hperm
 obtain ⟨ks,hks⟩:∃ ks:List Nat,ks = (ss.mergeSort fun x y=>decide (x ≤ y)).map Int.toNat:=⟨_,rfl⟩
 have hp2:(ss.mergeSort fun x y=>decide (x ≤ y)).Perm (ov.map fun p=>(p.1:Int)):=(List.mergeSort_perm _ _).trans hp
 have hlen:ks.length = ss.length:=by rw [hks,List.length_map];exact (List.mergeSort_perm _ _).length_eq
 have hkv:(ss.mergeSort fun x y=>decide (x ≤ y)).map encZ = kidVals ks:=by
  rw [hks]
  unfold kidVals
  rw [List.map_map]
  apply List.map_congr_left
  intro x hx
  obtain ⟨p,_,e⟩:=List.mem_map.1 (hp2.mem_iff.1 hx)
  subst e
  rfl
 rw [hkv,← hlen] at hrow
 obtain ⟨A,c,hv⟩:=own_form hrow
 subst hv
 refine ⟨A,c,ks,rfl,?_,?_,Ext.of_below hb No⟩
 ·rw [hks]
  refine (hp2.map Int.toNat).trans ?_
  rw [List.map_map]
  have:(ov.map ((Int.toNat) ∘ fun p=>(p.1:Int))) = ov.map (·.1):=List.map_congr_left (fun p _=>Int.toNat_natCast _)
  rw [this]
 ·refine ⟨hrow.1,?_⟩
  rcases hrow.2 with h0 | ⟨g,cap,cur,e1,hb1,r⟩
  ·exact .inl h0
  ·exact .inr ⟨g,cap,cur,e1,by simp at hb1;omega,r⟩
end Go.Proofs.YtccnemmlkcmceaaGreatDoor
namespace Go.Proofs.YtccnemmlkcmceaaGreatDoor
open Go.RowKit Go.BigFrame
theorem left_mem {es:Array MapEntry} {seen:Array Nat} {e:MapEntry} (h:e ∈ (leftOf es seen).toList):e ∈ es.toList:=by
 unfold leftOf at h
 have h':e ∈ Array.filter (fun e=>!seen.contains e.born) es:=Array.mem_toList_iff.1 h
 rw [Array.mem_filter] at h'
 exact Array.mem_toList_iff.2 h'.1
theorem next_ext {wr w1:World} (h:w1 = wr ∨ w1 = wr.drew) (b:Nat) (o:Obj):Ext (On b) wr (ChangeMaps.setBlock w1 b o):=by
 rcases h with rfl | rfl
 ·exact ⟨rfl,rfl,rfl,by simp [ChangeMaps.setBlock],fun i hi hne=>setBlk_far hne⟩
 ·exact ⟨rfl,rfl,rfl,by simp [ChangeMaps.setBlock],fun i hi hne=>setBlk_far (w:=wr.drew) hne⟩
theorem heap_lt {w:World} {b:Nat} {o:Obj} (h:w.heap[b]? = some o):b < w.heap.size:=by
 rcases Nat.lt_or_ge b w.heap.size with h1 | h1
 ·exact h1
 ·rw [Array.getElem?_eq_none h1] at h;cases h
theorem look_none {l:List (Nat × Bs)} {id:Nat} (h:l.lookup id = none):id ∉ l.map (·.1):=by
 induction l with
 | nil=>simp
 | cons p l ih =>
  obtain ⟨a,b⟩:=p
  rw [List.lookup_cons] at h
  by_cases hid:id = a
  ·subst hid;simp at h
  ·have hne':(id == a) = false:=by simpa using hid
   rw [hne'] at h
   simp only [List.map_cons,List.mem_cons,not_or]
   exact ⟨hid,ih h⟩
theorem look_mem {l:List (Nat × Bs)} {id:Nat} {x:Bs} (h:l.lookup id = some x):(id,x) ∈ l:=by
 induction l with
 | nil=>cases h
 | cons p l ih =>
  obtain ⟨a,b⟩:=p
  rw [List.lookup_cons] at h
  by_cases hid:id = a
  ·subst hid
   simp only [beq_self_eq_true] at h
   simp [Option.some.inj h]
  ·have hne':(id == a) = false:=by simpa using hid
   rw [hne'] at h
   exact List.mem_cons_of_mem _ (ih h)
theorem look_of {l:List (Nat × Bs)} (hn:(l.map (·.1)).Nodup) {p:Nat × Bs} (h:p ∈ l):l.lookup p.1 = some p.2:=by
 induction l with
 | nil=>cases h
 | cons q l ih =>
  obtain ⟨a,b⟩:=q
  have h1:=List.nodup_cons.1 hn
  rw [List.lookup_cons]
  rcases List.mem_cons.1 h with rfl | h
  ·simp
  ·have hne:(p.1 == a) = false:=by
    simp only [beq_eq_false_iff_ne]
    intro e
    exact h1.1 (by rw [← e];exact List.mem_map.2 ⟨p,h,rfl⟩)
   rw [hne]
   exact ih h1.2 h
theorem perm_lookup {imgs:List (Nat × Bs)} (hn:(imgs.map (·.1)).Nodup) {ks:List Nat} (h:ks.Perm (imgs.map (·.1))):(ks.map (fun id=>(id,(imgs.lookup id).getD []))).Perm imgs:=by
 refine (h.map _).trans ?_
 rw [List.map_map]
 have:imgs.map ((fun id=>(id,(imgs.lookup id).getD [])) ∘ (·.1)) = imgs:=by
  have h2:imgs.map ((fun id=>(id,(imgs.lookup id).getD [])) ∘ (·.1)) = imgs.map id:=List.map_congr_left (fun p hp=>by
   show (p.1,(imgs.lookup p.1).getD []) = p
   rw [look_of hn hp];rfl)
  rw [h2,List.map_id]
 rw [this]
structure Recorded (w:World) (L:List (Nat × Bs)) (e:Ending) (w':World):Prop where
 r:∃ l g,e = .returned (.tuple #[.string (str (encRec l)),.map (some g)]) ∧ l.Perm L ∧ ∃ l',MapG sv w' g l' ∧ l'.length = l.length
 x:Ext No w w'
theorem record_any (s:Sys) (w:World) (v:V) (T:Nat → Nat) (ov:List (Nat × Leaf)) (htx:Blk w s.t 111 (v.cells s)) (hm:MapAt w s.m ov) (hT:Half w T) (hov:∀ p ∈ ov,1 ≤ p.1 ∧ p.1 < 10000 ∧ 1 ≤ p.2.kind ∧ p.2.kind ≤ 255 ∧ p.2.body.length ≤ 500) (hmt:v.mt.Ok) :
  Calls Tryz.prog 67 #[.pointer (some ⟨s.t,0,none⟩)] w (Recorded w (imgList (crc T) v ov)):=by
 obtain ⟨Q,hQ⟩:∃ Q,Q = Recorded w (imgList (crc T) v ov):=⟨_,rfl⟩
 rw [← hQ]
 have HQ:=Lib.hid hQ
 obtain ⟨hnd,es,c,ho,hent,hst⟩:=hm
 have HM:Hid (RecM w s.m es c ov):=Lib.hid ⟨ho,hnd,hent,hst⟩
 have t8:w.cell? ⟨s.t,8,none⟩ = some (.map (some s.m)):=htx.cell 8
 have hmk:∀ w,(Instr.makeMap 132 none).run Tryz.prog w = .ok (.map (some w.heap.size)) (w.alloc (.map #[] 0)):=fun w=>rfl
 have hml:s.m < w.heap.size:=by
  rcases Nat.lt_or_ge s.m w.heap.size with h | h
  ·exact h
  ·rw [Array.getElem?_eq_none h] at ho;cases ho
 have ho1:(w.alloc (.map #[] 0)).heap[s.m]? = some (.map es c):=(Below.heap_alloc w _ s.m hml).trans ho
 have hrg:=run_range_map (P:=Tryz.prog) (w.alloc (.map #[] 0)) 109 3 113 s.m es c Tryz.underlying109 ho1
 have HTX:=Lib.hid htx;have HT:=Lib.hid hT;have HOV:=Lib.hid hov;have HMT:=Lib.hid hmt
 have htl:=htx.lt
 have HML:=Lib.hid hml
 clear htx hT hov hmt hnd ho hent hst hQ hml ho1
 go_enter Tryz.func67,Tryz.ntmps67
 go_wp2_with fail
 have HR0:Hid (RecR (crc T) w ((w.alloc (.map #[] 0)).alloc (.mapIter (some s.m) c #[] c)) s.m (w.heap.size + 1) w.heap.size es ov c [] [] #[] c):=Lib.hid (by
  refine ⟨rfl,by simp,by simp,rfl,by simp,?_,Nat.le_refl _,(MapG.made w).ext (Ext.alloc (Ext.refl No _) _) (fun h=>h),((Ext.refl No w).alloc _).alloc _⟩
  have:=heap_alloc_new (w.alloc (.map #[] 0)) (.mapIter (some s.m) c #[] c)
  have e:(w.alloc (.map #[] 0)).heap.size = w.heap.size + 1:=by simp
  rw [e] at this
  exact this)
 obtain ⟨g,hg⟩:∃ g,g = w.heap.size:=⟨_,rfl⟩
 obtain ⟨r,hr⟩:∃ r,r = w.heap.size + 1:=⟨_,rfl⟩
 generalize (w.alloc (.map #[] 0)).alloc (.mapIter (some s.m) c #[] c) = W2 at *
 go_loopg [] ov.length (fun gk wr=>∃ (dE:List MapEntry) (dP:List (Nat × Leaf)) (seen:Array Nat) (c0:Nat),dP.length + gk = ov.length ∧ Hid (RecR (crc T) w wr s.m (w.heap.size + 1) w.heap.size es ov c dE dP seen c0))
 case atStart=>exact ⟨[],[],#[],c,by simp,HR0⟩
 case round =>
  obtain ⟨dE,dP,seen,c0,hk,HR⟩:=hrel
  have HK:=Lib.hid hk
  have hbm:wr.heap[s.m]? = some (.map es c):=(HR.out.x.block s.m HML.out (fun h=>h)).trans HM.out.at_
  have HBM:=Lib.hid hbm
  rcases run_next_at (P:=Tryz.prog) wr 0 (w.heap.size + 1) s.m c c0 seen es c HR.out.it hbm HM.out.st.1 HR.out.le with ⟨h0,hrun⟩ | ⟨e,he,w1,hw1,hrun⟩
  ·have HPERM:=Lib.hid (HR.out.all HM.out h0)
   clear h0 hk hbm
   have t9:wr.cell? ⟨s.t,9,none⟩ = some (.bool v.marked):=cell_ext HR.out.x (HTX.out.cell 9) (fun h=>h)
   have htl1:s.t < wr.heap.size:=by have:=HR.out.x.size;omega
   have HIMG:=Lib.hid HR.out.img
   have HXR:=Lib.hid HR.out.x
   clear HR HR0 hmk hrg
   go_upto_if 35 with fail
   clear hrun
   go_cut [] (fun wx=>∃ imgs:List (Nat × Bs),Hid (imgs.Perm (imgList (crc T) v ov)) ∧ Hid (MapG sv wx w.heap.size imgs) ∧ Hid (Ext No w wx))
   case first =>
    cases hmk:v.marked
    ·rw [hmk] at t9
     go_wp2_with fail
     go_meet
     refine ⟨dP.map (sealP (crc T)),Lib.hid ?_,HIMG,HXR⟩
     unfold imgList
     rw [hmk]
     simpa using HPERM.out.map (sealP (crc T))
    ·rw [hmk] at t9
     have HMK:=Lib.hid hmk
     have y1:wr.cell? ⟨s.t,1,none⟩ = some (.int .i64 (v.r 0:Int)):=cell_ext HXR.out (HTX.out.cell 1) (fun h=>h)
     have y2:wr.cell? ⟨s.t,2,none⟩ = some (.int .i64 (v.r 1:Int)):=cell_ext HXR.out (HTX.out.cell 2) (fun h=>h)
     have y3:wr.cell? ⟨s.t,3,none⟩ = some (.int .i64 (v.r 2:Int)):=cell_ext HXR.out (HTX.out.cell 3) (fun h=>h)
     have y4:wr.cell? ⟨s.t,4,none⟩ = some (.int .i64 (v.r 3:Int)):=cell_ext HXR.out (HTX.out.cell 4) (fun h=>h)
     have y5:wr.cell? ⟨s.t,5,none⟩ = some (.int .i64 (v.high:Int)):=cell_ext HXR.out (HTX.out.cell 5) (fun h=>h)
     have y6:wr.cell? ⟨s.t,6,none⟩ = some (.int .i64 (v.free:Int)):=cell_ext HXR.out (HTX.out.cell 6) (fun h=>h)
     have y7:wr.cell? ⟨s.t,7,none⟩ = some (.int .i64 (v.cnt:Int)):=cell_ext HXR.out (HTX.out.cell 7) (fun h=>h)
     have HBD:=Lib.hid (body_any v.mt HMT.out wr)
     have hbl:v.mt.body.length = 28:=v.mt.body_len
     obtain ⟨bd,hbd⟩:∃ bd,bd = v.mt.body:=⟨_,rfl⟩
     rw [← hbd] at HBD hbl
     have HBDE:=Lib.hid hbd
     have HSL:=Lib.hid (fun w' (hx:Ext No w w')=>seal_any T 0 1 bd (by decide) (by decide) (by omega) w' (HT.out.ext hx (fun h=>h)))
     obtain ⟨im,him⟩:∃ im,im = sealed (crc T) 0 1 bd:=⟨_,rfl⟩
     rw [← him] at HSL
     have HIM:=Lib.hid him
     simp only [Mt.val,V.mt] at HBD
     clear hmk hbd hbl him
     go_wp2_with fail
     refine (HBD.out).mono ?_
     rintro e5 w5 ⟨rfl,hx5⟩
     have HX5:=Lib.hid (HXR.out.trans_ hx5)
     have HI5:=Lib.hid (HIMG.out.ext hx5 (fun h=>h))
     have HSL5:=Lib.hid (HSL.out w5 HX5.out)
     clear hx5
     go_wp2_with fail
     refine (HSL5.out).mono ?_
     rintro e6 w6 ⟨rfl,hx6⟩
     have HX6:=Lib.hid (HX5.out.trans_ hx6)
     have himg6:MapG (fun b=>.string (str b)) w6 w.heap.size (dP.map (sealP (crc T))):=HI5.out.ext hx6 (fun h=>h)
     obtain ⟨w7,hrun7,hm7,hx7,hs7⟩:=run_imgpush himg6 (id:=0) im (fun hk=>by
      rw [List.map_map] at hk
      obtain ⟨q,hq,e1⟩:=List.mem_map.1 hk
      have e1:q.1 = 0:=e1
      have:=HOV.out q (HPERM.out.mem_iff.1 hq)
      omega)
     have HM7:=Lib.hid hm7
     have HX7:=Lib.hid (HX6.out.trans (F:=No) hx7 (fun b hb e=>by have e':b = w.heap.size:=e;omega))
     clear hx6 himg6 hm7 hx7 hs7
     rw [show ((0:Nat):Int) = 0 from rfl] at hrun7
     go_wp2_with fail
     go_meet
     refine ⟨dP.map (sealP (crc T)) ++ [(0,im)],Lib.hid ?_,HM7,HX7⟩
     unfold imgList
     rw [HMK.out,if_pos rfl,HIM.out,HBDE.out]
     exact (HPERM.out.map (sealP (crc T))).append_right _
   case rest =>
    obtain ⟨imgs,HPM,HMG,HXX⟩:=hcut
    have hkeys:∀ p ∈ imgs,p.1 < 10000:=fun p hp=>by
     have h1:=HPM.out.mem_iff.1 hp
     unfold imgList at h1
     rcases List.mem_append.1 h1 with h1 | h1
     ·obtain ⟨q,hq,rfl⟩:=List.mem_map.1 h1
      exact (HOV.out q hq).2.1
     ·split at h1
      ·rw [List.mem_singleton.1 h1];show 0 < 10000;omega
      ·cases h1
    have hilen:imgs.length ≤ 10000:=by
     have h1:=sub_len HMG.out.nodup (m:=List.range 10000) (fun a ha=>by
      obtain ⟨p,hp,rfl⟩:=List.mem_map.1 ha
      exact List.mem_range.2 (hkeys p hp))
     rw [List.length_map,List.length_range] at h1
     exact h1
    have HKEYS:=Lib.hid hkeys;have HILEN:=Lib.hid hilen
    obtain ⟨n,hn⟩:∃ n,n = imgs.length:=⟨_,rfl⟩
    have hlen:=fun ty=>run_imglen HMG.out ty
    rw [← hn] at hlen
    have HN:=Lib.hid hn
    have HNUM:=Lib.hid (number_any n (by omega) wc)
    clear hkeys hilen hn t9
    go_wp2_with fail
    refine (HNUM.out).mono ?_
    rintro e8 w8 ⟨rfl,hx8⟩
    have HX8:=Lib.hid (HXX.out.trans_ hx8)
    have HMG8:=Lib.hid (HMG.out.ext hx8 (fun h=>h))
    have HKY:=Lib.hid (imgkeys_any w.heap.size w8)
    have HSRT:=Lib.hid (imgsorted_any HMG8.out (fun p hp=>by have:=HKEYS.out p hp;omega) (by have:=HILEN.out;omega))
    clear hx8 hlen
    go_wp2_with fail
    refine (HKY.out).mono ?_
    rintro e9 w9 ⟨rfl,hw9⟩
    rw [hw9]
    have HX9:=Lib.hid (HX8.out.alloc (.cells #[.map (some w.heap.size)] 132))
    have HMG9:=Lib.hid (HMG8.out.ext ((Ext.refl No w8).alloc (.cells #[.map (some w.heap.size)] 132)) (fun h=>h))
    clear hw9
    go_wp2_with fail
    refine (HSRT.out).mono ?_
    rintro e10 w10 ⟨A,c10,ks,rfl,hperm,hown,hx10⟩
    have HX10:=Lib.hid (HX9.out.trans_ hx10)
    have HMG10:=Lib.hid (HMG9.out.ext hx10 (fun h=>h))
    have HKP:=Lib.hid hperm;have HOWN:=Lib.hid hown
    clear hperm hown hx10
    go_wp2_with fail
    obtain ⟨l,hl⟩:∃ l:List (Nat × Bs),l = ks.map (fun id=>(id,(imgs.lookup id).getD [])):=⟨_,rfl⟩
    have HL:=Lib.hid hl
    have hlp:l.Perm imgs:=by rw [hl];exact perm_lookup HMG.out.nodup HKP.out
    have HLP:=Lib.hid hlp
    have hll:l.length = ks.length:=by rw [hl,List.length_map]
    have HLL:=Lib.hid hll
    have h512:∀ p ∈ imgs,p.2.length = 512:=fun p hp=>by
     have h1:=HPM.out.mem_iff.1 hp
     unfold imgList at h1
     rcases List.mem_append.1 h1 with h1 | h1
     ·obtain ⟨q,hq,rfl⟩:=List.mem_map.1 h1
      exact sealed_len (HOV.out q hq).2.2.2.2
     ·split at h1
      ·rw [List.mem_singleton.1 h1];exact sealed_len (by rw [v.mt.body_len];decide)
      ·cases h1
    have H512:=Lib.hid h512
    obtain ⟨K,hK⟩:∃ K,K = ks.length:=⟨_,rfl⟩
    have HKL:=Lib.hid hK
    have hKle:K ≤ 10000:=by rw [hK,← hll,hlp.length_eq];exact HILEN.out
    have HKLE:=Lib.hid hKle
    have HNK:Hid (n = K):=Lib.hid (by rw [HN.out,← hlp.length_eq,hll,hK])
    have HOWN2:Hid (w10.ownsRow w8.heap.size 3 1 (.slice A K c10) K (kidVals ks)):=Lib.hid (by rw [hK];exact HOWN.out)
    rw [← hK]
    clear hl hlp hll h512 hK hKle
    go_loopg [7,53] K (fun gk q7 q53 wr=>∃ (j:Nat) (R:Bs),j + gk = K ∧ q53 = .int .i64 (j:Int) ∧ q7 = .string (str R) ∧ Hid (R = n4 n ++ (l.take j).flatMap (fun p=>n4 p.1 ++ p.2)) ∧ Hid (R.length = 4 + j * 516) ∧ Hid (Ext No w10 wr))
    case atStart=>exact ⟨0,n4 n,by omega,rfl,rfl,Lib.hid (by simp),Lib.hid rfl,Lib.hid (Ext.refl _ _)⟩
    case round =>
     obtain ⟨j,R,hj,rfl,rfl,HR,HRL,HXJ⟩:=hrel
     have HJ:=Lib.hid hj
     by_cases hlt:j < K
     ·have HLT:=Lib.hid hlt
      obtain ⟨g2,hA,_,_,hAc,hcells⟩:=own_at HOWN2.out (by omega)
      subst hA
      obtain ⟨id,hid⟩:∃ id,ks[j]? = some id:=⟨_,List.getElem?_eq_getElem (by have:=HKL.out;omega)⟩
      have k0:=cell_ext HXJ.out (hcells j (.int .i64 (id:Int)) (by unfold kidVals;rw [List.getElem?_map,hid];rfl)) (fun h=>h)
      have lk:=World.block_lt_of_cell? wr _ k0
      simp only at lk
      have hidm:id ∈ imgs.map (·.1):=HKP.out.mem_iff.1 (List.mem_of_getElem? hid)
      obtain ⟨q,hq,hq1⟩:=List.mem_map.1 hidm
      have hq1:q.1 = id:=hq1
      obtain ⟨im,him⟩:∃ im,imgs.lookup id = some im:=by
       cases hlk:imgs.lookup id with
       | some im=>exact ⟨im,rfl⟩
       | none=>exact absurd hidm (fun hm=>look_none hlk hm)
      have himem:=look_mem him
      have himl:im.length = 512:=H512.out _ himem
      have hid10:=HKEYS.out _ himem
      simp only at hid10
      have hlj:l[j]? = some (id,im):=by rw [HL.out,List.getElem?_map,hid];simp [him]
      have hlk:=fun (i:Upd wr)=>run_imglook (w:=up wr i) (HMG10.out.ext (HXJ.out.trans_ (up_ext wr i)) (fun h=>h)) him
      have HNB:=Lib.hid (fun (i:Upd wr)=>number_any id (by omega) (up wr i))
      obtain ⟨N4,hN4⟩:∃ N4,N4 = n4 id:=⟨_,rfl⟩
      rw [← hN4] at HNB
      have l4:N4.length = 4:=by rw [hN4];rfl
      have hRs:R.length ≤ 10000000:=by have:=HRL.out;have:=HKLE.out;omega
      have s1:str N4 ++ str im = str (N4 ++ im):=str_app _ _
      have s2:str R ++ str (N4 ++ im) = str (R ++ (N4 ++ im)):=str_app _ _
      have HR2:Hid (R ++ (N4 ++ im) = n4 n ++ (l.take (j + 1)).flatMap (fun p=>n4 p.1 ++ p.2)):=Lib.hid (by
       rw [List.take_add_one,hlj,HR.out,hN4];simp)
      have HRL2:Hid ((R ++ (N4 ++ im)).length = 4 + (j + 1) * 516):=Lib.hid (by
       rw [List.length_append,List.length_append,HRL.out,l4,himl];omega)
      have hlt':(j:Int) < (K:Int):=by omega
      have hKc:(K:Int) ≤ (c10:Int):=by omega
      have hw9:IntKind.i64.wrap ((j:Int) + 1) = (j:Int) + 1:=wrap_tiny _ (by omega) (by have:=HKLE.out;omega)
      clear hj hlt hcells hid hidm hq hq1 him himem hid10 hlj hN4 hAc
      go_upto_region 12 with fail
      refine wp_region_up (by kernel_rfl) (by kernel_rfl) ?_;(repeat (go_big_quiet_step ((go_at_call 106;exact Calls.up_of (HNB.out _)))));refine wpQuiet_nil ?_;intro _ hw';obtain ⟨⟨wq,hq⟩,hw''⟩:=hw';change _ = wq at hw'';subst hw''
      have HQX:=Lib.hid (HXJ.out.trans_ hq)
      clear hq hlk k0 s1 s2
      go_wp2_with fail
      go_roundg (gk - 1)
      case rel=>exact ⟨j + 1,R ++ (N4 ++ im),by have:=HJ.out;have:=HLT.out;omega,by go_num,rfl,HR2,HRL2,HQX⟩
      case measure=>have:=HJ.out;have:=HLT.out;omega
     ·have hjK:j = K:=by omega
      have hge:¬ ((j:Int) < (K:Int)):=by omega
      have HD:Hid (Q (.returned (.tuple #[.string (str R),.map (some w.heap.size)])) wr):=Lib.hid (by
       rw [HQ.out]
       refine ⟨⟨l,w.heap.size,?_,HLP.out.trans HPM.out,imgs,HMG10.out.ext HXJ.out (fun h=>h),HLP.out.length_eq.symm⟩,HX10.out.trans_ HXJ.out⟩
       have e:R = encRec l:=by
        rw [HR.out,hjK,List.take_of_length_le (by have:=HLL.out;have:=HKL.out;omega)]
        unfold encRec
        rw [HNK.out,HLL.out,← HKL.out]
       rw [e])
      clear hj hlt hjK
      go_wp2_with fail
      exact HD.out
  ·obtain ⟨p,hp,hpk,hpv⟩:=HM.out.pair (left_mem he)
   have HE:=Lib.hid he;have HPO:=Lib.hid hp;have HPK:=Lib.hid hpk;have HPV:=Lib.hid hpv
   have hrr:w.heap.size + 1 < wr.heap.size:=heap_lt HR.out.it
   have hw1h:w1.heap = wr.heap:=by rcases hw1 with rfl | rfl <;> rfl
   have hen:=run_entry_at (P:=Tryz.prog) (ChangeMaps.setBlock w1 (w.heap.size + 1) (.mapIter (some s.m) c (seen.push e.born) c)) (w.heap.size + 1) s.m c seen es c e (setBlk_at (by rw [hw1h];exact hrr)) ((setBlk_far (by have:=HML.out;omega)).trans (by rw [hw1h];exact hbm)) (left_mem he) HM.out.st.2
   rw [hpk,hpv] at hrun hen
   simp only [Leaf.val] at hrun hen
   have HNE:=Lib.hid (next_ext hw1 (w.heap.size + 1) (.mapIter (some s.m) c (seen.push e.born) c))
   have HIT:=Lib.hid (setBlk_at (w:=w1) (o:=.mapIter (some s.m) c (seen.push e.born) c) (by rw [hw1h];exact hrr))
   clear he hp hpk hpv hk hbm hw1
   go_upto_region 5 with fail
   obtain ⟨W3,hW3⟩:∃ W3,W3 = ChangeMaps.setBlock w1 (w.heap.size + 1) (.mapIter (some s.m) c (seen.push e.born) c):=⟨_,rfl⟩
   rw [← hW3] at HNE HIT ⊢
   have HB5:=Lib.hid (Blk.new W3 113 #[.int .i64 (p.2.kind:Int),.string (str p.2.body)])
   have HE5:Hid (Ext (On (w.heap.size + 1)) wr (W3.alloc (.cells #[.int .i64 (p.2.kind:Int),.string (str p.2.body)] 113))):=Lib.hid (HNE.out.alloc _)
   have HIT5:Hid ((W3.alloc (.cells #[.int .i64 (p.2.kind:Int),.string (str p.2.body)] 113)).heap[w.heap.size + 1]? = some (.mapIter (some s.m) c (seen.push e.born) c)):=Lib.hid ((Below.heap_alloc W3 _ _ (heap_lt HIT.out)).trans HIT.out)
   clear hrun hen
   generalize W3.alloc (.cells #[.int .i64 (p.2.kind:Int),.string (str p.2.body)] 113) = W5 at *
   have k0:=HB5.out.cell 0
   have k1:=HB5.out.cell 1
   simp at k0 k1
   have l5:=HB5.out.lt
   have HX5:Hid (Ext No w W5):=Lib.hid (HR.out.x.trans HE5.out (fun b hb e=>by have e':b = w.heap.size + 1:=e;omega))
   obtain ⟨o1,o2,o3,o4,o5⟩:=HOV.out p HPO.out
   have HSL:=Lib.hid (seal_any T p.1 p.2.kind p.2.body (by omega) ⟨o3,o4⟩ o5 W5 (HT.out.ext HX5.out (fun h=>h)))
   obtain ⟨im,him⟩:∃ im,im = sealed (crc T) p.1 p.2.kind p.2.body:=⟨_,rfl⟩
   rw [← him] at HSL
   have HIM:=Lib.hid him
   clear hW3 o1 o2 o3 o4 o5 him
   go_wp2_with fail
   refine (HSL.out).mono ?_
   rintro e6 w6 ⟨rfl,hx6⟩
   have HX6:=Lib.hid (HX5.out.trans_ hx6)
   have himg6:MapG (fun b=>.string (str b)) w6 w.heap.size (dP.map (sealP (crc T))):=(HR.out.img.ext HE5.out (fun e=>by have e':w.heap.size = w.heap.size + 1:=e;omega)).ext hx6 (fun h=>h)
   have hit6:w6.heap[w.heap.size + 1]? = some (.mapIter (some s.m) c (seen.push e.born) c):=(hx6.block _ (heap_lt HIT5.out) (fun h=>h)).trans HIT5.out
   obtain ⟨w7,hrun7,hm7,hx7,hs7⟩:=run_imgpush himg6 im (HR.out.fresh HM.out HE.out HPK.out).2.2
   have HR7:Hid (RecR (crc T) w w7 s.m (w.heap.size + 1) w.heap.size es ov c (dE ++ [e]) (dP ++ [p]) (seen.push e.born) c):=Lib.hid (HR.out.step HM.out HE.out HPO.out HPK.out HPV.out (Nat.le_refl _) ((hx7.block _ (heap_lt hit6) (by intro e;have e':w.heap.size + 1 = w.heap.size:=e;omega)).trans hit6) (by rw [HIM.out] at hm7;exact hm7) (HX6.out.trans hx7 (fun b hb e=>by have e':b = w.heap.size:=e;omega)))
   clear hx6 himg6 hit6 hm7 hx7 hs7
   go_wp2_with fail
   go_roundg (gk - 1)
   case rel =>
    have h1:=(HR7.out.len HM.out).2
    rw [List.length_append,List.length_singleton] at h1
    exact ⟨dE ++ [e],dP ++ [p],seen.push e.born,c,by rw [List.length_append,List.length_singleton];have:=HK.out;omega,HR7⟩
   case measure =>
    have h1:=(HR7.out.len HM.out).2
    rw [List.length_append,List.length_singleton] at h1
    have:=HK.out;omega
end Go.Proofs.YtccnemmlkcmceaaGreatDoor
namespace Go.Proofs.YtccnemmlkcmceaaGreatDoor
open Go.RowKit
theorem Db.sync_eq (cr:Bs → Nat) (s:Db) (rec:Bs):s.sync cr rec = if (syncOf cr s.k ⟨s.epoch,s.bytes,s.recs,[rec],false⟩ rec).1 ≠ 0 then ((syncOf cr s.k ⟨s.epoch,s.bytes,s.recs,[rec],false⟩ rec).1,{ s with k:=(syncOf cr s.k ⟨s.epoch,s.bytes,s.recs,[rec],false⟩ rec).2 })
  else (0,{ s with k:=(syncOf cr s.k ⟨s.epoch,s.bytes,s.recs,[rec],false⟩ rec).2,bytes:=s.bytes ++ frameOf cr rec,recs:=s.recs ++ [rec] }):=by
 unfold Db.sync syncOf
 by_cases h1:(s.k.logLay s.bytes (s.bytes ++ frameOf cr rec)).1 ≠ 0
 ·simp only [if_pos h1]
 ·simp only [if_neg h1]
theorem Dk.logLay_near {k:Dk} {n m:Nat} (h:k.Near n) {bytes all:Bs} (ha:all.length ≤ 64 * (m - 1)):(k.logLay bytes all).2.Near (n + m + 1):=by
 have hl:(rowOf (1 + bytes.length / 64) (cutS ((all.length + 63) / 64 - bytes.length / 64) (all.drop (bytes.length / 64 * 64)))).length ≤ m:=by
  have:∀ (l:List Bs) (a:Nat),(rowOf a l).length = l.length:=by
   intro l
   induction l with
   | nil=>intro a;rfl
   | cons b l ih=>intro a;rw [rowOf,List.length_cons,ih,List.length_cons]
  rw [this,cutS_len];omega
 have h1:=(Dk.writes_near (rowOf (1 + bytes.length / 64) (cutS ((all.length + 63) / 64 - bytes.length / 64) (all.drop (bytes.length / 64 * 64)))) h).mono (n':=n + m) (by omega)
 unfold Dk.logLay
 split
 ·exact h1.mono (by omega)
 ·exact Dk.flush_near h1
theorem syncOf_near {cr:Bs → Nat} {k:Dk} {n m:Nat} (h:k.Near n) {l:Lg} {rec:Bs} (ha:l.bytes.length + (rec.length + 8) ≤ 64 * (m - 1)):(syncOf cr k l rec).2.Near (n + m + 3):=by
 have h1:=Dk.logLay_near (bytes:=l.bytes) (all:=l.bytes ++ frameOf cr rec) (m:=m) h (by rw [List.length_append,frame_len];exact ha)
 unfold syncOf
 split
 ·exact h1.mono (by omega)
 ·exact Dk.logHead_near h1 _ _
theorem Dk.logLay_n (k:Dk) (bytes all:Bs):(k.logLay bytes all).2.n = k.n:=by
 unfold Dk.logLay
 split
 ·exact Dk.writes_n _ _
 ·rw [Dk.flush_n];exact Dk.writes_n _ _
theorem syncOf_n (cr:Bs → Nat) (k:Dk) (l:Lg) (rec:Bs):(syncOf cr k l rec).2.n = k.n:=by
 unfold syncOf
 split
 ·exact Dk.logLay_n _ _ _
 ·rw [Dk.logHead_n];exact Dk.logLay_n _ _ _
theorem Db.settle_near {cr:Bs → Nat} {s:Db} {n:Nat} (h:s.k.Near n):(s.settle cr).2.k.Near (n + 3):=by
 unfold Db.settle
 split
 ·exact h.mono (by omega)
 ·have h1:=Dk.flush_near h
  split
  ·exact h1.mono (by omega)
  ·split
   ·exact Dk.logHead_near h1 _ _
   ·exact Dk.logHead_near h1 _ _
theorem Db.settle_n (cr:Bs → Nat) (s:Db):(s.settle cr).2.k.n = s.k.n:=by
 unfold Db.settle
 split
 ·rfl
 ·split
  ·exact Dk.flush_n _
  ·split
   ·show (Dk.logHead cr _ _ _).2.n = _
    rw [Dk.logHead_n,Dk.flush_n]
   ·show (Dk.logHead cr _ _ _).2.n = _
    rw [Dk.logHead_n,Dk.flush_n]
theorem Db.settle_log (cr:Bs → Nat) (s:Db):((s.settle cr).2.bytes = s.bytes ∧ (s.settle cr).2.recs = s.recs ∧ (s.settle cr).2.epoch = s.epoch ∨ (s.settle cr).2.bytes = [] ∧ (s.settle cr).2.recs = [] ∧ (s.settle cr).2.epoch = s.epoch + 1) ∧ (s.settle cr).2.m = s.m ∧ ((s.settle cr).1 = 0 → (s.settle cr).2.recs = []):=by
 unfold Db.settle
 split
 ·rename_i h;exact ⟨.inl ⟨rfl,rfl,rfl⟩,rfl,fun _=>h⟩
 ·split
  ·rename_i h1 h2;exact ⟨.inl ⟨rfl,rfl,rfl⟩,rfl,fun h=>absurd h h2⟩
  ·split
   ·rename_i h1 h2 h3;exact ⟨.inl ⟨rfl,rfl,rfl⟩,rfl,fun h=>absurd h h3⟩
   ·exact ⟨.inr ⟨rfl,rfl,rfl⟩,rfl,fun _=>rfl⟩
theorem Db.commit_near {cr:Bs → Nat} {s:Db} {n log:Nat} {sp:Bool} {l:List (Nat × Bs)} {m:Mt} (h:s.k.Near n) (hl:l.length ≤ 10000) (hb:s.recs = [] → s.bytes = []):(s.commit cr log sp l m).2.k.Near (n + log + 100000):=by
 have hkeep:∀ (s:Db) (n:Nat),s.k.Near n → (encRec l).length + 8 ≤ s.room log → (s.keep cr log l m).2.k.Near (n + log + 90000):=by
  intro s n h hr
  unfold Db.room at hr
  have h1:(s.sync cr (encRec l)).2.k.Near (n + log + 3):=by
   rw [Db.sync_eq]
   have h2:=syncOf_near (cr:=cr) (m:=log) (rec:=encRec l) (l:=⟨s.epoch,s.bytes,s.recs,[encRec l],false⟩) h (by show s.bytes.length + _ ≤ _;omega)
   split
   ·exact h2
   ·exact h2
  unfold Db.keep
  split
  ·exact h1.mono (by omega)
  ·refine (Dk.writes_near (layAll log l) h1).mono ?_
   rw [layAll_len];omega
 unfold Db.commit
 split
 ·exact h.mono (by omega)
 ·split
  ·exact h.mono (by omega)
  ·split
   ·exact h.mono (by omega)
   ·rename_i h1 h2 h3
    split
    ·rename_i h4
     have h5:=Db.settle_near (cr:=cr) h
     split
     ·exact h5.mono (by omega)
     ·rename_i h6
      refine (hkeep _ _ h5 ?_).mono (by omega)
      obtain ⟨h7,_,h8⟩:=Db.settle_log cr s
      have h9:=h8 (by simpa using h6)
      unfold Db.room
      have hbb:(s.settle cr).2.bytes = []:=by
       rcases h7 with ⟨a,b,_⟩ | ⟨a,_,_⟩
       ·rw [a];exact hb (by rw [← b];exact h9)
       ·exact a
      rw [hbb,List.length_nil]
      omega
    ·exact (hkeep _ _ h (by omega)).mono (by omega)
end Go.Proofs.YtccnemmlkcmceaaGreatDoor
