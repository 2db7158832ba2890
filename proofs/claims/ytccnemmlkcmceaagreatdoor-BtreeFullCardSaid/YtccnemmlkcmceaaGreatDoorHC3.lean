/- Proofs about the given program, joined out of the texts T5, T6, B0, W1, Z1, Z2, S5, Shelf, D1. -/
import Derived.Test.YtccnemmlkcmceaaGreatDoorHC1
import Derived.Test.YtccnemmlkcmceaaGreatDoorHC2
import Derived.Deep.RegionHeld3
import Derived.Laws.MakeOwn
import Derived.Laws.IdiomStrings
import Derived.Deep.LoopGhost
import Derived.Shelf.Strings.Builder1
import Derived.Shelf.Strings.Builder2
import Derived.Shelf.Strings.Trim
import Derived.Shelf.Small.Utf8
import Derived.Shelf.Small.Bits
import Derived.Shelf.Small.Strs
import Derived.Shelf.Strings.BuilderF
import Derived.Shelf.Strings.BuilderK
import Derived.Shelf.Strings.Builder2Cap
import Derived.Shelf.Strconv.Itoa0
import Derived.Shelf.Strings.Search1
import Derived.Shelf.Strings.Prefix
import Derived.Shelf.Unicode.Decode
import Derived.Shelf.Strings.Runes
import Derived.Shelf.Strings.AsciiSet
import Derived.Shelf.Bits.Mul64
import Derived.Shelf.Strings.Repeat
import Derived.Shelf.Unicode.DecodeSlow
import Derived.Shelf.Unicode.DecodeAny
import Derived.Shelf.Unicode.DecodeLast
import Derived.Shelf.Strings.BuilderCap
import Derived.Shelf.Slices.Reverse
import Derived.Ground.Names2Prog
import Derived.Shelf.Slices.ReverseS
import Derived.Shelf.Slices.Clone
import Derived.Shelf.Slices.SearchI
import Derived.Shelf.Slices.Delete
import Derived.Shelf.Slices.Cells
import Derived.Shelf.Slices.Empties
import Derived.Ground.SlgnProg
import Derived.Shelf.SlicesE.Clone
import Derived.Test.YtccnemmlkcmceaaGreatDoorProg
set_option linter.unusedVariables false
set_option linter.unusedSimpArgs false
set_option maxRecDepth 100000
set_option maxHeartbeats 6400000
namespace Go.Proofs.YtccnemmlkcmceaaGreatDoor
open Go.RowKit
def V.allocNew (v:V):V:=V.put { v with high:=v.high + 1,marked:=true } v.high ⟨1,[]⟩
def V.allocFree (v:V):V:=V.put { v with free:=v4 (str (v.pg v.free).body),cnt:=v.cnt - 1,marked:=true } v.free ⟨1,[]⟩
theorem alloc_full (s:Sys) (hs:s.Ok) (w:World) (v:V) (h:TxAt w s v) (h1:v.free = 0) (h2:v.high = s.cap) :
  Calls Tryz.prog 19 #[.pointer (some ⟨s.t,0,none⟩)] w fun e w'=>e = .returned (.tuple #[.int .i64 0,.int .i64 7]) ∧ Ext No w w':=by
 have t0:=h.c0
 have t5:=h.c5
 have t6:=h.c6
 rw [h1] at t6
 rw [h2] at t5
 have x0:=hs.x0 w h.db
 have HU:=Lib.hid (txup s hs w h.db t0)
 have hdb:=Lib.hid h.db
 clear h1 h2 h
 go_enter Tryz.func19,Tryz.ntmps19
 go_wp2_with fail
 refine (HU.out).mono ?_
 rintro e w2 ⟨rfl,rfl⟩
 go_wp2_with fail
 go_quiet ((go_at_call 56;exact Calls.quiet_of (xcount s hs _ (by exact sysKeepNo hs ((Ext.refl No w).drewN _) hdb.out))))
 go_wp2_with fail
 go_ret2
 exact ⟨rfl,by (repeat' (first | exact Ext.refl _ _ | assumption | apply Ext.alloc | apply Ext.drewN | apply Ext.drew | refine Ext.setNew ?_ (by first | omega | (simp;omega) | simp) _ _ | refine Ext.setF ?_ (by first | exact Or.inl rfl | exact Or.inr rfl | rfl) _ _ | refine Ext.trans_ ?_ (by assumption) | refine Ext.trans_ ?_ (Ext.of_no (by assumption))))⟩
theorem alloc_new (s:Sys) (hs:s.Ok) (w:World) (v:V) (h:TxAt w s v) (h1:v.free = 0) (h2:v.high < s.cap) :
  Calls Tryz.prog 19 #[.pointer (some ⟨s.t,0,none⟩)] w fun e w'=>e = .returned (.tuple #[.int .i64 (v.high:Int),.int .i64 0]) ∧ TxAt w' s v.allocNew ∧ Ext s.F w w':=by
 have t0:=h.c0
 have t5:=h.c5
 have t6:=h.c6
 have t8:=h.c8
 have t9:=h.c9
 have f0:=h.fz
 have x0:=hs.x0 w h.db
 have HU:=Lib.hid (txup s hs w h.db t0)
 have hdb:=Lib.hid h.db
 have hcap:s.cap ≤ 65536:=by unfold Sys.cap;have:=hs.n2;omega
 have hne:((v.high:Int) == (s.cap:Int)) = false:=by simpa using (by omega:¬ (v.high:Int) = (s.cap:Int))
 obtain ⟨ov,hm,hk,hv⟩:=h.mp
 have hmt:s.t ≠ s.m:=hm.ne h.tx
 have hmx:∀ W,W.heap[s.m]? = w.heap[s.m]? → MapAt W s.m ov:=fun W e=>by
  obtain ⟨hn,es,c,ho,hes⟩:=hm
  exact ⟨hn,es,c,e.trans ho,hes⟩
 have hmm:∀ nq u u',MapAt (((w.drewN nq).setCell ⟨s.t,5,none⟩ u).setCell ⟨s.t,9,none⟩ u') s.m ov:=fun nq u u'=>hmx _ (heap_set2 (w.drewN nq) _ _ _ _ _ _ hmt)
 have ms:∀ nq u u',(Instr.mapUpdate 109 (.map (some s.m)) (.int .i64 (v.high:Int)) (.agg #[.int .i64 1,.string { data:=#[] }])).run Tryz.prog (((w.drewN nq).setCell ⟨s.t,5,none⟩ u).setCell ⟨s.t,9,none⟩ u') =
  .ok () (mset (((w.drewN nq).setCell ⟨s.t,5,none⟩ u).setCell ⟨s.t,9,none⟩ u') s.m v.high ⟨1,[]⟩):=fun nq u u'=>(mset_run (hmm nq u u') v.high ⟨1,[]⟩).1
 have ms2:=fun nq u u'=>(mset_run (hmm nq u u') v.high ⟨1,[]⟩).2
 have HK:=Lib.hid hk;have HV:=Lib.hid hv;have HM:=Lib.hid ms2;have H1:=Lib.hid h1
 rw [h1] at t6
 clear hk hv ms2 hmm hmx h1
 go_enter Tryz.func19,Tryz.ntmps19
 go_wp2_with fail
 refine (HU.out).mono ?_
 rintro e w2 ⟨rfl,rfl⟩
 go_wp2_with fail
 go_quiet ((go_at_call 56;exact Calls.quiet_of (xcount s hs _ (by exact sysKeepNo hs ((Ext.refl No w).drewN _) hdb.out))))
 go_wp2_with fail
 go_ret2
 have hE:Ext s.F w (mset (((w.drewN nq).setCell ⟨s.t,5,none⟩ (.int .i64 ((v.high:Int) + 1))).setCell ⟨s.t,9,none⟩ (.bool true)) s.m v.high ⟨1,[]⟩) :=
  ((((Ext.refl _ w).drewN nq).setF (.inl rfl) _ _).setF (.inl rfl) _ _).trans_ (mset_ext _ _ _ _).of_m
 refine ⟨rfl,?_,hE⟩
 have hc:=h.hc
 refine TxAt.step hs h HK.out HV.out (HM.out _ _ _) hE ?_ h.h1 (Nat.lt_succ_self _) (.inr ⟨rfl,rfl⟩) h2 (Nat.le_succ_of_le hc) rfl
 exact (mset_heap _ _ _ _ _ hmt).trans (((h.tx.drewN nq).set_ _ _).set_ _ _)
theorem heap_set3 (w:World) (t m i j k:Nat) (u u' u'':Value) (h:t ≠ m):((((w.setCell ⟨t,i,none⟩ u).setCell ⟨t,j,none⟩ u').setCell ⟨t,k,none⟩ u'').heap[m]?) = w.heap[m]? :=
 (Below.heap_setCell _ ⟨t,k,none⟩ u'' m (Ne.symm h)).trans (heap_set2 w t m i j u u' h)
theorem alloc_free (s:Sys) (hs:s.Ok) (w:World) (v:V) (h:TxAt w s v) (h1:0 < v.free) (h2:v.free < v.high) (h3:4 ≤ (v.pg v.free).body.length) (h4:1 ≤ v.cnt) :
  Calls Tryz.prog 19 #[.pointer (some ⟨s.t,0,none⟩)] w fun e w'=>e = .returned (.tuple #[.int .i64 (v.free:Int),.int .i64 0]) ∧ TxAt w' s v.allocFree ∧ Ext s.F w w':=by
 have t0:=h.c0
 have t6:=h.c6
 have HU:=Lib.hid (txup s hs w h.db t0)
 have HG:=Lib.hid (get_any s hs w v h v.free h1 h2)
 have h3':4 ≤ (str (v.pg v.free).body).size:=by rw [str_size];exact h3
 have h1':(0:Int) < v.free:=by omega
 go_enter Tryz.func19,Tryz.ntmps19
 go_wp2_with fail
 refine (HU.out).mono ?_
 rintro e w2 ⟨rfl,rfl⟩
 go_wp2_with fail
 refine (HG.out).mono ?_
 rintro e w1 ⟨rfl,hb1⟩
 have h':=h.no hs hb1
 have t0:=h'.c0
 have t5:=h'.c5
 have t6:=h'.c6
 have t7:=h'.c7
 have t8:=h'.c8
 have t9:=h'.c9
 have f0:=h'.fz
 have lt:=h'.tx.lt
 have hne:w1.heap.size ≠ s.t:=by omega
 obtain ⟨ov,hm,hk,hv⟩:=h'.mp
 have hmt:s.t ≠ s.m:=hm.ne h'.tx
 have hmlt:s.m < w1.heap.size:=by
  obtain ⟨_,es,c,ho,_⟩:=hm
  rcases Nat.lt_or_ge s.m w1.heap.size with hlt | hge
  ·exact hlt
  ·rw [Array.getElem?_eq_none hge] at ho;cases ho
 have hmx:∀ W,W.heap[s.m]? = w1.heap[s.m]? → MapAt W s.m ov:=fun W e=>by
  obtain ⟨hn,es,c,ho,hes⟩:=hm
  exact ⟨hn,es,c,e.trans ho,hes⟩
 generalize hp:v.pg v.free = p at h3' h3
 have hmm:∀ o k u u' u'',MapAt (((((w1.alloc o).drewN k).setCell ⟨s.t,6,none⟩ u).setCell ⟨s.t,7,none⟩ u').setCell ⟨s.t,9,none⟩ u'') s.m ov:=fun o k u u' u'' =>
  hmx _ ((heap_set3 ((w1.alloc o).drewN k) _ _ _ _ _ _ _ _ hmt).trans (Below.heap_alloc w1 o s.m hmlt))
 have ms:∀ o k u u' u'',(Instr.mapUpdate 109 (.map (some s.m)) (.int .i64 (v.free:Int)) (.agg #[.int .i64 1,.string { data:=#[] }])).run Tryz.prog (((((w1.alloc o).drewN k).setCell ⟨s.t,6,none⟩ u).setCell ⟨s.t,7,none⟩ u').setCell ⟨s.t,9,none⟩ u'') =
  .ok () (mset (((((w1.alloc o).drewN k).setCell ⟨s.t,6,none⟩ u).setCell ⟨s.t,7,none⟩ u').setCell ⟨s.t,9,none⟩ u'') s.m v.free ⟨1,[]⟩):=fun o k u u' u''=>(mset_run (hmm o k u u' u'') v.free ⟨1,[]⟩).1
 have ms2:=fun o k u u' u''=>(mset_run (hmm o k u u' u'') v.free ⟨1,[]⟩).2
 have HK:=Lib.hid hk;have HV:=Lib.hid hv;have HM:=Lib.hid ms2;have HP:=Lib.hid hp
 clear hk hv ms2 hmm hmx hp
 simp only [Leaf.val]
 go_wp2_with fail
 refine (value_any (str p.body) h3' _).mono ?_
 rintro e w3 ⟨rfl,k,rfl⟩
 have g1:(0:Int) ≤ v.cnt:=by omega
 have hcb:=h.hc
 have hhb:=h.h2
 have hcap:s.cap ≤ 65536:=by unfold Sys.cap;have:=hs.n2;omega
 go_wp2_with fail
 go_ret2
 have hE:Ext s.F w1 (mset (((((w1.alloc (.cells #[.int .i64 (p.kind:Int),.string (str p.body)] 113)).drewN k).setCell ⟨s.t,6,none⟩ (.int .i64 (v4 (str p.body):Int))).setCell ⟨s.t,7,none⟩ (.int .i64 ((v.cnt:Int) - 1))).setCell ⟨s.t,9,none⟩ (.bool true)) s.m v.free ⟨1,[]⟩) :=
  ((((((Ext.refl _ w1).alloc _).drewN k).setF (.inl rfl) _ _).setF (.inl rfl) _ _).setF (.inl rfl) _ _).trans_ (mset_ext _ _ _ _).of_m
 refine ⟨rfl,?_,hb1.of_no.trans_ hE⟩
 refine TxAt.step hs h' HK.out HV.out (HM.out _ _ _ _ _) hE ?_ h1 h2 (.inl rfl) h.h2 (by show v.cnt - 1 ≤ v.high;omega) rfl
 refine (mset_heap _ _ _ _ _ hmt).trans ?_
 have e1:(v.allocFree.cells s) = ((((v.cells s).setIfInBounds 6 (.int .i64 (v4 (str p.body):Int))).setIfInBounds 7 (.int .i64 ((v.cnt:Int) - 1))).setIfInBounds 9 (.bool true)):=by
  have e2:((v.cnt - 1:Nat):Int) = (v.cnt:Int) - 1:=by omega
  simp only [V.allocFree,V.cells,V.put,HP.out,e2]
  rfl
 rw [e1]
 exact (((((h'.tx.alloc _).drewN k).set_ _ _).set_ _ _).set_ _ _)
def V.letFree (v:V) (id:Nat):V:=V.put { v with free:=id,cnt:=v.cnt + 1,marked:=true } id ⟨255,n4 v.free⟩
theorem free_ok (s:Sys) (hs:s.Ok) (w:World) (v:V) (h:TxAt w s v) (id:Nat) (he:v.err id = 0) (hfr:v.free < 4294967296) (hcn:v.cnt < v.high) :
  Calls Tryz.prog 142 #[.pointer (some ⟨s.t,0,none⟩),.int .i64 (id:Int)] w fun e w'=>e = .returned (.int .i64 0) ∧ TxAt w' s (v.letFree id) ∧ Ext s.F w w':=by
 have HG:=Lib.hid (there_ok s hs w v h id he)
 obtain ⟨h1,h2,_⟩:=V.err_ok he
 clear he
 go_enter Tryz.func142,Tryz.ntmps142
 go_wp2_with fail
 refine (HG.out).mono ?_
 rintro e w1 ⟨rfl,hb1⟩
 have h':=h.no hs hb1
 have t6:=h'.c6
 have t7:=h'.c7
 have t8:=h'.c8
 have t9:=h'.c9
 have f0:=h'.fz
 have lt:=h'.tx.lt
 obtain ⟨ov,hm,hk,hv⟩:=h'.mp
 have hmt:s.t ≠ s.m:=hm.ne h'.tx
 have HK:=Lib.hid hk;have HV:=Lib.hid hv;have HM:=Lib.hid hm
 clear hk hv hm
 have hmc:∀ W i,(mset W s.m id ⟨255,n4 v.free⟩).cell? ⟨s.t,i,none⟩ = W.cell? ⟨s.t,i,none⟩:=fun W i=>mset_cell W s.m id _ s.t i hmt
 have hmf:∀ W i,(mset W s.m id ⟨255,n4 v.free⟩).frozen? ⟨s.t,i,none⟩ = W.frozen? ⟨s.t,i,none⟩:=fun W i=>mset_frozen W s.m id _ s.t i hmt
 simp only [Leaf.val]
 go_wp2_with fail
 go_region_held3 (fun w'=>w'.cell? ⟨s.t,8,none⟩ = some (.map (some s.m)) ∧ w'.cell? ⟨s.t,6,none⟩ = some (.int .i64 (v.free:Int))) (go_keep)
  ((go_at_call 106;refine (number_any v.free hfr _).mono ?_;rintro e w3 ⟨rfl,hb3⟩;have hx3:Ext No w1 w3:=((Ext.refl No w1).alloc _).drew.trans_ hb3;have h3:=h'.no hs hx3;have k8:=h3.c8;have k6:=h3.c6;have k7:=h3.c7;have k9:=h3.c9;have f3:=h3.fz;have ms:(Instr.mapUpdate 109 (.map (some s.m)) (.int .i64 (id:Int)) (.agg #[.int .i64 255,.string (str (n4 v.free))])).run Tryz.prog w3 = .ok () (mset w3 s.m id ⟨255,n4 v.free⟩):=(mset_run (HM.out.ext hx3 (fun h=>h)) id ⟨255,n4 v.free⟩).1))
 have hcb:=h.hc
 have hhb:=h.h2
 have hcap:s.cap ≤ 65536:=by unfold Sys.cap;have:=hs.n2;omega
 go_wp2_with fail
 go_ret
 have hM3:=(mset_run (HM.out.ext hx3 (fun h=>h)) id ⟨255,n4 v.free⟩).2
 have hE:Ext s.F w1 ((((mset w3 s.m id ⟨255,n4 v.free⟩).setCell ⟨s.t,6,none⟩ (.int .i64 (id:Int))).setCell ⟨s.t,7,none⟩ (.int .i64 ((v.cnt:Int) + 1))).setCell ⟨s.t,9,none⟩ (.bool true)) :=
  (((hx3.of_no.trans_ (mset_ext _ _ _ _).of_m).setF (.inl rfl) _ _).setF (.inl rfl) _ _).setF (.inl rfl) _ _
 refine ⟨rfl,?_,hb1.of_no.trans_ hE⟩
 have hM:MapAt ((((mset w3 s.m id ⟨255,n4 v.free⟩).setCell ⟨s.t,6,none⟩ (.int .i64 (id:Int))).setCell ⟨s.t,7,none⟩ (.int .i64 ((v.cnt:Int) + 1))).setCell ⟨s.t,9,none⟩ (.bool true)) s.m (setOv ov id ⟨255,n4 v.free⟩):=by
  obtain ⟨hn,es,c,ho,hes⟩:=hM3
  exact ⟨hn,es,c,(heap_set3 _ _ _ _ _ _ _ _ _ hmt).trans ho,hes⟩
 refine TxAt.step hs h' HK.out HV.out hM hE ?_ h1 h2 (.inl rfl) h.h2 (by show v.cnt + 1 ≤ v.high;omega) rfl
 have b3:Blk (mset w3 s.m id ⟨255,n4 v.free⟩) s.t 111 (v.cells s):=(mset_heap _ _ _ _ _ hmt).trans h3.tx
 have e1:((v.letFree id).cells s) = ((((v.cells s).setIfInBounds 6 (.int .i64 (id:Int))).setIfInBounds 7 (.int .i64 ((v.cnt:Int) + 1))).setIfInBounds 9 (.bool true)):=by
  have e2:((v.cnt + 1:Nat):Int) = (v.cnt:Int) + 1:=by omega
  simp only [V.letFree,V.cells,V.put,e2]
  rfl
 rw [e1]
 exact (((b3.set_ _ _).set_ _ _).set_ _ _)
theorem free_bad (s:Sys) (hs:s.Ok) (w:World) (v:V) (h:TxAt w s v) (id:Nat) (he:v.err id ≠ 0) :
  Calls Tryz.prog 142 #[.pointer (some ⟨s.t,0,none⟩),.int .i64 (id:Int)] w fun e w'=>e = .returned (.int .i64 (v.err id:Int)) ∧ Ext No w w':=by
 have HG:=Lib.hid (there_bad s hs w v h id he)
 have hb:((v.err id:Int) == 0) = false:=by simpa using (by omega:¬ (v.err id:Int) = 0)
 clear he
 generalize v.err id = p at *
 go_enter Tryz.func142,Tryz.ntmps142
 go_wp2_with fail
 refine (HG.out).mono ?_
 rintro e w2 ⟨rfl,hb2⟩
 go_wp2_with fail
 go_ret
 exact ⟨rfl,by (repeat' (first | exact Ext.refl _ _ | assumption | apply Ext.alloc | apply Ext.drewN | apply Ext.drew | refine Ext.setNew ?_ (by first | omega | (simp;omega) | simp) _ _ | refine Ext.setF ?_ (by first | exact Or.inl rfl | exact Or.inr rfl | rfl) _ _ | refine Ext.trans_ ?_ (by assumption) | refine Ext.trans_ ?_ (Ext.of_no (by assumption))))⟩
structure V.Fr (v:V) (l:List Nat):Prop where
 nd:l.Nodup
 cnt:v.cnt = l.length
 hd:v.free = l.headD 0
 mem:∀ a,(1 ≤ a ∧ a < v.high ∧ (v.pg a).kind = 255) ↔ a ∈ l
 body:∀ k a,l[k]? = some a → (v.pg a).body = n4 (l.getD (k + 1) 0)
 top:v.high ≤ 65536
 h1:1 ≤ v.high
 bd:∀ a,1 ≤ a → a < v.high → (v.pg a).body.length ≤ 500
def V.Good (v:V):Prop:=∃ l,v.Fr l
theorem nodup_len:∀ (n:Nat) (l:List Nat),l.Nodup → (∀ a ∈ l,1 ≤ a ∧ a < n) → 1 ≤ n → l.length < n
 | 0,_,_,_,h=>absurd h (by omega)
 | 1,[],_,_,_=>by simp
 | 1,a :: l,_,h,_=>by have:=h a (by simp);omega
 | n + 2,l,hd,h,_=>by
  by_cases hm:n + 1 ∈ l
  ·have he:=nodup_len (n + 1) (l.erase (n + 1)) (hd.erase _) (fun a ha=>by
    have h1:=h a (List.mem_of_mem_erase ha)
    have h2:a ≠ n + 1:=(hd.mem_erase_iff.1 ha).1
    omega) (by omega)
   rw [List.length_erase_of_mem hm] at he
   omega
  ·have:=nodup_len (n + 1) l hd (fun a ha=>by
    have h1:=h a ha
    have h2:a ≠ n + 1:=fun e=>hm (e ▸ ha)
    omega) (by omega)
   omega
theorem V.Fr.lt {v:V} {l:List Nat} (h:v.Fr l):l.length < v.high:=nodup_len _ l h.nd (fun a ha=>by have:=(h.mem a).2 ha;omega) h.h1
theorem V.Fr.put {v:V} {l:List Nat} (h:v.Fr l) {id:Nat} {p:Leaf} (he:v.err id = 0) (hp:p.kind ≠ 255) (hq:p.body.length ≤ 500):(v.put id p).Fr l:=by
 obtain ⟨h1,h2,h3⟩:=V.err_ok he
 have hn:id ∉ l:=fun hm=>h3 ((h.mem id).2 hm).2.2
 refine ⟨h.nd,h.cnt,h.hd,fun a=>?_,fun k a hk=>?_,h.top,h.h1,fun a a1 a2=>by simp only [V.put];split;exact hq;exact h.bd a a1 a2⟩
 ·rw [← h.mem a]
  simp only [V.put]
  by_cases ha:a = id
  ·subst ha
   simp only [if_true]
   constructor
   ·rintro ⟨_,_,e⟩;exact absurd e hp
   ·rintro ⟨_,_,e⟩;exact absurd e h3
  ·simp only [if_neg ha]
 ·have ha:a ≠ id:=by
   rintro rfl
   exact hn (List.mem_of_getElem? hk)
  simp only [V.put,if_neg ha]
  exact h.body k a hk
theorem V.Fr.new {v:V} {l:List Nat} (h:v.Fr l) (hc:v.high < 65536):v.allocNew.Fr l:=by
 refine ⟨h.nd,h.cnt,h.hd,fun a=>?_,fun k a hk=>?_,by show v.high + 1 ≤ 65536;omega,by show 1 ≤ v.high + 1;omega,fun a a1 a2=>by
  simp only [V.allocNew,V.put] at a2 ⊢
  split
  ·simp
  ·exact h.bd a a1 (by omega)⟩
 ·rw [← h.mem a]
  simp only [V.allocNew,V.put]
  by_cases ha:a = v.high
  ·subst ha
   simp only [if_true]
   constructor
   ·rintro ⟨_,_,e⟩;cases e
   ·rintro ⟨_,e,_⟩;omega
  ·simp only [if_neg ha]
   constructor
   ·rintro ⟨a1,a2,a3⟩;exact ⟨a1,by omega,a3⟩
   ·rintro ⟨a1,a2,a3⟩;exact ⟨a1,by omega,a3⟩
 ·have ha:a ≠ v.high:=by
   have:=(h.mem a).2 (List.mem_of_getElem? hk)
   omega
  simp only [V.allocNew,V.put,if_neg ha]
  exact h.body k a hk
theorem V.Fr.cons {v:V} {l:List Nat} (h:v.Fr l) (hf:v.free ≠ 0):∃ l',l = v.free :: l':=by
 have:=h.hd
 match l,this with
 | [],e=>exact absurd e hf
 | a :: l',e=>exact ⟨l',by rw [e];rfl⟩
theorem V.Fr.old {v:V} {l:List Nat} (h:v.Fr (v.free :: l)):v.allocFree.Fr l:=by
 have hb:=h.body 0 v.free rfl
 have hnd:=List.nodup_cons.1 h.nd
 have hfree:v4 (str (v.pg v.free).body) = l.headD 0:=by
  rw [hb]
  have:(v.free :: l).getD (0 + 1) 0 < 4294967296:=by
   match l with
   | []=>simp
   | b :: l=>have:=(h.mem b).2 (by simp);have:=h.top;simp;omega
  have e:=v4_n4 _ this []
  rw [List.append_nil] at e
  rw [e]
  cases l <;> simp
 have hc:=h.cnt
 simp at hc
 refine ⟨hnd.2,by show v.cnt - 1 = _;omega,hfree,fun a=>?_,fun k a hk=>?_,h.top,h.h1,fun a a1 a2=>by
  simp only [V.allocFree,V.put]
  split
  ·simp
  ·exact h.bd a a1 a2⟩
 ·simp only [V.allocFree,V.put]
  by_cases ha:a = v.free
  ·subst ha
   simp only [if_true]
   constructor
   ·rintro ⟨_,_,e⟩;cases e
   ·intro hm;exact absurd hm hnd.1
  ·simp only [if_neg ha]
   rw [h.mem a]
   simp [ha]
 ·have ha:a ≠ v.free:=by
   rintro rfl
   exact hnd.1 (List.mem_of_getElem? hk)
  simp only [V.allocFree,V.put,if_neg ha]
  have:=h.body (k + 1) a (by simpa using hk)
  rw [this]
  simp
theorem V.Fr.let_ {v:V} {l:List Nat} (h:v.Fr l) {id:Nat} (he:v.err id = 0):(v.letFree id).Fr (id :: l):=by
 obtain ⟨h1,h2,h3⟩:=V.err_ok he
 have hn:id ∉ l:=fun hm=>h3 ((h.mem id).2 hm).2.2
 refine ⟨List.nodup_cons.2 ⟨hn,h.nd⟩,by show v.cnt + 1 = _;rw [h.cnt];rfl,rfl,fun a=>?_,fun k a hk=>?_,h.top,h.h1,fun a a1 a2=>by
  simp only [V.letFree,V.put]
  split
  ·simp [n4]
  ·exact h.bd a a1 a2⟩
 ·simp only [V.letFree,V.put]
  by_cases ha:a = id
  ·subst ha
   simp [h1,h2]
  ·simp only [if_neg ha]
   rw [h.mem a]
   simp [ha]
 ·simp only [V.letFree,V.put]
  match k,hk with
  | 0,hk =>
   have:id = a:=by simpa using hk
   subst this
   rw [if_pos rfl]
   simp [h.hd]
   cases l <;> simp
  | k + 1,hk =>
   have hk':l[k]? = some a:=by simpa using hk
   have ha:a ≠ id:=by
    rintro rfl
    exact hn (List.mem_of_getElem? hk')
   rw [if_neg ha,h.body k a hk']
   simp
theorem V.Fr.re {v v':V} {l:List Nat} (h:v.Fr l) (h1:v'.free = v.free) (h2:v'.cnt = v.cnt) (h3:v'.high = v.high) (h4:v'.pg = v.pg):v'.Fr l :=
 ⟨h.nd,h2 ▸ h.cnt,h1 ▸ h.hd,fun a=>by rw [h3,h4];exact h.mem a,fun k a hk=>by rw [h4];exact h.body k a hk,h3 ▸ h.top,h3 ▸ h.h1,by rw [h3,h4];exact h.bd⟩
def V.alloc (cap:Nat) (v:V):Nat × Nat × V :=
 if v.free = 0 then (if v.high = cap then (0,7,v) else (v.high,0,v.allocNew)) else (v.free,0,v.allocFree)
def V.drop (v:V) (id:Nat):Nat × V:=if v.err id = 0 then (0,v.letFree id) else (v.err id,v)
def V.set (v:V) (id kind:Nat) (body:List UInt8):Nat × V:=if v.err id = 0 then (0,v.put id ⟨kind,body⟩) else (v.err id,v)
def V.read (v:V) (id:Nat):Nat × List UInt8 × Nat:=if v.err id = 0 then ((v.pg id).kind,(v.pg id).body,0) else (0,[],v.err id)
theorem V.Good.alloc {v:V} (h:v.Good) {cap:Nat} (h1:v.high ≤ cap) (h2:cap ≤ 65536):(v.alloc cap).2.2.Good ∧ (v.alloc cap).2.2.high ≤ cap:=by
 obtain ⟨l,h⟩:=h
 unfold V.alloc
 split
 ·split
  ·exact ⟨⟨l,h⟩,h1⟩
  ·exact ⟨⟨l,h.new (by omega)⟩,by show v.high + 1 ≤ cap;omega⟩
 ·rename_i hf
  obtain ⟨l',rfl⟩:=h.cons hf
  exact ⟨⟨l',h.old⟩,h1⟩
theorem V.Good.drop {v:V} (h:v.Good) (id:Nat):(v.drop id).2.Good:=by
 obtain ⟨l,h⟩:=h
 unfold V.drop
 split
 ·rename_i he;exact ⟨_,h.let_ he⟩
 ·exact ⟨l,h⟩
theorem V.Good.set {v:V} (h:v.Good) (id kind:Nat) (body:List UInt8) (hk:kind ≠ 255) (hb:body.length ≤ 500):(v.set id kind body).2.Good:=by
 obtain ⟨l,h⟩:=h
 unfold V.set
 split
 ·rename_i he;exact ⟨_,h.put he hk hb⟩
 ·exact ⟨l,h⟩
theorem V.Good.setR {v:V} (h:v.Good) (i n:Nat):(v.setR i n).Good:=by
 obtain ⟨l,h⟩:=h
 exact ⟨l,h.re rfl rfl rfl rfl⟩
theorem V.Good.spoil {v:V} (h:v.Good):({ v with spoilt:=true }:V).Good:=by
 obtain ⟨l,h⟩:=h
 exact ⟨l,h.re rfl rfl rfl rfl⟩
theorem alloc_any (s:Sys) (hs:s.Ok) (w:World) (v:V) (h:TxAt w s v) (hg:v.Good) :
  Calls Tryz.prog 19 #[.pointer (some ⟨s.t,0,none⟩)] w fun e w'=>e = .returned (.tuple #[.int .i64 ((v.alloc s.cap).1:Int),.int .i64 ((v.alloc s.cap).2.1:Int)]) ∧ TxAt w' s (v.alloc s.cap).2.2 ∧ Ext s.F w w':=by
 unfold V.alloc
 split
 ·rename_i h0
  split
  ·rename_i h1
   exact (alloc_full s hs w v h h0 h1).mono fun e w' ⟨h1,h2⟩=>⟨h1,h.no hs h2,h2.of_no⟩
  ·rename_i h1
   have:=h.h2
   exact alloc_new s hs w v h h0 (by omega)
 ·rename_i h0
  obtain ⟨l,hl⟩:=hg
  obtain ⟨l',rfl⟩:=hl.cons h0
  have hm:=(hl.mem v.free).2 (by simp)
  have hc:=hl.cnt
  have hb:=hl.body 0 v.free rfl
  exact alloc_free s hs w v h (by omega) hm.2.1 (by rw [hb];simp [n4]) (by simp at hc;omega)
theorem free_any (s:Sys) (hs:s.Ok) (w:World) (v:V) (h:TxAt w s v) (hg:v.Good) (id:Nat) :
  Calls Tryz.prog 142 #[.pointer (some ⟨s.t,0,none⟩),.int .i64 (id:Int)] w fun e w'=>e = .returned (.int .i64 ((v.drop id).1:Int)) ∧ TxAt w' s (v.drop id).2 ∧ Ext s.F w w':=by
 unfold V.drop
 split
 ·rename_i h0
  obtain ⟨l,hl⟩:=hg
  have:=hl.lt
  have:=hl.cnt
  have:=hl.top
  refine free_ok s hs w v h id h0 ?_ (by omega)
  have hd:=hl.hd
  match l,hl,hd with
  | [],_,hd=>simp at hd;omega
  | a :: l,hl,hd =>
   have hm:=(hl.mem a).2 (by simp)
   simp at hd
   omega
 ·rename_i h0
  exact (free_bad s hs w v h id h0).mono fun e w' ⟨h1,h2⟩=>⟨h1,h.no hs h2,h2.of_no⟩
theorem write_any (s:Sys) (hs:s.Ok) (w:World) (v:V) (h:TxAt w s v) (id kind:Nat) (body:List UInt8) (hk1:1 ≤ kind) (hk2:kind < 255) (hb:body.length ≤ 500) :
  Calls Tryz.prog 20 #[.pointer (some ⟨s.t,0,none⟩),.int .i64 (id:Int),.int .i64 (kind:Int),.string (str body)] w fun e w'=>e = .returned (.int .i64 ((v.set id kind body).1:Int)) ∧ TxAt w' s (v.set id kind body).2 ∧ Ext s.F w w':=by
 unfold V.set
 split
 ·rename_i h0
  exact write_ok s hs w v h id kind body h0 hk1 hk2 hb
 ·rename_i h0
  exact (write_bad s hs w v h id kind _ h0).mono fun e w' ⟨h1,h2⟩=>⟨h1,h.no hs h2,h2.of_no⟩
theorem read_any (s:Sys) (hs:s.Ok) (w:World) (v:V) (h:TxAt w s v) (id:Nat) :
  Calls Tryz.prog 47 #[.pointer (some ⟨s.t,0,none⟩),.int .i64 (id:Int)] w fun e w'=>e = .returned (.tuple #[.int .i64 ((v.read id).1:Int),.string (str (v.read id).2.1),.int .i64 ((v.read id).2.2:Int)]) ∧ Ext No w w':=by
 unfold V.read
 split
 ·rename_i h0
  exact read_ok s hs w v h id h0
 ·rename_i h0
  exact read_bad s hs w v h id h0
def treeCells (s:Sys) (i:Nat):Array Value:=#[.pointer (some ⟨s.t,0,none⟩),.int .i64 (i:Int)]
theorem tree_off {w:World} {s:Sys} {v:V} {gx i:Nat} (ht:TxAt w s v) (h:Blk w gx 70 (treeCells s i)):¬ s.F gx:=by
 rintro (e | e)
 ·exact (h.ne_ ht.tx (by decide)) e
 ·obtain ⟨ov,hm,_⟩:=ht.mp
  exact hm.ne h e
theorem tree_ext {w w':World} {s:Sys} {v:V} {gx i:Nat} (ht:TxAt w s v) (h:Blk w gx 70 (treeCells s i)) (he:Ext s.F w w'):Blk w' gx 70 (treeCells s i):=h.ext he (tree_off ht h)
theorem V.read_err (v:V) (id:Nat):(v.read id).2.2 = 0 ∨ (v.read id).2.2 = 2 ∨ (v.read id).2.2 = 8:=by
 unfold V.read
 split
 ·exact .inl rfl
 ·rename_i h
  rcases V.err_cases h with ⟨h,_⟩ | ⟨h,_⟩
  ·exact .inr (.inl h)
  ·exact .inr (.inr h)
theorem of_any (t:Option Addr) (i:Nat) (hi:i < 4) (w:World) :
  Calls Tryz.prog 13 #[.pointer t,.int .i64 (i:Int)] w fun e w'=>e = .returned (.pointer (some ⟨w.heap.size,0,none⟩)) ∧ w' = w.alloc (.cells #[.pointer t,.int .i64 (i:Int)] 70):=by
 have g1:¬ ((i:Int) < 0):=by omega
 have g2:¬ ((4:Int) ≤ i):=by omega
 go_enter Tryz.func13,Tryz.ntmps13
 go_wp2_with fail
 go_ret
 exact ⟨rfl,rfl⟩
theorem none_no (t:Addr) (i:Value) (gx:Nat) (w:World) (h:Blk w gx 70 #[.pointer (some t),i]) :
  Calls Tryz.prog 45 #[.pointer (some ⟨gx,0,none⟩)] w fun e w'=>e = .returned (.bool false) ∧ w = w':=by
 have c0:=h.cell 0
 simp at c0
 go_enter Tryz.func45,Tryz.ntmps45
 go_wp2
 go_ret
 exact ⟨rfl,rfl⟩
theorem alive_any (s:Sys) (hs:s.Ok) (w:World) (v:V) (h:TxAt w s v) (gx i:Nat) (hx:Blk w gx 70 (treeCells s i)) :
  Calls Tryz.prog 64 #[.pointer (some ⟨gx,0,none⟩)] w fun e w'=>e = .returned (.int .i64 0) ∧ Ext No w w':=by
 have HR:=Lib.hid (read_any s hs w v h 1)
 have c0:=hx.cell 0
 simp [treeCells] at c0
 have he:=v.read_err 1
 generalize (v.read 1).2.2 = e at HR he
 generalize (v.read 1).1 = k at HR
 generalize (v.read 1).2.1 = b at HR
 go_enter Tryz.func64,Tryz.ntmps64
 go_wp2_with fail
 refine (HR.out).mono ?_
 rintro e' w1 ⟨rfl,hx1⟩
 rcases he with rfl | rfl | rfl
 all_goals
  go_wp2_with fail
  go_ret
  exact ⟨rfl,hx1⟩
def may (key val:List UInt8):Nat:=if key = [] then 2 else if 140 < key.length ∨ 16384 < val.length then 3 else 0
theorem may_any (s:Sys) (hs:s.Ok) (w:World) (v:V) (h:TxAt w s v) (gx i:Nat) (hx:Blk w gx 70 (treeCells s i)) (key val:List UInt8) :
  Calls Tryz.prog 59 #[.pointer (some ⟨gx,0,none⟩),.string (str key),.string (str val)] w fun e w'=>e = .returned (.int .i64 (may key val:Int)) ∧ Ext No w w':=by
 have HN:=Lib.hid (none_no ⟨s.t,0,none⟩ (.int .i64 (i:Int)) gx w hx)
 have HA:=Lib.hid (alive_any s hs w v h gx i hx)
 have hk:=str_size key
 have hv:=str_size val
 clear h hs hx
 cases key with
 | nil =>
  go_enter Tryz.func59,Tryz.ntmps59
  go_wp2_with fail
  refine (HN.out).mono ?_
  rintro e' w1 ⟨rfl,rfl⟩
  go_wp2_with fail
  go_ret
  exact ⟨rfl,Ext.refl _ _⟩
 | cons a key =>
  have hne:(a :: key).isEmpty = false:=rfl
  have hm:may (a :: key) val = if 140 < (a :: key).length ∨ 16384 < val.length then 3 else 0:=by simp [may]
  rw [hm]
  generalize a :: key = k at *
  have HK:=Lib.hid hk;have HV:=Lib.hid hv
  clear hm
  by_cases h1:140 < k.length
  ·rw [if_pos (.inl h1)]
   go_enter Tryz.func59,Tryz.ntmps59
   go_wp2_with fail
   refine (HN.out).mono ?_
   rintro e' w1 ⟨rfl,rfl⟩
   go_wp2_with fail
   go_ret
   exact ⟨rfl,Ext.refl _ _⟩
  ·by_cases h2:16384 < val.length
   ·rw [if_pos (.inr h2)]
    go_enter Tryz.func59,Tryz.ntmps59
    go_wp2_with fail
    refine (HN.out).mono ?_
    rintro e' w1 ⟨rfl,rfl⟩
    go_wp2_with fail
    go_ret
    exact ⟨rfl,Ext.refl _ _⟩
   ·rw [if_neg (by omega)]
    go_enter Tryz.func59,Tryz.ntmps59
    go_wp2_with fail
    refine (HN.out).mono ?_
    rintro e' w1 ⟨rfl,rfl⟩
    go_wp2_with fail
    refine (HA.out).mono ?_
    rintro e' w1 ⟨rfl,hx1⟩
    go_wp2_with fail
    go_ret
    exact ⟨rfl,hx1⟩
theorem treeroot_any (s:Sys) (hs:s.Ok) (w:World) (v:V) (h:TxAt w s v) (gx i:Nat) (hx:Blk w gx 70 (treeCells s i)) (hi:i < 4) :
  Calls Tryz.prog 15 #[.pointer (some ⟨gx,0,none⟩)] w fun e w'=>e = .returned (.int .i64 (v.r i:Int)) ∧ Ext No w w':=by
 have HN:=Lib.hid (none_no ⟨s.t,0,none⟩ (.int .i64 (i:Int)) gx w hx)
 have HR:=Lib.hid (fun w h=>root_any s hs w v h i hi)
 have c0:=hx.cell 0
 have c1:=hx.cell 1
 simp [treeCells] at c0 c1
 have HT:=Lib.hid h
 clear h
 go_enter Tryz.func15,Tryz.ntmps15
 go_wp2_with fail
 refine (HN.out).mono ?_
 rintro e' w1 ⟨rfl,rfl⟩
 go_wp2_with fail
 go_quiet ((go_at_call 46;exact Calls.quiet_of_same ((HR.out _ (HT.out.no hs ((Ext.refl No w).drewN _))).mono fun _ _ ⟨h1,h2⟩=>⟨h1,h2.symm⟩)))
 go_wp2_with fail
 go_ret
 exact ⟨rfl,by (repeat' (first | exact Ext.refl _ _ | assumption | apply Ext.alloc | apply Ext.drewN | apply Ext.drew | refine Ext.setNew ?_ (by first | omega | (simp;omega) | simp) _ _ | refine Ext.setF ?_ (by first | exact Or.inl rfl | exact Or.inr rfl | rfl) _ _ | refine Ext.trans_ ?_ (by assumption) | refine Ext.trans_ ?_ (Ext.of_no (by assumption))))⟩
def zero64:Array Value:=Array.replicate 64 (.int .u8 0)
theorem Tryz.info142:(Tryz.prog.info? 142).map (fun i=>(i.zero,i.size,i.bytes)) = some (some (.agg zero64),64,64):=by kernel_rfl
theorem Tryz.underlying137':Tryz.prog.underlying 137 = some (.slice 142):=by kernel_rfl
theorem run_make_blocks (n:Nat) (hn:n ≤ 65536) (w:World) :
  (Instr.makeSlice 137 (.int .i64 (n:Int)) (.int .i64 (n:Int))).run Tryz.prog w = .ok (.slice (some ⟨w.heap.size,0,none⟩) n n) (w.alloc (.cells (madeCells zero64 (n * 64)) 142)):=by
 obtain ⟨i,hi,hzz⟩:=Option.map_eq_some_iff.1 Tryz.info142
 simp only [Prod.mk.injEq] at hzz
 obtain ⟨hz,hs,hb⟩:=hzz
 have hr:=run_make (P:=Tryz.prog) w 137 142 i (.agg zero64) Tryz.underlying137' hi hz .i64 .i64 n n (by omega) (Int.le_refl _) (by rw [hb];omega) (by omega)
 simp only [Int.toNat_natCast,hs] at hr
 exact hr
def diskCells (kb n:Nat):Array Value:=#[.slice (some ⟨kb,0,none⟩) n n,.slice none 0 0,.bool false,.bool false,.int .i64 0,.int .i64 0]
theorem disk_zero {w:World} {kb n:Nat} (h:Blk w kb 142 (madeCells zero64 (n * 64))) {j:Nat} (hj:j < n * 64):w.cell? ⟨kb,j,none⟩ = some (.int .u8 0):=by
 rw [h.cell j]
 unfold madeCells
 rw [Array.getElem?_map,Array.getElem?_range,if_pos hj]
 have h1:zero64.size = 64:=rfl
 have h2:j % 64 < 64:=Nat.mod_lt _ (by omega)
 simp only [Option.map_some,h1]
 rw [getElem!_pos zero64 (j % 64) (by omega)]
 simp [zero64]
theorem disk_new (n:Nat) (h1:1 ≤ n) (hn:n ≤ 65536) (w:World) :
  Calls Tryz.prog 44 #[.int .i64 (n:Int)] w fun e w'=>e = .returned (.tuple #[.pointer (some ⟨w.heap.size + 1,0,none⟩),.int .i64 0]) ∧
   Blk w' (w.heap.size + 1) 140 (diskCells w.heap.size n) ∧ Blk w' w.heap.size 142 (madeCells zero64 (n * 64)) ∧ w'.heap.size = w.heap.size + 2 ∧ Ext No w w':=by
 have g1:¬ ((n:Int) < 1):=by omega
 have g2:¬ ((65536:Int) < n):=by omega
 have hmk:=run_make_blocks n hn
 generalize madeCells zero64 (n * 64) = cs at *
 go_enter Tryz.func44,Tryz.ntmps44
 go_wp2_with fail
 go_ret2
 refine ⟨by simp,?_,?_,by simp,by (repeat' (first | exact Ext.refl _ _ | assumption | apply Ext.alloc | apply Ext.drewN | apply Ext.drew | refine Ext.setNew ?_ (by first | omega | (simp;omega) | simp) _ _ | refine Ext.setF ?_ (by first | exact Or.inl rfl | exact Or.inr rfl | rfl) _ _ | refine Ext.trans_ ?_ (by assumption) | refine Ext.trans_ ?_ (Ext.of_no (by assumption))))⟩
 ·exact (show (w.alloc (.cells cs 142)).heap.size = w.heap.size + 1 by simp) ▸ Blk.new (w.alloc (.cells cs 142)) 140 _
 ·exact (Blk.new w 142 cs).alloc _
theorem disk_up {w:World} {d kb n:Nat} (h:Blk w d 140 (diskCells kb n)) (hn:1 ≤ n) :
  Calls Tryz.prog 78 #[.pointer (some ⟨d,0,none⟩)] w fun e w'=>e = .returned (.int .i64 0) ∧ w = w':=by
 have c0:=h.cell 0
 have c2:=h.cell 2
 simp [diskCells] at c0 c2
 go_enter Tryz.func78,Tryz.ntmps78
 go_wp2_with (go_at_call 79;refine (dnone_no d n _ _ c0 hn).mono ?_;rintro e w' ⟨rfl,rfl⟩)
 go_ret
 exact ⟨rfl,rfl⟩
theorem disk_is {w:World} {d kb n:Nat} (h:Blk w d 140 (diskCells kb n)) (i:Nat) (hi:i < n) :
  Calls Tryz.prog 163 #[.pointer (some ⟨d,0,none⟩),.int .i64 (i:Int)] w fun e w'=>e = .returned (.bool true) ∧ w = w':=by
 have c0:=h.cell 0
 simp [diskCells] at c0
 have h1:(0:Int) ≤ i:=by omega
 have h2:(i:Int) < n:=by omega
 go_enter Tryz.func163,Tryz.ntmps163
 go_wp2_with fail
 go_ret
 exact ⟨rfl,rfl⟩
theorem Addr.add_none (b o j:Nat):(⟨b,o,none⟩:Addr).add j = ⟨b,o + j,none⟩:=by
 unfold Addr.add;split
 ·rename_i h;have:j = 0:=by simpa using h
  subst this;rfl
 ·rfl
def zs (n:Nat):List UInt8:=List.replicate n 0
theorem zs_len (n:Nat):(zs n).length = n:=by simp [zs]
theorem disk_read (d kb n:Nat) (i:Nat) (hi:i < n) (hn:n ≤ 65536) (w:World) (h:Blk w d 140 (diskCells kb n)) (hk:Blk w kb 142 (madeCells zero64 (n * 64))) :
  Calls Tryz.prog 119 #[.pointer (some ⟨d,0,none⟩),.int .i64 (i:Int)] w fun e w'=>e = .returned (.tuple #[.string (str (zs 64)),.int .i64 0]) ∧ Ext No w w':=by
 have HU:=Lib.hid (disk_up h (by omega))
 have HI:=Lib.hid (disk_is h i hi)
 have c0:=h.cell 0
 have c1:=h.cell 1
 simp [diskCells] at c0 c1
 have hz:=Lib.hid (fun j (hj:j < n * 64)=>disk_zero hk hj)
 have h1:(0:Int) ≤ i:=by omega
 have h2:(i:Int) < n:=by omega
 go_enter Tryz.func119,Tryz.ntmps119
 go_wp2_with fail
 refine (HU.out).mono ?_
 rintro e w1 ⟨rfl,rfl⟩
 go_wp2_with fail
 refine (HI.out).mono ?_
 rintro e w1 ⟨rfl,rfl⟩
 go_wp2_with fail
 go_loopg [7] 0 (fun gk k wr=>k = .int .i64 (-1) ∧ w = wr)
 case atStart=>exact ⟨rfl,rfl⟩
 case round =>
  obtain ⟨rfl,rfl⟩:=hrel
  have kc:(convert 98 9 (.slice (some ⟨kb,i * 64,none⟩) 64 64)).run Tryz.prog w = .ok (.string (str (zs 64))) w:=by
   refine run_convert_bytes_back (P:=Tryz.prog) w 98 9 5 ⟨kb,i * 64,none⟩ 64 (zs 64) Tryz.underlying98 Tryz.underlying5 Tryz.underlying9 ?_
   intro j hj
   have hj4:j < 64:=by rw [zs_len] at hj;exact hj
   have:=hz.out (i * 64 + j) (by omega)
   rw [Addr.add_none,this]
   simp only [zs,List.getElem_replicate]
   rfl
  go_wp2_with fail
  go_ret2
  exact ⟨rfl,Ext.refl _ _⟩
end Go.Proofs.YtccnemmlkcmceaaGreatDoor
namespace Go.Proofs.YtccnemmlkcmceaaGreatDoor
open Go.RowKit Go.BigFrame
theorem str_app (a b:List UInt8):str a ++ str b = str (a ++ b):=by
 apply ByteArray.ext
 simp [str,ByteArray.data_append]
theorem zs_app (a b:Nat):zs a ++ zs b = zs (a + b):=by simp [zs]
theorem image_zero (x d kb n log id:Nat) (w:World) (x0:w.cell? ⟨x,0,none⟩ = some (.pointer (some ⟨d,0,none⟩))) (x2:w.cell? ⟨x,2,none⟩ = some (.int .i64 (log:Int)))
  (h:Blk w d 140 (diskCells kb n)) (hk:Blk w kb 142 (madeCells zero64 (n * 64))) (hn:n ≤ 65536) (hi:log + id * 8 + 8 ≤ n) :
  Calls Tryz.prog 83 #[.pointer (some ⟨x,0,none⟩),.int .i64 (id:Int)] w fun e w'=>e = .returned (.tuple #[.string (str (zs 512)),.int .i64 0]) ∧ Ext No w w':=by
 have HD:=Lib.hid h;have HK:=Lib.hid hk
 have HR:=Lib.hid (fun k (hk8:k < 8) w (h:Blk w d 140 (diskCells kb n)) (hk:Blk w kb 142 (madeCells zero64 (n * 64)))=>(show ((log + id * 8 + k:Nat):Int) = (log:Int) + (id:Int) * 8 + (k:Int) by omega) ▸ disk_read d kb n (log + id * 8 + k) (by omega) hn w h hk)
 obtain ⟨z,hz⟩:∃ z,z = str (zs 64):=⟨_,rfl⟩
 rw [← hz] at HR
 have HZ:=Lib.hid hz
 clear h hk hz
 go_enter Tryz.func83,Tryz.ntmps83
 go_wp2_with fail
 go_loopg [6,10] 8 (fun gk s k wr=>∃ K:Nat,K + gk = 8 ∧ k = .int .i64 (K:Int) ∧ s = .string (str (List.replicate (K * 64) 0)) ∧ Ext No w wr)
 case atStart=>exact ⟨0,rfl,rfl,rfl,Ext.refl _ _⟩
 case round =>
  obtain ⟨K,hK,rfl,rfl,hE⟩:=hrel
  have y0:=cell_ext hE x0 (fun h=>h)
  have y2:=cell_ext hE x2 (fun h=>h)
  have l0:=World.block_lt_of_cell? wr _ y0
  simp only at l0
  have HE:=Lib.hid hE
  have HKK:=Lib.hid hK
  clear hE
  by_cases h8:K < 8
  ·have HR1:=Lib.hid (fun (i:Upd wr)=>HR.out K h8 (up wr i) (HD.out.ext (HE.out.trans_ (up_ext wr i)) (fun h=>h)) (HK.out.ext (HE.out.trans_ (up_ext wr i)) (fun h=>h)))
   have h8':(K:Int) < 8:=by omega
   have b1:(log:Int) + (id:Int) * 8 + K < 65536:=by omega
   have b2:(0:Int) ≤ (log:Int) + (id:Int) * 8 + K:=by omega
   clear hK h8 hi
   go_wp2_with fail
   refine wp_region_up (by kernel_rfl) (by kernel_rfl) ?_;(repeat (go_big_quiet_step ((go_at_call 119;exact Calls.up_of (HR1.out _)))));refine wpQuiet_nil ?_;intro _ hw';obtain ⟨⟨wq,hq⟩,hw''⟩:=hw';change _ = wq at hw'';subst hw''
   clear HR HD HK HR1 b1 b2 hn x0 x2 y0 y2 l0
   have hzs:z.size = 64:=by rw [HZ.out,str_size,zs_len]
   have hK7:K * 64 ≤ 448:=by omega
   go_wp2_with fail

   go_roundg (gk - 1)
   case rel=>exact ⟨K + 1,by have:=HKK.out;omega,by go_num,by rw [HZ.out,str_app];show Value.string (str (zs (K * 64) ++ zs 64)) = Value.string (str (zs ((K + 1) * 64)));rw [zs_app,Nat.succ_mul],HE.out.trans_ hq⟩
   case measure=>have:=HKK.out;omega
  ·have hK8:K = 8:=by omega
   subst hK8
   clear hK h8 hi
   go_wp2_with fail
   go_ret2
   exact ⟨rfl,HE.out⟩
end Go.Proofs.YtccnemmlkcmceaaGreatDoor
namespace Go.Proofs.YtccnemmlkcmceaaGreatDoor
open Go.RowKit
def txt (s:Bs):Bs:=UInt8.ofNat s.length :: s
def Cell.enc (c:Cell):Bs:=txt c.key ++ (if 0 < c.over then 1 :: (n4 c.len ++ n4 c.over) else 0 :: txt c.val)
def encCells (cs:List Cell):Bs:=cs.flatMap Cell.enc
def encKeys:List Bs → List Nat → Bs
 | k :: ks,i :: is=>txt k ++ n4 i ++ encKeys ks is
 | _,_=>[]
def Nd.enc (n:Nd):Bs :=
 if n.leaf then 1 :: UInt8.ofNat n.cells.length :: encCells n.cells
 else 2 :: UInt8.ofNat n.keys.length :: (n4 (n.kids.headD 0) ++ encKeys n.keys n.kids.tail)
theorem okC_all (cs:List Cell):∀ k,okC cs k = true → ∀ c ∈ cs.take k,c.ok = true
 | 0,_,c,hc=>by simp at hc
 | k + 1,h,c,hc=>by
  simp only [okC,Bool.and_eq_true] at h
  obtain ⟨h1,h2⟩:=h
  cases hk:cs[k]? with
  | none =>
   rw [hk] at h2;simp at h2
  | some d =>
   rw [hk] at h2
   simp only [Bool.and_eq_true] at h2
   rw [List.take_add_one,hk] at hc
   rcases List.mem_append.1 hc with hc | hc
   ·exact okC_all cs k h1 c hc
   ·simp at hc;subst hc;exact h2.1
theorem okK_all (cs:List Bs):∀ k,okK cs k = true → ∀ c ∈ cs.take k,keyOk c = true
 | 0,_,c,hc=>by simp at hc
 | k + 1,h,c,hc=>by
  simp only [okK,Bool.and_eq_true] at h
  obtain ⟨h1,h2⟩:=h
  cases hk:cs[k]? with
  | none =>
   rw [hk] at h2;simp at h2
  | some d =>
   rw [hk] at h2
   simp only [Bool.and_eq_true] at h2
   rw [List.take_add_one,hk] at hc
   rcases List.mem_append.1 hc with hc | hc
   ·exact okK_all cs k h1 c hc
   ·simp at hc;subst hc;exact h2.1
theorem keyOk_len {k:Bs} (h:keyOk k = true):1 ≤ k.length ∧ k.length ≤ 140:=by simpa [keyOk] using h
theorem Cell.ok_bounds {c:Cell} (h:c.ok = true):1 ≤ c.key.length ∧ c.key.length ≤ 140 ∧ c.val.length ≤ 157 ∧ c.len ≤ 16384 ∧ c.over ≤ 2147483647:=by
 unfold Cell.ok at h
 split at h
 ·rename_i ho
  simp only [Bool.and_eq_true,decide_eq_true_eq] at h
  obtain ⟨⟨h1,h2⟩,h3⟩:=h
  obtain ⟨k1,k2⟩:=keyOk_len h1
  unfold Cell.size at h3
  rw [if_neg (by omega)] at h3
  omega
 ·simp only [Bool.and_eq_true,decide_eq_true_eq] at h
  obtain ⟨⟨⟨h1,h2⟩,h3⟩,h4⟩:=h
  obtain ⟨k1,k2⟩:=keyOk_len h1
  have:c.val = []:=by simpa using h4
  simp only [idOk,decide_eq_true_eq] at h2
  rw [this];simp;omega
structure Nd.Ok (n:Nd):Prop where
 a1:n.cells.length ≤ 255
 a2:n.keys.length ≤ 255
 lf:n.leaf = true → n.keys = [] ∧ n.kids = []
 br:n.leaf = false → n.cells = [] ∧ n.kids.length = n.keys.length + 1
 c:∀ c ∈ n.cells,c.ok = true
 k:∀ k ∈ n.keys,keyOk k = true
 i:∀ i ∈ n.kids,idOk i = true
theorem Nd.Ok.of {n:Nd} (h:n.ok = true):n.Ok:=by
 unfold Nd.ok at h
 simp only [Bool.and_eq_true] at h
 obtain ⟨⟨⟨h1,h2⟩,h3⟩,h4⟩:=h
 unfold Nd.shape at h1
 simp only [Bool.and_eq_true,decide_eq_true_eq] at h1
 obtain ⟨⟨h5,h6⟩,h7⟩:=h1
 refine ⟨h5,h6,fun hl=>?_,fun hl=>?_,fun c hc=>okC_all _ _ h2 c (by rwa [List.take_length]),fun c hc=>okK_all _ _ h3 c (by rwa [List.take_length]),fun i hi=>(List.all_eq_true.1 h4) i hi⟩
 ·rw [hl] at h7;simpa using h7
 ·rw [hl] at h7;simpa using h7
theorem Nd.Ok.fits {n:Nd} (h:n.Ok):n.fits:=by
 refine ⟨fun c hc=>?_,fun k hk=>?_,fun i hi=>?_⟩
 ·have:=Cell.ok_bounds (h.c c hc);exact ⟨by omega,by omega,by omega,by omega⟩
 ·have:=keyOk_len (h.k k hk);omega
 ·have:=h.i i hi;simp [idOk] at this;omega
theorem enc_bad (n:Nd) (w:World) (F:Nat → Prop) (A1:Option Addr) (c1:Nat) (A2:Option Addr) (c2:Nat) (A3:Option Addr) (c3:Nat) (hn:NodeAt w F A1 c1 A2 c2 A3 c3 n) (hf:n.fits) (hno:n.ok = false) :
  Calls Tryz.prog 180 #[n.value A1 c1 A2 c2 A3 c3] w fun e w'=>e = .returned (.tuple #[.string (str []),.int .i64 2]) ∧ Ext No w w':=by
 have HC:=Lib.hid (fun w hn=>check_any n w F A1 c1 A2 c2 A3 c3 hn hf)
 rw [Nd.chk_bad hno] at HC
 clear hno
 go_enter Tryz.func180,Tryz.ntmps180
 simp only [Nd.value]
 go_wp2_with fail
 refine (HC.out _ (hn.ext ((Ext.refl _ w).alloc _))).mono ?_
 rintro e w1 ⟨rfl,hb1⟩
 go_wp2_with fail
 go_ret2
 exact ⟨rfl,by (repeat' (first | exact Ext.refl _ _ | assumption | apply Ext.alloc | apply Ext.drewN | apply Ext.drew | refine Ext.setNew ?_ (by first | omega | (simp;omega) | simp) _ _ | refine Ext.setF ?_ (by first | exact Or.inl rfl | exact Or.inr rfl | rfl) _ _ | refine Ext.trans_ ?_ (by assumption) | refine Ext.trans_ ?_ (Ext.of_no (by assumption))))⟩
theorem enc_long (n:Nd) (w:World) (F:Nat → Prop) (A1:Option Addr) (c1:Nat) (A2:Option Addr) (c2:Nat) (A3:Option Addr) (c3:Nat) (hn:NodeAt w F A1 c1 A2 c2 A3 c3 n) (hf:n.fits) (hno:n.ok = true) (hl:500 < n.size) :
  Calls Tryz.prog 180 #[n.value A1 c1 A2 c2 A3 c3] w fun e w'=>e = .returned (.tuple #[.string (str []),.int .i64 3]) ∧ Ext No w w':=by
 have HC:=Lib.hid (fun w hn=>check_any n w F A1 c1 A2 c2 A3 c3 hn hf)
 have HS:=Lib.hid (fun w hn=>size_any n w F A1 c1 A2 c2 A3 c3 hn hf)
 rw [Nd.chk_ok hno] at HC
 clear hno
 have hl':(500:Int) < n.size:=by omega
 go_enter Tryz.func180,Tryz.ntmps180
 simp only [Nd.value]
 go_wp2_with fail
 refine (HC.out _ (hn.ext ((Ext.refl _ w).alloc _))).mono ?_
 rintro e w1 ⟨rfl,hb1⟩
 have bb:=(Blk.new w 40 #[.bool n.leaf,.slice A1 n.cells.length c1,.slice A2 n.keys.length c2,.slice A3 n.kids.length c3]).ext hb1 (fun h=>h)
 have q0:=bb.cell 0
 have q1:=bb.cell 1
 have q2:=bb.cell 2
 have q3:=bb.cell 3
 have bl:=bb.lt
 simp at q0 q1 q2 q3
 go_wp2_with fail
 refine (HS.out _ (hn.ext (((Ext.refl _ w).alloc _).trans_ hb1.of_no))).mono ?_
 rintro e w2 ⟨rfl,hb2⟩
 go_wp2_with fail
 go_ret2
 exact ⟨rfl,by (repeat' (first | exact Ext.refl _ _ | assumption | apply Ext.alloc | apply Ext.drewN | apply Ext.drew | refine Ext.setNew ?_ (by first | omega | (simp;omega) | simp) _ _ | refine Ext.setF ?_ (by first | exact Or.inl rfl | exact Or.inr rfl | rfl) _ _ | refine Ext.trans_ ?_ (by assumption) | refine Ext.trans_ ?_ (Ext.of_no (by assumption))))⟩
end Go.Proofs.YtccnemmlkcmceaaGreatDoor
namespace Go.Proofs
open Go.Shelf
def Tryz.lays170_ren:Go.Shelf.Ren:=⟨fun | 170=>49 | n=>n,fun | 70=>97 | 3=>3 | 0=>0 | 72=>100 | 37=>98 | 5=>5 | n=>n,fun | n=>n⟩
theorem Tryz.lays170:Go.Proofs.Lays.n170 Tryz.prog Tryz.lays170_ren:={
 mixed:=by kernel_rfl
 f170:=Tryz.func49.trans (congrArg some (by kernel_rfl))
 t0:=Tryz.underlying0
 a0:=Tryz.isAgg0
 z0:=Tryz.sizeOf0
 v0:=Tryz.zeroValue0
 t3:=Tryz.underlying3
 a3:=Tryz.isAgg3
 z3:=Tryz.sizeOf3
 v3:=Tryz.zeroValue3
 t37:=Tryz.underlying98
 a37:=Tryz.isAgg98
 z37:=Tryz.sizeOf98
 v37:=Tryz.zeroValue98
 t70:=Tryz.underlying97
 a70:=Tryz.isAgg97
 z70:=Tryz.sizeOf97
 v70:=Tryz.zeroValue97
 t72:=Tryz.underlying100
 a72:=Tryz.isAgg100
 z72:=Tryz.sizeOf100
 v72:=Tryz.zeroValue100 }
open Go.RowKit in
theorem Tryz.Builder_Len (B b:Nat) (bs:List Value) (w:World) (h:Lib.IsBuilder 100 5 B b bs w) :
  Calls Tryz.prog 49 #[.pointer (some ⟨b,0,none⟩)] w fun e w'=>e = .returned (.int .i64 bs.length) ∧ w' = w:=Any.Builder_Len Tryz.lays170 B b bs w h
def Tryz.lays169_ren:Go.Shelf.Ren:=⟨fun | 169=>52 | n=>n,fun | 70=>97 | 9=>9 | 0=>0 | 72=>100 | 37=>98 | 127=>159 | 3=>3 | 5=>5 | n=>n,fun | n=>n⟩
theorem Tryz.lays169:Go.Proofs.Lays.n169 Tryz.prog Tryz.lays169_ren:={
 mixed:=by kernel_rfl
 f169:=Tryz.func52.trans (congrArg some (by kernel_rfl))
 t0:=Tryz.underlying0
 a0:=Tryz.isAgg0
 z0:=Tryz.sizeOf0
 v0:=Tryz.zeroValue0
 t3:=Tryz.underlying3
 a3:=Tryz.isAgg3
 z3:=Tryz.sizeOf3
 v3:=Tryz.zeroValue3
 t9:=Tryz.underlying9
 a9:=Tryz.isAgg9
 z9:=Tryz.sizeOf9
 v9:=Tryz.zeroValue9
 t37:=Tryz.underlying98
 a37:=Tryz.isAgg98
 z37:=Tryz.sizeOf98
 v37:=Tryz.zeroValue98
 t70:=Tryz.underlying97
 a70:=Tryz.isAgg97
 z70:=Tryz.sizeOf97
 v70:=Tryz.zeroValue97
 t72:=Tryz.underlying100
 a72:=Tryz.isAgg100
 z72:=Tryz.sizeOf100
 v72:=Tryz.zeroValue100
 t127:=Tryz.underlying159
 a127:=Tryz.isAgg159
 z127:=Tryz.sizeOf159
 v127:=Tryz.zeroValue159 }
theorem Tryz.Builder_Extra_169:Builder.Extra Tryz.prog Tryz.lays169_ren:={
 sizeBuilder:=by kernel_rfl
 liesBuilder:=by kernel_rfl
 t5:=Tryz.underlying5
 a5:=Tryz.isAgg5
 z5:=Tryz.sizeOf5
 v5:=Tryz.zeroValue5
 infoByte:=by kernel_rfl
 cellsByte:=by kernel_rfl
 sizeByte:=by kernel_rfl
 neB5:=by decide }
open Go.RowKit in
theorem Tryz.Builder_String_any (B b:Nat) (l:List UInt8) (w:World) (h:Lib.IsBuilder 100 5 B b (Lib.byteCells l) w) (hBw:B ≤ w.heap.size) :
  Calls Tryz.prog 52 #[.pointer (some ⟨b,0,none⟩)] w fun e w'=>e = .returned (.string ⟨l.toArray⟩) ∧ Below B w w':=Any.Builder_String_any Tryz.lays169 Tryz.Builder_Extra_169 B b l w h hBw
def Tryz.lays160_ren:Go.Shelf.Ren:=⟨fun | 160=>125 | 232=>168 | 231=>167 | 227=>169 | 234=>171 | 233=>170 | 236=>173 | 235=>172 | 228=>196 | 271=>199 | 151=>198 | 197=>197 | 120=>222 | 152=>221 | 260=>220 | 137=>232 | 119=>233 | 224=>234 | 225=>235 | 217=>237 | 266=>238 | n=>n,fun | 9=>9 | 4=>4 | 3=>3 | 5=>5 | 117=>230 | 116=>229 | 0=>0 | 124=>233 | 21=>21 | 105=>255 | 46=>158 | 119=>284 | 139=>287 | 138=>286 | n=>n,fun | 3=>2 | 4=>3 | n=>n⟩
theorem Tryz.lays160:Go.Proofs.Lays.n160 Tryz.prog Tryz.lays160_ren:={
 mixed:=by kernel_rfl
 f119:=Tryz.func233.trans (congrArg some (by kernel_rfl))
 f120:=Tryz.func222.trans (congrArg some (by kernel_rfl))
 f137:=Tryz.func232.trans (congrArg some (by kernel_rfl))
 f151:=Tryz.func198.trans (congrArg some (by kernel_rfl))
 f152:=Tryz.func221.trans (congrArg some (by kernel_rfl))
 f160:=Tryz.func125.trans (congrArg some (by kernel_rfl))
 f197:=Tryz.func197.trans (congrArg some (by kernel_rfl))
 f217:=Tryz.func237.trans (congrArg some (by kernel_rfl))
 f224:=Tryz.func234.trans (congrArg some (by kernel_rfl))
 f225:=Tryz.func235.trans (congrArg some (by kernel_rfl))
 f227:=Tryz.func169.trans (congrArg some (by kernel_rfl))
 f228:=Tryz.func196.trans (congrArg some (by kernel_rfl))
 f231:=Tryz.func167.trans (congrArg some (by kernel_rfl))
 f232:=Tryz.func168.trans (congrArg some (by kernel_rfl))
 f233:=Tryz.func170.trans (congrArg some (by kernel_rfl))
 f234:=Tryz.func171.trans (congrArg some (by kernel_rfl))
 f235:=Tryz.func172.trans (congrArg some (by kernel_rfl))
 f236:=Tryz.func173.trans (congrArg some (by kernel_rfl))
 f260:=Tryz.func220.trans (congrArg some (by kernel_rfl))
 f266:=Tryz.func238.trans (congrArg some (by kernel_rfl))
 f271:=Tryz.func199.trans (congrArg some (by kernel_rfl))
 t0:=Tryz.underlying0
 a0:=Tryz.isAgg0
 z0:=Tryz.sizeOf0
 v0:=Tryz.zeroValue0
 t3:=Tryz.underlying3
 a3:=Tryz.isAgg3
 z3:=Tryz.sizeOf3
 v3:=Tryz.zeroValue3
 t4:=Tryz.underlying4
 a4:=Tryz.isAgg4
 z4:=Tryz.sizeOf4
 v4:=Tryz.zeroValue4
 t5:=Tryz.underlying5
 a5:=Tryz.isAgg5
 z5:=Tryz.sizeOf5
 v5:=Tryz.zeroValue5
 t9:=Tryz.underlying9
 a9:=Tryz.isAgg9
 z9:=Tryz.sizeOf9
 v9:=Tryz.zeroValue9
 t21:=Tryz.underlying21
 a21:=Tryz.isAgg21
 z21:=Tryz.sizeOf21
 v21:=Tryz.zeroValue21
 t46:=Tryz.underlying158
 a46:=Tryz.isAgg158
 z46:=Tryz.sizeOf158
 v46:=Tryz.zeroValue158
 t105:=Tryz.underlying255
 a105:=Tryz.isAgg255
 z105:=Tryz.sizeOf255
 v105:=Tryz.zeroValue255
 t116:=Tryz.underlying229
 a116:=Tryz.isAgg229
 z116:=Tryz.sizeOf229
 t117:=Tryz.underlying230
 a117:=Tryz.isAgg230
 z117:=Tryz.sizeOf230
 v117:=Tryz.zeroValue230
 t119:=Tryz.underlying284
 a119:=Tryz.isAgg284
 z119:=Tryz.sizeOf284
 t124:=Tryz.underlying233
 a124:=Tryz.isAgg233
 z124:=Tryz.sizeOf233
 v124:=Tryz.zeroValue233
 t138:=Tryz.underlying286
 a138:=Tryz.isAgg286
 z138:=Tryz.sizeOf286
 v138:=Tryz.zeroValue286
 t139:=Tryz.underlying287
 a139:=Tryz.isAgg287
 z139:=Tryz.sizeOf287
 v139:=Tryz.zeroValue287
 g3:=by kernel_rfl
 g4:=by kernel_rfl }
open Go.RowKit in
theorem Tryz.strings_Trim_one (s:ByteArray) (c:UInt8) (hc:c.toNat < 128) (w:World) (hs:s.size ≤ 9223372036854775807) :
  Calls Tryz.prog 125 #[.string s,.string ⟨#[c]⟩] w fun e w'=>e = .returned (.string ⟨(Lib.trimB s.data.toList c).toArray⟩) ∧ (w' = w ∨ w' = w.drew):=Any.strings_Trim_one Tryz.lays160 s c hc w hs
def Tryz.lays213_ren:Go.Shelf.Ren:=⟨fun | 213=>177 | 265=>200 | n=>n,fun | 9=>9 | 3=>3 | n=>n,fun | n=>n⟩
def Tryz.lays106_ren:Go.Shelf.Ren:=⟨fun | 106=>138 | 213=>177 | 265=>200 | n=>n,fun | 9=>9 | 3=>3 | n=>n,fun | n=>n⟩
theorem Tryz.lays106:Go.Proofs.Lays.n106 Tryz.prog Tryz.lays106_ren:={
 mixed:=by kernel_rfl
 f106:=Tryz.func138.trans (congrArg some (by kernel_rfl))
 f213:=Tryz.func177.trans (congrArg some (by kernel_rfl))
 f265:=Tryz.func200.trans (congrArg some (by kernel_rfl))
 t3:=Tryz.underlying3
 a3:=Tryz.isAgg3
 z3:=Tryz.sizeOf3
 v3:=Tryz.zeroValue3
 t9:=Tryz.underlying9
 a9:=Tryz.isAgg9
 z9:=Tryz.sizeOf9
 v9:=Tryz.zeroValue9 }
open Go.RowKit in
theorem Tryz.strings_Compare (a b:ByteArray) (w:World) :
  Calls Tryz.prog 138 #[.string a,.string b] w fun e w'=>e = .returned (.int .i64 (Lib.compareBytes a.data.toList b.data.toList)) ∧ w' = w:=Any.strings_Compare Tryz.lays106 a b w
def Tryz.lays105_ren:Go.Shelf.Ren:=⟨fun | 105=>120 | 212=>164 | 99=>165 | 165=>166 | 166=>51 | 170=>49 | 169=>52 | 263=>192 | 264=>193 | 206=>194 | 240=>92 | 241=>195 | 276=>133 | 277=>219 | n=>n,fun | 9=>9 | 3=>3 | 4=>4 | 20=>20 | 0=>0 | 46=>158 | 109=>223 | 5=>5 | 72=>100 | 76=>103 | 51=>192 | 146=>250 | 53=>185 | 148=>252 | 70=>97 | 37=>98 | 75=>102 | 127=>159 | 164=>197 | 80=>105 | n=>n,fun | n=>n⟩
theorem Tryz.lays105:Go.Proofs.Lays.n105 Tryz.prog Tryz.lays105_ren:={
 mixed:=by kernel_rfl
 f99:=Tryz.func165.trans (congrArg some (by kernel_rfl))
 f105:=Tryz.func120.trans (congrArg some (by kernel_rfl))
 f165:=Tryz.func166.trans (congrArg some (by kernel_rfl))
 f166:=Tryz.func51.trans (congrArg some (by kernel_rfl))
 f169:=Tryz.func52.trans (congrArg some (by kernel_rfl))
 f170:=Tryz.func49.trans (congrArg some (by kernel_rfl))
 f206:=Tryz.func194.trans (congrArg some (by kernel_rfl))
 f212:=Tryz.func164.trans (congrArg some (by kernel_rfl))
 f240:=Tryz.func92.trans (congrArg some (by kernel_rfl))
 f241:=Tryz.func195.trans (congrArg some (by kernel_rfl))
 f263:=Tryz.func192.trans (congrArg some (by kernel_rfl))
 f264:=Tryz.func193.trans (congrArg some (by kernel_rfl))
 f276:=Tryz.func133.trans (congrArg some (by kernel_rfl))
 f277:=Tryz.func219.trans (congrArg some (by kernel_rfl))
 t0:=Tryz.underlying0
 a0:=Tryz.isAgg0
 z0:=Tryz.sizeOf0
 v0:=Tryz.zeroValue0
 t3:=Tryz.underlying3
 a3:=Tryz.isAgg3
 z3:=Tryz.sizeOf3
 v3:=Tryz.zeroValue3
 t4:=Tryz.underlying4
 a4:=Tryz.isAgg4
 z4:=Tryz.sizeOf4
 v4:=Tryz.zeroValue4
 t5:=Tryz.underlying5
 a5:=Tryz.isAgg5
 z5:=Tryz.sizeOf5
 v5:=Tryz.zeroValue5
 t9:=Tryz.underlying9
 a9:=Tryz.isAgg9
 z9:=Tryz.sizeOf9
 v9:=Tryz.zeroValue9
 t20:=Tryz.underlying20
 a20:=Tryz.isAgg20
 z20:=Tryz.sizeOf20
 v20:=Tryz.zeroValue20
 t37:=Tryz.underlying98
 a37:=Tryz.isAgg98
 z37:=Tryz.sizeOf98
 v37:=Tryz.zeroValue98
 t46:=Tryz.underlying158
 a46:=Tryz.isAgg158
 z46:=Tryz.sizeOf158
 v46:=Tryz.zeroValue158
 t51:=Tryz.underlying192
 a51:=Tryz.isAgg192
 z51:=Tryz.sizeOf192
 v51:=Tryz.zeroValue192
 t53:=Tryz.underlying185
 a53:=Tryz.isAgg185
 z53:=Tryz.sizeOf185
 v53:=Tryz.zeroValue185
 t70:=Tryz.underlying97
 a70:=Tryz.isAgg97
 z70:=Tryz.sizeOf97
 v70:=Tryz.zeroValue97
 t72:=Tryz.underlying100
 a72:=Tryz.isAgg100
 z72:=Tryz.sizeOf100
 v72:=Tryz.zeroValue100
 t75:=Tryz.underlying102
 a75:=Tryz.isAgg102
 z75:=Tryz.sizeOf102
 v75:=Tryz.zeroValue102
 t76:=Tryz.underlying103
 a76:=Tryz.isAgg103
 z76:=Tryz.sizeOf103
 v76:=Tryz.zeroValue103
 t109:=Tryz.underlying223
 a109:=Tryz.isAgg223
 z109:=Tryz.sizeOf223
 v109:=Tryz.zeroValue223
 t127:=Tryz.underlying159
 a127:=Tryz.isAgg159
 z127:=Tryz.sizeOf159
 v127:=Tryz.zeroValue159
 t146:=Tryz.underlying250
 a146:=Tryz.isAgg250
 z146:=Tryz.sizeOf250
 v146:=Tryz.zeroValue250
 t148:=Tryz.underlying252
 a148:=Tryz.isAgg252
 z148:=Tryz.sizeOf252
 v148:=Tryz.zeroValue252
 t164:=Tryz.underlying197
 a164:=Tryz.isAgg197
 z164:=Tryz.sizeOf197
 v164:=Tryz.zeroValue197 }
theorem Tryz.Builder_Extra_105:Builder.Extra Tryz.prog Tryz.lays105_ren:={
 sizeBuilder:=by kernel_rfl
 liesBuilder:=by kernel_rfl
 t5:=Tryz.underlying5
 a5:=Tryz.isAgg5
 z5:=Tryz.sizeOf5
 v5:=Tryz.zeroValue5
 infoByte:=by kernel_rfl
 cellsByte:=by kernel_rfl
 sizeByte:=by kernel_rfl
 neB5:=by decide }
open Go.RowKit Go.Lib in
theorem Tryz.strings_Repeat (s:ByteArray) (c:Nat) (w:World) (hc:c ≤ 9223372036854775807) (hlen:s.size * c ≤ 140737488355328) :
  Calls Tryz.prog 120 #[.string s,.int .i64 c] w fun e w'=>e = .returned (.string ⟨(Lib.repeatL s.data.toList c).toArray⟩) ∧ Below w.heap.size w w':=Any.strings_Repeat Tryz.lays105 Tryz.Builder_Extra_105 s c w hc hlen
def Tryz.laysSlE041_f124_ren:Go.Shelf.Ren:=⟨fun | 41=>124 | n=>n,fun | 22=>38 | 23=>9 | 4=>4 | n=>n,fun | n=>n⟩
theorem Tryz.laysSlE041_f124:Go.Proofs.SlLaysE0.n41 Tryz.prog Tryz.laysSlE041_f124_ren:={
 mixed:=by kernel_rfl
 f41:=⟨Tryz.f124.name,by decide,Tryz.func124.trans (congrArg some (by kernel_rfl))⟩
 t4:=Tryz.underlying4
 a4:=Tryz.isAgg4
 z4:=Tryz.sizeOf4
 v4:=Tryz.zeroValue4
 t22:=Tryz.underlying38
 a22:=Tryz.isAgg38
 z22:=Tryz.sizeOf38
 v22:=Tryz.zeroValue38 }
open Go.RowKit Go.Lib in
theorem Tryz.slices_Clone_nil_f124 (n c:Nat) (w:World) :
  Calls Tryz.prog 124 #[.slice none n c] w fun e w'=>e = .returned (.slice none 0 0) ∧ w' = w:=AnyE.slices_Clone_nil Tryz.laysSlE041_f124 n c w
end Go.Proofs
namespace Go.Proofs.YtccnemmlkcmceaaGreatDoor
open Go.RowKit
structure Rst where
 s:Bs
 bad:Bool
def Rst.take (r:Rst) (n:Nat):Bs × Rst:=if r.s.length < n then (List.replicate n 0,⟨[],true⟩) else (r.s.take n,⟨r.s.drop n,r.bad⟩)
def RestAt (w:World) (p:Nat) (r:Rst):Prop:=Blk w p 155 #[.string (str r.s),.bool r.bad]
def On (p:Nat):Nat → Prop:=fun b=>b = p
theorem Rst.take_len (r:Rst) (n:Nat):(r.take n).1.length = n:=by
 unfold Rst.take;split
 ·simp
 ·rw [List.length_take];omega
theorem Rst.take_le (r:Rst) (n:Nat):(r.take n).2.s.length ≤ r.s.length:=by
 unfold Rst.take;split
 ·simp
 ·simp
theorem bytes_eq (a b:ByteArray) (h:a.data.toList = b.data.toList):a = b:=by
 cases a;cases b;simp at h;congr
theorem str_take (s:Bs) (n:Nat):(str s).extract 0 n = str (s.take n):=by
 refine bytes_eq _ _ ?_
 simp [str]
theorem str_drop (s:Bs) (n:Nat):(str s).extract n s.length = str (s.drop n):=by
 refine bytes_eq _ _ ?_
 simp [str]
 exact List.take_of_length_le (by simp)
theorem repeat0 (n:Nat):(⟨(Lib.repeatL [0] n).toArray⟩:ByteArray) = str (List.replicate n 0):=by
 refine bytes_eq _ _ ?_
 simp
 induction n with
 | zero=>rfl
 | succ n ih=>rw [Lib.repeatL,ih];rfl
theorem RestAt.lt {w:World} {p:Nat} {r:Rst} (h:RestAt w p r):p < w.heap.size:=Blk.lt h
theorem take_any (r:Rst) (n:Nat) (hn:n < 1000000) (hs:r.s.length < 1000000) (p:Nat) (w:World) (h:RestAt w p r) :
  Calls Tryz.prog 129 #[.pointer (some ⟨p,0,none⟩),.int .i64 (n:Int)] w fun e w'=>e = .returned (.string (str (r.take n).1)) ∧ RestAt w' p (r.take n).2 ∧ Ext (On p) w w':=by
 have c0:=h.cell 0
 have c1:=h.cell 1
 have f0:=h.frozen 0
 have f1:=h.frozen 1
 have bl:=h.lt
 simp at c0 c1
 have hsz:=str_size r.s
 by_cases hlt:r.s.length < n
 ·have e:r.take n = (List.replicate n 0,⟨[],true⟩):=by unfold Rst.take;rw [if_pos hlt]
  rw [e]
  clear e
  have HR:=Lib.hid (fun w=>Tryz.strings_Repeat ⟨#[0]⟩ n w (by omega) (by show 1 * n ≤ _;omega))
  have hlt':(r.s.length:Int) < n:=by omega
  go_enter Tryz.func129,Tryz.ntmps129
  go_wp2_with fail
  refine (HR.out _).mono ?_
  rintro e w1 ⟨rfl,hb⟩
  go_wp2_with fail
  go_ret
  have h2:RestAt ((w.setCell ⟨p,1,none⟩ (.bool true)).setCell ⟨p,0,none⟩ (.string (str []))) p ⟨[],true⟩:=(Blk.set_ (Blk.set_ h 1 (.bool true)) 0 (.string (str [])))
  refine ⟨by simp only;rw [← repeat0];rfl,Blk.ext h2 (Ext.of_below hb No) (fun h=>h),?_⟩
  have h3:Ext (On p) w ((w.setCell ⟨p,1,none⟩ (.bool true)).setCell ⟨p,0,none⟩ (.string (str []))):=Ext.setF (Ext.setF (Ext.refl (On p) w) (show On p p from rfl) _ _) (show On p p from rfl) _ _
  exact h3.trans_ (Ext.of_no (Ext.of_below hb No))
 ·have e:r.take n = (r.s.take n,⟨r.s.drop n,r.bad⟩):=by unfold Rst.take;rw [if_neg hlt]
  rw [e]
  clear e
  have hlt':¬ (r.s.length:Int) < n:=by omega
  go_enter Tryz.func129,Tryz.ntmps129
  go_wp2_with fail
  rw [str_take,str_drop]
  go_ret
  exact ⟨rfl,Blk.set_ h 0 _,Ext.setF (Ext.refl (On p) w) (show On p p from rfl) _ _⟩
def Rst.byte (r:Rst):Nat × Rst:=(((r.take 1).1.headD 0).toNat,(r.take 1).2)
def Rst.four (r:Rst):Nat × Rst:=(v4 (str (r.take 4).1),(r.take 4).2)
def Rst.text (r:Rst):Bs × Rst:=r.byte.2.take r.byte.1
def Rst.cell (r:Rst):Cell × Rst :=
 if r.text.2.byte.1 = 0 then (⟨r.text.1,r.text.2.byte.2.text.1,0,0⟩,r.text.2.byte.2.text.2)
 else if r.text.2.byte.1 = 1 then (⟨r.text.1,[],r.text.2.byte.2.four.2.four.1,r.text.2.byte.2.four.1⟩,⟨r.text.2.byte.2.four.2.four.2.s,r.text.2.byte.2.four.2.four.2.bad || decide (r.text.2.byte.2.four.2.four.1 = 0)⟩)
 else (⟨r.text.1,[],0,0⟩,⟨r.text.2.byte.2.s,true⟩)
theorem Rst.byte_lt (r:Rst):r.byte.1 < 256:=UInt8.toNat_lt _
theorem Rst.byte_le (r:Rst):r.byte.2.s.length ≤ r.s.length:=r.take_le 1
theorem Rst.four_lt (r:Rst):r.four.1 < 4294967296:=v4_lt _
theorem Rst.four_le (r:Rst):r.four.2.s.length ≤ r.s.length:=r.take_le 4
theorem Rst.text_len (r:Rst):r.text.1.length < 256:=by unfold Rst.text;rw [Rst.take_len];exact r.byte_lt
theorem Rst.text_le (r:Rst):r.text.2.s.length ≤ r.s.length:=Nat.le_trans (Rst.take_le _ _) r.byte_le
theorem Rst.cell_le (r:Rst):r.cell.2.s.length ≤ r.s.length:=by
 have h1:=r.text_le
 have h2:=r.text.2.byte_le
 unfold Rst.cell
 split
 ·have:=r.text.2.byte.2.text_le
  simp only;omega
 ·split
  ·have:=r.text.2.byte.2.four_le
   have:=r.text.2.byte.2.four.2.four_le
   simp only;omega
  ·simp only;omega
theorem byte_any (r:Rst) (hs:r.s.length < 1000000) (p:Nat) (w:World) (h:RestAt w p r) :
  Calls Tryz.prog 87 #[.pointer (some ⟨p,0,none⟩)] w fun e w'=>e = .returned (.int .i64 (r.byte.1:Int)) ∧ RestAt w' p r.byte.2 ∧ Ext (On p) w w':=by
 have HT:=Lib.hid (fun w h=>take_any r 1 (by omega) hs p w h)
 have hl:=r.take_len 1
 have HB:=Lib.hid r.byte_lt
 obtain ⟨s,hsx⟩:∃ s,str (r.take 1).1 = s:=⟨_,rfl⟩
 have hsl:s.size = 1:=by rw [← hsx];simp [hl]
 have hbt:bt s 0 = r.byte.1:=by
  rw [← hsx]
  match h:(r.take 1).1,hl with
  | [b],_=>simp [bt,Rst.byte,h]
 have i0:∀ w,(Instr.index 9 (.string s) (.int .i64 0)).run Tryz.prog w = .ok (.int .u8 (bt s 0:Int)) w:=fun w=>idx9 s 0 (by omega) w
 rw [hsx] at HT
 rw [hbt] at i0
 have HH:=Lib.hid (show r.byte.2 = (r.take 1).2 from rfl)
 clear hl hsx hbt hsl
 have hlt:=HB.out
 go_enter Tryz.func87,Tryz.ntmps87
 go_wp2_with fail
 refine (HT.out _ h).mono ?_
 rintro e w1 ⟨rfl,hr,hx⟩
 go_wp2_with fail
 go_ret
 exact ⟨rfl,by rw [HH.out];exact hr,hx⟩
theorem four_take (r:Rst) (hs:r.s.length < 1000000) (p:Nat) (w:World) (h:RestAt w p r) :
  Calls Tryz.prog 88 #[.pointer (some ⟨p,0,none⟩)] w fun e w'=>e = .returned (.int .i64 (r.four.1:Int)) ∧ RestAt w' p r.four.2 ∧ Ext (On p) w w':=by
 have HT:=Lib.hid (fun w h=>take_any r 4 (by omega) hs p w h)
 have hl:=r.take_len 4
 obtain ⟨s,hsx⟩:∃ s,str (r.take 4).1 = s:=⟨_,rfl⟩
 have hsl:s.size = 4:=by rw [← hsx];simp [hl]
 have HV:=Lib.hid (show r.four.1 = v4 s by rw [← hsx];rfl)
 have HV2:=Lib.hid (show r.four.2 = (r.take 4).2 from rfl)
 rw [hsx] at HT
 clear hl hsx
 have i0:∀ w,(Instr.index 9 (.string s) (.int .i64 0)).run Tryz.prog w = .ok (.int .u8 (bt s 0:Int)) w:=fun w=>idx9 s 0 (by omega) w
 have i1:∀ w,(Instr.index 9 (.string s) (.int .i64 1)).run Tryz.prog w = .ok (.int .u8 (bt s 1:Int)) w:=fun w=>idx9 s 1 (by omega) w
 have i2:∀ w,(Instr.index 9 (.string s) (.int .i64 2)).run Tryz.prog w = .ok (.int .u8 (bt s 2:Int)) w:=fun w=>idx9 s 2 (by omega) w
 have i3:∀ w,(Instr.index 9 (.string s) (.int .i64 3)).run Tryz.prog w = .ok (.int .u8 (bt s 3:Int)) w:=fun w=>idx9 s 3 (by omega) w
 have hor:=Lib.hid (or4 (bt s 0) (bt s 1) (bt s 2) (bt s 3) (bt_lt s 0) (bt_lt s 1) (bt_lt s 2) (bt_lt s 3))
 clear hsl
 go_enter Tryz.func88,Tryz.ntmps88
 go_wp2_with fail
 refine (HT.out _ h).mono ?_
 rintro e w1 ⟨rfl,hr,hx⟩
 go_wp2_with fail
 go_quiet (fail)
 go_wp2_with fail
 go_ret
 refine ⟨ret_int ?_,Blk.drewN (by rw [HV2.out];exact hr) _,hx.drewN _⟩
 rw [HV.out]
 simp only [← wrapEq];exact hor.out
theorem text_take (r:Rst) (hs:r.s.length < 1000000) (p:Nat) (w:World) (h:RestAt w p r) :
  Calls Tryz.prog 90 #[.pointer (some ⟨p,0,none⟩)] w fun e w'=>e = .returned (.string (str r.text.1)) ∧ RestAt w' p r.text.2 ∧ Ext (On p) w w':=by
 have h1:=r.byte_lt
 have h2:=r.byte_le
 have HB:=Lib.hid (fun w h=>byte_any r hs p w h)
 have HT:=Lib.hid (fun w h=>take_any r.byte.2 r.byte.1 (by omega) (by omega) p w h)
 clear h1 h2 
 go_enter Tryz.func90,Tryz.ntmps90
 go_wp2_with fail
 refine (HB.out _ h).mono ?_
 rintro e w1 ⟨rfl,hr,hx⟩
 go_wp2_with fail
 refine (HT.out _ hr).mono ?_
 rintro e w2 ⟨rfl,hr2,hx2⟩
 go_wp2_with fail
 go_ret
 exact ⟨rfl,hr2,hx.trans_ hx2⟩
end Go.Proofs.YtccnemmlkcmceaaGreatDoor
