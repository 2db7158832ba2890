/- Proofs about the given program, joined out of the texts JA, C3, V1, V2, ShelfI, I1. -/
import Derived.Test.YtccnemmlkcmceaaGreatDoorHC8
import Derived.Test.YtccnemmlkcmceaaGreatDoorHC11
import Derived.Test.YtccnemmlkcmceaaGreatDoorHC14
import Derived.Test.YtccnemmlkcmceaaGreatDoorHC17
import Derived.Deep.DeepCutAuto
import Derived.Deep.LoopGhost
import Derived.Shelf.Spec.SlicesInsert
import Derived.Shelf.Spec.SlicesInsertGrow
import Derived.Test.YtccnemmlkcmceaaGreatDoorProg
import Derived.Lib.RowBridge
set_option linter.unusedVariables false
set_option linter.unusedSimpArgs false
set_option maxRecDepth 100000
set_option maxHeartbeats 6400000
namespace Go.Proofs.YtccnemmlkcmceaaGreatDoor
open Go.RowKit
theorem cell_size_le {c:Cell} (h:c.ok = true):c.size ≤ 160:=by
 have hb:=Cell.ok_bounds h
 unfold Cell.ok at h
 split at h
 ·simp only [Bool.and_eq_true,decide_eq_true_eq] at h
  exact h.2
 ·rename_i h0
  unfold Cell.size
  rw [if_pos (by omega)]
  omega
theorem sumC_le {cs:List Cell} (h:∀ c ∈ cs,c.ok = true):sumC cs ≤ 160 * cs.length:=by
 induction cs with
 | nil=>simp [sumC]
 | cons c cs ih =>
  have h1:=ih (fun c hc=>h c (by simp [hc]))
  have h2:=cell_size_le (h c (by simp))
  simp only [sumC,List.map_cons,List.sum_cons,List.length_cons] at *
  omega
theorem sumK_le {ks:List Bs} (h:∀ c ∈ ks,keyOk c = true):sumK ks ≤ 145 * ks.length:=by
 induction ks with
 | nil=>simp [sumK]
 | cons c cs ih =>
  have h1:=ih (fun c hc=>h c (by simp [hc]))
  have h2:=keyOk_len (h c (by simp))
  simp only [sumK,List.map_cons,List.sum_cons,List.length_cons] at *
  omega
theorem long_all {n:Nd} (hok:n.ok = true) (hs:500 < n.size):2 + n.gap ≤ n.all:=by
 have hO:=Nd.Ok.of hok
 unfold Nd.size at hs
 unfold Nd.all Nd.gap
 cases hl:n.leaf
 ·have h1:=(hO.br hl).1
  have h2:=sumK_le hO.k
  rw [hl,h1] at hs
  simp [sumC] at hs ⊢
  omega
 ·have h1:=(hO.lf hl).1
  have h2:=sumC_le hO.c
  rw [hl,h1] at hs
  simp [sumK] at hs ⊢
  omega
theorem split_some {n:Nd} (hok:n.ok = true) (hs:500 < n.size):n.split = some (n.part 0 n.best,n.part (n.best + n.gap) n.all,n.mid n.best):=by
 unfold Nd.split
 rw [if_neg]
 rintro (h | h)
 ·rw [hok] at h;cases h
 ·have:=long_all hok hs;omega
theorem split_any (n:Nd) (w:World) (F:Nat → Prop) (a:Adr) (hn:NodeIn w F a n) (hok:n.ok = true) (hs:500 < n.size) :
  Calls Tryz.prog 143 #[n.value a.A1 a.c1 a.A2 a.c2 a.A3 a.c3] w (SplitTold w (some (n.part 0 n.best,n.part (n.best + n.gap) n.all,n.mid n.best))):=by
 have h:=long_all hok hs
 cases hl:n.leaf
 ·have e1:n.gap = 1:=by simp [Nd.gap,hl]
  have e2:n.all = n.keys.length:=by simp [Nd.all,hl]
  rw [e1,e2] at h ⊢
  exact split_branch n w F _ _ _ _ _ _ hn hok hl (by omega)
 ·have e1:n.gap = 0:=by simp [Nd.gap,hl]
  have e2:n.all = n.cells.length:=by simp [Nd.all,hl]
  rw [e1,e2] at h ⊢
  exact split_leaf n w F _ _ _ _ _ _ hn hok hl (by omega)
theorem wr_three {v:V} {id:Nat} {n:Nd} (h:(v.wr id n).1 = 3):n.ok = true ∧ 500 < n.size ∧ (v.wr id n).2 = v:=by
 have hset:∀ b,(v.set id 2 b).1 ≠ 3:=by
  intro b
  unfold V.set
  split
  ·simp
  ·show v.err id ≠ 3
   unfold V.err
   split
   ·simp
   ·split <;> simp
 by_cases h1:n.ok = true
 ·by_cases h2:500 < n.size
  ·have e:n.out = ([],3):=by unfold Nd.out;rw [if_neg (by simp [h1]),if_pos h2]
   refine ⟨h1,h2,?_⟩
   unfold V.wr
   rw [e];simp
  ·have e:n.out = (n.enc,0):=by unfold Nd.out;rw [if_neg (by simp [h1]),if_neg h2]
   unfold V.wr at h
   rw [e] at h
   exact absurd h (by simpa using hset n.enc)
 ·have e:n.out = ([],2):=by unfold Nd.out;rw [if_pos (by simpa using h1)]
  unfold V.wr at h
  rw [e] at h
  simp at h
theorem wr_zero {v:V} {id:Nat} {n:Nd} (h:(v.wr id n).1 = 0):v.err id = 0:=by
 unfold V.wr at h
 split at h
 ·unfold V.set at h
  split at h
  ·assumption
  ·exact h
 ·rename_i h0;exact absurd h h0
theorem two_node {w:World} {F:Nat → Prop} {b1 b2 x y:Nat} {key:Bs} (h1:Blk w b1 9 #[.string (str key)]) (h2:Blk w b2 3 #[.int .i64 (x:Int),.int .i64 (y:Int)]) (hb1:¬ F b1) (hb2:¬ F b2) :
  NodeAt w F none 0 (some ⟨b1,0,none⟩) 1 (some ⟨b2,0,none⟩) 2 ⟨false,[],[key],[x,y]⟩:=by
 refine ⟨Rd.nil_ _,⟨rfl,fun _=>⟨b1,0,rfl,hb1,fun j u hu=>?_⟩⟩,⟨rfl,fun _=>⟨b2,0,rfl,hb2,fun j u hu=>?_⟩⟩,by simp,by simp,by simp,by simp,by simp,by simp,fun _=>rfl,fun h=>by simp at h,fun h=>by simp at h⟩
 ·rw [Nat.zero_add,h1.cell]
  match j,hu with
  | 0,hu=>simpa [keyVals] using hu
  | j + 1,hu=>simp [keyVals] at hu
 ·rw [Nat.zero_add,h2.cell]
  match j,hu with
  | 0,hu=>simpa [kidVals] using hu
  | 1,hu=>simpa [kidVals] using hu
  | j + 2,hu=>simp [kidVals] at hu
theorem mid_len {n:Nd} (h:n.ok = true) {k:Nat}:(n.mid k).length < 65536:=by
 have hO:=Nd.Ok.of h
 unfold Nd.mid
 split
 ·rw [List.getD_eq_getElem?_getD]
  cases hc:(n.cells.map Cell.key)[k]? with
  | none=>simp
  | some x =>
   obtain ⟨c,h1,h2⟩:=List.mem_map.1 (List.mem_of_getElem? hc)
   have:=Cell.ok_bounds (hO.c c h1)
   rw [h2] at this
   simp;omega
 ·rw [List.getD_eq_getElem?_getD]
  cases hc:n.keys[k]? with
  | none=>simp
  | some x =>
   have:=keyOk_len (hO.k x (List.mem_of_getElem? hc))
   simp;omega
theorem TxAt.local_ {w1 w2:World} {s:Sys} {v:V} {G:Nat → Prop} (h:TxAt w1 s v) (hx:Ext G w1 w2) (h1:¬ G s.t) (h2:¬ G s.m) (hdb:s.db w2):TxAt w2 s v:=by
 obtain ⟨ov,hm,k1,k2⟩:=h.mp
 exact ⟨h.tx.ext hx h1,hdb,h.h1,h.h2,h.hb,h.hc,ov,hm.ext hx h2,k1,k2⟩
theorem keyVals_ins (ks:List Bs) (i:Nat) (k:Bs) (hi:i ≤ ks.length):keyVals (ks.insertIdx i k) = (keyVals ks).take i ++ .string (str k) :: (keyVals ks).drop i:=by
 unfold keyVals
 induction ks generalizing i with
 | nil =>
  have:i = 0:=by simpa using hi
  subst this;rfl
 | cons a ks ih =>
  cases i with
  | zero=>rfl
  | succ i =>
   have:=ih i (by simpa using hi)
   simp only [List.insertIdx_succ_cons,List.map_cons,List.take_succ_cons,List.drop_succ_cons,List.cons_append,this]
theorem kidVals_ins (ks:List Nat) (i:Nat) (k:Nat) (hi:i ≤ ks.length):kidVals (ks.insertIdx i k) = (kidVals ks).take i ++ .int .i64 (k:Int) :: (kidVals ks).drop i:=by
 unfold kidVals
 induction ks generalizing i with
 | nil =>
  have:i = 0:=by simpa using hi
  subst this;rfl
 | cons a ks ih =>
  cases i with
  | zero=>rfl
  | succ i =>
   have:=ih i (by simpa using hi)
   simp only [List.insertIdx_succ_cons,List.map_cons,List.take_succ_cons,List.drop_succ_cons,List.cons_append,this]
def acVals (l:List Ac):List Value:=l.flatMap Ac.vals
theorem acVals_cons (a:Ac) (l:List Ac):acVals (a :: l) = a.vals ++ acVals l:=rfl
theorem acVals_len (l:List Ac):(acVals l).length = l.length * 4:=by
 induction l with
 | nil=>rfl
 | cons a l ih=>rw [acVals_cons,List.length_append,ih];simp [Ac.vals];omega
theorem acVals_at:∀ (l:List Ac) (i:Nat) (a:Ac),l[i]? = some a → ∀ j u,a.vals[j]? = some u → (acVals l)[i * 4 + j]? = some u
 | d :: l,0,a,h,j,u,hu=>by
  have:d = a:=by simpa using h
  subst this
  rw [acVals_cons,List.getElem?_append_left (by simpa using (List.getElem?_eq_some_iff.1 hu).1)]
  simpa using hu
 | d :: l,i + 1,a,h,j,u,hu=>by
  have h':l[i]? = some a:=by simpa using h
  rw [acVals_cons,List.getElem?_append_right (by simp [Ac.vals];omega)]
  have:=acVals_at l i a h' j u hu
  rw [show (i + 1) * 4 + j - d.vals.length = i * 4 + j by simp [Ac.vals];omega]
  exact this
theorem Rd.acAt {w:World} {F:Nat → Prop} {A:Option Addr} {l:List Ac} (h:Rd w F 4 A l.length (acVals l)) {i:Nat} {a:Ac} (hc:l[i]? = some a) :
  ∃ b o,A = some ⟨b,o,none⟩ ∧ ¬ F b ∧ w.cell? ⟨b,o + i * 4,none⟩ = some (.int .i64 a.kind) ∧ w.cell? ⟨b,o + i * 4 + 1,none⟩ = some (.int .i64 a.n) ∧ w.cell? ⟨b,o + i * 4 + 2,none⟩ = some (.string (str a.key)) ∧ w.cell? ⟨b,o + i * 4 + 3,none⟩ = some (.string (str a.val)):=by
 have hi:i < l.length:=(List.getElem?_eq_some_iff.1 hc).1
 obtain ⟨b,o,e1,hb,hx⟩:=h.2 (by omega)
 have hv:=acVals_at l i a hc
 refine ⟨b,o,e1,hb,hx _ _ (hv 0 _ rfl),?_,?_,?_⟩
 ·have:=hx _ _ (hv 1 _ rfl);rw [← Nat.add_assoc] at this;exact this
 ·have:=hx _ _ (hv 2 _ rfl);rw [← Nat.add_assoc] at this;exact this
 ·have:=hx _ _ (hv 3 _ rfl);rw [← Nat.add_assoc] at this;exact this
def Ac.fits (a:Ac):Prop:=(-(2:Int)^63 ≤ a.n ∧ a.n < 2^63) ∧ a.val.length < 2^63 ∧ a.key.length < 2^63
structure FillAt (s:Sys) (w wr:World) (v v':V) (i:Nat) (X P0 P':List Nat) (E E':List Ent) (A':Option Addr) (c':Nat):Prop where
 tx:TxAt wr s v'
 one:One s.cap v' i X P' E
 tr:Tr (· = i) v v' P0 P'
 bm:Blk wr (w.heap.size + 1) 32 #[.slice A' E'.length c']
 ra:RefAt wr (Lo (w.heap.size + 2)) A' c' E'
 br:Blk wr w.heap.size 32 #[.slice none 0 0]
 ex:Ext s.F w wr
 st:V.Steps s.cap v v'
structure Filled (s:Sys) (w:World) (v:V) (i:Nat) (X P0:List Nat) (E:List Ent) (e:Ending) (w':World):Prop where
 r:∃ v' P' A' c',e = .returned (.tuple #[.agg #[.slice A' E.length c'],.bool true]) ∧ TxAt w' s v' ∧ One s.cap v' i X P' E ∧ Tr (· = i) v v' P0 P' ∧ RefAt w' (Lo w.heap.size) A' c' E ∧ V.Steps s.cap v v'
 x:Ext s.F w w'
def Tryz.lays166_ren:Go.Shelf.Ren:=⟨fun | 166=>51 | 240=>92 | 276=>133 | n=>n,fun | 0=>0 | 3=>3 | 4=>4 | 9=>9 | 20=>20 | 37=>98 | 5=>5 | 70=>97 | 72=>100 | 75=>102 | 80=>105 | 164=>197 | n=>n,fun | n=>n⟩
theorem Tryz.lays166:Go.Proofs.Lays.n166 Tryz.prog Tryz.lays166_ren:={
 mixed:=by kernel_rfl
 f166:=Tryz.func51.trans (congrArg some (by kernel_rfl))
 f240:=Tryz.func92.trans (congrArg some (by kernel_rfl))
 f276:=Tryz.func133.trans (congrArg some (by kernel_rfl))
 t0:=Tryz.underlying0
 a0:=Tryz.isAgg0
 z0:=Tryz.sizeOf0
 v0:=Tryz.zeroValue0
 t3:=Tryz.underlying3
 a3:=Tryz.isAgg3
 z3:=Tryz.sizeOf3
 v3:=Tryz.zeroValue3
 t4:=Tryz.underlying4
 a4:=Tryz.isAgg4
 z4:=Tryz.sizeOf4
 v4:=Tryz.zeroValue4
 t9:=Tryz.underlying9
 a9:=Tryz.isAgg9
 z9:=Tryz.sizeOf9
 v9:=Tryz.zeroValue9
 t20:=Tryz.underlying20
 a20:=Tryz.isAgg20
 z20:=Tryz.sizeOf20
 v20:=Tryz.zeroValue20
 t37:=Tryz.underlying98
 a37:=Tryz.isAgg98
 z37:=Tryz.sizeOf98
 v37:=Tryz.zeroValue98
 t70:=Tryz.underlying97
 a70:=Tryz.isAgg97
 z70:=Tryz.sizeOf97
 v70:=Tryz.zeroValue97
 t72:=Tryz.underlying100
 a72:=Tryz.isAgg100
 z72:=Tryz.sizeOf100
 v72:=Tryz.zeroValue100
 t75:=Tryz.underlying102
 a75:=Tryz.isAgg102
 z75:=Tryz.sizeOf102
 v75:=Tryz.zeroValue102
 t164:=Tryz.underlying197
 a164:=Tryz.isAgg197
 z164:=Tryz.sizeOf197
 v164:=Tryz.zeroValue197 }
theorem Tryz.Builder_Extra_166:Go.Proofs.Builder.Extra Tryz.prog Tryz.lays166_ren:={
 sizeBuilder:=by kernel_rfl
 liesBuilder:=by kernel_rfl
 t5:=Tryz.underlying5
 a5:=Tryz.isAgg5
 z5:=Tryz.sizeOf5
 v5:=Tryz.zeroValue5
 infoByte:=by kernel_rfl
 cellsByte:=by kernel_rfl
 sizeByte:=by kernel_rfl
 neB5:=by decide }
theorem Tryz.Builder_WriteString (B b:Nat) (bs:List Value) (s:ByteArray) (w:World) (h:Lib.IsBuilder 100 5 B b bs w) (hlen:bs.length + s.size ≤ 140737488355328) (hBw:B ≤ w.heap.size) :
  Calls Tryz.prog 51 #[.pointer (some ⟨b,0,none⟩),.string s] w fun e w'=>e = .returned (.tuple #[.int .i64 s.size,.nilIface]) ∧ (Lib.BuilderAt 100 5 B b (.pointer (some ⟨b,0,none⟩)) (bs ++ Lib.strCells s) w' ∧ Below B w w') :=
 Go.Proofs.Any.Builder_WriteString Tryz.lays166 Tryz.Builder_Extra_166 B b bs s w h hlen hBw
theorem isb_ext {B b:Nat} {bs:List Value} {w w':World} (h:Lib.IsBuilder 100 5 B b bs w) (hx:Ext No w w'):Lib.IsBuilder 100 5 B b bs w':=by
 have key:∀ p,Lib.BuilderAt 100 5 B b p bs w → Lib.BuilderAt 100 5 B b p bs w':=fun p ⟨hB,v,hb,ho,hn⟩=>by
  have hlt:b < w.heap.size:=by
   rcases Nat.lt_or_ge b w.heap.size with h' | h'
   ·exact h'
   ·simp [Array.getElem?_eq_none h'] at hb
  exact ⟨hB,v,(hx.block b hlt (fun h=>h)).trans hb,own_ext ho hx (fun _ _ h=>h),hn⟩
 exact h.imp (key _) (key _)
theorem ext_below {w0 w w':World} {B:Nat} (h:Ext No w0 w) (hb:Below B w w') (hB:w0.heap.size ≤ B):Ext No w0 w' :=
 ⟨hb.os.trans h.os,hb.tape.trans h.tape,hb.output.trans h.output,Nat.le_trans h.size hb.size,fun i hi hn=>(hb.block i (Nat.lt_of_lt_of_le hi hB)).trans (h.block i hi hn)⟩
theorem V.link_len {v:V} (hg:v.Good) {id n:Nat} {b:Bs} (h:v.link id = some (n,b)):1 ≤ b.length ∧ b.length ≤ 500:=by
 unfold V.link at h
 split at h
 ·rename_i he
  have:=V.good_bd hg he
  split at h
  ·rename_i hk
   injection h with h;injection h with h1 h2
   rw [← h2,List.length_drop]
   omega
  ·cases h
 ·cases h
theorem value_any' (s:Sys) (hs:s.Ok) (v:V) (hg:v.Good) (c:Cell) (hcf:c.fits):ValueOk s v c:=by
 by_cases hc:c.over = 0
 ·exact value_small s v c hc
 intro w gx i h hx
 have HN:=Lib.hid (fun o=>none_no ⟨s.t,0,none⟩ (.int .i64 (i:Int)) gx (w.alloc o) (hx.alloc o))
 have HL:=Lib.hid (fun w' (e:Ext No w w') id=>link_any s hs w' v (h.no hs e) gx i (hx.ext e (fun h=>h)) id)
 have HG:=Lib.hid (fun id n b (h:v.link id = some (n,b))=>V.link_len hg h)
 have hlen:c.len < 4294967296:=hcf.2.2.2
 obtain ⟨D,hD⟩:∃ D,D = v.value c:=⟨_,rfl⟩
 rw [← hD]
 unfold V.value at hD
 rw [if_neg hc] at hD
 have HD:=Lib.hid hD
 have hov:¬ ((c.over:Int) ≤ 0):=by omega
 clear h hg hx hD hcf
 simp only [Cell.agg]
 go_enter Tryz.func17,Tryz.ntmps17
 go_wp2_with fail
 refine (HN.out _).mono ?_
 rintro e' w1 ⟨rfl,rfl⟩
 go_wp2_with fail
 obtain ⟨W0,hW0⟩:∃ W0,W0 = ((w.alloc (.cells #[.string (str c.key),.string (str c.val),.int .i64 (c.over:Int),.int .i64 (c.len:Int)] 45)).alloc (.cells #[.pointer none,.slice none 0 0] 100)):=⟨_,rfl⟩
 have hE0:Ext No w W0:=by rw [hW0];exact ((Ext.refl No w).alloc _).alloc _
 have hbc:Blk W0 w.heap.size 45 #[.string (str c.key),.string (str c.val),.int .i64 (c.over:Int),.int .i64 (c.len:Int)]:=by rw [hW0];exact (Blk.new w 45 _).alloc _
 have hib:Lib.IsBuilder 100 5 (w.heap.size + 1) (w.heap.size + 1) (Lib.byteCells []) W0:=by
  refine .inl ⟨Nat.le_refl _,.slice none 0 0,?_,World.ownsRow_nil _ _ _ _,by simp [Value.ownBlock]⟩
  rw [hW0]
  exact Blk.new_at (b:=w.heap.size + 1) (w.alloc _) 100 _ (by simp)
 rw [← hW0]
 have HBC:=Lib.hid hbc
 clear hW0 hbc
 go_loopg [7] (c.len + 2) (fun gk id wr=>∃ (ID:Nat) (b:Bs),id = .int .i64 (ID:Int) ∧ Lib.IsBuilder 100 5 (w.heap.size + 1) (w.heap.size + 1) (Lib.byteCells b) wr ∧ Blk wr w.heap.size 45 #[.string (str c.key),.string (str c.val),.int .i64 (c.over:Int),.int .i64 (c.len:Int)] ∧
  Hid (c.len + 2 ≤ gk + b.length) ∧ Hid (b.length ≤ c.len + 500) ∧ Hid (v.valLoop c.len gk ID b = v.valLoop c.len (c.len + 2) c.over []) ∧ Ext No w wr)
 case atStart=>exact ⟨c.over,[],rfl,hib,HBC.out,Lib.hid (by simp),Lib.hid (by simp),Lib.hid rfl,hE0⟩
 case round =>
  clear hib hE0 HBC
  obtain ⟨ID,b,rfl,hib,hbc,hm,hbl,hd,hE⟩:=hrel
  have HIB:=Lib.hid hib;have HBC:=Lib.hid hbc;have HE:=Lib.hid hE
  have hlb:∀ w',Ext No wr w' → Calls Tryz.prog 49 #[.pointer (some ⟨w.heap.size + 1,0,none⟩)] w' fun e w''=>e = .returned (.int .i64 (b.length:Int)) ∧ w'' = w':=fun w' e=>by
   have:=Tryz.Builder_Len _ _ _ w' (isb_ext HIB.out e)
   rw [Lib.byteCells_length] at this
   exact this
  have HLB:=Lib.hid hlb
  have y3:=hbc.cell 3
  have yl:=hbc.lt
  simp at y3
  have HBL:=Lib.hid hbl.out
  clear hlb hib hbc hE
  by_cases hex:ID = 0 ∨ c.len < b.length
  ·have hd':v.valLoop c.len gk ID b = some b:=by
    cases gk with
    | zero=>rfl
    | succ j=>rw [V.valLoop,if_pos hex]
   have hDD:=HD.out
   rw [← hd.out,hd'] at hDD
   simp only at hDD
   have HDD:=Lib.hid hDD
   clear hd hd' HD hDD
   by_cases hz:ID = 0
   ·subst hz
    clear hex
    go_wp2_with fail
    go_quiet (fail)
    go_wp2_with fail
    have hq:Ext No wr (wr.drewN nq):=(Ext.refl No wr).drewN nq
    generalize wr.drewN nq = wq at hq ⊢
    have y3q:=cell_ext hq y3 (fun h=>h)
    have ylq:w.heap.size < wq.heap.size:=Nat.lt_of_lt_of_le yl hq.size
    have HQ:=Lib.hid hq
    clear hq
    by_cases hbe:b.length = c.len
    ·have HST:=Lib.hid (fun w' (e:Ext No wr w')=>Tryz.Builder_String_any (w.heap.size + 1) (w.heap.size + 1) b w' (isb_ext HIB.out e) (Nat.le_trans (Nat.succ_le_of_lt yl) e.size))
     have hDD:=HDD.out
     rw [if_pos hbe] at hDD
     have HD2:=Lib.hid hDD
     have HBE:=Lib.hid hbe
     have hne:((b.length:Int) != (c.len:Int)) = false:=by simp [hbe]
     clear hbe hDD
     go_quiet ((go_at_call 49;exact Calls.quiet_of_same ((HLB.out _ (by exact HQ.out.drewN _)).mono fun _ _ ⟨h1,h2⟩=>⟨h1,h2⟩)))
     go_wp2_with fail
     refine (HST.out _ (HQ.out.drewN _)).mono ?_
     rintro e w5 ⟨rfl,hb5⟩
     have HB5:=Lib.hid hb5
     clear hb5
     go_wp2_with fail
     go_ret2
     rw [HD2.out]
     exact ⟨rfl,ext_below ((HE.out.trans_ HQ.out).drewN _) HB5.out (Nat.le_succ _)⟩
    ·have hDD:=HDD.out
     rw [if_neg hbe] at hDD
     have HD2:=Lib.hid hDD
     have hne:((b.length:Int) != (c.len:Int)) = true:=by simpa using (by omega:¬ (b.length:Int) = c.len)
     have hne':¬ ((b.length:Int) = (c.len:Int)):=by omega
     clear hbe hDD
     go_quiet ((go_at_call 49;exact Calls.quiet_of_same ((HLB.out _ (by exact HQ.out.drewN _)).mono fun _ _ ⟨h1,h2⟩=>⟨h1,h2⟩)))
     go_wp2_with fail
     go_ret2
     rw [HD2.out]
     exact ⟨rfl,(HE.out.trans_ HQ.out).drewN _⟩
   ·have hlt:¬ ((b.length:Int) ≤ (c.len:Int)):=by rcases hex with h | h;exact absurd h hz;omega
    have hlt2:decide ((b.length:Int) ≤ (c.len:Int)) = false:=by simpa using hlt
    have hi0:((ID:Int) != 0) = true:=by simpa using (by omega:¬ (ID:Int) = 0)
    clear hex hz
    go_wp2_with fail
    go_quiet ((go_at_call 49;exact Calls.quiet_of_same ((HLB.out _ (by exact (Ext.refl No wr).drewN _)).mono fun _ _ ⟨h1,h2⟩=>⟨h1,h2⟩)))
    go_wp2_with fail
    have hq:Ext No wr (wr.drewN nq):=(Ext.refl No wr).drewN nq
    generalize wr.drewN nq = wq at hq ⊢
    have y3q:=cell_ext hq y3 (fun h=>h)
    have ylq:w.heap.size < wq.heap.size:=Nat.lt_of_lt_of_le yl hq.size
    have HQ:=Lib.hid hq
    clear hq
    by_cases hbe:b.length = c.len
    ·have HST:=Lib.hid (fun w' (e:Ext No wr w')=>Tryz.Builder_String_any (w.heap.size + 1) (w.heap.size + 1) b w' (isb_ext HIB.out e) (Nat.le_trans (Nat.succ_le_of_lt yl) e.size))
     have hDD:=HDD.out
     rw [if_pos hbe] at hDD
     have HD2:=Lib.hid hDD
     have HBE:=Lib.hid hbe
     have hne:((b.length:Int) != (c.len:Int)) = false:=by simp [hbe]
     clear hbe hDD
     go_quiet ((go_at_call 49;exact Calls.quiet_of_same ((HLB.out _ (by exact HQ.out.drewN _)).mono fun _ _ ⟨h1,h2⟩=>⟨h1,h2⟩)))
     go_wp2_with fail
     refine (HST.out _ (HQ.out.drewN _)).mono ?_
     rintro e w5 ⟨rfl,hb5⟩
     have HB5:=Lib.hid hb5
     clear hb5
     go_wp2_with fail
     go_ret2
     rw [HD2.out]
     exact ⟨rfl,ext_below ((HE.out.trans_ HQ.out).drewN _) HB5.out (Nat.le_succ _)⟩
    ·have hDD:=HDD.out
     rw [if_neg hbe] at hDD
     have HD2:=Lib.hid hDD
     have hne:((b.length:Int) != (c.len:Int)) = true:=by simpa using (by omega:¬ (b.length:Int) = c.len)
     have hne':¬ ((b.length:Int) = (c.len:Int)):=by omega
     clear hbe hDD
     go_quiet ((go_at_call 49;exact Calls.quiet_of_same ((HLB.out _ (by exact HQ.out.drewN _)).mono fun _ _ ⟨h1,h2⟩=>⟨h1,h2⟩)))
     go_wp2_with fail
     go_ret2
     rw [HD2.out]
     exact ⟨rfl,(HE.out.trans_ HQ.out).drewN _⟩
  ·obtain ⟨j,hj⟩:∃ j,gk = j + 1:=⟨gk - 1,by have:=hm.out;omega⟩
   have hi0:((ID:Int) != 0) = true:=by simpa using (by omega:¬ (ID:Int) = 0)
   have hle:decide ((b.length:Int) ≤ (c.len:Int)) = true:=by simp;omega
   have hle':(b.length:Int) ≤ (c.len:Int):=by omega
   have HEX:=Lib.hid hex
   have hdd:=hd.out
   rw [hj,V.valLoop,if_neg hex] at hdd
   have HJ:=Lib.hid hj
   have HLK:=Lib.hid (fun w' (e:Ext No w w')=>HL.out w' e ID)
   cases hl:v.link ID with
   | none =>
    rw [hl] at HLK hdd
    simp only [linkOut] at HLK
    have hDD:=HD.out
    rw [← hdd] at hDD
    have HDD:=Lib.hid hDD
    clear hd hdd hDD HD hex hj hl
    go_wp2_with fail
    go_quiet ((go_at_call 49;exact Calls.quiet_of_same ((HLB.out _ (by exact (Ext.refl No wr).drewN _)).mono fun _ _ ⟨h1,h2⟩=>⟨h1,h2⟩)))
    go_wp2_with fail
    refine (HLK.out _ (HE.out.drewN _)).mono ?_
    rintro e w5 ⟨rfl,hx5⟩
    go_wp2_with fail
    go_ret2
    rw [HDD.out]
    exact ⟨rfl,(HE.out.drewN _).trans_ hx5⟩
   | some r =>
    obtain ⟨nx,sb⟩:=r
    rw [hl] at HLK hdd
    simp only [linkOut] at HLK
    simp only at hdd
    obtain ⟨hs1,hs5⟩:=HG.out ID nx sb hl
    have HDD:=Lib.hid hdd
    have HS1:=Lib.hid hs1;have HS5:=Lib.hid hs5
    have HWS:=Lib.hid (fun w' (e:Ext No wr w')=>Tryz.Builder_WriteString (w.heap.size + 1) (w.heap.size + 1) (Lib.byteCells b) (str sb) w' (isb_ext HIB.out e) (by rw [Lib.byteCells_length,str_size];have:=HBL.out;omega) (Nat.le_trans (Nat.succ_le_of_lt yl) e.size))
    have HM:=Lib.hid hm.out
    clear hd hdd hex hj hl hs1 hs5 hm hbl
    go_wp2_with fail
    go_quiet ((go_at_call 49;exact Calls.quiet_of_same ((HLB.out _ (by exact (Ext.refl No wr).drewN _)).mono fun _ _ ⟨h1,h2⟩=>⟨h1,h2⟩)))
    go_wp2_with fail
    refine (HLK.out _ (HE.out.drewN _)).mono ?_
    rintro e w5 ⟨rfl,hx5⟩
    have HX5:=Lib.hid (((Ext.refl No wr).drewN _).trans_ hx5)
    clear hx5
    go_wp2_with fail
    refine (HWS.out _ HX5.out).mono ?_
    rintro e w6 ⟨rfl,hba,hb6⟩
    have HBA:=Lib.hid hba;have HB6:=Lib.hid hb6
    clear hba hb6
    go_wp2_with fail
    go_roundg j
    case rel =>
     refine ⟨nx,b ++ sb,rfl,.inr ?_,?_,Lib.hid ?_,Lib.hid ?_,Lib.hid ?_,?_⟩
     ·have h1:=HBA.out
      have e1:Lib.byteCells (b ++ sb) = Lib.byteCells b ++ Lib.strCells (str sb):=by simp [Lib.byteCells,Lib.strCells]
      rw [e1]
      exact h1
     ·have h1:=HBC.out.ext HX5.out (fun h=>h)
      exact (HB6.out.block w.heap.size (Nat.lt_succ_self _)).trans h1
     ·have:=HM.out;have:=HJ.out;have:=HS1.out;rw [List.length_append];omega
     ·have:=HS5.out;have h3:=HEX.out;rw [List.length_append];omega
     ·exact HDD.out
     ·exact ext_below (HE.out.trans_ HX5.out) HB6.out (Nat.le_succ _)
    case measure=>have:=HJ.out;omega
end Go.Proofs.YtccnemmlkcmceaaGreatDoor
namespace Go.Proofs
open Go.Shelf
def Tryz.laysNm222_ren:Go.Shelf.Ren:=⟨fun | 22=>144 | 29=>183 | 30=>184 | 36=>205 | 17=>223 | n=>n,fun | 24=>38 | 9=>9 | 3=>3 | 4=>4 | 0=>0 | n=>n,fun | n=>n⟩
theorem Tryz.laysNm222:Go.Proofs.Lays2.n22 Tryz.prog Tryz.laysNm222_ren:={
 mixed:=by kernel_rfl
 f17:=Tryz.func223.trans (congrArg some (by kernel_rfl))
 f22:=Tryz.func144.trans (congrArg some (by kernel_rfl))
 f29:=Tryz.func183.trans (congrArg some (by kernel_rfl))
 f30:=Tryz.func184.trans (congrArg some (by kernel_rfl))
 f36:=Tryz.func205.trans (congrArg some (by kernel_rfl))
 t0:=Tryz.underlying0
 a0:=Tryz.isAgg0
 z0:=Tryz.sizeOf0
 v0:=Tryz.zeroValue0
 t3:=Tryz.underlying3
 a3:=Tryz.isAgg3
 z3:=Tryz.sizeOf3
 v3:=Tryz.zeroValue3
 t4:=Tryz.underlying4
 a4:=Tryz.isAgg4
 z4:=Tryz.sizeOf4
 v4:=Tryz.zeroValue4
 t9:=Tryz.underlying9
 a9:=Tryz.isAgg9
 z9:=Tryz.sizeOf9
 v9:=Tryz.zeroValue9
 t24:=Tryz.underlying38
 a24:=Tryz.isAgg38
 z24:=Tryz.sizeOf38
 v24:=Tryz.zeroValue38
 i9:=by kernel_rfl }
def Tryz.laysNm221_ren:Go.Shelf.Ren:=⟨fun | 21=>145 | 27=>185 | 28=>186 | 35=>206 | 39=>224 | n=>n,fun | 22=>35 | 3=>3 | 4=>4 | 0=>0 | n=>n,fun | n=>n⟩
theorem Tryz.laysNm221:Go.Proofs.Lays2.n21 Tryz.prog Tryz.laysNm221_ren:={
 mixed:=by kernel_rfl
 f21:=Tryz.func145.trans (congrArg some (by kernel_rfl))
 f27:=Tryz.func185.trans (congrArg some (by kernel_rfl))
 f28:=Tryz.func186.trans (congrArg some (by kernel_rfl))
 f35:=Tryz.func206.trans (congrArg some (by kernel_rfl))
 f39:=Tryz.func224.trans (congrArg some (by kernel_rfl))
 t0:=Tryz.underlying0
 a0:=Tryz.isAgg0
 z0:=Tryz.sizeOf0
 v0:=Tryz.zeroValue0
 t3:=Tryz.underlying3
 a3:=Tryz.isAgg3
 z3:=Tryz.sizeOf3
 v3:=Tryz.zeroValue3
 t4:=Tryz.underlying4
 a4:=Tryz.isAgg4
 z4:=Tryz.sizeOf4
 v4:=Tryz.zeroValue4
 t22:=Tryz.underlying35
 a22:=Tryz.isAgg35
 z22:=Tryz.sizeOf35
 v22:=Tryz.zeroValue35
 i3:=by kernel_rfl }
end Go.Proofs
namespace Go.Proofs.YtccnemmlkcmceaaGreatDoor
open Go.RowKit
def Rowed (base:Nat) (v:Value) (w:World) (xs:List Value) (n:Nat) (e:Ending) (w':World):Prop :=
 ∃ A c,e = .returned (.slice A n c) ∧ Rd w' (Lo base) 1 A n xs ∧ n ≤ c ∧ (A = none → c = 0) ∧ Ext (fun b=>v.ownBlock = some b) w w'
theorem Ext.setCells {F:Nat → Prop} {b:Nat}:∀ (vs:List Value) (o:Nat) {w w':World},Ext F w w' → (F b ∨ w.heap.size ≤ b) → Ext F w (w'.setCells b o vs)
 | [],_,_,_,h,_=>h
 | v :: r,o,_,_,h,hb=>Ext.setCells r (o + 1) (h.setCell (p:=⟨b,o,none⟩) hb v) hb
theorem own_cell {w:World} {base:Nat} {e:TypeId} {g cap n:Nat} {xs:List Value} {cur:Array Value} (hg:w.heap[g]? = some (.cells cur e (0,0))) (hs:cur.size = cap * 1) (ht:cur.toList.take (n * 1) = xs) :
  (∀ j v,xs[j]? = some v → w.cell? ⟨g,0 + j,none⟩ = some v) ∧ (∀ j,j < cap → (w.cell? ⟨g,0 + j,none⟩).isSome = true) ∧ ∀ j,w.frozen? ⟨g,0 + j,none⟩ = false:=by
 have hb:Blk w g e cur:=hg
 refine ⟨fun j v hj=>?_,fun j hj=>?_,fun j=>hb.frozen _⟩
 ·rw [Nat.zero_add,hb.cell,← Array.getElem?_toList]
  rw [← ht,List.getElem?_take] at hj
  split at hj
  ·exact hj
  ·cases hj
 ·rw [Nat.zero_add,hb.cell,Array.getElem?_eq_getElem (by omega)]
  rfl
theorem shift_cells (w:World) (b i n:Nat) (xs:List Value) (u:Value) (hl:xs.length = n) (hi:i ≤ n)
  (hcs:∀ j v,xs[j]? = some v → w.cell? ⟨b,0 + j,none⟩ = some v) (hsp:∀ j,j < n + 1 → (w.cell? ⟨b,0 + j,none⟩).isSome = true) :
  ∀ j v,(xs.take i ++ u :: xs.drop i)[j]? = some v → ((w.setCells b (0 + (i + 1)) (xs.drop i)).setCells b (0 + i) [u]).cell? ⟨b,0 + j,none⟩ = some v:=by
 intro j v hj
 have hs2:∀ j,j < n + 1 → ((w.setCells b (0 + (i + 1)) (xs.drop i)).cell? ⟨b,0 + j,none⟩).isSome = true:=fun j hj =>
  isSome_setCells b _ _ _ (fun k hk=>by rw [List.length_drop] at hk;have:=hsp (i + 1 + k) (by omega);rwa [← Nat.add_assoc] at this) _ (hsp j hj)
 rcases Nat.lt_trichotomy j i with h | h | h
 ·rw [List.getElem?_append_left (by rw [List.length_take];omega),List.getElem?_take_of_lt h] at hj
  rw [World.cell?_setCells_out _ _ _ _ _ (fun _ _=>.inl (by show 0 + j < 0 + i;omega)),World.cell?_setCells_out _ _ _ _ _ (fun _ _=>.inl (by show 0 + j < 0 + (i + 1);omega))]
  exact hcs j v hj
 ·subst h
  rw [List.getElem?_append_right (by rw [List.length_take];omega),List.length_take,Nat.min_eq_left (by omega)] at hj
  simp at hj
  subst hj
  have:=World.cell?_setCells_in b [u] (0 + j) (w.setCells b (0 + (j + 1)) (xs.drop j)) (fun k hk=>by
   have:k = 0:=by simpa using hk
   subst this
   exact hs2 j (by omega)) 0 (by simp)
  simpa using this
 ·rw [List.getElem?_append_right (by rw [List.length_take];omega),List.length_take,Nat.min_eq_left (by omega)] at hj
  obtain ⟨k,hk⟩:∃ k,j = i + 1 + k:=⟨j - i - 1,by omega⟩
  subst hk
  rw [show i + 1 + k - i = k + 1 by omega] at hj
  simp only [List.getElem?_cons_succ] at hj
  have hkl:k < (xs.drop i).length:=(List.getElem?_eq_some_iff.1 hj).1
  rw [World.cell?_setCells_out _ _ _ _ _ (fun _ _=>.inr (by show 0 + i + 1 ≤ 0 + (i + 1 + k);omega))]
  have:=World.cell?_setCells_in b (xs.drop i) (0 + (i + 1)) w (fun k hk=>by rw [List.length_drop] at hk;have:=hsp (i + 1 + k) (by omega);rwa [← Nat.add_assoc] at this) k hkl
  rw [show 0 + (i + 1 + k) = 0 + (i + 1) + k by omega,this]
  rw [← hj,List.getElem?_eq_getElem hkl]
theorem growCells (w:World) (b i n:Nat) (xs:List Value) (u:Value) (cur:Array Value) (e:TypeId) (hl:xs.length = n) (hi:i ≤ n) (hb:Blk w b e cur) (hs:n + 1 ≤ cur.size) (hc:∀ j v,j < i → xs[j]? = some v → cur[j]? = some v) :
  ∀ j v,(xs.take i ++ u :: xs.drop i)[j]? = some v → ((w.setCells b i [u]).drew.setCells b (i + 1) (xs.drop i)).cell? ⟨b,0 + j,none⟩ = some v:=by
 intro j v hj
 have hsp:∀ j,j < n + 1 → (w.cell? ⟨b,0 + j,none⟩).isSome = true:=fun j hj=>by rw [Nat.zero_add,hb.cell,Array.getElem?_eq_getElem (by omega)];rfl
 have hsp':∀ j,j < n + 1 → (w.cell? ⟨b,j,none⟩).isSome = true:=fun j hj=>by have:=hsp j hj;rwa [Nat.zero_add] at this
 have hs2:∀ j,j < n + 1 → ((w.setCells b i [u]).drew.cell? ⟨b,j,none⟩).isSome = true:=fun j hj =>
  isSome_setCells b [u] i w (fun k hk=>by
                       have:k = 0:=by simpa using hk
                       subst this
                       exact hsp' i (by omega)) j (hsp' j hj)
 rw [Nat.zero_add]
 rcases Nat.lt_trichotomy j i with h | h | h
 ·rw [List.getElem?_append_left (by rw [List.length_take];omega),List.getElem?_take_of_lt h] at hj
  rw [World.cell?_setCells_out _ _ _ _ _ (fun _ _=>.inl (by show j < i + 1;omega))]
  show (w.setCells b i [u]).cell? _ = _
  rw [World.cell?_setCells_out _ _ _ _ _ (fun _ _=>.inl (by show j < i;omega)),hb.cell]
  exact hc j v h hj
 ·subst h
  rw [List.getElem?_append_right (by rw [List.length_take];omega),List.length_take,Nat.min_eq_left (by omega)] at hj
  simp at hj
  subst hj
  rw [World.cell?_setCells_out _ _ _ _ _ (fun _ _=>.inl (by show j < j + 1;omega))]
  show (w.setCells b j [u]).cell? _ = _
  have:=World.cell?_setCells_in b [u] j w (fun k hk=>by
   have:k = 0:=by simpa using hk
   subst this
   exact hsp' j (by omega)) 0 (by simp)
  simpa using this
 ·rw [List.getElem?_append_right (by rw [List.length_take];omega),List.length_take,Nat.min_eq_left (by omega)] at hj
  obtain ⟨k,hk⟩:∃ k,j = i + 1 + k:=⟨j - i - 1,by omega⟩
  subst hk
  rw [show i + 1 + k - i = k + 1 by omega] at hj
  simp only [List.getElem?_cons_succ] at hj
  have hkl:k < (xs.drop i).length:=(List.getElem?_eq_some_iff.1 hj).1
  have:=World.cell?_setCells_in b (xs.drop i) (i + 1) (w.setCells b i [u]).drew (fun k hk=>by rw [List.length_drop] at hk;exact hs2 (i + 1 + k) (by omega)) k hkl
  rw [this,← hj,List.getElem?_eq_getElem hkl]
theorem ins_len (xs:List Value) (i n:Nat) (u:Value) (hl:xs.length = n) (hi:i ≤ n):(xs.take i ++ u :: xs.drop i).length = (n + 1) * 1:=by
 simp;omega
theorem zeros_len (z:Value) (hz:z.cells.size = 1) (k:Nat):(Builtin.zeroCells z.cells k).size = k:=by rw [size_zeroCells,hz,Nat.mul_one]
theorem insert_strings (i n:Nat) (hi:i ≤ n) (hn:n < 100000) (base:Nat) (v:Value) (xs:List Value) (w:World) (hown:w.ownsRow base 9 1 v n xs) (h1c:∀ u ∈ xs,u.oneCell' = true) (vb:Nat) (u:Value) (hu:u.oneCell' = true) (hvb:Blk w vb 9 #[u]) (hne:some vb ≠ v.ownBlock) (hbs:base ≤ w.heap.size) :
  Calls Tryz.prog 144 #[v,.int .i64 (i:Int),.slice (some ⟨vb,0,none⟩) 1 1] w (Rowed base v w (xs.take i ++ u :: xs.drop i) (n + 1)):=by
 have hvs:∀ j v,[u][j]? = some v → w.cell? ⟨vb,0 + j,none⟩ = some v:=fun j v hj=>by
  rw [Nat.zero_add,hvb.cell]
  simpa using hj
 have h1v:∀ v ∈ [u],v.oneCell' = true:=fun v hv=>by simp at hv;subst hv;exact hu
 have hl:=hown.1
 rw [Nat.mul_one] at hl
 have hsz:=ins_len xs i n u hl hi
 rcases hown.2 with ⟨rfl,rfl⟩ | ⟨g,cap,cur,rfl,hbg,hg,hnc,hcm,hcs,ht⟩
 ·have:i = 0:=by omega
  subst this
  have hx:xs = []:=List.eq_nil_of_length_eq_zero hl
  subst hx
  refine (Any2.slices_Insert_string_end_grow Tryz.laysNm222 none 0 0 vb 0 1 1 [] [u] w (by omega) (by omega) (by omega) (by omega) rfl rfl (fun _=>rfl) (fun a h=>by cases h) hvs h1v).mono ?_
  rintro e w' ⟨he,rfl⟩
  have hgc:=grownCap_ge w (0 + 1) 0 9
  refine ⟨_,_,he,⟨hsz,fun _=>⟨w.heap.size,0,rfl,by unfold Lo;omega,fun j x hx=>?_⟩⟩,hgc,(fun h=>by cases h),(Ext.refl _ w).drew.alloc _⟩
  simp only [Nat.zero_add]
  refine ((Blk.new_at (b:=w.heap.size) w.drew _ _ rfl).cell j).trans ?_
  rw [Array.getElem?_append_left (by have:=(List.getElem?_eq_some_iff.1 hx).1;simpa using this)]
  simpa using hx
 ·obtain ⟨k1,k2,k3⟩:=own_cell (base:=base) hg hcs ht
  unfold maxLen at hcm
  have hgs:g < w.heap.size:=by
   rcases Nat.lt_or_ge g w.heap.size with h | h
   ·exact h
   ·rw [Array.getElem?_eq_none h] at hg;cases hg
  have hne':vb ≠ g:=fun h=>hne (by rw [h];rfl)
  have hshB:w.shape? g = some (9,cur.size):=by simp [World.shape?,hg]
  have hshA:w.shape? vb = some (9,1):=by unfold Blk at hvb;simp [World.shape?,hvb]
  rcases Nat.lt_or_ge i n with hlt | hge
  ·rcases Nat.lt_or_ge cap (n + 1) with hr | hr
   ·refine (Any2.slices_Insert_string_grow Tryz.laysNm222 g 0 n cap i vb 0 1 1 xs [u] w hlt (by omega) hnc hr (by omega) hl rfl k1 hvs h1c h1v).mono ?_
    rintro e w' ⟨he,rfl⟩
    have hgc:=grownCap_ge w (n + 1) cap 9
    refine ⟨_,_,he,⟨hsz,fun _=>⟨w.heap.size,0,rfl,by unfold Lo;omega,?_⟩⟩,hgc,(fun h=>by cases h),(((((Ext.refl _ w).alloc _).drew.setCells _ _ (.inr (Nat.le_refl _))).drew).setCells _ _ (.inr (Nat.le_refl _)))⟩
    refine growCells _ w.heap.size i n xs u _ _ hl hi ((Blk.new_at (b:=w.heap.size) w _ _ rfl).drewN 1) ?_ ?_
    ·simp only [Array.size_append]
     rw [zeros_len _ rfl,zeros_len _ rfl]
     simp
     show n + 1 ≤ _
     have:n + 1 ≤ grownCap w (n + 1) cap 9:=hgc
     change n + 1 ≤ min i xs.length + (n + 1 - i) + (grownCap w (n + 1) cap 9 - (n + 1))
     omega
    ·intro j x hj hx
     rw [Array.append_assoc,Array.getElem?_append_left (by simp;omega)]
     simp [List.getElem?_take_of_lt hj,hx]
   ·refine (Any2.slices_Insert_string_shift Tryz.laysNm222 g 0 n cap i vb 0 1 1 xs [u] w hlt (by omega) hr (by omega) hne' hl rfl k1 (fun j hj=>k2 j (by omega)) (fun j _=>k3 j) hvs h1c h1v 9 9 1 cur.size hshA hshB (by omega) (hvb.frozen 0) (hvb.frozen 1)).mono ?_
    rintro e w' ⟨he,rfl⟩
    refine ⟨_,_,he,⟨hsz,fun _=>⟨g,0,rfl,by unfold Lo;omega,?_⟩⟩,hr,(fun h=>by cases h),((Ext.refl (fun b=>(Value.slice (some ⟨g,0,none⟩) n cap).ownBlock = some b) w).drew.setCells _ _ (.inl rfl)).setCells _ _ (.inl rfl)⟩
    exact shift_cells w.drew g i n xs u hl hi k1 (fun j hj=>k2 j (by omega))
  ·have:i = n:=by omega
   subst this
   have ht':xs.take i = xs:=List.take_of_length_le (by omega)
   have hd':xs.drop i = []:=List.drop_eq_nil_of_le (by omega)
   rcases Nat.lt_or_ge cap (i + 1) with hr | hr
   ·refine (Any2.slices_Insert_string_end_grow Tryz.laysNm222 (some ⟨g,0,none⟩) i cap vb 0 1 1 xs [u] w (by omega) hnc hr (by omega) hl rfl (fun h=>by cases h) (fun a h j x hx=>by
     injection h with h;subst h
     have:=k1 j x hx
     unfold Addr.add
     split
     ·rename_i hj
      have:j = 0:=by simpa using hj
      subst this;assumption
     ·exact this) hvs h1v).mono ?_
    rintro e w' ⟨he,rfl⟩
    have hgc:=grownCap_ge w (i + 1) cap 9
    refine ⟨_,_,he,⟨hsz,fun _=>⟨w.heap.size,0,rfl,by unfold Lo;omega,fun j x hx=>?_⟩⟩,hgc,(fun h=>by cases h),(Ext.refl _ w).drew.alloc _⟩
    simp only [Nat.zero_add]
    refine ((Blk.new_at (b:=w.heap.size) w.drew _ _ rfl).cell j).trans ?_
    rw [ht',hd'] at hx
    rw [Array.getElem?_append_left (by have:=(List.getElem?_eq_some_iff.1 hx).1;simpa using this)]
    simpa using hx
   ·refine (Any2.slices_Insert_string_end_room Tryz.laysNm222 g 0 i cap vb 0 1 1 [u] w (by omega) hr (by omega) rfl (fun j hj=>by have:=k2 (i + j) (by omega);rwa [← Nat.add_assoc] at this) (fun j hj=>by have:=k3 (i + j);rwa [← Nat.add_assoc] at this) hvs h1v).mono ?_
    rintro e w' ⟨he,rfl⟩
    refine ⟨_,_,he,⟨hsz,fun _=>⟨g,0,rfl,by unfold Lo;omega,?_⟩⟩,hr,(fun h=>by cases h),(Ext.refl (fun b=>(Value.slice (some ⟨g,0,none⟩) i cap).ownBlock = some b) w).setCells _ _ (.inl rfl)⟩
    have:=shift_cells w g i i xs u hl hi k1 (fun j hj=>k2 j (by omega))
    rw [hd'] at this ⊢
    exact this
theorem insert_ints (i n:Nat) (hi:i ≤ n) (hn:n < 100000) (base:Nat) (v:Value) (xs:List Value) (w:World) (hown:w.ownsRow base 3 1 v n xs) (h1c:∀ u ∈ xs,u.oneCell' = true) (vb:Nat) (u:Value) (hu:u.oneCell' = true) (hvb:Blk w vb 3 #[u]) (hne:some vb ≠ v.ownBlock) (hbs:base ≤ w.heap.size) :
  Calls Tryz.prog 145 #[v,.int .i64 (i:Int),.slice (some ⟨vb,0,none⟩) 1 1] w (Rowed base v w (xs.take i ++ u :: xs.drop i) (n + 1)):=by
 have hvs:∀ j v,[u][j]? = some v → w.cell? ⟨vb,0 + j,none⟩ = some v:=fun j v hj=>by
  rw [Nat.zero_add,hvb.cell]
  simpa using hj
 have h1v:∀ v ∈ [u],v.oneCell' = true:=fun v hv=>by simp at hv;subst hv;exact hu
 have hl:=hown.1
 rw [Nat.mul_one] at hl
 have hsz:=ins_len xs i n u hl hi
 rcases hown.2 with ⟨rfl,rfl⟩ | ⟨g,cap,cur,rfl,hbg,hg,hnc,hcm,hcs,ht⟩
 ·have:i = 0:=by omega
  subst this
  have hx:xs = []:=List.eq_nil_of_length_eq_zero hl
  subst hx
  refine (Any2.slices_Insert_int_end_grow Tryz.laysNm221 none 0 0 vb 0 1 1 [] [u] w (by omega) (by omega) (by omega) (by omega) rfl rfl (fun _=>rfl) (fun a h=>by cases h) hvs h1v).mono ?_
  rintro e w' ⟨he,rfl⟩
  have hgc:=grownCap_ge w (0 + 1) 0 3
  refine ⟨_,_,he,⟨hsz,fun _=>⟨w.heap.size,0,rfl,by unfold Lo;omega,fun j x hx=>?_⟩⟩,hgc,(fun h=>by cases h),(Ext.refl _ w).drew.alloc _⟩
  simp only [Nat.zero_add]
  refine ((Blk.new_at (b:=w.heap.size) w.drew _ _ rfl).cell j).trans ?_
  rw [Array.getElem?_append_left (by have:=(List.getElem?_eq_some_iff.1 hx).1;simpa using this)]
  simpa using hx
 ·obtain ⟨k1,k2,k3⟩:=own_cell (base:=base) hg hcs ht
  unfold maxLen at hcm
  have hgs:g < w.heap.size:=by
   rcases Nat.lt_or_ge g w.heap.size with h | h
   ·exact h
   ·rw [Array.getElem?_eq_none h] at hg;cases hg
  have hne':vb ≠ g:=fun h=>hne (by rw [h];rfl)
  have hshB:w.shape? g = some (3,cur.size):=by simp [World.shape?,hg]
  have hshA:w.shape? vb = some (3,1):=by unfold Blk at hvb;simp [World.shape?,hvb]
  rcases Nat.lt_or_ge i n with hlt | hge
  ·rcases Nat.lt_or_ge cap (n + 1) with hr | hr
   ·refine (Any2.slices_Insert_int_grow Tryz.laysNm221 g 0 n cap i vb 0 1 1 xs [u] w hlt (by omega) hnc hr (by omega) hl rfl k1 hvs h1c h1v).mono ?_
    rintro e w' ⟨he,rfl⟩
    have hgc:=grownCap_ge w (n + 1) cap 3
    refine ⟨_,_,he,⟨hsz,fun _=>⟨w.heap.size,0,rfl,by unfold Lo;omega,?_⟩⟩,hgc,(fun h=>by cases h),(((((Ext.refl _ w).alloc _).drew.setCells _ _ (.inr (Nat.le_refl _))).drew).setCells _ _ (.inr (Nat.le_refl _)))⟩
    refine growCells _ w.heap.size i n xs u _ _ hl hi ((Blk.new_at (b:=w.heap.size) w _ _ rfl).drewN 1) ?_ ?_
    ·simp only [Array.size_append]
     rw [zeros_len _ rfl,zeros_len _ rfl]
     simp
     show n + 1 ≤ _
     have:n + 1 ≤ grownCap w (n + 1) cap 3:=hgc
     change n + 1 ≤ min i xs.length + (n + 1 - i) + (grownCap w (n + 1) cap 3 - (n + 1))
     omega
    ·intro j x hj hx
     rw [Array.append_assoc,Array.getElem?_append_left (by simp;omega)]
     simp [List.getElem?_take_of_lt hj,hx]
   ·refine (Any2.slices_Insert_int_shift Tryz.laysNm221 g 0 n cap i vb 0 1 1 xs [u] w hlt (by omega) hr (by omega) hne' hl rfl k1 (fun j hj=>k2 j (by omega)) (fun j _=>k3 j) hvs h1c h1v 3 3 1 cur.size hshA hshB (by omega) (hvb.frozen 0) (hvb.frozen 1)).mono ?_
    rintro e w' ⟨he,rfl⟩
    refine ⟨_,_,he,⟨hsz,fun _=>⟨g,0,rfl,by unfold Lo;omega,?_⟩⟩,hr,(fun h=>by cases h),((Ext.refl (fun b=>(Value.slice (some ⟨g,0,none⟩) n cap).ownBlock = some b) w).drew.setCells _ _ (.inl rfl)).setCells _ _ (.inl rfl)⟩
    exact shift_cells w.drew g i n xs u hl hi k1 (fun j hj=>k2 j (by omega))
  ·have:i = n:=by omega
   subst this
   have ht':xs.take i = xs:=List.take_of_length_le (by omega)
   have hd':xs.drop i = []:=List.drop_eq_nil_of_le (by omega)
   rcases Nat.lt_or_ge cap (i + 1) with hr | hr
   ·refine (Any2.slices_Insert_int_end_grow Tryz.laysNm221 (some ⟨g,0,none⟩) i cap vb 0 1 1 xs [u] w (by omega) hnc hr (by omega) hl rfl (fun h=>by cases h) (fun a h j x hx=>by
     injection h with h;subst h
     have:=k1 j x hx
     unfold Addr.add
     split
     ·rename_i hj
      have:j = 0:=by simpa using hj
      subst this;assumption
     ·exact this) hvs h1v).mono ?_
    rintro e w' ⟨he,rfl⟩
    have hgc:=grownCap_ge w (i + 1) cap 3
    refine ⟨_,_,he,⟨hsz,fun _=>⟨w.heap.size,0,rfl,by unfold Lo;omega,fun j x hx=>?_⟩⟩,hgc,(fun h=>by cases h),(Ext.refl _ w).drew.alloc _⟩
    simp only [Nat.zero_add]
    refine ((Blk.new_at (b:=w.heap.size) w.drew _ _ rfl).cell j).trans ?_
    rw [ht',hd'] at hx
    rw [Array.getElem?_append_left (by have:=(List.getElem?_eq_some_iff.1 hx).1;simpa using this)]
    simpa using hx
   ·refine (Any2.slices_Insert_int_end_room Tryz.laysNm221 g 0 i cap vb 0 1 1 [u] w (by omega) hr (by omega) rfl (fun j hj=>by have:=k2 (i + j) (by omega);rwa [← Nat.add_assoc] at this) (fun j hj=>by have:=k3 (i + j);rwa [← Nat.add_assoc] at this) hvs h1v).mono ?_
    rintro e w' ⟨he,rfl⟩
    refine ⟨_,_,he,⟨hsz,fun _=>⟨g,0,rfl,by unfold Lo;omega,?_⟩⟩,hr,(fun h=>by cases h),(Ext.refl (fun b=>(Value.slice (some ⟨g,0,none⟩) i cap).ownBlock = some b) w).setCells _ _ (.inl rfl)⟩
    have:=shift_cells w g i i xs u hl hi k1 (fun j hj=>k2 j (by omega))
    rw [hd'] at this ⊢
    exact this
end Go.Proofs.YtccnemmlkcmceaaGreatDoor
