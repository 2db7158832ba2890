/- Proofs about the given program, joined out of the texts T2, T3, T4, T5, T6, T7. -/
import Derived.Test.YtccnemmlkcmceaaGreatDoorHE1
set_option linter.unusedVariables false
set_option linter.unusedSimpArgs false
set_option maxRecDepth 100000
set_option maxHeartbeats 6400000
namespace Go.Proofs.YtccnemmlkcmceaaGreatDoor
open Go.RowKit
theorem sysKeepNo {s:Sys} (hs:s.Ok) {w w':World} (he:Ext No w w') (h:s.db w):s.db w':=hs.keep _ _ he.of_no h
section
variable {w:World} {s:Sys} {v:V}
theorem TxAt.c0 (h:TxAt w s v):w.cell? ⟨s.t,0,none⟩ = some (.pointer (some ⟨s.x,0,none⟩)):=h.tx.cell 0
theorem TxAt.c1 (h:TxAt w s v):w.cell? ⟨s.t,1,none⟩ = some (.int .i64 (v.r 0:Int)):=h.tx.cell 1
theorem TxAt.c2 (h:TxAt w s v):w.cell? ⟨s.t,2,none⟩ = some (.int .i64 (v.r 1:Int)):=h.tx.cell 2
theorem TxAt.c3 (h:TxAt w s v):w.cell? ⟨s.t,3,none⟩ = some (.int .i64 (v.r 2:Int)):=h.tx.cell 3
theorem TxAt.c4 (h:TxAt w s v):w.cell? ⟨s.t,4,none⟩ = some (.int .i64 (v.r 3:Int)):=h.tx.cell 4
theorem TxAt.c5 (h:TxAt w s v):w.cell? ⟨s.t,5,none⟩ = some (.int .i64 (v.high:Int)):=h.tx.cell 5
theorem TxAt.c6 (h:TxAt w s v):w.cell? ⟨s.t,6,none⟩ = some (.int .i64 (v.free:Int)):=h.tx.cell 6
theorem TxAt.c7 (h:TxAt w s v):w.cell? ⟨s.t,7,none⟩ = some (.int .i64 (v.cnt:Int)):=h.tx.cell 7
theorem TxAt.c8 (h:TxAt w s v):w.cell? ⟨s.t,8,none⟩ = some (.map (some s.m)):=h.tx.cell 8
theorem TxAt.c9 (h:TxAt w s v):w.cell? ⟨s.t,9,none⟩ = some (.bool v.marked):=h.tx.cell 9
theorem TxAt.c10 (h:TxAt w s v):w.cell? ⟨s.t,10,none⟩ = some (.bool v.spoilt):=h.tx.cell 10
theorem TxAt.fz (h:TxAt w s v) (i:Nat):w.frozen? ⟨s.t,i,none⟩ = false:=h.tx.frozen i
end
theorem get_any (s:Sys) (hs:s.Ok) (w:World) (v:V) (h:TxAt w s v) (id:Nat) (h1:1 ≤ id) (h2:id < v.high) :
  Calls Tryz.prog 54 #[.pointer (some ⟨s.t,0,none⟩),.int .i64 (id:Int)] w fun e w'=>e = .returned (.tuple #[(v.pg id).val,.int .i64 0]) ∧ Ext No w w':=by
 obtain ⟨ov,hm,_,hv⟩:=h.mp
 obtain ⟨hin,hpg⟩:=hv id h1 h2
 clear hv
 have t5:=h.c5
 have t8:=h.c8
 have t0:=h.c0
 have lt:=h.tx.lt
 have g1:¬ ((id:Int) < 1):=by omega
 have g2:¬ ((v.high:Int) ≤ (id:Int)):=by omega
 cases hl:ov.lookup id with
 | some p =>
  have hpp:v.pg id = p:=by rw [hpg,hl];rfl
  have lk:∀ o,(Instr.lookup 109 (.map (some s.m)) (.int .i64 (id:Int)) true).run Tryz.prog (w.alloc o) = .ok (.tuple #[p.val,.bool true]) (w.alloc o):=fun o=>run_look_hit (hm.ext ((Ext.refl No w).alloc o) (fun h=>h)) hl
  simp only [Leaf.val] at lk
  rw [hpp]
  clear hl hpp hpg
  go_enter Tryz.func54,Tryz.ntmps54
  go_wp2
  refine bodyPost_ret (v:=.tuple #[p.val,.int .i64 0]) (by simp [results,Tryz.results54,go_sem,Leaf.val]) rfl ⟨rfl,?_⟩
  exact (((Ext.refl No w).alloc _).alloc _)
 | none =>
  have hlt:id < s.bh:=hin.resolve_left ((lookup_none_iff ov id).1 hl)
  have hpp:v.pg id = s.base id:=by rw [hpg,hl];rfl
  have lk:∀ o,(Instr.lookup 109 (.map (some s.m)) (.int .i64 (id:Int)) true).run Tryz.prog (w.alloc o) = .ok (.tuple #[.agg #[.int .i64 0,.string (str [])],.bool false]) (w.alloc o):=fun o=>run_look_miss (hm.ext ((Ext.refl No w).alloc o) (fun h=>h)) hl
  rw [hpp]
  generalize hp:s.base id = p
  have HO:=Lib.hid (fun w hd=>hs.opn w id hd h1 hlt)
  simp only [hp] at HO
  clear hl hpp hpg hin hp
  have lx:=World.block_lt_of_cell? w _ (hs.x0 w h.db)
  go_enter Tryz.func54,Tryz.ntmps54
  go_wp2_with fail
  refine (hs.img _ id (sysKeepNo hs (((Ext.refl No w).alloc _).alloc _) h.db) h1 hlt).mono ?_
  rintro e w1 ⟨rfl,hb1⟩
  have lt1:s.t < w1.heap.size:=Nat.lt_of_lt_of_le (by simp;omega) hb1.size
  have l41:w.heap.size < w1.heap.size:=Nat.lt_of_lt_of_le (by simp;omega) hb1.size
  have b4:=(((Blk.new w 113 #[.int .i64 0,.string (str [])]).alloc (.cells #[.int .i64 0,.string (str [])] 113))).ext hb1 (fun h=>h)
  have k0:=b4.cell 0
  have k1:=b4.cell 1
  have f0:=b4.frozen 0
  have f1:=b4.frozen 1
  simp at k0 k1
  go_wp2_with fail
  refine (HO.out _ (sysKeepNo hs hb1 (sysKeepNo hs (((Ext.refl No w).alloc _).alloc _) h.db))).mono ?_
  rintro e w2 ⟨rfl,hb2⟩
  have l42:w.heap.size < w2.heap.size:=Nat.lt_of_lt_of_le l41 hb2.size
  have b5:=b4.ext hb2 (fun h=>h)
  have k0:=b5.cell 0
  have k1:=b5.cell 1
  have f0:=b5.frozen 0
  have f1:=b5.frozen 1
  simp at k0 k1
  go_wp2_with fail
  refine bodyPost_ret (v:=.tuple #[p.val,.int .i64 0]) (by simp [results,Tryz.results54,go_sem,Leaf.val,k0,k1,l42]) rfl ⟨rfl,?_⟩
  exact (((((Ext.refl No w).alloc _).alloc _).trans_ hb1).trans_ hb2).setCell (.inr (by simp)) _ |>.setCell (.inr (by simp)) _
def V.err (v:V) (id:Nat):Nat:=if id < 1 ∨ v.high ≤ id then 2 else if (v.pg id).kind = 255 then 8 else 0
theorem V.err_ok {v:V} {id:Nat} (h:v.err id = 0):1 ≤ id ∧ id < v.high ∧ (v.pg id).kind ≠ 255:=by
 unfold V.err at h
 split at h
 ·omega
 ·split at h
  ·omega
  ·exact ⟨by omega,by omega,by assumption⟩
theorem V.err_cases {v:V} {id:Nat} (h:v.err id ≠ 0):(v.err id = 2 ∧ (id < 1 ∨ v.high ≤ id)) ∨ (v.err id = 8 ∧ 1 ≤ id ∧ id < v.high ∧ (v.pg id).kind = 255):=by
 unfold V.err at h ⊢
 split
 ·exact .inl ⟨rfl,by assumption⟩
 ·split
  ·exact .inr ⟨rfl,by omega,by omega,by assumption⟩
  ·rename_i h1 h2;rw [if_neg h1,if_neg h2] at h;exact absurd rfl h
theorem get_out (s:Sys) (hs:s.Ok) (w:World) (v:V) (h:TxAt w s v) (id:Nat) (h1:id < 1 ∨ v.high ≤ id) :
  Calls Tryz.prog 54 #[.pointer (some ⟨s.t,0,none⟩),.int .i64 (id:Int)] w fun e w'=>e = .returned (.tuple #[.agg #[.int .i64 0,.string (str [])],.int .i64 2]) ∧ Ext No w w':=by
 have t5:=h.c5
 have t0:=h.c0
 have lt:=h.tx.lt
 by_cases g1:(id:Int) < 1
 ·go_enter Tryz.func54,Tryz.ntmps54
  go_wp2_with fail
  refine bodyPost_ret (v:=.tuple #[.agg #[.int .i64 0,.string (str [])],.int .i64 2]) (by simp [results,Tryz.results54,go_sem,str]) rfl ⟨rfl,?_⟩
  exact (((Ext.refl No w).alloc _))
 ·have g2:((v.high:Int) ≤ (id:Int)):=by omega
  go_enter Tryz.func54,Tryz.ntmps54
  go_wp2_with fail
  refine bodyPost_ret (v:=.tuple #[.agg #[.int .i64 0,.string (str [])],.int .i64 2]) (by simp [results,Tryz.results54,go_sem,str]) rfl ⟨rfl,?_⟩
  exact (((Ext.refl No w).alloc _))
theorem there_ok (s:Sys) (hs:s.Ok) (w:World) (v:V) (h:TxAt w s v) (id:Nat) (he:v.err id = 0) :
  Calls Tryz.prog 57 #[.pointer (some ⟨s.t,0,none⟩),.int .i64 (id:Int)] w fun e w'=>e = .returned (.tuple #[(v.pg id).val,.int .i64 0]) ∧ Ext No w w':=by
 obtain ⟨h1,h2,h3⟩:=V.err_ok he
 clear he
 have HG:=Lib.hid (get_any s hs (w.alloc (.cells #[.int .i64 0,.string (str [])] 113)) v (h.no hs ((Ext.refl No w).alloc _)) id h1 h2)
 generalize v.pg id = p at *
 have h3':((p.kind:Int) == 255) = false:=by simpa using (by omega:¬ (p.kind:Int) = 255)
 clear h3
 have t0:=h.c0
 have lt:=h.tx.lt
 go_enter Tryz.func57,Tryz.ntmps57
 go_wp2_with fail
 refine (txup s hs _ (sysKeepNo hs (((Ext.refl No w).alloc _)) h.db) (by simpa [World.cell?_alloc_lt,lt] using h.c0)).mono ?_
 rintro e w1 ⟨rfl,rfl⟩
 go_wp2_with fail
 refine (HG.out).mono ?_
 rintro e w2 ⟨rfl,hb2⟩
 have b4:=((Blk.new w 113 #[.int .i64 0,.string (str [])])).ext hb2 (fun h=>h)
 have k0:=b4.cell 0
 have k1:=b4.cell 1
 have f0:=b4.frozen 0
 have f1:=b4.frozen 1
 have l4:=b4.lt
 simp at k0 k1
 simp only [Leaf.val]
 go_wp2_with fail
 refine bodyPost_ret (v:=.tuple #[p.val,.int .i64 0]) (by simp [results,Tryz.results57,go_sem,Leaf.val,k0,k1,l4]) rfl ⟨rfl,?_⟩
 (repeat' (first | exact Ext.refl _ _ | assumption | apply Ext.alloc | apply Ext.drewN | apply Ext.drew | refine Ext.setNew ?_ (by first | omega | (simp;omega) | simp) _ _ | refine Ext.setF ?_ (by first | exact Or.inl rfl | exact Or.inr rfl | rfl) _ _ | refine Ext.trans_ ?_ (by assumption) | refine Ext.trans_ ?_ (Ext.of_no (by assumption))))
theorem there_bad (s:Sys) (hs:s.Ok) (w:World) (v:V) (h:TxAt w s v) (id:Nat) (he:v.err id ≠ 0) :
  Calls Tryz.prog 57 #[.pointer (some ⟨s.t,0,none⟩),.int .i64 (id:Int)] w fun e w'=>e = .returned (.tuple #[.agg #[.int .i64 0,.string (str [])],.int .i64 (v.err id:Int)]) ∧ Ext No w w':=by
 have t0:=h.c0
 have lt:=h.tx.lt
 rcases V.err_cases he with ⟨e2,h1⟩ | ⟨e8,h1,h2,h3⟩
 ·rw [e2]
  clear he
  have HG:=Lib.hid (get_out s hs (w.alloc (.cells #[.int .i64 0,.string (str [])] 113)) v (h.no hs ((Ext.refl No w).alloc _)) id h1)
  clear e2 h1
  go_enter Tryz.func57,Tryz.ntmps57
  go_wp2_with fail
  refine (txup s hs _ (sysKeepNo hs (((Ext.refl No w).alloc _)) h.db) (by simpa [World.cell?_alloc_lt,lt] using h.c0)).mono ?_
  rintro e w1 ⟨rfl,rfl⟩
  go_wp2_with fail
  refine (HG.out).mono ?_
  rintro e w2 ⟨rfl,hb2⟩
  have b4:=((Blk.new w 113 #[.int .i64 0,.string (str [])])).ext hb2 (fun h=>h)
  have k0:=b4.cell 0
  have k1:=b4.cell 1
  have f0:=b4.frozen 0
  have f1:=b4.frozen 1
  have l4:=b4.lt
  simp at k0 k1
  go_wp2_with fail
  refine bodyPost_ret (v:=.tuple #[.agg #[.int .i64 0,.string (str [])],.int .i64 2]) (by simp [results,Tryz.results57,go_sem,Leaf.val,k0,k1,l4]) rfl ⟨rfl,?_⟩
  (repeat' (first | exact Ext.refl _ _ | assumption | apply Ext.alloc | apply Ext.drewN | apply Ext.drew | refine Ext.setNew ?_ (by first | omega | (simp;omega) | simp) _ _ | refine Ext.setF ?_ (by first | exact Or.inl rfl | exact Or.inr rfl | rfl) _ _ | refine Ext.trans_ ?_ (by assumption) | refine Ext.trans_ ?_ (Ext.of_no (by assumption))))
 ·rw [e8]
  clear he
  have HG:=Lib.hid (get_any s hs (w.alloc (.cells #[.int .i64 0,.string (str [])] 113)) v (h.no hs ((Ext.refl No w).alloc _)) id h1 h2)
  clear e8
  generalize v.pg id = p at *
  obtain ⟨pk,pb⟩:=p
  simp only at h3
  subst h3
  go_enter Tryz.func57,Tryz.ntmps57
  go_wp2_with fail
  refine (txup s hs _ (sysKeepNo hs (((Ext.refl No w).alloc _)) h.db) (by simpa [World.cell?_alloc_lt,lt] using h.c0)).mono ?_
  rintro e w1 ⟨rfl,rfl⟩
  go_wp2_with fail
  refine (HG.out).mono ?_
  rintro e w2 ⟨rfl,hb2⟩
  have b4:=((Blk.new w 113 #[.int .i64 0,.string (str [])])).ext hb2 (fun h=>h)
  have k0:=b4.cell 0
  have k1:=b4.cell 1
  have f0:=b4.frozen 0
  have f1:=b4.frozen 1
  have l4:=b4.lt
  simp at k0 k1
  simp only [Leaf.val]
  go_wp2_with fail
  refine bodyPost_ret (v:=.tuple #[.agg #[.int .i64 0,.string (str [])],.int .i64 8]) (by simp [results,Tryz.results57,go_sem,Leaf.val,k0,k1,l4,str]) rfl ⟨rfl,?_⟩
  (repeat' (first | exact Ext.refl _ _ | assumption | apply Ext.alloc | apply Ext.drewN | apply Ext.drew | refine Ext.setNew ?_ (by first | omega | (simp;omega) | simp) _ _ | refine Ext.setF ?_ (by first | exact Or.inl rfl | exact Or.inr rfl | rfl) _ _ | refine Ext.trans_ ?_ (by assumption) | refine Ext.trans_ ?_ (Ext.of_no (by assumption))))
theorem read_ok (s:Sys) (hs:s.Ok) (w:World) (v:V) (h:TxAt w s v) (id:Nat) (he:v.err id = 0) :
  Calls Tryz.prog 47 #[.pointer (some ⟨s.t,0,none⟩),.int .i64 (id:Int)] w fun e w'=>e = .returned (.tuple #[.int .i64 ((v.pg id).kind:Int),.string (str (v.pg id).body),.int .i64 0]) ∧ Ext No w w':=by
 have HG:=Lib.hid (there_ok s hs w v h id he)
 clear he
 generalize v.pg id = p at *
 go_enter Tryz.func47,Tryz.ntmps47
 go_wp2_with fail
 refine (HG.out).mono ?_
 rintro e w2 ⟨rfl,hb2⟩
 simp only [Leaf.val]
 go_wp2_with fail
 go_quiet (fail)
 go_wp2_with fail
 go_ret3
 exact ⟨rfl,(hb2.alloc _).drewN _⟩
theorem read_bad (s:Sys) (hs:s.Ok) (w:World) (v:V) (h:TxAt w s v) (id:Nat) (he:v.err id ≠ 0) :
  Calls Tryz.prog 47 #[.pointer (some ⟨s.t,0,none⟩),.int .i64 (id:Int)] w fun e w'=>e = .returned (.tuple #[.int .i64 0,.string (str []),.int .i64 (v.err id:Int)]) ∧ Ext No w w':=by
 have HG:=Lib.hid (there_bad s hs w v h id he)
 have hb:((v.err id:Int) == 0) = false:=by simpa using (by omega:¬ (v.err id:Int) = 0)
 clear he
 generalize v.err id = p at *
 go_enter Tryz.func47,Tryz.ntmps47
 go_wp2_with fail
 refine (HG.out).mono ?_
 rintro e w2 ⟨rfl,hb2⟩
 go_wp2_with fail
 go_ret3
 exact ⟨rfl,(hb2.alloc _)⟩
def V.put (v:V) (id:Nat) (p:Leaf):V:={ v with pg:=fun j=>if j = id then p else v.pg j }
theorem TxAt.step {w w':World} {s:Sys} {v:V} (hs:s.Ok) (h:TxAt w s v) {ov:List (Nat × Leaf)} {id:Nat} {p:Leaf} {v':V}
  (hk:∀ i q,(i,q) ∈ ov → 1 ≤ i ∧ i < v.high) (hv:∀ i,1 ≤ i → i < v.high → (i ∈ ov.map (·.1) ∨ i < s.bh) ∧ v.pg i = (ov.lookup i).getD (s.base i))
  (hm:MapAt w' s.m (setOv ov id p)) (he:Ext s.F w w') (ht:Blk w' s.t 111 (v'.cells s)) (h1:1 ≤ id) (h2:id < v'.high) (h3:v'.high = v.high ∨ v'.high = v.high + 1 ∧ id = v.high)
  (h4:v'.high ≤ s.cap) (h5:v'.cnt ≤ v'.high) (hp:v'.pg = (v.put id p).pg):TxAt w' s v':=by
 have hh:=h.h1
 have hb:=h.hb
 refine ⟨ht,hs.keep _ _ he h.db,by omega,h4,by omega,h5,_,hm,?_,?_⟩
 ·intro i q hq
  rcases setOv_mem hq with e | hq
  ·simp only at e;omega
  ·have:=hk i q hq;omega
 ·intro i hi1 hi2
  rw [setOv_lookup,hp]
  simp only [V.put]
  by_cases hi:i = id
  ·subst hi
   refine ⟨.inl ?_,by simp⟩
   rw [setOv_keys]
   split
   ·assumption
   ·simp
  ·obtain ⟨k1,k2⟩:=hv i hi1 (by omega)
   refine ⟨k1.imp (fun hm=>?_) (fun h=>h),by simp [hi,k2]⟩
   rw [setOv_keys]
   split
   ·exact hm
   ·exact List.mem_append.2 (.inl hm)
theorem V.cells_put (v:V) (s:Sys) (id:Nat) (p:Leaf):(v.put id p).cells s = v.cells s:=rfl
theorem Ext.of_m {s:Sys} {w w':World} (h:Ext (fun b=>b = s.m) w w'):Ext s.F w w':=h.mono fun _ _ e=>.inr e
theorem write_ok (s:Sys) (hs:s.Ok) (w:World) (v:V) (h:TxAt w s v) (id kind:Nat) (body:List UInt8) (he:v.err id = 0) (hk1:1 ≤ kind) (hk2:kind < 255) (hb:body.length ≤ 500) :
  Calls Tryz.prog 20 #[.pointer (some ⟨s.t,0,none⟩),.int .i64 (id:Int),.int .i64 (kind:Int),.string (str body)] w fun e w'=>e = .returned (.int .i64 0) ∧ TxAt w' s (v.put id ⟨kind,body⟩) ∧ Ext s.F w w':=by
 have HG:=Lib.hid (there_ok s hs w v h id he)
 obtain ⟨h1,h2,_⟩:=V.err_ok he
 clear he
 have g1:¬ ((kind:Int) < 1):=by omega
 have g2:¬ ((255:Int) ≤ kind):=by omega
 have g3:¬ (500 < body.length):=by omega
 have g4:(str body).size = body.length:=str_size body
 go_enter Tryz.func20,Tryz.ntmps20
 go_wp2_with fail
 refine (HG.out).mono ?_
 rintro e w2 ⟨rfl,hb2⟩
 have h':=h.no hs hb2
 obtain ⟨ov,hm,hk,hv⟩:=h'.mp
 have hmt:s.t ≠ s.m:=hm.ne h'.tx
 have ms:∀ o,(Instr.mapUpdate 109 (.map (some s.m)) (.int .i64 (id:Int)) (.agg #[.int .i64 (kind:Int),.string (str body)])).run Tryz.prog (w2.alloc o) = .ok () (mset (w2.alloc o) s.m id ⟨kind,body⟩):=fun o=>(mset_run (hm.ext ((Ext.refl No w2).alloc o) (fun h=>h)) id ⟨kind,body⟩).1
 have ms2:=fun o=>(mset_run (hm.ext ((Ext.refl No w2).alloc o) (fun h=>h)) id ⟨kind,body⟩).2
 have t8:=h'.c8
 have lt:=h'.tx.lt
 have HK:=Lib.hid hk;have HV:=Lib.hid hv;have HM:=Lib.hid ms2
 clear hk hv ms2
 simp only [Leaf.val]
 go_wp2_with fail
 go_ret
 have hE:Ext s.F w2 (mset (w2.alloc (.cells #[.int .i64 ((v.pg id).kind:Int),.string (str (v.pg id).body)] 113)) s.m id ⟨kind,body⟩):=((Ext.refl _ _).alloc _).trans_ (mset_ext _ _ _ _).of_m
 refine ⟨rfl,?_,hb2.of_no.trans_ hE⟩
 refine TxAt.step hs h' HK.out HV.out (HM.out _) hE ?_ h1 h2 (.inl rfl) h'.h2 h'.hc rfl
 rw [V.cells_put]
 exact (mset_heap _ _ _ _ _ hmt).trans (h'.tx.alloc _)
theorem write_bad (s:Sys) (hs:s.Ok) (w:World) (v:V) (h:TxAt w s v) (id kind:Nat) (body:ByteArray) (he:v.err id ≠ 0) :
  Calls Tryz.prog 20 #[.pointer (some ⟨s.t,0,none⟩),.int .i64 (id:Int),.int .i64 (kind:Int),.string body] w fun e w'=>e = .returned (.int .i64 (v.err id:Int)) ∧ Ext No w w':=by
 have HG:=Lib.hid (there_bad s hs w v h id he)
 have hb:((v.err id:Int) == 0) = false:=by simpa using (by omega:¬ (v.err id:Int) = 0)
 clear he
 generalize v.err id = p at *
 go_enter Tryz.func20,Tryz.ntmps20
 go_wp2_with fail
 refine (HG.out).mono ?_
 rintro e w2 ⟨rfl,hb2⟩
 go_wp2_with fail
 go_ret
 exact ⟨rfl,by (repeat' (first | exact Ext.refl _ _ | assumption | apply Ext.alloc | apply Ext.drewN | apply Ext.drew | refine Ext.setNew ?_ (by first | omega | (simp;omega) | simp) _ _ | refine Ext.setF ?_ (by first | exact Or.inl rfl | exact Or.inr rfl | rfl) _ _ | refine Ext.trans_ ?_ (by assumption) | refine Ext.trans_ ?_ (Ext.of_no (by assumption))))⟩
theorem root_any (s:Sys) (hs:s.Ok) (w:World) (v:V) (h:TxAt w s v) (i:Nat) (hi:i < 4) :
  Calls Tryz.prog 46 #[.pointer (some ⟨s.t,0,none⟩),.int .i64 (i:Int)] w fun e w'=>e = .returned (.int .i64 (v.r i:Int)) ∧ w = w':=by
 have t0:=h.c0
 have t1:=h.c1
 have t2:=h.c2
 have t3:=h.c3
 have t4:=h.c4
 have HU:=Lib.hid (txup s hs w h.db t0)
 match i,hi with
 | 0,_ | 1,_ | 2,_ | 3,_ =>
  go_enter Tryz.func46,Tryz.ntmps46
  go_wp2_with fail
  refine (HU.out).mono ?_
  rintro e w2 ⟨rfl,rfl⟩
  go_wp2_with fail
  go_ret
  exact ⟨rfl,rfl⟩
theorem TxAt.re {w w':World} {s:Sys} {v:V} (hs:s.Ok) (h:TxAt w s v) (v':V) (he:Ext s.F w w') (ht:Blk w' s.t 111 (v'.cells s)) (hm:w'.heap[s.m]? = w.heap[s.m]?)
  (hp:v'.pg = v.pg) (hh:v'.high = v.high) (hc:v'.cnt ≤ v'.high):TxAt w' s v':=by
 obtain ⟨ov,⟨hn,es,c,ho,hes⟩,hk,hv⟩:=h.mp
 exact ⟨ht,hs.keep _ _ he h.db,hh ▸ h.h1,hh ▸ h.h2,hh ▸ h.hb,hc,ov,⟨hn,es,c,hm.trans ho,hes⟩,hh ▸ hk,by rw [hh,hp];exact hv⟩
theorem TxAt.tm {w:World} {s:Sys} {v:V} (h:TxAt w s v):s.t ≠ s.m:=by
 obtain ⟨ov,hm,_⟩:=h.mp
 exact hm.ne h.tx
theorem heap_set2 (w:World) (t m i j:Nat) (u u':Value) (h:t ≠ m):(((w.setCell ⟨t,i,none⟩ u).setCell ⟨t,j,none⟩ u').heap[m]?) = w.heap[m]? :=
 (Below.heap_setCell _ ⟨t,j,none⟩ u' m (Ne.symm h)).trans (Below.heap_setCell _ ⟨t,i,none⟩ u m (Ne.symm h))
def V.setR (v:V) (i n:Nat):V:={ v with r:=fun j=>if j = i then n else v.r j,marked:=true }
theorem setroot_any (s:Sys) (hs:s.Ok) (w:World) (v:V) (h:TxAt w s v) (i n:Nat) (hi:i < 4) (hn:n < 2147483648) :
  Calls Tryz.prog 21 #[.pointer (some ⟨s.t,0,none⟩),.int .i64 (i:Int),.int .i64 (n:Int)] w fun e w'=>e = .returned (.int .i64 0) ∧ TxAt w' s (v.setR i n) ∧ Ext s.F w w':=by
 have t0:=h.c0
 have t1:=h.c1
 have t2:=h.c2
 have t3:=h.c3
 have t4:=h.c4
 have t9:=h.c9
 have f0:=h.fz
 have HU:=Lib.hid (txup s hs w h.db t0)
 have g2:decide ((n:Int) ≥ 2147483648) = false:=by simp;omega
 have g3:decide ((n:Int) < 0) = false:=by simp
 clear hn
 match i,hi with
 | 0,_ | 1,_ | 2,_ | 3,_ =>
  go_enter Tryz.func21,Tryz.ntmps21
  go_wp2_with fail
  refine (HU.out).mono ?_
  rintro e w2 ⟨rfl,rfl⟩
  go_wp2_with fail
  go_ret
  refine ⟨rfl,?_,by (repeat' (first | exact Ext.refl _ _ | assumption | apply Ext.alloc | apply Ext.drewN | apply Ext.drew | refine Ext.setNew ?_ (by first | omega | (simp;omega) | simp) _ _ | refine Ext.setF ?_ (by first | exact Or.inl rfl | exact Or.inr rfl | rfl) _ _ | refine Ext.trans_ ?_ (by assumption) | refine Ext.trans_ ?_ (Ext.of_no (by assumption))))⟩
  exact h.re hs _ (by (repeat' (first | exact Ext.refl _ _ | assumption | apply Ext.alloc | apply Ext.drewN | apply Ext.drew | refine Ext.setNew ?_ (by first | omega | (simp;omega) | simp) _ _ | refine Ext.setF ?_ (by first | exact Or.inl rfl | exact Or.inr rfl | rfl) _ _ | refine Ext.trans_ ?_ (by assumption) | refine Ext.trans_ ?_ (Ext.of_no (by assumption))))) ((h.tx.set_ _ _).set_ _ _) (heap_set2 _ _ _ _ _ _ _ h.tm) rfl rfl h.hc
theorem spoil_any (s:Sys) (hs:s.Ok) (w:World) (v:V) (h:TxAt w s v) :
  Calls Tryz.prog 96 #[.pointer (some ⟨s.t,0,none⟩)] w fun e w'=>e = .returned (.tuple #[]) ∧ TxAt w' s { v with spoilt:=true } ∧ Ext s.F w w':=by
 have t10:=h.c10
 have f0:=h.fz
 go_enter Tryz.func96,Tryz.ntmps96
 go_wp2_with fail
 go_end0
 refine ⟨rfl,?_,by (repeat' (first | exact Ext.refl _ _ | assumption | apply Ext.alloc | apply Ext.drewN | apply Ext.drew | refine Ext.setNew ?_ (by first | omega | (simp;omega) | simp) _ _ | refine Ext.setF ?_ (by first | exact Or.inl rfl | exact Or.inr rfl | rfl) _ _ | refine Ext.trans_ ?_ (by assumption) | refine Ext.trans_ ?_ (Ext.of_no (by assumption))))⟩
 exact h.re hs _ (by (repeat' (first | exact Ext.refl _ _ | assumption | apply Ext.alloc | apply Ext.drewN | apply Ext.drew | refine Ext.setNew ?_ (by first | omega | (simp;omega) | simp) _ _ | refine Ext.setF ?_ (by first | exact Or.inl rfl | exact Or.inr rfl | rfl) _ _ | refine Ext.trans_ ?_ (by assumption) | refine Ext.trans_ ?_ (Ext.of_no (by assumption))))) (h.tx.set_ _ _) (Below.heap_setCell _ ⟨_,_,none⟩ _ _ (Ne.symm h.tm)) rfl rfl h.hc
def V.allocNew (v:V):V:=V.put { v with high:=v.high + 1,marked:=true } v.high ⟨1,[]⟩
def V.allocFree (v:V):V:=V.put { v with free:=v4 (str (v.pg v.free).body),cnt:=v.cnt - 1,marked:=true } v.free ⟨1,[]⟩
theorem alloc_full (s:Sys) (hs:s.Ok) (w:World) (v:V) (h:TxAt w s v) (h1:v.free = 0) (h2:v.high = s.cap) :
  Calls Tryz.prog 19 #[.pointer (some ⟨s.t,0,none⟩)] w fun e w'=>e = .returned (.tuple #[.int .i64 0,.int .i64 7]) ∧ Ext No w w':=by
 have t0:=h.c0
 have t5:=h.c5
 have t6:=h.c6
 rw [h1] at t6
 rw [h2] at t5
 have x0:=hs.x0 w h.db
 have HU:=Lib.hid (txup s hs w h.db t0)
 have hdb:=Lib.hid h.db
 clear h1 h2 h
 go_enter Tryz.func19,Tryz.ntmps19
 go_wp2_with fail
 refine (HU.out).mono ?_
 rintro e w2 ⟨rfl,rfl⟩
 go_wp2_with fail
 go_quiet ((go_at_call 56;exact Calls.quiet_of (xcount s hs _ (by exact sysKeepNo hs ((Ext.refl No w).drewN _) hdb.out))))
 go_wp2_with fail
 go_ret2
 exact ⟨rfl,by (repeat' (first | exact Ext.refl _ _ | assumption | apply Ext.alloc | apply Ext.drewN | apply Ext.drew | refine Ext.setNew ?_ (by first | omega | (simp;omega) | simp) _ _ | refine Ext.setF ?_ (by first | exact Or.inl rfl | exact Or.inr rfl | rfl) _ _ | refine Ext.trans_ ?_ (by assumption) | refine Ext.trans_ ?_ (Ext.of_no (by assumption))))⟩
theorem alloc_new (s:Sys) (hs:s.Ok) (w:World) (v:V) (h:TxAt w s v) (h1:v.free = 0) (h2:v.high < s.cap) :
  Calls Tryz.prog 19 #[.pointer (some ⟨s.t,0,none⟩)] w fun e w'=>e = .returned (.tuple #[.int .i64 (v.high:Int),.int .i64 0]) ∧ TxAt w' s v.allocNew ∧ Ext s.F w w':=by
 have t0:=h.c0
 have t5:=h.c5
 have t6:=h.c6
 have t8:=h.c8
 have t9:=h.c9
 have f0:=h.fz
 have x0:=hs.x0 w h.db
 have HU:=Lib.hid (txup s hs w h.db t0)
 have hdb:=Lib.hid h.db
 have hcap:s.cap ≤ 65536:=by unfold Sys.cap;have:=hs.n2;omega
 have hne:((v.high:Int) == (s.cap:Int)) = false:=by simpa using (by omega:¬ (v.high:Int) = (s.cap:Int))
 obtain ⟨ov,hm,hk,hv⟩:=h.mp
 have hmt:s.t ≠ s.m:=hm.ne h.tx
 have hmx:∀ W,W.heap[s.m]? = w.heap[s.m]? → MapAt W s.m ov:=fun W e=>by
  obtain ⟨hn,es,c,ho,hes⟩:=hm
  exact ⟨hn,es,c,e.trans ho,hes⟩
 have hmm:∀ nq u u',MapAt (((w.drewN nq).setCell ⟨s.t,5,none⟩ u).setCell ⟨s.t,9,none⟩ u') s.m ov:=fun nq u u'=>hmx _ (heap_set2 (w.drewN nq) _ _ _ _ _ _ hmt)
 have ms:∀ nq u u',(Instr.mapUpdate 109 (.map (some s.m)) (.int .i64 (v.high:Int)) (.agg #[.int .i64 1,.string { data:=#[] }])).run Tryz.prog (((w.drewN nq).setCell ⟨s.t,5,none⟩ u).setCell ⟨s.t,9,none⟩ u') =
  .ok () (mset (((w.drewN nq).setCell ⟨s.t,5,none⟩ u).setCell ⟨s.t,9,none⟩ u') s.m v.high ⟨1,[]⟩):=fun nq u u'=>(mset_run (hmm nq u u') v.high ⟨1,[]⟩).1
 have ms2:=fun nq u u'=>(mset_run (hmm nq u u') v.high ⟨1,[]⟩).2
 have HK:=Lib.hid hk;have HV:=Lib.hid hv;have HM:=Lib.hid ms2;have H1:=Lib.hid h1
 rw [h1] at t6
 clear hk hv ms2 hmm hmx h1
 go_enter Tryz.func19,Tryz.ntmps19
 go_wp2_with fail
 refine (HU.out).mono ?_
 rintro e w2 ⟨rfl,rfl⟩
 go_wp2_with fail
 go_quiet ((go_at_call 56;exact Calls.quiet_of (xcount s hs _ (by exact sysKeepNo hs ((Ext.refl No w).drewN _) hdb.out))))
 go_wp2_with fail
 go_ret2
 have hE:Ext s.F w (mset (((w.drewN nq).setCell ⟨s.t,5,none⟩ (.int .i64 ((v.high:Int) + 1))).setCell ⟨s.t,9,none⟩ (.bool true)) s.m v.high ⟨1,[]⟩) :=
  ((((Ext.refl _ w).drewN nq).setF (.inl rfl) _ _).setF (.inl rfl) _ _).trans_ (mset_ext _ _ _ _).of_m
 refine ⟨rfl,?_,hE⟩
 have hc:=h.hc
 refine TxAt.step hs h HK.out HV.out (HM.out _ _ _) hE ?_ h.h1 (Nat.lt_succ_self _) (.inr ⟨rfl,rfl⟩) h2 (Nat.le_succ_of_le hc) rfl
 exact (mset_heap _ _ _ _ _ hmt).trans (((h.tx.drewN nq).set_ _ _).set_ _ _)
theorem heap_set3 (w:World) (t m i j k:Nat) (u u' u'':Value) (h:t ≠ m):((((w.setCell ⟨t,i,none⟩ u).setCell ⟨t,j,none⟩ u').setCell ⟨t,k,none⟩ u'').heap[m]?) = w.heap[m]? :=
 (Below.heap_setCell _ ⟨t,k,none⟩ u'' m (Ne.symm h)).trans (heap_set2 w t m i j u u' h)
theorem alloc_free (s:Sys) (hs:s.Ok) (w:World) (v:V) (h:TxAt w s v) (h1:0 < v.free) (h2:v.free < v.high) (h3:4 ≤ (v.pg v.free).body.length) (h4:1 ≤ v.cnt) :
  Calls Tryz.prog 19 #[.pointer (some ⟨s.t,0,none⟩)] w fun e w'=>e = .returned (.tuple #[.int .i64 (v.free:Int),.int .i64 0]) ∧ TxAt w' s v.allocFree ∧ Ext s.F w w':=by
 have t0:=h.c0
 have t6:=h.c6
 have HU:=Lib.hid (txup s hs w h.db t0)
 have HG:=Lib.hid (get_any s hs w v h v.free h1 h2)
 have h3':4 ≤ (str (v.pg v.free).body).size:=by rw [str_size];exact h3
 have h1':(0:Int) < v.free:=by omega
 go_enter Tryz.func19,Tryz.ntmps19
 go_wp2_with fail
 refine (HU.out).mono ?_
 rintro e w2 ⟨rfl,rfl⟩
 go_wp2_with fail
 refine (HG.out).mono ?_
 rintro e w1 ⟨rfl,hb1⟩
 have h':=h.no hs hb1
 have t0:=h'.c0
 have t5:=h'.c5
 have t6:=h'.c6
 have t7:=h'.c7
 have t8:=h'.c8
 have t9:=h'.c9
 have f0:=h'.fz
 have lt:=h'.tx.lt
 have hne:w1.heap.size ≠ s.t:=by omega
 obtain ⟨ov,hm,hk,hv⟩:=h'.mp
 have hmt:s.t ≠ s.m:=hm.ne h'.tx
 have hmlt:s.m < w1.heap.size:=by
  obtain ⟨_,es,c,ho,_⟩:=hm
  rcases Nat.lt_or_ge s.m w1.heap.size with hlt | hge
  ·exact hlt
  ·rw [Array.getElem?_eq_none hge] at ho;cases ho
 have hmx:∀ W,W.heap[s.m]? = w1.heap[s.m]? → MapAt W s.m ov:=fun W e=>by
  obtain ⟨hn,es,c,ho,hes⟩:=hm
  exact ⟨hn,es,c,e.trans ho,hes⟩
 generalize hp:v.pg v.free = p at h3' h3
 have hmm:∀ o k u u' u'',MapAt (((((w1.alloc o).drewN k).setCell ⟨s.t,6,none⟩ u).setCell ⟨s.t,7,none⟩ u').setCell ⟨s.t,9,none⟩ u'') s.m ov:=fun o k u u' u'' =>
  hmx _ ((heap_set3 ((w1.alloc o).drewN k) _ _ _ _ _ _ _ _ hmt).trans (Below.heap_alloc w1 o s.m hmlt))
 have ms:∀ o k u u' u'',(Instr.mapUpdate 109 (.map (some s.m)) (.int .i64 (v.free:Int)) (.agg #[.int .i64 1,.string { data:=#[] }])).run Tryz.prog (((((w1.alloc o).drewN k).setCell ⟨s.t,6,none⟩ u).setCell ⟨s.t,7,none⟩ u').setCell ⟨s.t,9,none⟩ u'') =
  .ok () (mset (((((w1.alloc o).drewN k).setCell ⟨s.t,6,none⟩ u).setCell ⟨s.t,7,none⟩ u').setCell ⟨s.t,9,none⟩ u'') s.m v.free ⟨1,[]⟩):=fun o k u u' u''=>(mset_run (hmm o k u u' u'') v.free ⟨1,[]⟩).1
 have ms2:=fun o k u u' u''=>(mset_run (hmm o k u u' u'') v.free ⟨1,[]⟩).2
 have HK:=Lib.hid hk;have HV:=Lib.hid hv;have HM:=Lib.hid ms2;have HP:=Lib.hid hp
 clear hk hv ms2 hmm hmx hp
 simp only [Leaf.val]
 go_wp2_with fail
 refine (value_any (str p.body) h3' _).mono ?_
 rintro e w3 ⟨rfl,k,rfl⟩
 have g1:(0:Int) ≤ v.cnt:=by omega
 have hcb:=h.hc
 have hhb:=h.h2
 have hcap:s.cap ≤ 65536:=by unfold Sys.cap;have:=hs.n2;omega
 go_wp2_with fail
 go_ret2
 have hE:Ext s.F w1 (mset (((((w1.alloc (.cells #[.int .i64 (p.kind:Int),.string (str p.body)] 113)).drewN k).setCell ⟨s.t,6,none⟩ (.int .i64 (v4 (str p.body):Int))).setCell ⟨s.t,7,none⟩ (.int .i64 ((v.cnt:Int) - 1))).setCell ⟨s.t,9,none⟩ (.bool true)) s.m v.free ⟨1,[]⟩) :=
  ((((((Ext.refl _ w1).alloc _).drewN k).setF (.inl rfl) _ _).setF (.inl rfl) _ _).setF (.inl rfl) _ _).trans_ (mset_ext _ _ _ _).of_m
 refine ⟨rfl,?_,hb1.of_no.trans_ hE⟩
 refine TxAt.step hs h' HK.out HV.out (HM.out _ _ _ _ _) hE ?_ h1 h2 (.inl rfl) h.h2 (by show v.cnt - 1 ≤ v.high;omega) rfl
 refine (mset_heap _ _ _ _ _ hmt).trans ?_
 have e1:(v.allocFree.cells s) = ((((v.cells s).setIfInBounds 6 (.int .i64 (v4 (str p.body):Int))).setIfInBounds 7 (.int .i64 ((v.cnt:Int) - 1))).setIfInBounds 9 (.bool true)):=by
  have e2:((v.cnt - 1:Nat):Int) = (v.cnt:Int) - 1:=by omega
  simp only [V.allocFree,V.cells,V.put,HP.out,e2]
  rfl
 rw [e1]
 exact (((((h'.tx.alloc _).drewN k).set_ _ _).set_ _ _).set_ _ _)
def V.letFree (v:V) (id:Nat):V:=V.put { v with free:=id,cnt:=v.cnt + 1,marked:=true } id ⟨255,n4 v.free⟩
theorem free_ok (s:Sys) (hs:s.Ok) (w:World) (v:V) (h:TxAt w s v) (id:Nat) (he:v.err id = 0) (hfr:v.free < 4294967296) (hcn:v.cnt < v.high) :
  Calls Tryz.prog 142 #[.pointer (some ⟨s.t,0,none⟩),.int .i64 (id:Int)] w fun e w'=>e = .returned (.int .i64 0) ∧ TxAt w' s (v.letFree id) ∧ Ext s.F w w':=by
 have HG:=Lib.hid (there_ok s hs w v h id he)
 obtain ⟨h1,h2,_⟩:=V.err_ok he
 clear he
 go_enter Tryz.func142,Tryz.ntmps142
 go_wp2_with fail
 refine (HG.out).mono ?_
 rintro e w1 ⟨rfl,hb1⟩
 have h':=h.no hs hb1
 have t6:=h'.c6
 have t7:=h'.c7
 have t8:=h'.c8
 have t9:=h'.c9
 have f0:=h'.fz
 have lt:=h'.tx.lt
 obtain ⟨ov,hm,hk,hv⟩:=h'.mp
 have hmt:s.t ≠ s.m:=hm.ne h'.tx
 have HK:=Lib.hid hk;have HV:=Lib.hid hv;have HM:=Lib.hid hm
 clear hk hv hm
 have hmc:∀ W i,(mset W s.m id ⟨255,n4 v.free⟩).cell? ⟨s.t,i,none⟩ = W.cell? ⟨s.t,i,none⟩:=fun W i=>mset_cell W s.m id _ s.t i hmt
 have hmf:∀ W i,(mset W s.m id ⟨255,n4 v.free⟩).frozen? ⟨s.t,i,none⟩ = W.frozen? ⟨s.t,i,none⟩:=fun W i=>mset_frozen W s.m id _ s.t i hmt
 simp only [Leaf.val]
 go_wp2_with fail
 go_region_held3 (fun w'=>w'.cell? ⟨s.t,8,none⟩ = some (.map (some s.m)) ∧ w'.cell? ⟨s.t,6,none⟩ = some (.int .i64 (v.free:Int))) (go_keep)
  ((go_at_call 106;refine (number_any v.free hfr _).mono ?_;rintro e w3 ⟨rfl,hb3⟩;have hx3:Ext No w1 w3:=((Ext.refl No w1).alloc _).drew.trans_ hb3;have h3:=h'.no hs hx3;have k8:=h3.c8;have k6:=h3.c6;have k7:=h3.c7;have k9:=h3.c9;have f3:=h3.fz;have ms:(Instr.mapUpdate 109 (.map (some s.m)) (.int .i64 (id:Int)) (.agg #[.int .i64 255,.string (str (n4 v.free))])).run Tryz.prog w3 = .ok () (mset w3 s.m id ⟨255,n4 v.free⟩):=(mset_run (HM.out.ext hx3 (fun h=>h)) id ⟨255,n4 v.free⟩).1))
 have hcb:=h.hc
 have hhb:=h.h2
 have hcap:s.cap ≤ 65536:=by unfold Sys.cap;have:=hs.n2;omega
 go_wp2_with fail
 go_ret
 have hM3:=(mset_run (HM.out.ext hx3 (fun h=>h)) id ⟨255,n4 v.free⟩).2
 have hE:Ext s.F w1 ((((mset w3 s.m id ⟨255,n4 v.free⟩).setCell ⟨s.t,6,none⟩ (.int .i64 (id:Int))).setCell ⟨s.t,7,none⟩ (.int .i64 ((v.cnt:Int) + 1))).setCell ⟨s.t,9,none⟩ (.bool true)) :=
  (((hx3.of_no.trans_ (mset_ext _ _ _ _).of_m).setF (.inl rfl) _ _).setF (.inl rfl) _ _).setF (.inl rfl) _ _
 refine ⟨rfl,?_,hb1.of_no.trans_ hE⟩
 have hM:MapAt ((((mset w3 s.m id ⟨255,n4 v.free⟩).setCell ⟨s.t,6,none⟩ (.int .i64 (id:Int))).setCell ⟨s.t,7,none⟩ (.int .i64 ((v.cnt:Int) + 1))).setCell ⟨s.t,9,none⟩ (.bool true)) s.m (setOv ov id ⟨255,n4 v.free⟩):=by
  obtain ⟨hn,es,c,ho,hes⟩:=hM3
  exact ⟨hn,es,c,(heap_set3 _ _ _ _ _ _ _ _ _ hmt).trans ho,hes⟩
 refine TxAt.step hs h' HK.out HV.out hM hE ?_ h1 h2 (.inl rfl) h.h2 (by show v.cnt + 1 ≤ v.high;omega) rfl
 have b3:Blk (mset w3 s.m id ⟨255,n4 v.free⟩) s.t 111 (v.cells s):=(mset_heap _ _ _ _ _ hmt).trans h3.tx
 have e1:((v.letFree id).cells s) = ((((v.cells s).setIfInBounds 6 (.int .i64 (id:Int))).setIfInBounds 7 (.int .i64 ((v.cnt:Int) + 1))).setIfInBounds 9 (.bool true)):=by
  have e2:((v.cnt + 1:Nat):Int) = (v.cnt:Int) + 1:=by omega
  simp only [V.letFree,V.cells,V.put,e2]
  rfl
 rw [e1]
 exact (((b3.set_ _ _).set_ _ _).set_ _ _)
theorem free_bad (s:Sys) (hs:s.Ok) (w:World) (v:V) (h:TxAt w s v) (id:Nat) (he:v.err id ≠ 0) :
  Calls Tryz.prog 142 #[.pointer (some ⟨s.t,0,none⟩),.int .i64 (id:Int)] w fun e w'=>e = .returned (.int .i64 (v.err id:Int)) ∧ Ext No w w':=by
 have HG:=Lib.hid (there_bad s hs w v h id he)
 have hb:((v.err id:Int) == 0) = false:=by simpa using (by omega:¬ (v.err id:Int) = 0)
 clear he
 generalize v.err id = p at *
 go_enter Tryz.func142,Tryz.ntmps142
 go_wp2_with fail
 refine (HG.out).mono ?_
 rintro e w2 ⟨rfl,hb2⟩
 go_wp2_with fail
 go_ret
 exact ⟨rfl,by (repeat' (first | exact Ext.refl _ _ | assumption | apply Ext.alloc | apply Ext.drewN | apply Ext.drew | refine Ext.setNew ?_ (by first | omega | (simp;omega) | simp) _ _ | refine Ext.setF ?_ (by first | exact Or.inl rfl | exact Or.inr rfl | rfl) _ _ | refine Ext.trans_ ?_ (by assumption) | refine Ext.trans_ ?_ (Ext.of_no (by assumption))))⟩
theorem TxAt.old {w:World} {s:Sys} {v:V} (h:TxAt w s v) {b:Nat} (hb:s.F b):b < w.heap.size:=by
 rcases hb with rfl | rfl
 ·exact h.tx.lt
 ·obtain ⟨ov,⟨_,es,c,ho,_⟩,_⟩:=h.mp
  rcases Nat.lt_or_ge s.m w.heap.size with hlt | hge
  ·exact hlt
  ·rw [Array.getElem?_eq_none hge] at ho;cases ho
end Go.Proofs.YtccnemmlkcmceaaGreatDoor
