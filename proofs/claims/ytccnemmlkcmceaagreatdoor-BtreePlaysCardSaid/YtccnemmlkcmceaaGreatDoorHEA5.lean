/- Proofs about the given program, joined out of the texts J4, J5, JA. -/
import Derived.Test.YtccnemmlkcmceaaGreatDoorHEA4
set_option linter.unusedVariables false
set_option linter.unusedSimpArgs false
set_option maxRecDepth 100000
set_option maxHeartbeats 6400000
namespace Go.Proofs.YtccnemmlkcmceaaGreatDoor
open Go.RowKit
def joinR:Option Nd → Nat × Nd
 | none=>(2,⟨false,[],[],[]⟩)
 | some b=>(0,b)
theorem join_any' (l r:Nd) (key:Bs) (w:World) (F:Nat → Prop) (a b:Adr) (hl:NodeIn w F a l) (hr:NodeIn w F b r) (hfl:l.fits) (hfr:r.fits) (hkl:key.length < 65536) :
  Calls Tryz.prog 188 #[l.value a.A1 a.c1 a.A2 a.c2 a.A3 a.c3,r.value b.A1 b.c1 b.A2 b.c2 b.A3 b.c3,.string (str key)] w fun e w'=>Ext No w w' ∧
   ∃ c:Adr,e = .returned (.tuple #[(joinR (l.join r key)).2.value c.A1 c.c1 c.A2 c.c2 c.A3 c.c3,.int .i64 ((joinR (l.join r key)).1:Int)]) ∧ NodeIn w' (Old w) c (joinR (l.join r key)).2:=by
 refine (join_any l r key w F a b hl hr hfl hfr hkl).mono ?_
 rintro e w' ⟨hx,h⟩
 refine ⟨hx,?_⟩
 cases hj:l.join r key with
 | none =>
  rw [hj] at h
  simp only at h
  exact ⟨⟨none,0,none,0,none,0⟩,h,⟨Rd.nil_ _,Rd.nil_ _,Rd.nil_ _,Nat.le_refl _,Nat.le_refl _,Nat.le_refl _,by simp [joinR],by simp [joinR],by simp [joinR],fun _=>rfl,fun _=>rfl,fun _=>rfl⟩⟩
 | some c =>
  rw [hj] at h
  simp only at h
  obtain ⟨a',h1,h2⟩:=h
  exact ⟨a',h1,h2⟩
def BesideTold (w:World) (r:Nat × Nat × Nd) (e:Ending) (w':World):Prop :=
 Ext No w w' ∧ ∃ c:Adr,e = .returned (.tuple #[.int .i64 (r.2.1:Int),r.2.2.value c.A1 c.c1 c.A2 c.c2 c.A3 c.c3,.int .i64 (r.1:Int)]) ∧ (r.1 = 0 → NodeIn w' (Old w) c r.2.2)
theorem results_tct {fn:Func} {p q x:Tmp} {ty:TypeId} (h:fn.results = #[.tmp x,.cell p ty,.tmp q]) (tmps:Array Value) (P:Program) (w:World) :
  (results fn tmps).run P w = ((asAddr (tmps.getD p undef)).run P w).andThen fun a w1=>((loadVar ty a).run P w1).andThen fun v w2=>.ok (.tuple #[tmps.getD x undef,v,tmps.getD q undef]) w2:=by
 simp only [results,h]
 simp [Sem.run_bind,Result.andThen]
theorem beside_back {Q:Ending → World → Prop} {a:Act} {w:World} (b:Nat) (cs:Array Value) (hb:Blk w b 40 cs) {u v:Value} (hs:some 4 = some cs.size)
  (hp:a.tmps.getD 9 undef = .pointer (some ⟨b,0,none⟩)) (h8:a.tmps.getD 8 undef = u) (h4:a.tmps.getD 10 undef = v) (hd:a.defers = [])
  (h:Q (.returned (.tuple #[u,.agg cs,v])) w):bodyPost Tryz.prog Tryz.f149 Q Exit.ret a w:=by
 refine bodyPost_ret (v:=.tuple #[u,.agg cs,v]) (w:=w) ?_ hd h
 have hl:=run_loadVar_row w b 40 40 cs (0,0) _ hb Tryz.underlying40 rfl (by rw [← hs];kernel_rfl)
 rw [results_tct rfl,hp,h4,h8]
 simp [asAddr,Result.andThen,hl]
theorem beside_empty (v:V) (p n:Nd) (i:Nat) (gx:Value) (w:World) (a b:Adr) (hp:p.keys = []) :
  Calls Tryz.prog 149 #[gx,p.value a.A1 a.c1 a.A2 a.c2 a.A3 a.c3,.int .i64 (i:Int),n.value b.A1 b.c1 b.A2 b.c2 b.A3 b.c3] w (BesideTold w (v.beside p i n)):=by
 have e:v.beside p i n = (5,0,n):=by unfold V.beside;rw [if_pos hp]
 rw [e]
 simp only [Nd.value,hp,List.length_nil]
 generalize p.cells.length = n1 at *
 generalize p.kids.length = n3 at *
 generalize hm1:n.cells.length = m1 at *
 generalize hm2:n.keys.length = m2 at *
 generalize hm3:n.kids.length = m3 at *
 generalize p.leaf = lf at *
 generalize hrf:n.leaf = rf at *
 obtain ⟨A1,c1,A2,c2,A3,c3⟩:=a
 obtain ⟨B1,d1,B2,d2,B3,d3⟩:=b
 simp only
 clear e hp
 go_enter Tryz.func149,Tryz.ntmps149
 have bs:=(Blk.new_at (b:=w.heap.size + 2) ((w.alloc (.cells #[.bool lf,.slice A1 n1 c1,.slice A2 0 c2,.slice A3 n3 c3] 40)).alloc (.cells #[.bool rf,.slice B1 m1 d1,.slice B2 m2 d2,.slice B3 m3 d3] 40)) 40 #[.bool rf,.slice B1 m1 d1,.slice B2 m2 d2,.slice B3 m3 d3] (by simp)).drew1
 have HBS:=Lib.hid bs
 clear bs
 go_wp2_with fail
 go_region
 go_wp2_with fail
 refine beside_back (w.heap.size + 2) _ HBS.out rfl rfl rfl rfl rfl ?_
 refine ⟨(((Ext.refl No w).alloc _).alloc _).alloc _ |>.drew,⟨B1,d1,B2,d2,B3,d3⟩,by simp only [Nd.value,hm1,hm2,hm3,hrf];rfl,fun h=>by cases h⟩
theorem beside_left {v:V} {p n:Nd} {i:Nat} (hk:p.keys ≠ []) (hi:0 < i):v.beside p i n = (match v.node (p.kids.getD (i - 1) 0) with | none=>(5,i - 1,n) | some l=>((joinR (l.join n (p.keys.getD (i - 1) []))).1,i - 1,(joinR (l.join n (p.keys.getD (i - 1) []))).2)):=by
 unfold V.beside
 rw [if_neg hk,if_pos hi]
 cases v.node (p.kids.getD (i - 1) 0) with
 | none=>rfl
 | some l=>simp only;cases l.join n (p.keys.getD (i - 1) []) <;> rfl
theorem beside_right {v:V} {p n:Nd} (hk:p.keys ≠ []):v.beside p 0 n = (match v.node (p.kids.getD 1 0) with | none=>(5,0,n) | some r=>((joinR (n.join r (p.keys.getD 0 []))).1,0,(joinR (n.join r (p.keys.getD 0 []))).2)):=by
 unfold V.beside
 rw [if_neg hk,if_neg (by omega)]
 cases v.node (p.kids.getD 1 0) with
 | none=>rfl
 | some l=>simp only;cases n.join l (p.keys.getD 0 []) <;> rfl
theorem beside_l (s:Sys) (hs:s.Ok) (v:V) (p n:Nd) (i:Nat) (gx root:Nat) (w:World) (F:Nat → Prop) (a b:Adr) (h:TxAt w s v) (hg:v.Good) (hx:Blk w gx 70 (treeCells s root)) (hP:NodeIn w F a p) (hNd:NodeIn w F b n)
  (hpf:p.fits) (hnf:n.fits) (hk:p.keys ≠ []) (hkk:p.kids.length = p.keys.length + 1) (hi:0 < i) (hik:i < p.kids.length) :
  Calls Tryz.prog 149 #[.pointer (some ⟨gx,0,none⟩),p.value a.A1 a.c1 a.A2 a.c2 a.A3 a.c3,.int .i64 (i:Int),n.value b.A1 b.c1 b.A2 b.c2 b.A3 b.c3] w (BesideTold w (v.beside p i n)):=by
 have hbl:=hP.b3
 rw [beside_left hk hi]
 obtain ⟨at_,hat⟩:∃ k,i = k + 1:=⟨i - 1,by omega⟩
 subst hat
 simp only [Nat.add_sub_cancel]
 obtain ⟨kid,hkid⟩:∃ k,p.kids[at_]? = some k:=⟨_,List.getElem?_eq_getElem (by omega)⟩
 obtain ⟨key,hkey⟩:∃ k,p.keys[at_]? = some k:=⟨_,List.getElem?_eq_getElem (by omega)⟩
 have ek:p.kids.getD at_ 0 = kid:=by rw [List.getD_eq_getElem?_getD,hkid];rfl
 have ey:p.keys.getD at_ [] = key:=by rw [List.getD_eq_getElem?_getD,hkey];rfl
 rw [ek,ey]
 obtain ⟨kb,ko,hA3,hkF,hkc⟩:=hP.kids.kidAt hkid
 obtain ⟨yb,yo,hA2,hyF,hyc⟩:=hP.keys.keyAt hkey
 have hkl:key.length < 65536:=hpf.k key (List.mem_of_getElem? hkey)
 have HND:=Lib.hid (fun w' (e:Ext No w w')=>node_any s hs w' v (h.no hs e) hg gx root (hx.ext e (fun h=>h)) kid)
 have HJ:=Lib.hid (fun w' (e:Ext No w w') l c (hl:NodeIn w' No c l) (hfl:l.fits)=>join_any' l n key w' No c b hl ((hNd.mono (fun _ _ h=>h.elim)).ext e) hfl hnf hkl)
 have HNO:=Lib.hid (fun l (hl:v.node kid = some l)=>Nd.Ok.fits (Nd.Ok.of (V.node_ok hl)))
 simp only [Nd.value] at HJ ⊢
 have hk1:0 < p.keys.length:=List.length_pos_iff.2 hk
 have hk2:¬ ((p.keys.length:Int) = 0):=by omega
 have hx3:(at_:Int) < (p.kids.length:Int):=by omega
 have hx2:(at_:Int) < (p.keys.length:Int):=by omega
 have hx4:IntKind.i64.wrap (((at_ + 1:Nat):Int) - 1) = (at_:Int):=by rw [IntWalk.i64_in _ (by omega)];omega
 have hx5:(0:Int) < ((at_ + 1:Nat):Int):=by omega
 have lk:=World.block_lt_of_cell? w _ hkc
 have ly:=World.block_lt_of_cell? w _ hyc
 simp only at lk ly
 rw [hA2,hA3]
 have HKC:=Lib.hid hkc;have HYC:=Lib.hid hyc
 clear h hx hP hNd hpf hnf hk hkk ek ey hkid hkey hA2 hA3 hkF hyF hik hkc hyc
 generalize p.cells.length = n1 at *
 generalize hn2:p.keys.length = n2 at *
 generalize hn3:p.kids.length = n3 at *
 generalize hm1:n.cells.length = m1 at *
 generalize hm2:n.keys.length = m2 at *
 generalize hm3:n.kids.length = m3 at *
 generalize p.leaf = lf at *
 generalize hrf:n.leaf = rf at *
 obtain ⟨A1,c1,A2,c2,A3,c3⟩:=a
 obtain ⟨B1,d1,B2,d2,B3,d3⟩:=b
 simp only at HJ ⊢
 obtain ⟨D,hD⟩:∃ D,D = (match v.node kid with | none=>(5,at_,n) | some l=>((joinR (l.join n key)).1,at_,(joinR (l.join n key)).2)):=⟨_,rfl⟩
 rw [← hD]
 have HD:=Lib.hid hD
 clear hD
 go_enter Tryz.func149,Tryz.ntmps149
 go_wp2_with fail
 go_cut [11,12] (fun u1 u2 wx=>∃ b1 b2:Nat,u1 = .pointer (some ⟨b1,0,none⟩) ∧ u2 = .pointer (some ⟨b2,0,none⟩) ∧ b1 ≠ b2 ∧ w.heap.size + 3 ≤ b1 ∧ w.heap.size + 3 ≤ b2 ∧ Blk wx b1 40 #[.bool rf,.slice B1 m1 d1,.slice B2 m2 d2,.slice B3 m3 d3] ∧ Blk wx b2 40 #[.bool rf,.slice B1 m1 d1,.slice B2 m2 d2,.slice B3 m3 d3] ∧
  Blk wx w.heap.size 40 #[.bool lf,.slice A1 n1 c1,.slice (some ⟨yb,yo,none⟩) n2 c2,.slice (some ⟨kb,ko,none⟩) n3 c3] ∧ Blk wx (w.heap.size + 1) 40 #[.bool rf,.slice B1 m1 d1,.slice B2 m2 d2,.slice B3 m3 d3] ∧ Blk wx (w.heap.size + 2) 40 #[.bool false,.slice none 0 0,.slice none 0 0,.slice none 0 0] ∧ Ext No w wx)
 case first =>
  go_region
  all_goals (
   go_wp2_with fail
   go_meet
   have b0:=((((Blk.new w 40 #[.bool lf,.slice A1 n1 c1,.slice (some ⟨yb,yo,none⟩) n2 c2,.slice (some ⟨kb,ko,none⟩) n3 c3]).alloc (.cells #[.bool rf,.slice B1 m1 d1,.slice B2 m2 d2,.slice B3 m3 d3] 40)).alloc (.cells #[.bool false,.slice none 0 0,.slice none 0 0,.slice none 0 0] 40)).alloc (.cells #[.bool rf,.slice B1 m1 d1,.slice B2 m2 d2,.slice B3 m3 d3] 40)).alloc (.cells #[.bool rf,.slice B1 m1 d1,.slice B2 m2 d2,.slice B3 m3 d3] 40)
   have b1:=(((Blk.new_at (b:=w.heap.size + 1) (w.alloc (.cells #[.bool lf,.slice A1 n1 c1,.slice (some ⟨yb,yo,none⟩) n2 c2,.slice (some ⟨kb,ko,none⟩) n3 c3] 40)) 40 #[.bool rf,.slice B1 m1 d1,.slice B2 m2 d2,.slice B3 m3 d3] (by simp)).alloc (.cells #[.bool false,.slice none 0 0,.slice none 0 0,.slice none 0 0] 40)).alloc (.cells #[.bool rf,.slice B1 m1 d1,.slice B2 m2 d2,.slice B3 m3 d3] 40)).alloc (.cells #[.bool rf,.slice B1 m1 d1,.slice B2 m2 d2,.slice B3 m3 d3] 40)
   have b2:=((Blk.new_at (b:=w.heap.size + 2) ((w.alloc (.cells #[.bool lf,.slice A1 n1 c1,.slice (some ⟨yb,yo,none⟩) n2 c2,.slice (some ⟨kb,ko,none⟩) n3 c3] 40)).alloc (.cells #[.bool rf,.slice B1 m1 d1,.slice B2 m2 d2,.slice B3 m3 d3] 40)) 40 #[.bool false,.slice none 0 0,.slice none 0 0,.slice none 0 0] (by simp)).alloc (.cells #[.bool rf,.slice B1 m1 d1,.slice B2 m2 d2,.slice B3 m3 d3] 40)).alloc (.cells #[.bool rf,.slice B1 m1 d1,.slice B2 m2 d2,.slice B3 m3 d3] 40)
   have b3:=(Blk.new_at (b:=w.heap.size + 3) (((w.alloc (.cells #[.bool lf,.slice A1 n1 c1,.slice (some ⟨yb,yo,none⟩) n2 c2,.slice (some ⟨kb,ko,none⟩) n3 c3] 40)).alloc (.cells #[.bool rf,.slice B1 m1 d1,.slice B2 m2 d2,.slice B3 m3 d3] 40)).alloc (.cells #[.bool false,.slice none 0 0,.slice none 0 0,.slice none 0 0] 40)) 40 #[.bool rf,.slice B1 m1 d1,.slice B2 m2 d2,.slice B3 m3 d3] (by simp)).alloc (.cells #[.bool rf,.slice B1 m1 d1,.slice B2 m2 d2,.slice B3 m3 d3] 40)
   have b4:=Blk.new_at (b:=w.heap.size + 4) ((((w.alloc (.cells #[.bool lf,.slice A1 n1 c1,.slice (some ⟨yb,yo,none⟩) n2 c2,.slice (some ⟨kb,ko,none⟩) n3 c3] 40)).alloc (.cells #[.bool rf,.slice B1 m1 d1,.slice B2 m2 d2,.slice B3 m3 d3] 40)).alloc (.cells #[.bool false,.slice none 0 0,.slice none 0 0,.slice none 0 0] 40)).alloc (.cells #[.bool rf,.slice B1 m1 d1,.slice B2 m2 d2,.slice B3 m3 d3] 40)) 40 #[.bool rf,.slice B1 m1 d1,.slice B2 m2 d2,.slice B3 m3 d3] (by simp)
   have hE:=(((((Ext.refl No w).alloc (.cells #[.bool lf,.slice A1 n1 c1,.slice (some ⟨yb,yo,none⟩) n2 c2,.slice (some ⟨kb,ko,none⟩) n3 c3] 40)).alloc (.cells #[.bool rf,.slice B1 m1 d1,.slice B2 m2 d2,.slice B3 m3 d3] 40)).alloc (.cells #[.bool false,.slice none 0 0,.slice none 0 0,.slice none 0 0] 40)).alloc (.cells #[.bool rf,.slice B1 m1 d1,.slice B2 m2 d2,.slice B3 m3 d3] 40)).alloc (.cells #[.bool rf,.slice B1 m1 d1,.slice B2 m2 d2,.slice B3 m3 d3] 40)
   first
    | exact ⟨w.heap.size + 3,w.heap.size + 4,rfl,rfl,by omega,by omega,by omega,b3.drew1,b4.drew1,b0.drew1,b1.drew1,b2.drew1,hE.drew⟩
    | exact ⟨w.heap.size + 4,w.heap.size + 3,rfl,rfl,by omega,by omega,by omega,b4.drew1,b3.drew1,b0.drew1,b1.drew1,b2.drew1,hE.drew⟩)
 case rest =>
  obtain ⟨b1,b2,rfl,rfl,hne,hb1,hb2,k1,k2,kp,kn,kr,hE⟩:=hcut
  obtain ⟨p0,p1,p2,p3,g0,g1,g2,g3,ln⟩:=kp.p4
  obtain ⟨t0,t1,t2,t3,f0,f1,f2,f3,lt⟩:=k1.p4
  have hkc:=cell_ext hE HKC.out (fun h=>h)
  have hyc:=cell_ext hE HYC.out (fun h=>h)
  have HK1:=Lib.hid k1;have HK2:=Lib.hid k2;have HKN:=Lib.hid kn;have HKR:=Lib.hid kr;have HKP:=Lib.hid kp;have HE:=Lib.hid hE
  have HB1:=Lib.hid hb1;have HB2:=Lib.hid hb2;have HNE:=Lib.hid hne
  have hlk:kb < wc.heap.size:=Nat.lt_of_lt_of_le lk hE.size
  have hnb1:¬ b1 = w.heap.size:=by omega
  have hnb2:¬ b1 = w.heap.size + 1:=by omega
  have hnb3:¬ b1 = w.heap.size + 2:=by omega
  have hnb4:¬ b1 = kb:=by omega
  have hnb5:¬ b1 = yb:=by omega
  clear k1 k2 kn kr kp hE hb1 hb2
  have HND1:=Lib.hid (HND.out _ HE.out)
  have hDo:=HD.out
  clear HD
  cases hnk:v.node kid with
  | none =>
   rw [hnk] at HND1 hDo
   simp only at hDo
   subst hDo
   clear hnk HJ HNO
   go_wp2_with fail
   refine HND1.out.mono ?_
   rintro e w2 ⟨hx2,he⟩
   simp only [Nd.zero] at he
   subst he
   clear p0 p1 p2 p3 g0 g1 g2 g3 ln t0 t1 t2 t3 f0 f1 f2 f3 lt hkc hyc
   have hx2':Ext No wc w2:=hx2
   obtain ⟨t0,t1,t2,t3,f0,f1,f2,f3,lt⟩:=(HK1.out.ext hx2' (fun h=>h)).p4
   obtain ⟨q0,q1,q2,q3,j0,j1,j2,j3,lq⟩:=(HKN.out.ext hx2' (fun h=>h)).p4
   have kr2:=HKR.out.ext hx2' (fun h=>h)
   obtain ⟨r0,r1,r2,r3,s0,s1,s2,s3,lr⟩:=kr2.p4
   have HKR2:=Lib.hid kr2
   have HE2:=Lib.hid (HE.out.trans_ hx2')
   clear kr2 hx2 hx2'
   go_wp2_with fail
   go_region
   go_wp2_with fail
   have hb1n:w.heap.size + 2 ≠ b1:=fun h=>hnb3 h.symm
   have hb1g:w.heap.size ≤ b1:=by have:=HB1.out;omega
   have kr3:=(((((((HKR2.out.far (p:=⟨b1,0,none⟩) hb1n (.bool false)).far (p:=⟨b1,1,none⟩) hb1n (.slice none 0 0)).far (p:=⟨b1,2,none⟩) hb1n (.slice none 0 0)).far (p:=⟨b1,3,none⟩) hb1n (.slice none 0 0)).put4 (.bool rf) (.slice B1 m1 d1) (.slice B2 m2 d2) (.slice B3 m3 d3))).drew1)
   refine beside_back (w.heap.size + 2) _ kr3 rfl rfl rfl rfl rfl ?_
   refine ⟨((((((((HE2.out.setNew hb1g _ _).setNew hb1g _ _).setNew hb1g _ _).setNew hb1g _ _).setNew (by omega) _ _).setNew (by omega) _ _).setNew (by omega) _ _).setNew (by omega) _ _).drew,⟨B1,d1,B2,d2,B3,d3⟩,by simp only [Nd.value,hm1,hm2,hm3,hrf];rfl,fun h=>by cases h⟩
  | some l =>
   rw [hnk] at HND1 hDo
   simp only at hDo
   have HLF:=Lib.hid (HNO.out l hnk)
   clear hnk HNO
   obtain ⟨R,hR⟩:∃ R,R = joinR (l.join n key):=⟨_,rfl⟩
   have HJ2:=Lib.hid (fun w' e c hl=>HJ.out w' e l c hl HLF.out)
   rw [← hR] at HJ2 hDo
   subst hDo
   clear hR HJ
   go_wp2_with fail
   refine HND1.out.mono ?_
   rintro e w2 ⟨hx2,D1,e1,D2,e2,D3,e3,he,hnl⟩
   simp only [Nd.value] at he
   subst he
   have hx2':Ext No wc w2:=hx2
   clear p0 p1 p2 p3 g0 g1 g2 g3 ln t0 t1 t2 t3 f0 f1 f2 f3 lt
   have k1b:=HK1.out.ext hx2' (fun h=>h)
   obtain ⟨t0,t1,t2,t3,f0,f1,f2,f3,lt⟩:=k1b.p4
   have HK1b:=Lib.hid k1b
   obtain ⟨u0,u1,u2,u3,m0,m1,m2,m3,lu⟩:=(HK2.out.ext hx2' (fun h=>h)).p4
   obtain ⟨q0,q1,q2,q3,j0,j1,j2,j3,lq⟩:=(HKP.out.ext hx2' (fun h=>h)).p4
   have hyc2:=cell_ext hx2' hyc (fun h=>h)
   have kr2:=HKR.out.ext hx2' (fun h=>h)
   obtain ⟨r0,r1,r2,r3,s0,s1,s2,s3,lr⟩:=kr2.p4
   have HKR2:=Lib.hid kr2
   have HE2:=Lib.hid (HE.out.trans_ hx2')
   have HNL:=Lib.hid hnl
   have HX2:=Lib.hid hx2'
   clear kr2 hx2 hx2' hnl hkc hyc k1b
   have hne2:¬ b2 = b1:=fun h=>HNE.out h.symm
   go_wp2_with fail
   obtain ⟨W3,hW3⟩:∃ W3,W3 = ((((w2.setCell ⟨b1,0,none⟩ (.bool l.leaf)).setCell ⟨b1,1,none⟩ (.slice D1 l.cells.length e1)).setCell ⟨b1,2,none⟩ (.slice D2 l.keys.length e2)).setCell ⟨b1,3,none⟩ (.slice D3 l.kids.length e3)):=⟨_,rfl⟩
   have hb1g:w.heap.size ≤ b1:=by have:=HB1.out;omega
   have HE3:=Lib.hid ((((HE2.out.setNew hb1g 0 (.bool l.leaf)).setNew hb1g 1 (.slice D1 l.cells.length e1)).setNew hb1g 2 (.slice D2 l.keys.length e2)).setNew hb1g 3 (.slice D3 l.kids.length e3))
   have k13:=HK1b.out.put4 (.bool l.leaf) (.slice D1 l.cells.length e1) (.slice D2 l.keys.length e2) (.slice D3 l.kids.length e3)
   have HFR:=Lib.hid (fun g t cs (hb:Blk w2 g t cs) (hg:g ≠ b1)=>((((hb.far (p:=⟨b1,0,none⟩) hg (.bool l.leaf)).far (p:=⟨b1,1,none⟩) hg (.slice D1 l.cells.length e1)).far (p:=⟨b1,2,none⟩) hg (.slice D2 l.keys.length e2)).far (p:=⟨b1,3,none⟩) hg (.slice D3 l.kids.length e3)))
   have hOn:On b1 b1:=rfl
   have hXb:Ext (On b1) w2 ((((w2.setCell ⟨b1,0,none⟩ (.bool l.leaf)).setCell ⟨b1,1,none⟩ (.slice D1 l.cells.length e1)).setCell ⟨b1,2,none⟩ (.slice D2 l.keys.length e2)).setCell ⟨b1,3,none⟩ (.slice D3 l.kids.length e3)):=((((Ext.refl (On b1) w2).setF hOn 0 (.bool l.leaf)).setF hOn 1 (.slice D1 l.cells.length e1)).setF hOn 2 (.slice D2 l.keys.length e2)).setF hOn 3 (.slice D3 l.kids.length e3)
   rw [← hW3] at HE3 k13 HFR hXb ⊢
   have hnl3:NodeIn W3 No ⟨D1,e1,D2,e2,D3,e3⟩ l:=(HNL.out.ext (hXb.mono (fun b _ h=>by have h':b = b1:=h;rw [h'];exact HK1.out.lt))).mono (fun _ _ h=>h.elim)
   have hyc3:=cell_ext hXb hyc2 (fun h=>hnb5 h.symm)
   have ly3:yb < W3.heap.size:=by have:=World.block_lt_of_cell? W3 _ hyc3;exact this
   have HJ3:=Lib.hid (HJ2.out W3.drew HE3.out.drew ⟨D1,e1,D2,e2,D3,e3⟩ (hnl3.ext (Ext.refl No W3).drew))
   simp only at HJ3
   have hx2o:=HX2.out
   clear t0 t1 t2 t3 f0 f1 f2 f3 lt u0 u1 u2 u3 m0 m1 m2 m3 lu q0 q1 q2 q3 j0 j1 j2 j3 lq r0 r1 r2 r3 s0 s1 s2 s3 lr hyc2 hnl3 hXb hW3
   obtain ⟨t0,t1,t2,t3,f0,f1,f2,f3,lt⟩:=k13.p4
   obtain ⟨u0,u1,u2,u3,m0,m1,m2,m3,lu⟩:=(HFR.out _ _ _ (HK2.out.ext hx2o (fun h=>h)) hne2).p4
   obtain ⟨q0,q1,q2,q3,j0,j1,j2,j3,lq⟩:=(HFR.out _ _ _ (HKP.out.ext hx2o (fun h=>h)) (fun h=>hnb1 h.symm)).p4
   have hr3:=HFR.out _ _ _ HKR2.out (fun h=>hnb3 h.symm)
   obtain ⟨r0,r1,r2,r3,s0,s1,s2,s3,lr⟩:=hr3.p4
   have HR3:=Lib.hid hr3
   clear hr3 k13 hx2o
   have HWS:=Lib.hid (show w.heap.size ≤ W3.heap.size from HE3.out.size)
   go_cut [10] (fun k wx=>k = .int .i64 (R.1:Int) ∧ ∃ c:Adr,Blk wx (w.heap.size + 2) 40 #[.bool R.2.leaf,.slice c.A1 R.2.cells.length c.c1,.slice c.A2 R.2.keys.length c.c2,.slice c.A3 R.2.kids.length c.c3] ∧ Ext No w wx ∧ NodeIn wx (Old W3.drew) c R.2)
   case first =>
    go_region_law ((go_simp;go_at_call 188;refine HJ3.out.mono ?_;rintro e w7 ⟨hx7,c,rfl,hn7⟩;have hr7:=(HR3.out.drew1).ext hx7 (fun h=>h);have HR7:=Lib.hid hr7;obtain ⟨r0',r1',r2',r3',s0',s1',s2',s3',lr'⟩:=hr7.p4;have HX7:=Lib.hid hx7;have HN7:=Lib.hid hn7;clear hx7 hn7 hr7))
    all_goals (
     go_wp2_with fail
     go_meet
     refine ⟨rfl,c,HR7.out.put4 (.bool R.2.leaf) (.slice c.A1 R.2.cells.length c.c1) (.slice c.A2 R.2.keys.length c.c2) (.slice c.A3 R.2.kids.length c.c3),?_,?_⟩
     ·exact (((((HE3.out.drew).trans_ HX7.out).setNew (Nat.le_add_right _ 2) _ _).setNew (Nat.le_add_right _ 2) _ _).setNew (Nat.le_add_right _ 2) _ _).setNew (Nat.le_add_right _ 2) _ _
     ·have hOn2:Old W3.drew (w.heap.size + 2):=lr
      exact (HN7.out.ext (((((Ext.refl (Old W3.drew) w7).setF hOn2 0 (.bool R.2.leaf)).setF hOn2 1 (.slice c.A1 R.2.cells.length c.c1)).setF hOn2 2 (.slice c.A2 R.2.keys.length c.c2)).setF hOn2 3 (.slice c.A3 R.2.kids.length c.c3))))
   case rest =>
    have HLR:=Lib.hid (show Old W3.drew (w.heap.size + 2) from lr)
    obtain ⟨rfl,c,hk8,hE8,hN8⟩:=hcut
    clear r0 r1 r2 r3 s0 s1 s2 s3 lr t0 t1 t2 t3 f0 f1 f2 f3 lt u0 u1 u2 u3 m0 m1 m2 m3 lu q0 q1 q2 q3 j0 j1 j2 j3 lq
    obtain ⟨x0,x1,x2,x3,y0,y1,y2,y3,lx⟩:=hk8.p4
    have HK8:=Lib.hid hk8;have HE8:=Lib.hid hE8;have HN8:=Lib.hid hN8
    clear hk8 hE8 hN8
    go_wp2_with fail
    go_region
    go_wp2_with fail
    have hk9:=(HK8.out.drew1).put4 (.bool R.2.leaf) (.slice c.A1 R.2.cells.length c.c1) (.slice c.A2 R.2.keys.length c.c2) (.slice c.A3 R.2.kids.length c.c3)
    refine beside_back (w.heap.size + 2) _ hk9 rfl rfl rfl rfl rfl ?_
    refine ⟨((((HE8.out.drew).setNew (Nat.le_add_right _ 2) _ _).setNew (Nat.le_add_right _ 2) _ _).setNew (Nat.le_add_right _ 2) _ _).setNew (Nat.le_add_right _ 2) _ _,c,rfl,fun _=>?_⟩
    exact (HN8.out.ext (((((Ext.refl (Old W3.drew) _).drew.setF HLR.out 0 _).setF HLR.out 1 _).setF HLR.out 2 _).setF HLR.out 3 _)).mono (fun b _ hb=>Nat.lt_of_lt_of_le hb HWS.out)
theorem beside_r (s:Sys) (hs:s.Ok) (v:V) (p n:Nd) (gx root:Nat) (w:World) (F:Nat → Prop) (a b:Adr) (h:TxAt w s v) (hg:v.Good) (hx:Blk w gx 70 (treeCells s root)) (hP:NodeIn w F a p) (hNd:NodeIn w F b n)
  (hpf:p.fits) (hnf:n.fits) (hk:p.keys ≠ []) (hkk:p.kids.length = p.keys.length + 1) :
  Calls Tryz.prog 149 #[.pointer (some ⟨gx,0,none⟩),p.value a.A1 a.c1 a.A2 a.c2 a.A3 a.c3,(.int .i64 0),n.value b.A1 b.c1 b.A2 b.c2 b.A3 b.c3] w (BesideTold w (v.beside p 0 n)):=by
 have hbl:=hP.b3
 obtain ⟨D,hD⟩:∃ D,D = v.beside p 0 n:=⟨_,rfl⟩
 rw [← hD]
 rw [beside_right hk] at hD
 have hk0:0 < p.keys.length:=List.length_pos_iff.2 hk
 obtain ⟨kid,hkid⟩:∃ k,p.kids[1]? = some k:=⟨_,List.getElem?_eq_getElem (by omega)⟩
 obtain ⟨key,hkey⟩:∃ k,p.keys[0]? = some k:=⟨_,List.getElem?_eq_getElem (by omega)⟩
 have ek:p.kids.getD 1 0 = kid:=by rw [List.getD_eq_getElem?_getD,hkid];rfl
 have ey:p.keys.getD 0 [] = key:=by rw [List.getD_eq_getElem?_getD,hkey];rfl
 rw [ek,ey] at hD
 obtain ⟨kb,ko,hA3,hkF,hkc⟩:=hP.kids.kidAt hkid
 obtain ⟨yb,yo,hA2,hyF,hyc⟩:=hP.keys.keyAt hkey
 have hkl:key.length < 65536:=hpf.k key (List.mem_of_getElem? hkey)
 have HND:=Lib.hid (fun w' (e:Ext No w w')=>node_any s hs w' v (h.no hs e) hg gx root (hx.ext e (fun h=>h)) kid)
 have HJ:=Lib.hid (fun w' (e:Ext No w w') l c (hl:NodeIn w' No c l) (hfl:l.fits)=>join_any' n l key w' No b c ((hNd.mono (fun _ _ h=>h.elim)).ext e) hl hnf hfl hkl)
 have HNO:=Lib.hid (fun l (hl:v.node kid = some l)=>Nd.Ok.fits (Nd.Ok.of (V.node_ok hl)))
 simp only [Nd.value] at HJ ⊢
 have hk1:0 < p.keys.length:=List.length_pos_iff.2 hk
 have hk2:¬ ((p.keys.length:Int) = 0):=by omega
 have hx3:(1:Int) < (p.kids.length:Int):=by omega
 have hx2:(0:Int) < (p.keys.length:Int):=by omega
 have lk:=World.block_lt_of_cell? w _ hkc
 have ly:=World.block_lt_of_cell? w _ hyc
 simp only at lk ly
 rw [hA2,hA3]
 simp only [Nat.add_zero] at hyc
 have HKC:=Lib.hid hkc;have HYC:=Lib.hid hyc
 clear h hx hP hNd hpf hnf hk hkk ek ey hkid hkey hA2 hA3 hkF hyF hkc hyc hk0
 generalize p.cells.length = n1 at *
 generalize hn2:p.keys.length = n2 at *
 generalize hn3:p.kids.length = n3 at *
 generalize hm1:n.cells.length = m1 at *
 generalize hm2:n.keys.length = m2 at *
 generalize hm3:n.kids.length = m3 at *
 generalize p.leaf = lf at *
 generalize hrf:n.leaf = rf at *
 obtain ⟨A1,c1,A2,c2,A3,c3⟩:=a
 obtain ⟨B1,d1,B2,d2,B3,d3⟩:=b
 simp only at HJ ⊢
 have HD:=Lib.hid hD
 clear hD
 go_enter Tryz.func149,Tryz.ntmps149
 go_wp2_with fail
 go_cut [11,12] (fun u1 u2 wx=>∃ b1 b2:Nat,u1 = .pointer (some ⟨b1,0,none⟩) ∧ u2 = .pointer (some ⟨b2,0,none⟩) ∧ b1 ≠ b2 ∧ w.heap.size + 3 ≤ b1 ∧ w.heap.size + 3 ≤ b2 ∧ Blk wx b1 40 #[.bool rf,.slice B1 m1 d1,.slice B2 m2 d2,.slice B3 m3 d3] ∧ Blk wx b2 40 #[.bool rf,.slice B1 m1 d1,.slice B2 m2 d2,.slice B3 m3 d3] ∧
  Blk wx w.heap.size 40 #[.bool lf,.slice A1 n1 c1,.slice (some ⟨yb,yo,none⟩) n2 c2,.slice (some ⟨kb,ko,none⟩) n3 c3] ∧ Blk wx (w.heap.size + 1) 40 #[.bool rf,.slice B1 m1 d1,.slice B2 m2 d2,.slice B3 m3 d3] ∧ Blk wx (w.heap.size + 2) 40 #[.bool false,.slice none 0 0,.slice none 0 0,.slice none 0 0] ∧ Ext No w wx)
 case first =>
  go_region
  all_goals (
   go_wp2_with fail
   go_meet
   have b0:=((((Blk.new w 40 #[.bool lf,.slice A1 n1 c1,.slice (some ⟨yb,yo,none⟩) n2 c2,.slice (some ⟨kb,ko,none⟩) n3 c3]).alloc (.cells #[.bool rf,.slice B1 m1 d1,.slice B2 m2 d2,.slice B3 m3 d3] 40)).alloc (.cells #[.bool false,.slice none 0 0,.slice none 0 0,.slice none 0 0] 40)).alloc (.cells #[.bool rf,.slice B1 m1 d1,.slice B2 m2 d2,.slice B3 m3 d3] 40)).alloc (.cells #[.bool rf,.slice B1 m1 d1,.slice B2 m2 d2,.slice B3 m3 d3] 40)
   have b1:=(((Blk.new_at (b:=w.heap.size + 1) (w.alloc (.cells #[.bool lf,.slice A1 n1 c1,.slice (some ⟨yb,yo,none⟩) n2 c2,.slice (some ⟨kb,ko,none⟩) n3 c3] 40)) 40 #[.bool rf,.slice B1 m1 d1,.slice B2 m2 d2,.slice B3 m3 d3] (by simp)).alloc (.cells #[.bool false,.slice none 0 0,.slice none 0 0,.slice none 0 0] 40)).alloc (.cells #[.bool rf,.slice B1 m1 d1,.slice B2 m2 d2,.slice B3 m3 d3] 40)).alloc (.cells #[.bool rf,.slice B1 m1 d1,.slice B2 m2 d2,.slice B3 m3 d3] 40)
   have b2:=((Blk.new_at (b:=w.heap.size + 2) ((w.alloc (.cells #[.bool lf,.slice A1 n1 c1,.slice (some ⟨yb,yo,none⟩) n2 c2,.slice (some ⟨kb,ko,none⟩) n3 c3] 40)).alloc (.cells #[.bool rf,.slice B1 m1 d1,.slice B2 m2 d2,.slice B3 m3 d3] 40)) 40 #[.bool false,.slice none 0 0,.slice none 0 0,.slice none 0 0] (by simp)).alloc (.cells #[.bool rf,.slice B1 m1 d1,.slice B2 m2 d2,.slice B3 m3 d3] 40)).alloc (.cells #[.bool rf,.slice B1 m1 d1,.slice B2 m2 d2,.slice B3 m3 d3] 40)
   have b3:=(Blk.new_at (b:=w.heap.size + 3) (((w.alloc (.cells #[.bool lf,.slice A1 n1 c1,.slice (some ⟨yb,yo,none⟩) n2 c2,.slice (some ⟨kb,ko,none⟩) n3 c3] 40)).alloc (.cells #[.bool rf,.slice B1 m1 d1,.slice B2 m2 d2,.slice B3 m3 d3] 40)).alloc (.cells #[.bool false,.slice none 0 0,.slice none 0 0,.slice none 0 0] 40)) 40 #[.bool rf,.slice B1 m1 d1,.slice B2 m2 d2,.slice B3 m3 d3] (by simp)).alloc (.cells #[.bool rf,.slice B1 m1 d1,.slice B2 m2 d2,.slice B3 m3 d3] 40)
   have b4:=Blk.new_at (b:=w.heap.size + 4) ((((w.alloc (.cells #[.bool lf,.slice A1 n1 c1,.slice (some ⟨yb,yo,none⟩) n2 c2,.slice (some ⟨kb,ko,none⟩) n3 c3] 40)).alloc (.cells #[.bool rf,.slice B1 m1 d1,.slice B2 m2 d2,.slice B3 m3 d3] 40)).alloc (.cells #[.bool false,.slice none 0 0,.slice none 0 0,.slice none 0 0] 40)).alloc (.cells #[.bool rf,.slice B1 m1 d1,.slice B2 m2 d2,.slice B3 m3 d3] 40)) 40 #[.bool rf,.slice B1 m1 d1,.slice B2 m2 d2,.slice B3 m3 d3] (by simp)
   have hE:=(((((Ext.refl No w).alloc (.cells #[.bool lf,.slice A1 n1 c1,.slice (some ⟨yb,yo,none⟩) n2 c2,.slice (some ⟨kb,ko,none⟩) n3 c3] 40)).alloc (.cells #[.bool rf,.slice B1 m1 d1,.slice B2 m2 d2,.slice B3 m3 d3] 40)).alloc (.cells #[.bool false,.slice none 0 0,.slice none 0 0,.slice none 0 0] 40)).alloc (.cells #[.bool rf,.slice B1 m1 d1,.slice B2 m2 d2,.slice B3 m3 d3] 40)).alloc (.cells #[.bool rf,.slice B1 m1 d1,.slice B2 m2 d2,.slice B3 m3 d3] 40)
   first
    | exact ⟨w.heap.size + 3,w.heap.size + 4,rfl,rfl,by omega,by omega,by omega,b3.drew1,b4.drew1,b0.drew1,b1.drew1,b2.drew1,hE.drew⟩
    | exact ⟨w.heap.size + 4,w.heap.size + 3,rfl,rfl,by omega,by omega,by omega,b4.drew1,b3.drew1,b0.drew1,b1.drew1,b2.drew1,hE.drew⟩)
 case rest =>
  obtain ⟨b1,b2,rfl,rfl,hne,hb1,hb2,k1,k2,kp,kn,kr,hE⟩:=hcut
  obtain ⟨p0,p1,p2,p3,g0,g1,g2,g3,ln⟩:=kp.p4
  obtain ⟨t0,t1,t2,t3,f0,f1,f2,f3,lt⟩:=k2.p4
  have hkc:=cell_ext hE HKC.out (fun h=>h)
  have hyc:=cell_ext hE HYC.out (fun h=>h)
  have HK1:=Lib.hid k1;have HK2:=Lib.hid k2;have HKN:=Lib.hid kn;have HKR:=Lib.hid kr;have HKP:=Lib.hid kp;have HE:=Lib.hid hE
  have HB1:=Lib.hid hb1;have HB2:=Lib.hid hb2;have HNE:=Lib.hid hne
  have hlk:kb < wc.heap.size:=Nat.lt_of_lt_of_le lk hE.size
  have hnb1:¬ b2 = w.heap.size:=by omega
  have hnb2:¬ b2 = w.heap.size + 1:=by omega
  have hnb3:¬ b2 = w.heap.size + 2:=by omega
  have hnb4:¬ b2 = kb:=by omega
  have hnb5:¬ b2 = yb:=by omega
  clear k1 k2 kn kr kp hE hb1 hb2
  have HND1:=Lib.hid (HND.out _ HE.out)
  have hDo:=HD.out
  clear HD
  cases hnk:v.node kid with
  | none =>
   rw [hnk] at HND1 hDo
   simp only at hDo
   subst hDo
   clear hnk HJ HNO
   go_wp2_with fail
   refine HND1.out.mono ?_
   rintro e w2 ⟨hx2,he⟩
   simp only [Nd.zero] at he
   subst he
   clear p0 p1 p2 p3 g0 g1 g2 g3 ln t0 t1 t2 t3 f0 f1 f2 f3 lt hkc hyc
   have hx2':Ext No wc w2:=hx2
   obtain ⟨t0,t1,t2,t3,f0,f1,f2,f3,lt⟩:=(HK2.out.ext hx2' (fun h=>h)).p4
   obtain ⟨q0,q1,q2,q3,j0,j1,j2,j3,lq⟩:=(HKN.out.ext hx2' (fun h=>h)).p4
   have kr2:=HKR.out.ext hx2' (fun h=>h)
   obtain ⟨r0,r1,r2,r3,s0,s1,s2,s3,lr⟩:=kr2.p4
   have HKR2:=Lib.hid kr2
   have HE2:=Lib.hid (HE.out.trans_ hx2')
   clear kr2 hx2 hx2'
   go_wp2_with fail
   go_region
   go_wp2_with fail
   have hb2n:w.heap.size + 2 ≠ b2:=fun h=>hnb3 h.symm
   have hb2g:w.heap.size ≤ b2:=by have:=HB2.out;omega
   have kr3:=(((((((HKR2.out.far (p:=⟨b2,0,none⟩) hb2n (.bool false)).far (p:=⟨b2,1,none⟩) hb2n (.slice none 0 0)).far (p:=⟨b2,2,none⟩) hb2n (.slice none 0 0)).far (p:=⟨b2,3,none⟩) hb2n (.slice none 0 0)).put4 (.bool rf) (.slice B1 m1 d1) (.slice B2 m2 d2) (.slice B3 m3 d3))).drew1)
   refine beside_back (w.heap.size + 2) _ kr3 rfl rfl rfl rfl rfl ?_
   refine ⟨((((((((HE2.out.setNew hb2g _ _).setNew hb2g _ _).setNew hb2g _ _).setNew hb2g _ _).setNew (by omega) _ _).setNew (by omega) _ _).setNew (by omega) _ _).setNew (by omega) _ _).drew,⟨B1,d1,B2,d2,B3,d3⟩,by simp only [Nd.value,hm1,hm2,hm3,hrf];rfl,fun h=>by cases h⟩
  | some l =>
   rw [hnk] at HND1 hDo
   simp only at hDo
   have HLF:=Lib.hid (HNO.out l hnk)
   clear hnk HNO
   obtain ⟨R,hR⟩:∃ R,R = joinR (n.join l key):=⟨_,rfl⟩
   have HJ2:=Lib.hid (fun w' e c hl=>HJ.out w' e l c hl HLF.out)
   rw [← hR] at HJ2 hDo
   subst hDo
   clear hR HJ
   go_wp2_with fail
   refine HND1.out.mono ?_
   rintro e w2 ⟨hx2,D1,e1,D2,e2,D3,e3,he,hnl⟩
   simp only [Nd.value] at he
   subst he
   have hx2':Ext No wc w2:=hx2
   clear p0 p1 p2 p3 g0 g1 g2 g3 ln t0 t1 t2 t3 f0 f1 f2 f3 lt
   have k1b:=HK2.out.ext hx2' (fun h=>h)
   obtain ⟨t0,t1,t2,t3,f0,f1,f2,f3,lt⟩:=k1b.p4
   have HK2b:=Lib.hid k1b
   obtain ⟨u0,u1,u2,u3,m0,m1,m2,m3,lu⟩:=(HK1.out.ext hx2' (fun h=>h)).p4
   obtain ⟨q0,q1,q2,q3,j0,j1,j2,j3,lq⟩:=(HKP.out.ext hx2' (fun h=>h)).p4
   have hyc2:=cell_ext hx2' hyc (fun h=>h)
   have kr2:=HKR.out.ext hx2' (fun h=>h)
   obtain ⟨r0,r1,r2,r3,s0,s1,s2,s3,lr⟩:=kr2.p4
   have HKR2:=Lib.hid kr2
   have HE2:=Lib.hid (HE.out.trans_ hx2')
   have HNL:=Lib.hid hnl
   have HX2:=Lib.hid hx2'
   clear kr2 hx2 hx2' hnl hkc hyc k1b
   have hne2:¬ b1 = b2:=fun h=>HNE.out h
   go_wp2_with fail
   obtain ⟨W3,hW3⟩:∃ W3,W3 = ((((w2.setCell ⟨b2,0,none⟩ (.bool l.leaf)).setCell ⟨b2,1,none⟩ (.slice D1 l.cells.length e1)).setCell ⟨b2,2,none⟩ (.slice D2 l.keys.length e2)).setCell ⟨b2,3,none⟩ (.slice D3 l.kids.length e3)):=⟨_,rfl⟩
   have hb2g:w.heap.size ≤ b2:=by have:=HB2.out;omega
   have HE3:=Lib.hid ((((HE2.out.setNew hb2g 0 (.bool l.leaf)).setNew hb2g 1 (.slice D1 l.cells.length e1)).setNew hb2g 2 (.slice D2 l.keys.length e2)).setNew hb2g 3 (.slice D3 l.kids.length e3))
   have k13:=HK2b.out.put4 (.bool l.leaf) (.slice D1 l.cells.length e1) (.slice D2 l.keys.length e2) (.slice D3 l.kids.length e3)
   have HFR:=Lib.hid (fun g t cs (hb:Blk w2 g t cs) (hg:g ≠ b2)=>((((hb.far (p:=⟨b2,0,none⟩) hg (.bool l.leaf)).far (p:=⟨b2,1,none⟩) hg (.slice D1 l.cells.length e1)).far (p:=⟨b2,2,none⟩) hg (.slice D2 l.keys.length e2)).far (p:=⟨b2,3,none⟩) hg (.slice D3 l.kids.length e3)))
   have hOn:On b2 b2:=rfl
   have hXb:Ext (On b2) w2 ((((w2.setCell ⟨b2,0,none⟩ (.bool l.leaf)).setCell ⟨b2,1,none⟩ (.slice D1 l.cells.length e1)).setCell ⟨b2,2,none⟩ (.slice D2 l.keys.length e2)).setCell ⟨b2,3,none⟩ (.slice D3 l.kids.length e3)):=((((Ext.refl (On b2) w2).setF hOn 0 (.bool l.leaf)).setF hOn 1 (.slice D1 l.cells.length e1)).setF hOn 2 (.slice D2 l.keys.length e2)).setF hOn 3 (.slice D3 l.kids.length e3)
   rw [← hW3] at HE3 k13 HFR hXb ⊢
   have hnl3:NodeIn W3 No ⟨D1,e1,D2,e2,D3,e3⟩ l:=(HNL.out.ext (hXb.mono (fun b _ h=>by have h':b = b2:=h;rw [h'];exact HK2.out.lt))).mono (fun _ _ h=>h.elim)
   have hyc3:=cell_ext hXb hyc2 (fun h=>hnb5 h.symm)
   have ly3:yb < W3.heap.size:=by have:=World.block_lt_of_cell? W3 _ hyc3;exact this
   have HJ3:=Lib.hid (HJ2.out W3.drew HE3.out.drew ⟨D1,e1,D2,e2,D3,e3⟩ (hnl3.ext (Ext.refl No W3).drew))
   simp only at HJ3
   have hx2o:=HX2.out
   clear t0 t1 t2 t3 f0 f1 f2 f3 lt u0 u1 u2 u3 m0 m1 m2 m3 lu q0 q1 q2 q3 j0 j1 j2 j3 lq r0 r1 r2 r3 s0 s1 s2 s3 lr hyc2 hnl3 hXb hW3
   obtain ⟨t0,t1,t2,t3,f0,f1,f2,f3,lt⟩:=k13.p4
   obtain ⟨u0,u1,u2,u3,m0,m1,m2,m3,lu⟩:=(HFR.out _ _ _ (HK1.out.ext hx2o (fun h=>h)) hne2).p4
   obtain ⟨q0,q1,q2,q3,j0,j1,j2,j3,lq⟩:=(HFR.out _ _ _ (HKP.out.ext hx2o (fun h=>h)) (fun h=>hnb1 h.symm)).p4
   have hr3:=HFR.out _ _ _ HKR2.out (fun h=>hnb3 h.symm)
   obtain ⟨r0,r1,r2,r3,s0,s1,s2,s3,lr⟩:=hr3.p4
   have HR3:=Lib.hid hr3
   clear hr3 k13 hx2o
   have HWS:=Lib.hid (show w.heap.size ≤ W3.heap.size from HE3.out.size)
   go_cut [10] (fun k wx=>k = .int .i64 (R.1:Int) ∧ ∃ c:Adr,Blk wx (w.heap.size + 2) 40 #[.bool R.2.leaf,.slice c.A1 R.2.cells.length c.c1,.slice c.A2 R.2.keys.length c.c2,.slice c.A3 R.2.kids.length c.c3] ∧ Ext No w wx ∧ NodeIn wx (Old W3.drew) c R.2)
   case first =>
    go_region_law ((go_simp;go_at_call 188;refine HJ3.out.mono ?_;rintro e w7 ⟨hx7,c,rfl,hn7⟩;have hr7:=(HR3.out.drew1).ext hx7 (fun h=>h);have HR7:=Lib.hid hr7;obtain ⟨r0',r1',r2',r3',s0',s1',s2',s3',lr'⟩:=hr7.p4;have HX7:=Lib.hid hx7;have HN7:=Lib.hid hn7;clear hx7 hn7 hr7))
    all_goals (
     go_wp2_with fail
     go_meet
     refine ⟨rfl,c,HR7.out.put4 (.bool R.2.leaf) (.slice c.A1 R.2.cells.length c.c1) (.slice c.A2 R.2.keys.length c.c2) (.slice c.A3 R.2.kids.length c.c3),?_,?_⟩
     ·exact (((((HE3.out.drew).trans_ HX7.out).setNew (Nat.le_add_right _ 2) _ _).setNew (Nat.le_add_right _ 2) _ _).setNew (Nat.le_add_right _ 2) _ _).setNew (Nat.le_add_right _ 2) _ _
     ·have hOn2:Old W3.drew (w.heap.size + 2):=lr
      exact (HN7.out.ext (((((Ext.refl (Old W3.drew) w7).setF hOn2 0 (.bool R.2.leaf)).setF hOn2 1 (.slice c.A1 R.2.cells.length c.c1)).setF hOn2 2 (.slice c.A2 R.2.keys.length c.c2)).setF hOn2 3 (.slice c.A3 R.2.kids.length c.c3))))
   case rest =>
    have HLR:=Lib.hid (show Old W3.drew (w.heap.size + 2) from lr)
    obtain ⟨rfl,c,hk8,hE8,hN8⟩:=hcut
    clear r0 r1 r2 r3 s0 s1 s2 s3 lr t0 t1 t2 t3 f0 f1 f2 f3 lt u0 u1 u2 u3 m0 m1 m2 m3 lu q0 q1 q2 q3 j0 j1 j2 j3 lq
    obtain ⟨x0,x1,x2,x3,y0,y1,y2,y3,lx⟩:=hk8.p4
    have HK8:=Lib.hid hk8;have HE8:=Lib.hid hE8;have HN8:=Lib.hid hN8
    clear hk8 hE8 hN8
    go_wp2_with fail
    go_region
    go_wp2_with fail
    have hk9:=(HK8.out.drew1).put4 (.bool R.2.leaf) (.slice c.A1 R.2.cells.length c.c1) (.slice c.A2 R.2.keys.length c.c2) (.slice c.A3 R.2.kids.length c.c3)
    refine beside_back (w.heap.size + 2) _ hk9 rfl rfl rfl rfl rfl ?_
    refine ⟨((((HE8.out.drew).setNew (Nat.le_add_right _ 2) _ _).setNew (Nat.le_add_right _ 2) _ _).setNew (Nat.le_add_right _ 2) _ _).setNew (Nat.le_add_right _ 2) _ _,c,rfl,fun _=>?_⟩
    exact (HN8.out.ext (((((Ext.refl (Old W3.drew) _).drew.setF HLR.out 0 _).setF HLR.out 1 _).setF HLR.out 2 _).setF HLR.out 3 _)).mono (fun b _ hb=>Nat.lt_of_lt_of_le hb HWS.out)
theorem beside_any (s:Sys) (hs:s.Ok) (v:V) (p n:Nd) (i:Nat) (gx root:Nat) (w:World) (F:Nat → Prop) (a b:Adr) (h:TxAt w s v) (hg:v.Good) (hx:Blk w gx 70 (treeCells s root)) (hP:NodeIn w F a p) (hNd:NodeIn w F b n)
  (hpf:p.fits) (hnf:n.fits) (hkk:p.kids.length = p.keys.length + 1) (hik:i < p.kids.length) :
  Calls Tryz.prog 149 #[.pointer (some ⟨gx,0,none⟩),p.value a.A1 a.c1 a.A2 a.c2 a.A3 a.c3,.int .i64 (i:Int),n.value b.A1 b.c1 b.A2 b.c2 b.A3 b.c3] w (BesideTold w (v.beside p i n)):=by
 by_cases hk:p.keys = []
 ·exact beside_empty v p n i _ w a b hk
 ·rcases Nat.eq_zero_or_pos i with rfl | hi
  ·exact beside_r s hs v p n gx root w F a b h hg hx hP hNd hpf hnf hk hkk
  ·exact beside_l s hs v p n i gx root w F a b h hg hx hP hNd hpf hnf hk hkk hi hik
end Go.Proofs.YtccnemmlkcmceaaGreatDoor
