/- Proofs about the given program, joined out of the texts J2. -/
import Derived.Test.YtccnemmlkcmceaaGreatDoorHEA1
set_option linter.unusedVariables false
set_option linter.unusedSimpArgs false
set_option maxRecDepth 100000
set_option maxHeartbeats 6400000
namespace Go.Proofs.YtccnemmlkcmceaaGreatDoor
open Go.RowKit
theorem joined_two (xs ys:List Value) (A B:Option Addr) (n m c d:Nat):joined [⟨A,n,c,xs⟩,⟨B,m,d,ys⟩] = xs ++ ys:=by simp [joined]
theorem total_two (xs ys:List Value) (A B:Option Addr) (n m c d:Nat):total [⟨A,n,c,xs⟩,⟨B,m,d,ys⟩] = n + m:=by simp [total]
theorem row_done {w2 W w3:World} {b8:Nat} {A:Option Addr} {cc n:Nat} {e:TypeId} {sz:Nat} {xs:List Value} (hs:0 < sz) (hW:w2.heap.size ≤ W.heap.size) (ho:w3.ownsRow W.heap.size e sz (.slice A n cc) n xs) (h:b8 < W.heap.size ∨ w3.heap.size ≤ b8) :
  Rd w3 (fun b=>b < w2.heap.size ∨ b = b8) sz A n xs ∧ n ≤ cc ∧ (A = none → cc = 0) :=
 ⟨(Rd.own_lo ho hs).mono hs (fun b hb hF=>by
  unfold Lo
  rcases hF with hF | hF
  ·omega
  ·subst hF;rcases h with h | h <;> omega),own_cap ho,own_nilcap ho⟩
theorem Nd.glue_fits {l r:Nd} {key:Bs} (hl:l.fits) (hr:r.fits) (hk:key.length < 65536):(l.glue r key).fits:=by
 unfold Nd.glue
 split
 ·exact ⟨fun c hc=>by simp at hc;rcases hc with h | h;exact hl.c c h;exact hr.c c h,by simp,by simp⟩
 ·refine ⟨fun c hc=>by simp at hc;rcases hc with h | h;exact hl.c c h;exact hr.c c h,fun k hk'=>?_,fun c hc=>by simp at hc;rcases hc with h | h;exact hl.i c h;exact hr.i c h⟩
  simp at hk'
  rcases hk' with h | h | h
  ·exact hl.k k h
  ·subst h;exact hk
  ·exact hr.k k h
theorem cut_after {w2 W w3:World} {lf:Bool} {A:Option Addr} {cc n:Nat} {xs:List Value} (ho:w3.ownsRow W.heap.size 45 4 (.slice A n cc) n xs) (hW:w2.heap.size ≤ W.heap.size) (hx:Ext No w2 w3) :
  ∃ (b8:Nat) (A':Option Addr) (cc':Nat),Value.pointer (some ⟨w3.heap.size,0,none⟩) = .pointer (some ⟨b8,0,none⟩) ∧ Blk (w3.alloc (.cells #[.bool lf,.slice A n cc,.slice none 0 0,.slice none 0 0] 40)) b8 40 #[.bool lf,.slice A' n cc',.slice none 0 0,.slice none 0 0] ∧ w2.heap.size ≤ b8 ∧
   Rd (w3.alloc (.cells #[.bool lf,.slice A n cc,.slice none 0 0,.slice none 0 0] 40)) (fun b=>b < w2.heap.size ∨ b = b8) 4 A' n xs ∧ n ≤ cc' ∧ (A' = none → cc' = 0) ∧ Ext No w2 (w3.alloc (.cells #[.bool lf,.slice A n cc,.slice none 0 0,.slice none 0 0] 40)):=by
 obtain ⟨h1,h2,h3⟩:=row_done (b8:=w3.heap.size) (by decide) hW ho (.inr (Nat.le_refl _))
 exact ⟨w3.heap.size,A,cc,rfl,Blk.new w3 40 _,hx.size,h1.ext ((Ext.refl _ _).alloc _),h2,h3,hx.alloc _⟩
theorem cut_before {w2 W w3:World} {lf:Bool} {b8:Nat} {A:Option Addr} {cc n:Nat} {xs:List Value} (ho:w3.ownsRow W.heap.size 45 4 (.slice A n cc) n xs) (hW:w2.heap.size ≤ W.heap.size) (hx:Ext No w2 w3)
  (hb:Blk w3 b8 40 #[.bool false,.slice none 0 0,.slice none 0 0,.slice none 0 0]) (h1:w2.heap.size ≤ b8) (h2:b8 < W.heap.size) :
  ∃ (b8':Nat) (A':Option Addr) (cc':Nat),Value.pointer (some ⟨b8,0,none⟩) = .pointer (some ⟨b8',0,none⟩) ∧ Blk ((((w3.setCell ⟨b8,0,none⟩ (.bool lf)).setCell ⟨b8,1,none⟩ (.slice A n cc)).setCell ⟨b8,2,none⟩ (.slice none 0 0)).setCell ⟨b8,3,none⟩ (.slice none 0 0)) b8' 40 #[.bool lf,.slice A' n cc',.slice none 0 0,.slice none 0 0] ∧ w2.heap.size ≤ b8' ∧
   Rd ((((w3.setCell ⟨b8,0,none⟩ (.bool lf)).setCell ⟨b8,1,none⟩ (.slice A n cc)).setCell ⟨b8,2,none⟩ (.slice none 0 0)).setCell ⟨b8,3,none⟩ (.slice none 0 0)) (fun b=>b < w2.heap.size ∨ b = b8') 4 A' n xs ∧ n ≤ cc' ∧ (A' = none → cc' = 0) ∧ Ext No w2 ((((w3.setCell ⟨b8,0,none⟩ (.bool lf)).setCell ⟨b8,1,none⟩ (.slice A n cc)).setCell ⟨b8,2,none⟩ (.slice none 0 0)).setCell ⟨b8,3,none⟩ (.slice none 0 0)):=by
 obtain ⟨h3,h4,h5⟩:=row_done (b8:=b8) (by decide) hW ho (.inl h2)
 have hin:(fun b=>b < w2.heap.size ∨ b = b8) b8:=.inr rfl
 exact ⟨b8,A,cc,rfl,hb.put4 (.bool lf) (.slice A n cc) (.slice none 0 0) (.slice none 0 0),h1,h3.ext (((((Ext.refl _ w3).setF hin 0 _).setF hin 1 _).setF hin 2 _).setF hin 3 _),h4,h5,(((hx.setNew h1 _ _).setNew h1 _ _).setNew h1 _ _).setNew h1 _ _⟩
theorem join_leaf (l r:Nd) (key:Bs) (w:World) (F:Nat → Prop) (a b:Adr) (hl:NodeIn w F a l) (hr:NodeIn w F b r) (hkl:key.length < 65536) (hlo:l.ok = true) (hro:r.ok = true) (hlf:l.leaf = true) (hrf:r.leaf = true) :
  Calls Tryz.prog 188 #[l.value a.A1 a.c1 a.A2 a.c2 a.A3 a.c3,r.value b.A1 b.c1 b.A2 b.c2 b.A3 b.c3,.string (str key)] w (JoinTold w (if (l.glue r key).ok then some (l.glue r key) else none)):=by
 have hOl:=Nd.Ok.of hlo
 have hOr:=Nd.Ok.of hro
 have hfl:=Nd.Ok.fits hOl
 have hfr:=Nd.Ok.fits hOr
 have HL:=Lib.hid (fun w' (e:Ext No w w')=>check_any l w' F _ _ _ _ _ _ (hl.ext e.of_no) hfl)
 have HR:=Lib.hid (fun w' (e:Ext No w w')=>check_any r w' F _ _ _ _ _ _ (hr.ext e.of_no) hfr)
 rw [Nd.chk_ok hlo] at HL
 rw [Nd.chk_ok hro] at HR
 have hgf:=Nd.glue_fits (key:=key) hfl hfr hkl
 have hg:l.glue r key = ⟨true,l.cells ++ r.cells,[],[]⟩:=by unfold Nd.glue;rw [if_pos hlf]
 have HC:=Lib.hid (fun w' F A1 c1 A2 c2 A3 c3 hn=>check_any (l.glue r key) w' F A1 c1 A2 c2 A3 c3 hn hgf)
 rw [hg] at HC ⊢
 have hn1:l.cells.length ≤ 255:=hOl.a1
 have hn2:r.cells.length ≤ 255:=hOr.a1
 have HPC:Hid (∀ w',Ext No w w' → Part.Ok w' 4 ⟨a.A1,l.cells.length,a.c1,cellVals l.cells⟩ ∧ Part.Ok w' 4 ⟨b.A1,r.cells.length,b.c1,cellVals r.cells⟩):=Lib.hid (fun w' e =>
  ⟨⟨(hl.cells.mono (G:=No) (by omega) (fun _ _ h=>h.elim)).ext e,hl.e1,one_cells _,hl.l1⟩,⟨(hr.cells.mono (G:=No) (by omega) (fun _ _ h=>h.elim)).ext e,hr.e1,one_cells _,hr.l1⟩⟩)
 obtain ⟨L,hL⟩:∃ L,L = l.cells ++ r.cells:=⟨_,rfl⟩
 have hLV:cellVals l.cells ++ cellVals r.cells = cellVals L:=by rw [hL,cellVals_append]
 have hLL:L.length = l.cells.length + r.cells.length:=by rw [hL];simp
 rw [← hL] at HC ⊢
 generalize hDD:(if (⟨true,L,[],[]⟩:Nd).ok = true then some (⟨true,L,[],[]⟩:Nd) else none) = D at ⊢
 have HD:=Lib.hid hDD
 clear hDD
 obtain ⟨A1,c1,A2,c2,A3,c3⟩:=a
 obtain ⟨B1,d1,B2,d2,B3,d3⟩:=b
 simp only [Nd.value,hlf,hrf,List.length_nil] at HL HR HC HPC ⊢
 generalize l.keys.length = n2 at *
 generalize l.kids.length = n3 at *
 generalize r.keys.length = m2 at *
 generalize r.kids.length = m3 at *
 have hE0:Ext No w (((w.alloc (.cells #[.bool true,.slice A1 l.cells.length c1,.slice A2 n2 c2,.slice A3 n3 c3] 40)).alloc (.cells #[.bool true,.slice B1 r.cells.length d1,.slice B2 m2 d2,.slice B3 m3 d3] 40)).alloc (.cells #[.bool false,.slice none 0 0,.slice none 0 0,.slice none 0 0] 40)):=(((Ext.refl No w).alloc _).alloc _).alloc _
 have bl0:Blk (((w.alloc (.cells #[.bool true,.slice A1 l.cells.length c1,.slice A2 n2 c2,.slice A3 n3 c3] 40)).alloc (.cells #[.bool true,.slice B1 r.cells.length d1,.slice B2 m2 d2,.slice B3 m3 d3] 40)).alloc (.cells #[.bool false,.slice none 0 0,.slice none 0 0,.slice none 0 0] 40)) w.heap.size 40 #[.bool true,.slice A1 l.cells.length c1,.slice A2 n2 c2,.slice A3 n3 c3]:=((Blk.new w 40 _).alloc _).alloc _
 have br0:Blk (((w.alloc (.cells #[.bool true,.slice A1 l.cells.length c1,.slice A2 n2 c2,.slice A3 n3 c3] 40)).alloc (.cells #[.bool true,.slice B1 r.cells.length d1,.slice B2 m2 d2,.slice B3 m3 d3] 40)).alloc (.cells #[.bool false,.slice none 0 0,.slice none 0 0,.slice none 0 0] 40)) (w.heap.size + 1) 40 #[.bool true,.slice B1 r.cells.length d1,.slice B2 m2 d2,.slice B3 m3 d3]:=(Blk.new_at (b:=w.heap.size + 1) (w.alloc _) 40 _ (by simp)).alloc _
 have bs0:Blk (((w.alloc (.cells #[.bool true,.slice A1 l.cells.length c1,.slice A2 n2 c2,.slice A3 n3 c3] 40)).alloc (.cells #[.bool true,.slice B1 r.cells.length d1,.slice B2 m2 d2,.slice B3 m3 d3] 40)).alloc (.cells #[.bool false,.slice none 0 0,.slice none 0 0,.slice none 0 0] 40)) (w.heap.size + 2) 40 #[.bool false,.slice none 0 0,.slice none 0 0,.slice none 0 0]:=Blk.new_at (b:=w.heap.size + 2) ((w.alloc _).alloc _) 40 _ (by simp)
 have HE0:=Lib.hid hE0;have HBL:=Lib.hid bl0;have HBR:=Lib.hid br0;have HBS:=Lib.hid bs0
 generalize l.cells.length = n1 at *
 generalize r.cells.length = m1 at *
 have HLL:=Lib.hid hLL;have HLV:=Lib.hid hLV
 generalize cellVals l.cells = xs at *
 generalize cellVals r.cells = ys at *
 clear hl hr hfl hfr hE0 bl0 br0 bs0 hOl hOr hgf hg hL hLL hLV hlo hro hlf hrf
 go_enter Tryz.func188,Tryz.ntmps188
 go_wp2_with fail
 refine (HL.out _ HE0.out).mono ?_
 rintro e w1 ⟨rfl,hx1⟩
 have br1:=HBR.out.ext hx1 (fun h=>h)
 obtain ⟨p0,p1,p2,p3,g0,g1,g2,g3,ln⟩:=br1.p4
 go_wp2_with fail
 refine (HR.out _ (HE0.out.trans_ hx1)).mono ?_
 rintro e w2 ⟨rfl,hx2⟩
 clear p0 p1 p2 p3 g0 g1 g2 g3 ln
 have bl2:=(HBL.out.ext hx1 (fun h=>h)).ext hx2 (fun h=>h)
 have br2:=br1.ext hx2 (fun h=>h)
 have bs2:=(HBS.out.ext hx1 (fun h=>h)).ext hx2 (fun h=>h)
 have hE2:=(HE0.out.trans_ hx1).trans_ hx2
 have lr:=bs2.lt
 obtain ⟨p0,p1,p2,p3,g0,g1,g2,g3,ln⟩:=bl2.p4
 obtain ⟨q0,q1,q2,q3,f0,f1,f2,f3,lq⟩:=br2.p4
 have HE2:=Lib.hid hE2
 have bs3:=bs2
 have HCC:Hid (∀ g W,Ext No w2 W → Blk W g 37 #[.slice A1 n1 c1,.slice B1 m1 d1] → Calls Tryz.prog 147 #[.slice (some ⟨g,0,none⟩) 2 2] W (Row 45 4 W (cellVals L) L.length)):=Lib.hid (fun g W hEW hpb=>by
  obtain ⟨hp1,hp2⟩:=HPC.out W (HE2.out.trans_ hEW)
  have h:=concat_cells [⟨A1,n1,c1,xs⟩,⟨B1,m1,d1,ys⟩] g 2 2 W rfl
   (by intro p hp;simp at hp;rcases hp with rfl | rfl;exact hp1;exact hp2) (by rw [total_two];omega) (by omega) (by omega)
   (by
     intro j p hj;match j,hj with
     | 0,hj=>simp at hj;subst hj;exact hpb.cell 0
     | 1,hj=>simp at hj;subst hj;exact hpb.cell 1
     | j + 2,hj=>simp at hj)
  rw [joined_two,total_two,HLV.out,← HLL.out] at h
  exact h)
 have hLb:L.length < 65536:=by rw [HLL.out];omega
 have HLB:=Lib.hid hLb
 clear hx1 hx2 hE2 HPC HLV
 generalize hLn:L.length = ln1 at *
 clear hLb
 go_wp2_with fail
 go_cut [8] (fun v wx=>∃ (b8:Nat) (A:Option Addr) (cc:Nat),v = .pointer (some ⟨b8,0,none⟩) ∧ Blk wx b8 40 #[.bool true,.slice A ln1 cc,.slice none 0 0,.slice none 0 0] ∧ w2.heap.size ≤ b8 ∧ Rd wx (fun b=>b < w2.heap.size ∨ b = b8) 4 A ln1 (cellVals L) ∧ ln1 ≤ cc ∧ (A = none → cc = 0) ∧ Ext No w2 wx)
 case first =>
  have ne1:¬ (w.heap.size = w2.heap.size):=by omega
  have ne2:¬ (w.heap.size = w2.heap.size + 1):=by omega
  have ne3:¬ (w2.heap.size = w.heap.size):=by omega
  have ne4:¬ (w2.heap.size + 1 = w.heap.size):=by omega
  have ne5:¬ (w.heap.size + 1 = w2.heap.size):=by omega
  have ne6:¬ (w.heap.size + 1 = w2.heap.size + 1):=by omega
  have ne7:¬ (w2.heap.size = w.heap.size + 1):=by omega
  have ne8:¬ (w2.heap.size + 1 = w.heap.size + 1):=by omega
  go_region_held3 (fun w'=>w'.cell? ⟨w.heap.size,0,none⟩ = some (.bool true) ∧ w'.cell? ⟨w.heap.size,1,none⟩ = some (.slice A1 n1 c1) ∧ w'.cell? ⟨w.heap.size + 1,1,none⟩ = some (.slice B1 m1 d1)) (go_keep)
   ((
    go_at_call 147;first
    | (with_reducible (refine (HCC.out (w2.heap.size) (w2.alloc (.cells #[.slice A1 n1 c1,.slice B1 m1 d1] 37)).drew ?_ ?_).mono ?_);exact ((Ext.refl No w2).alloc (.cells #[.slice A1 n1 c1,.slice B1 m1 d1] 37)).drew;exact (Blk.new w2 37 _).drew1;intro e w3 hh;unfold Row at hh;obtain ⟨A,cc,he,hown,hx3⟩:=hh;subst he;have HO:=Lib.hid hown;have hE3:=(((Ext.refl No w2).alloc (.cells #[.slice A1 n1 c1,.slice B1 m1 d1] 37)).drew).trans_ hx3;have HX3:=Lib.hid hE3;have HY3:=Lib.hid hx3;have k0:=cell_ext hE3 p0 (fun h=>h);have k1:=cell_ext hE3 p1 (fun h=>h);have k2:=cell_ext hE3 q1 (fun h=>h);have n11:¬ (w.heap.size + 1 = w3.heap.size):=(by have:=hE3.size;omega);have n12:¬ (w3.heap.size = w.heap.size + 1):=(by have:=hE3.size;omega);have ne9:¬ (w.heap.size = w3.heap.size):=(by have:=hE3.size;omega);have n10:¬ (w3.heap.size = w.heap.size):=(by have:=hE3.size;omega);clear hown hx3 hE3)
    | (with_reducible (refine (HCC.out (w2.heap.size) ((w2.alloc (.cells #[.slice A1 n1 c1,.slice B1 m1 d1] 37)).alloc (.cells #[.bool false,.slice none 0 0,.slice none 0 0,.slice none 0 0] 40)).drew ?_ ?_).mono ?_);exact (((Ext.refl No w2).alloc (.cells #[.slice A1 n1 c1,.slice B1 m1 d1] 37)).alloc (.cells #[.bool false,.slice none 0 0,.slice none 0 0,.slice none 0 0] 40)).drew;exact ((Blk.new w2 37 _).alloc _).drew1;intro e w3 hh;unfold Row at hh;obtain ⟨A,cc,he,hown,hx3⟩:=hh;subst he;have HO:=Lib.hid hown;have hE3:=((((Ext.refl No w2).alloc (.cells #[.slice A1 n1 c1,.slice B1 m1 d1] 37)).alloc (.cells #[.bool false,.slice none 0 0,.slice none 0 0,.slice none 0 0] 40)).drew).trans_ hx3;have HX3:=Lib.hid hE3;have HY3:=Lib.hid hx3;have k0:=cell_ext hE3 p0 (fun h=>h);have k1:=cell_ext hE3 p1 (fun h=>h);have k2:=cell_ext hE3 q1 (fun h=>h);have n11:¬ (w.heap.size + 1 = w3.heap.size):=(by have:=hE3.size;omega);have n12:¬ (w3.heap.size = w.heap.size + 1):=(by have:=hE3.size;omega);have ne9:¬ (w.heap.size = w3.heap.size):=(by have:=hE3.size;omega);have n10:¬ (w3.heap.size = w.heap.size):=(by have:=hE3.size;omega);have b8:=Blk.of_ext hx3 ((Blk.new_at (b:=w2.heap.size + 1) (w2.alloc (.cells #[.slice A1 n1 c1,.slice B1 m1 d1] 37)) 40 #[.bool false,.slice none 0 0,.slice none 0 0,.slice none 0 0] (by simp)).drew1) (fun h=>h);have HB8:=Lib.hid b8;obtain ⟨t0,t1,t2,t3,u0,u1,u2,u3,lt⟩:=b8.p4;clear b8;clear hown hx3 hE3)
    | (with_reducible (refine (HCC.out (w2.heap.size + 1) ((w2.alloc (.cells #[.bool false,.slice none 0 0,.slice none 0 0,.slice none 0 0] 40)).alloc (.cells #[.slice A1 n1 c1,.slice B1 m1 d1] 37)).drew ?_ ?_).mono ?_);exact (((Ext.refl No w2).alloc (.cells #[.bool false,.slice none 0 0,.slice none 0 0,.slice none 0 0] 40)).alloc (.cells #[.slice A1 n1 c1,.slice B1 m1 d1] 37)).drew;exact (Blk.new_at (b:=w2.heap.size + 1) (w2.alloc _) 37 _ (by simp)).drew1;intro e w3 hh;unfold Row at hh;obtain ⟨A,cc,he,hown,hx3⟩:=hh;subst he;have HO:=Lib.hid hown;have hE3:=((((Ext.refl No w2).alloc (.cells #[.bool false,.slice none 0 0,.slice none 0 0,.slice none 0 0] 40)).alloc (.cells #[.slice A1 n1 c1,.slice B1 m1 d1] 37)).drew).trans_ hx3;have HX3:=Lib.hid hE3;have HY3:=Lib.hid hx3;have k0:=cell_ext hE3 p0 (fun h=>h);have k1:=cell_ext hE3 p1 (fun h=>h);have k2:=cell_ext hE3 q1 (fun h=>h);have n11:¬ (w.heap.size + 1 = w3.heap.size):=(by have:=hE3.size;omega);have n12:¬ (w3.heap.size = w.heap.size + 1):=(by have:=hE3.size;omega);have ne9:¬ (w.heap.size = w3.heap.size):=(by have:=hE3.size;omega);have n10:¬ (w3.heap.size = w.heap.size):=(by have:=hE3.size;omega);have b8:=Blk.of_ext hx3 (((Blk.new w2 40 #[.bool false,.slice none 0 0,.slice none 0 0,.slice none 0 0]).alloc _).drew1) (fun h=>h);have HB8:=Lib.hid b8;obtain ⟨t0,t1,t2,t3,u0,u1,u2,u3,lt⟩:=b8.p4;clear b8;clear hown hx3 hE3)))
  all_goals (
   go_wp2_with fail
   go_meet
   first
   | (with_reducible (refine cut_after HO.out ?_ HX3.out));(first | exact (((Ext.refl No w2).alloc _).drew).size | exact ((((Ext.refl No w2).alloc _).alloc _).drew).size)
   | (with_reducible (refine cut_before HO.out ?_ HX3.out HB8.out ?_ ?_));(exact ((((Ext.refl No w2).alloc _).alloc _).drew).size);omega;(show _ < ((w2.alloc _).alloc _).heap.size;simp <;> omega))
 case rest =>
  obtain ⟨b8,A,cc,rfl,bn,hb8,hrd,hcc,hnil,hx3⟩:=hcut
  obtain ⟨t0,t1,t2,t3,u0,u1,u2,u3,lt⟩:=bn.p4
  have bs3:=bs2.ext hx3 (fun h=>h)
  have hE3:=Lib.hid (HE2.out.trans_ hx3)
  have hN:NodeAt wc (fun b=>b < w2.heap.size ∨ b = b8) A cc none 0 none 0 ⟨true,L,[],[]⟩:=by
   rw [← hLn] at hrd hcc
   exact ⟨hrd,Rd.nil_ _,Rd.nil_ _,hcc,by simp,by simp,(by show L.length < 65536;rw [hLn];exact HLB.out),by simp,by simp,hnil,fun _=>rfl,fun _=>rfl⟩
  have HCN:=Lib.hid (HC.out wc _ _ _ _ _ _ _ hN)
  have HN:=Lib.hid hN
  have hw:w.heap.size + 2 < w2.heap.size:=lr
  have HHW:=Lib.hid hw
  clear hN hrd p0 p1 p2 p3 g0 g1 g2 g3 ln q0 q1 q2 q3 f0 f1 f2 f3 lq bl2 br2 bs2 br1 hx3 hw lr
  have hDo:=HD.out
  rcases Bool.eq_false_or_eq_true (⟨true,L,[],[]⟩:Nd).ok with hok | hok
  rotate_left
  ·have hD:D = none:=by rw [← hDo,hok];rfl
   rw [Nd.chk_bad hok] at HCN
   clear HD hDo hok
   subst hD
   go_wp2_with fail
   refine HCN.out.mono ?_
   rintro e w4 ⟨rfl,hx4⟩
   have bs4:=bs3.ext hx4 (fun h=>h)
   obtain ⟨r0,r1,r2,r3,s0,s1,s2,s3,lr⟩:=bs4.p4
   have lr:w.heap.size < w4.heap.size:=by omega
   go_wp2_with fail
   refine join_back (w.heap.size + 2) _ (bs4.put4 (.bool false) (.slice none 0 0) (.slice none 0 0) (.slice none 0 0)) rfl rfl rfl rfl ?_
   exact ⟨((((hE3.out.trans_ hx4).setNew (by omega) _ _).setNew (by omega) _ _).setNew (by omega) _ _).setNew (by omega) _ _,rfl⟩
  ·have hD:D = some ⟨true,L,[],[]⟩:=by rw [← hDo,hok];rfl
   rw [Nd.chk_ok hok] at HCN
   clear HD hDo hok
   subst hD
   have HBS3:=Lib.hid bs3
   clear bs3
   go_wp2_with fail
   refine HCN.out.mono ?_
   rintro e w4 ⟨rfl,hx4⟩
   have bs4:=HBS3.out.ext hx4 (fun h=>h)
   have bn4:=bn.ext hx4 (fun h=>h)
   obtain ⟨r0,r1,r2,r3,s0,s1,s2,s3,lr⟩:=bs4.p4
   obtain ⟨t0,t1,t2,t3,u0,u1,u2,u3,lt⟩:=bn4.p4
   have lr:w.heap.size < w4.heap.size:=by omega
   go_wp2_with fail
   refine join_back (w.heap.size + 2) _ (bs4.put4 (.bool true) (.slice A ln1 cc) (.slice none 0 0) (.slice none 0 0)) rfl rfl rfl rfl ?_
   have hin:(fun b=>b < w2.heap.size ∨ b = b8) (w.heap.size + 2):=.inl HHW.out
   have hz:Ext (fun b=>b < w2.heap.size ∨ b = b8) w4 _:=((((Ext.refl _ w4).setF hin 0 (.bool true)).setF hin 1 (.slice A ln1 cc)).setF hin 2 (.slice none 0 0)).setF hin 3 (.slice none 0 0)
   refine ⟨((((hE3.out.trans_ hx4).setNew (by omega) _ _).setNew (by omega) _ _).setNew (by omega) _ _).setNew (by omega) _ _,⟨A,cc,none,0,none,0⟩,by simp only [Nd.value];rw [hLn];rfl,?_⟩
   exact ((HN.out.ext hx4.of_no).ext hz).mono (fun b _ hb=>by unfold Old at hb;have:=HHW.out;exact .inl (by omega))
end Go.Proofs.YtccnemmlkcmceaaGreatDoor
