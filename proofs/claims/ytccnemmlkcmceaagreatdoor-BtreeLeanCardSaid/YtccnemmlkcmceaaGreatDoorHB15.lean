/- Proofs about the given program, joined out of the texts J2, J3, J4, J5. -/
import Derived.Test.YtccnemmlkcmceaaGreatDoorHB14
set_option linter.unusedVariables false
set_option linter.unusedSimpArgs false
set_option maxRecDepth 100000
set_option maxHeartbeats 6400000
namespace Go.Proofs.YtccnemmlkcmceaaGreatDoor
open Go.RowKit
theorem joined_two (xs ys : List Value) (A B : Option Addr) (n m c d : Nat) : joined [⟨A,n,c,xs⟩,⟨B,m,d,ys⟩] = xs ++ ys := by simp [joined]
theorem total_two (xs ys : List Value) (A B : Option Addr) (n m c d : Nat) : total [⟨A,n,c,xs⟩,⟨B,m,d,ys⟩] = n + m := by simp [total]
theorem Blk.drew1 {w : World} {g : Nat} {t : TypeId} {cs : Array Value} (h : Blk w g t cs) : Blk w.drew g t cs := h
theorem row_done {w2 W w3 : World} {b8 : Nat} {A : Option Addr} {cc n : Nat} {e : TypeId} {sz : Nat} {xs : List Value} (hs : 0 < sz) (hW : w2.heap.size ≤ W.heap.size) (ho : w3.ownsRow W.heap.size e sz (.slice A n cc) n xs) (h : b8 < W.heap.size ∨ w3.heap.size ≤ b8) :
  Rd w3 (fun b => b < w2.heap.size ∨ b = b8) sz A n xs ∧ n ≤ cc ∧ (A = none → cc = 0) :=
 ⟨(Rd.own_lo ho hs).mono hs (fun b hb hF => by
  unfold Lo
  rcases hF with hF | hF
  ·omega
  ·subst hF; rcases h with h | h <;> omega),own_cap ho,own_nilcap ho⟩
theorem Nd.glue_fits {l r : Nd} {key : Bs} (hl : l.fits) (hr : r.fits) (hk : key.length < 65536) : (l.glue r key).fits := by
 unfold Nd.glue
 split
 ·exact ⟨fun c hc => by simp at hc; rcases hc with h | h; exact hl.c c h; exact hr.c c h,by simp,by simp⟩
 ·refine ⟨fun c hc => by simp at hc; rcases hc with h | h; exact hl.c c h; exact hr.c c h,fun k hk' => ?_,fun c hc => by simp at hc; rcases hc with h | h; exact hl.i c h; exact hr.i c h⟩
  simp at hk'
  rcases hk' with h | h | h
  ·exact hl.k k h
  ·subst h; exact hk
  ·exact hr.k k h
theorem cut_after {w2 W w3 : World} {lf : Bool} {A : Option Addr} {cc n : Nat} {xs : List Value} (ho : w3.ownsRow W.heap.size 45 4 (.slice A n cc) n xs) (hW : w2.heap.size ≤ W.heap.size) (hx : Ext No w2 w3) :
  ∃ (b8 : Nat) (A' : Option Addr) (cc' : Nat),Value.pointer (some ⟨w3.heap.size,0,none⟩) = .pointer (some ⟨b8,0,none⟩) ∧ Blk (w3.alloc (.cells #[.bool lf,.slice A n cc,.slice none 0 0,.slice none 0 0] 40)) b8 40 #[.bool lf,.slice A' n cc',.slice none 0 0,.slice none 0 0] ∧ w2.heap.size ≤ b8 ∧
   Rd (w3.alloc (.cells #[.bool lf,.slice A n cc,.slice none 0 0,.slice none 0 0] 40)) (fun b => b < w2.heap.size ∨ b = b8) 4 A' n xs ∧ n ≤ cc' ∧ (A' = none → cc' = 0) ∧ Ext No w2 (w3.alloc (.cells #[.bool lf,.slice A n cc,.slice none 0 0,.slice none 0 0] 40)) := by
 obtain ⟨h1,h2,h3⟩ := row_done (b8 := w3.heap.size) (by decide) hW ho (.inr (Nat.le_refl _))
 exact ⟨w3.heap.size,A,cc,rfl,Blk.new w3 40 _,hx.size,h1.ext ((Ext.refl _ _).alloc _),h2,h3,hx.alloc _⟩
theorem cut_before {w2 W w3 : World} {lf : Bool} {b8 : Nat} {A : Option Addr} {cc n : Nat} {xs : List Value} (ho : w3.ownsRow W.heap.size 45 4 (.slice A n cc) n xs) (hW : w2.heap.size ≤ W.heap.size) (hx : Ext No w2 w3)
  (hb : Blk w3 b8 40 #[.bool false,.slice none 0 0,.slice none 0 0,.slice none 0 0]) (h1 : w2.heap.size ≤ b8) (h2 : b8 < W.heap.size) :
  ∃ (b8' : Nat) (A' : Option Addr) (cc' : Nat),Value.pointer (some ⟨b8,0,none⟩) = .pointer (some ⟨b8',0,none⟩) ∧ Blk ((((w3.setCell ⟨b8,0,none⟩ (.bool lf)).setCell ⟨b8,1,none⟩ (.slice A n cc)).setCell ⟨b8,2,none⟩ (.slice none 0 0)).setCell ⟨b8,3,none⟩ (.slice none 0 0)) b8' 40 #[.bool lf,.slice A' n cc',.slice none 0 0,.slice none 0 0] ∧ w2.heap.size ≤ b8' ∧
   Rd ((((w3.setCell ⟨b8,0,none⟩ (.bool lf)).setCell ⟨b8,1,none⟩ (.slice A n cc)).setCell ⟨b8,2,none⟩ (.slice none 0 0)).setCell ⟨b8,3,none⟩ (.slice none 0 0)) (fun b => b < w2.heap.size ∨ b = b8') 4 A' n xs ∧ n ≤ cc' ∧ (A' = none → cc' = 0) ∧ Ext No w2 ((((w3.setCell ⟨b8,0,none⟩ (.bool lf)).setCell ⟨b8,1,none⟩ (.slice A n cc)).setCell ⟨b8,2,none⟩ (.slice none 0 0)).setCell ⟨b8,3,none⟩ (.slice none 0 0)) := by
 obtain ⟨h3,h4,h5⟩ := row_done (b8 := b8) (by decide) hW ho (.inl h2)
 have hin : (fun b => b < w2.heap.size ∨ b = b8) b8 := .inr rfl
 exact ⟨b8,A,cc,rfl,hb.put4 (.bool lf) (.slice A n cc) (.slice none 0 0) (.slice none 0 0),h1,h3.ext (((((Ext.refl _ w3).setF hin 0 _).setF hin 1 _).setF hin 2 _).setF hin 3 _),h4,h5,(((hx.setNew h1 _ _).setNew h1 _ _).setNew h1 _ _).setNew h1 _ _⟩
theorem join_leaf (l r : Nd) (key : Bs) (w : World) (F : Nat → Prop) (a b : Adr) (hl : NodeIn w F a l) (hr : NodeIn w F b r) (hkl : key.length < 65536) (hlo : l.ok = true) (hro : r.ok = true) (hlf : l.leaf = true) (hrf : r.leaf = true) :
  Calls Tryz.prog 188 #[l.value a.A1 a.c1 a.A2 a.c2 a.A3 a.c3,r.value b.A1 b.c1 b.A2 b.c2 b.A3 b.c3,.string (str key)] w (JoinTold w (if (l.glue r key).ok then some (l.glue r key) else none)) := by
 have hOl := Nd.Ok.of hlo
 have hOr := Nd.Ok.of hro
 have hfl := Nd.Ok.fits hOl
 have hfr := Nd.Ok.fits hOr
 have HL := Lib.hid (fun w' (e : Ext No w w') => check_any l w' F _ _ _ _ _ _ (hl.ext e.of_no) hfl)
 have HR := Lib.hid (fun w' (e : Ext No w w') => check_any r w' F _ _ _ _ _ _ (hr.ext e.of_no) hfr)
 rw [Nd.chk_ok hlo] at HL
 rw [Nd.chk_ok hro] at HR
 have hgf := Nd.glue_fits (key := key) hfl hfr hkl
 have hg : l.glue r key = ⟨true,l.cells ++ r.cells,[],[]⟩ := by unfold Nd.glue; rw [if_pos hlf]
 have HC := Lib.hid (fun w' F A1 c1 A2 c2 A3 c3 hn => check_any (l.glue r key) w' F A1 c1 A2 c2 A3 c3 hn hgf)
 rw [hg] at HC ⊢
 have hn1 : l.cells.length ≤ 255 := hOl.a1
 have hn2 : r.cells.length ≤ 255 := hOr.a1
 have HPC : Hid (∀ w',Ext No w w' → Part.Ok w' 4 ⟨a.A1,l.cells.length,a.c1,cellVals l.cells⟩ ∧ Part.Ok w' 4 ⟨b.A1,r.cells.length,b.c1,cellVals r.cells⟩) := Lib.hid (fun w' e =>
  ⟨⟨(hl.cells.mono (G := No) (by omega) (fun _ _ h => h.elim)).ext e,hl.e1,one_cells _,hl.l1⟩,⟨(hr.cells.mono (G := No) (by omega) (fun _ _ h => h.elim)).ext e,hr.e1,one_cells _,hr.l1⟩⟩)
 obtain ⟨L,hL⟩ : ∃ L,L = l.cells ++ r.cells := ⟨_,rfl⟩
 have hLV : cellVals l.cells ++ cellVals r.cells = cellVals L := by rw [hL,cellVals_append]
 have hLL : L.length = l.cells.length + r.cells.length := by rw [hL]; simp
 rw [← hL] at HC ⊢
 generalize hDD : (if (⟨true,L,[],[]⟩ : Nd).ok = true then some (⟨true,L,[],[]⟩ : Nd) else none) = D at ⊢
 have HD := Lib.hid hDD
 clear hDD
 obtain ⟨A1,c1,A2,c2,A3,c3⟩ := a
 obtain ⟨B1,d1,B2,d2,B3,d3⟩ := b
 simp only [Nd.value,hlf,hrf,List.length_nil] at HL HR HC HPC ⊢
 generalize l.keys.length = n2 at *
 generalize l.kids.length = n3 at *
 generalize r.keys.length = m2 at *
 generalize r.kids.length = m3 at *
 have hE0 : Ext No w (((w.alloc (.cells #[.bool true,.slice A1 l.cells.length c1,.slice A2 n2 c2,.slice A3 n3 c3] 40)).alloc (.cells #[.bool true,.slice B1 r.cells.length d1,.slice B2 m2 d2,.slice B3 m3 d3] 40)).alloc (.cells #[.bool false,.slice none 0 0,.slice none 0 0,.slice none 0 0] 40)) := (((Ext.refl No w).alloc _).alloc _).alloc _
 have bl0 : Blk (((w.alloc (.cells #[.bool true,.slice A1 l.cells.length c1,.slice A2 n2 c2,.slice A3 n3 c3] 40)).alloc (.cells #[.bool true,.slice B1 r.cells.length d1,.slice B2 m2 d2,.slice B3 m3 d3] 40)).alloc (.cells #[.bool false,.slice none 0 0,.slice none 0 0,.slice none 0 0] 40)) w.heap.size 40 #[.bool true,.slice A1 l.cells.length c1,.slice A2 n2 c2,.slice A3 n3 c3] := ((Blk.new w 40 _).alloc _).alloc _
 have br0 : Blk (((w.alloc (.cells #[.bool true,.slice A1 l.cells.length c1,.slice A2 n2 c2,.slice A3 n3 c3] 40)).alloc (.cells #[.bool true,.slice B1 r.cells.length d1,.slice B2 m2 d2,.slice B3 m3 d3] 40)).alloc (.cells #[.bool false,.slice none 0 0,.slice none 0 0,.slice none 0 0] 40)) (w.heap.size + 1) 40 #[.bool true,.slice B1 r.cells.length d1,.slice B2 m2 d2,.slice B3 m3 d3] := (Blk.new_at (b := w.heap.size + 1) (w.alloc _) 40 _ (by simp)).alloc _
 have bs0 : Blk (((w.alloc (.cells #[.bool true,.slice A1 l.cells.length c1,.slice A2 n2 c2,.slice A3 n3 c3] 40)).alloc (.cells #[.bool true,.slice B1 r.cells.length d1,.slice B2 m2 d2,.slice B3 m3 d3] 40)).alloc (.cells #[.bool false,.slice none 0 0,.slice none 0 0,.slice none 0 0] 40)) (w.heap.size + 2) 40 #[.bool false,.slice none 0 0,.slice none 0 0,.slice none 0 0] := Blk.new_at (b := w.heap.size + 2) ((w.alloc _).alloc _) 40 _ (by simp)
 have HE0 := Lib.hid hE0; have HBL := Lib.hid bl0; have HBR := Lib.hid br0; have HBS := Lib.hid bs0
 generalize l.cells.length = n1 at *
 generalize r.cells.length = m1 at *
 have HLL := Lib.hid hLL; have HLV := Lib.hid hLV
 generalize cellVals l.cells = xs at *
 generalize cellVals r.cells = ys at *
 clear hl hr hfl hfr hE0 bl0 br0 bs0 hOl hOr hgf hg hL hLL hLV hlo hro hlf hrf
 go_enter Tryz.func188,Tryz.ntmps188
 go_wp2_with fail
 refine (HL.out _ HE0.out).mono ?_
 rintro e w1 ⟨rfl,hx1⟩
 have br1 := HBR.out.ext hx1 (fun h => h)
 obtain ⟨p0,p1,p2,p3,g0,g1,g2,g3,ln⟩ := br1.p4
 go_wp2_with fail
 refine (HR.out _ (HE0.out.trans_ hx1)).mono ?_
 rintro e w2 ⟨rfl,hx2⟩
 clear p0 p1 p2 p3 g0 g1 g2 g3 ln
 have bl2 := (HBL.out.ext hx1 (fun h => h)).ext hx2 (fun h => h)
 have br2 := br1.ext hx2 (fun h => h)
 have bs2 := (HBS.out.ext hx1 (fun h => h)).ext hx2 (fun h => h)
 have hE2 := (HE0.out.trans_ hx1).trans_ hx2
 have lr := bs2.lt
 obtain ⟨p0,p1,p2,p3,g0,g1,g2,g3,ln⟩ := bl2.p4
 obtain ⟨q0,q1,q2,q3,f0,f1,f2,f3,lq⟩ := br2.p4
 have HE2 := Lib.hid hE2
 have bs3 := bs2
 have HCC : Hid (∀ g W,Ext No w2 W → Blk W g 37 #[.slice A1 n1 c1,.slice B1 m1 d1] → Calls Tryz.prog 147 #[.slice (some ⟨g,0,none⟩) 2 2] W (Row 45 4 W (cellVals L) L.length)) := Lib.hid (fun g W hEW hpb => by
  obtain ⟨hp1,hp2⟩ := HPC.out W (HE2.out.trans_ hEW)
  have h := concat_cells [⟨A1,n1,c1,xs⟩,⟨B1,m1,d1,ys⟩] g 2 2 W rfl
   (by intro p hp; simp at hp; rcases hp with rfl | rfl; exact hp1; exact hp2) (by rw [total_two]; omega) (by omega) (by omega)
   (by
     intro j p hj; match j,hj with
     | 0,hj => simp at hj; subst hj; exact hpb.cell 0
     | 1,hj => simp at hj; subst hj; exact hpb.cell 1
     | j + 2,hj => simp at hj)
  rw [joined_two,total_two,HLV.out,← HLL.out] at h
  exact h)
 have hLb : L.length < 65536 := by rw [HLL.out]; omega
 have HLB := Lib.hid hLb
 clear hx1 hx2 hE2 HPC HLV
 generalize hLn : L.length = ln1 at *
 clear hLb
 go_wp2_with fail
 go_cut [8] (fun v wx => ∃ (b8 : Nat) (A : Option Addr) (cc : Nat),v = .pointer (some ⟨b8,0,none⟩) ∧ Blk wx b8 40 #[.bool true,.slice A ln1 cc,.slice none 0 0,.slice none 0 0] ∧ w2.heap.size ≤ b8 ∧ Rd wx (fun b => b < w2.heap.size ∨ b = b8) 4 A ln1 (cellVals L) ∧ ln1 ≤ cc ∧ (A = none → cc = 0) ∧ Ext No w2 wx)
 case first =>
  have ne1 : ¬ (w.heap.size = w2.heap.size) := by omega
  have ne2 : ¬ (w.heap.size = w2.heap.size + 1) := by omega
  have ne3 : ¬ (w2.heap.size = w.heap.size) := by omega
  have ne4 : ¬ (w2.heap.size + 1 = w.heap.size) := by omega
  have ne5 : ¬ (w.heap.size + 1 = w2.heap.size) := by omega
  have ne6 : ¬ (w.heap.size + 1 = w2.heap.size + 1) := by omega
  have ne7 : ¬ (w2.heap.size = w.heap.size + 1) := by omega
  have ne8 : ¬ (w2.heap.size + 1 = w.heap.size + 1) := by omega
  go_region_held3 (fun w' => w'.cell? ⟨w.heap.size,0,none⟩ = some (.bool true) ∧ w'.cell? ⟨w.heap.size,1,none⟩ = some (.slice A1 n1 c1) ∧ w'.cell? ⟨w.heap.size + 1,1,none⟩ = some (.slice B1 m1 d1)) (go_keep)
   ((
    go_at_call 147; first
    | (with_reducible (refine (HCC.out (w2.heap.size) (w2.alloc (.cells #[.slice A1 n1 c1,.slice B1 m1 d1] 37)).drew ?_ ?_).mono ?_); exact ((Ext.refl No w2).alloc (.cells #[.slice A1 n1 c1,.slice B1 m1 d1] 37)).drew; exact (Blk.new w2 37 _).drew1; intro e w3 hh; unfold Row at hh; obtain ⟨A,cc,he,hown,hx3⟩ := hh; subst he; have HO := Lib.hid hown; have hE3 := (((Ext.refl No w2).alloc (.cells #[.slice A1 n1 c1,.slice B1 m1 d1] 37)).drew).trans_ hx3; have HX3 := Lib.hid hE3; have HY3 := Lib.hid hx3; have k0 := cell_ext hE3 p0 (fun h => h); have k1 := cell_ext hE3 p1 (fun h => h); have k2 := cell_ext hE3 q1 (fun h => h); have n11 : ¬ (w.heap.size + 1 = w3.heap.size) := (by have := hE3.size; omega); have n12 : ¬ (w3.heap.size = w.heap.size + 1) := (by have := hE3.size; omega); have ne9 : ¬ (w.heap.size = w3.heap.size) := (by have := hE3.size; omega); have n10 : ¬ (w3.heap.size = w.heap.size) := (by have := hE3.size; omega); clear hown hx3 hE3)
    | (with_reducible (refine (HCC.out (w2.heap.size) ((w2.alloc (.cells #[.slice A1 n1 c1,.slice B1 m1 d1] 37)).alloc (.cells #[.bool false,.slice none 0 0,.slice none 0 0,.slice none 0 0] 40)).drew ?_ ?_).mono ?_); exact (((Ext.refl No w2).alloc (.cells #[.slice A1 n1 c1,.slice B1 m1 d1] 37)).alloc (.cells #[.bool false,.slice none 0 0,.slice none 0 0,.slice none 0 0] 40)).drew; exact ((Blk.new w2 37 _).alloc _).drew1; intro e w3 hh; unfold Row at hh; obtain ⟨A,cc,he,hown,hx3⟩ := hh; subst he; have HO := Lib.hid hown; have hE3 := ((((Ext.refl No w2).alloc (.cells #[.slice A1 n1 c1,.slice B1 m1 d1] 37)).alloc (.cells #[.bool false,.slice none 0 0,.slice none 0 0,.slice none 0 0] 40)).drew).trans_ hx3; have HX3 := Lib.hid hE3; have HY3 := Lib.hid hx3; have k0 := cell_ext hE3 p0 (fun h => h); have k1 := cell_ext hE3 p1 (fun h => h); have k2 := cell_ext hE3 q1 (fun h => h); have n11 : ¬ (w.heap.size + 1 = w3.heap.size) := (by have := hE3.size; omega); have n12 : ¬ (w3.heap.size = w.heap.size + 1) := (by have := hE3.size; omega); have ne9 : ¬ (w.heap.size = w3.heap.size) := (by have := hE3.size; omega); have n10 : ¬ (w3.heap.size = w.heap.size) := (by have := hE3.size; omega); have b8 := Blk.of_ext hx3 ((Blk.new_at (b := w2.heap.size + 1) (w2.alloc (.cells #[.slice A1 n1 c1,.slice B1 m1 d1] 37)) 40 #[.bool false,.slice none 0 0,.slice none 0 0,.slice none 0 0] (by simp)).drew1) (fun h => h); have HB8 := Lib.hid b8; obtain ⟨t0,t1,t2,t3,u0,u1,u2,u3,lt⟩ := b8.p4; clear b8; clear hown hx3 hE3)
    | (with_reducible (refine (HCC.out (w2.heap.size + 1) ((w2.alloc (.cells #[.bool false,.slice none 0 0,.slice none 0 0,.slice none 0 0] 40)).alloc (.cells #[.slice A1 n1 c1,.slice B1 m1 d1] 37)).drew ?_ ?_).mono ?_); exact (((Ext.refl No w2).alloc (.cells #[.bool false,.slice none 0 0,.slice none 0 0,.slice none 0 0] 40)).alloc (.cells #[.slice A1 n1 c1,.slice B1 m1 d1] 37)).drew; exact (Blk.new_at (b := w2.heap.size + 1) (w2.alloc _) 37 _ (by simp)).drew1; intro e w3 hh; unfold Row at hh; obtain ⟨A,cc,he,hown,hx3⟩ := hh; subst he; have HO := Lib.hid hown; have hE3 := ((((Ext.refl No w2).alloc (.cells #[.bool false,.slice none 0 0,.slice none 0 0,.slice none 0 0] 40)).alloc (.cells #[.slice A1 n1 c1,.slice B1 m1 d1] 37)).drew).trans_ hx3; have HX3 := Lib.hid hE3; have HY3 := Lib.hid hx3; have k0 := cell_ext hE3 p0 (fun h => h); have k1 := cell_ext hE3 p1 (fun h => h); have k2 := cell_ext hE3 q1 (fun h => h); have n11 : ¬ (w.heap.size + 1 = w3.heap.size) := (by have := hE3.size; omega); have n12 : ¬ (w3.heap.size = w.heap.size + 1) := (by have := hE3.size; omega); have ne9 : ¬ (w.heap.size = w3.heap.size) := (by have := hE3.size; omega); have n10 : ¬ (w3.heap.size = w.heap.size) := (by have := hE3.size; omega); have b8 := Blk.of_ext hx3 (((Blk.new w2 40 #[.bool false,.slice none 0 0,.slice none 0 0,.slice none 0 0]).alloc _).drew1) (fun h => h); have HB8 := Lib.hid b8; obtain ⟨t0,t1,t2,t3,u0,u1,u2,u3,lt⟩ := b8.p4; clear b8; clear hown hx3 hE3)))
  all_goals (
   go_wp2_with fail
   go_meet
   first
   | (with_reducible (refine cut_after HO.out ?_ HX3.out)); (first | exact (((Ext.refl No w2).alloc _).drew).size | exact ((((Ext.refl No w2).alloc _).alloc _).drew).size)
   | (with_reducible (refine cut_before HO.out ?_ HX3.out HB8.out ?_ ?_)); (exact ((((Ext.refl No w2).alloc _).alloc _).drew).size); omega; (show _ < ((w2.alloc _).alloc _).heap.size; simp <;> omega))
 case rest =>
  obtain ⟨b8,A,cc,rfl,bn,hb8,hrd,hcc,hnil,hx3⟩ := hcut
  obtain ⟨t0,t1,t2,t3,u0,u1,u2,u3,lt⟩ := bn.p4
  have bs3 := bs2.ext hx3 (fun h => h)
  have hE3 := Lib.hid (HE2.out.trans_ hx3)
  have hN : NodeAt wc (fun b => b < w2.heap.size ∨ b = b8) A cc none 0 none 0 ⟨true,L,[],[]⟩ := by
   rw [← hLn] at hrd hcc
   exact ⟨hrd,Rd.nil_ _,Rd.nil_ _,hcc,by simp,by simp,(by show L.length < 65536; rw [hLn]; exact HLB.out),by simp,by simp,hnil,fun _ => rfl,fun _ => rfl⟩
  have HCN := Lib.hid (HC.out wc _ _ _ _ _ _ _ hN)
  have HN := Lib.hid hN
  have hw : w.heap.size + 2 < w2.heap.size := lr
  have HHW := Lib.hid hw
  clear hN hrd p0 p1 p2 p3 g0 g1 g2 g3 ln q0 q1 q2 q3 f0 f1 f2 f3 lq bl2 br2 bs2 br1 hx3 hw lr
  have hDo := HD.out
  rcases Bool.eq_false_or_eq_true (⟨true,L,[],[]⟩ : Nd).ok with hok | hok
  rotate_left
  ·have hD : D = none := by rw [← hDo,hok]; rfl
   rw [Nd.chk_bad hok] at HCN
   clear HD hDo hok
   subst hD
   go_wp2_with fail
   refine HCN.out.mono ?_
   rintro e w4 ⟨rfl,hx4⟩
   have bs4 := bs3.ext hx4 (fun h => h)
   obtain ⟨r0,r1,r2,r3,s0,s1,s2,s3,lr⟩ := bs4.p4
   have lr : w.heap.size < w4.heap.size := by omega
   go_wp2_with fail
   refine join_back (w.heap.size + 2) _ (bs4.put4 (.bool false) (.slice none 0 0) (.slice none 0 0) (.slice none 0 0)) rfl rfl rfl rfl ?_
   exact ⟨((((hE3.out.trans_ hx4).setNew (by omega) _ _).setNew (by omega) _ _).setNew (by omega) _ _).setNew (by omega) _ _,rfl⟩
  ·have hD : D = some ⟨true,L,[],[]⟩ := by rw [← hDo,hok]; rfl
   rw [Nd.chk_ok hok] at HCN
   clear HD hDo hok
   subst hD
   have HBS3 := Lib.hid bs3
   clear bs3
   go_wp2_with fail
   refine HCN.out.mono ?_
   rintro e w4 ⟨rfl,hx4⟩
   have bs4 := HBS3.out.ext hx4 (fun h => h)
   have bn4 := bn.ext hx4 (fun h => h)
   obtain ⟨r0,r1,r2,r3,s0,s1,s2,s3,lr⟩ := bs4.p4
   obtain ⟨t0,t1,t2,t3,u0,u1,u2,u3,lt⟩ := bn4.p4
   have lr : w.heap.size < w4.heap.size := by omega
   go_wp2_with fail
   refine join_back (w.heap.size + 2) _ (bs4.put4 (.bool true) (.slice A ln1 cc) (.slice none 0 0) (.slice none 0 0)) rfl rfl rfl rfl ?_
   have hin : (fun b => b < w2.heap.size ∨ b = b8) (w.heap.size + 2) := .inl HHW.out
   have hz : Ext (fun b => b < w2.heap.size ∨ b = b8) w4 _ := ((((Ext.refl _ w4).setF hin 0 (.bool true)).setF hin 1 (.slice A ln1 cc)).setF hin 2 (.slice none 0 0)).setF hin 3 (.slice none 0 0)
   refine ⟨((((hE3.out.trans_ hx4).setNew (by omega) _ _).setNew (by omega) _ _).setNew (by omega) _ _).setNew (by omega) _ _,⟨A,cc,none,0,none,0⟩,by simp only [Nd.value]; rw [hLn]; rfl,?_⟩
   exact ((HN.out.ext hx4.of_no).ext hz).mono (fun b _ hb => by unfold Old at hb; have := HHW.out; exact .inl (by omega))
theorem join_branch (l r : Nd) (key : Bs) (w : World) (F : Nat → Prop) (a b : Adr) (hl : NodeIn w F a l) (hr : NodeIn w F b r) (hkl : key.length < 65536) (hlo : l.ok = true) (hro : r.ok = true) (hlf : l.leaf = false) (hrf : r.leaf = false) :
  Calls Tryz.prog 188 #[l.value a.A1 a.c1 a.A2 a.c2 a.A3 a.c3,r.value b.A1 b.c1 b.A2 b.c2 b.A3 b.c3,.string (str key)] w (JoinTold w (if (l.glue r key).ok then some (l.glue r key) else none)) := by
 have hOl := Nd.Ok.of hlo
 have hOr := Nd.Ok.of hro
 have hfl := Nd.Ok.fits hOl
 have hfr := Nd.Ok.fits hOr
 have HL := Lib.hid (fun w' (e : Ext No w w') => check_any l w' F _ _ _ _ _ _ (hl.ext e.of_no) hfl)
 have HR := Lib.hid (fun w' (e : Ext No w w') => check_any r w' F _ _ _ _ _ _ (hr.ext e.of_no) hfr)
 rw [Nd.chk_ok hlo] at HL
 rw [Nd.chk_ok hro] at HR
 have hgf := Nd.glue_fits (key := key) hfl hfr hkl
 have hg : l.glue r key = ⟨false,l.cells ++ r.cells,l.keys ++ key :: r.keys,l.kids ++ r.kids⟩ := by unfold Nd.glue; rw [if_neg (by rw [hlf]; simp)]
 have HC := Lib.hid (fun w' F A1 c1 A2 c2 A3 c3 hn => check_any (l.glue r key) w' F A1 c1 A2 c2 A3 c3 hn hgf)
 rw [hg] at HC ⊢
 have hn1 : l.cells.length ≤ 255 := hOl.a1
 have hn2 : r.cells.length ≤ 255 := hOr.a1
 have hk1 : l.keys.length ≤ 255 := hOl.a2
 have hk2 : r.keys.length ≤ 255 := hOr.a2
 have hi1 : l.kids.length ≤ 256 := by rw [(hOl.br hlf).2]; omega
 have hi2 : r.kids.length ≤ 256 := by rw [(hOr.br hrf).2]; omega
 have HPK : Hid (∀ w',Ext No w w' → Part.Ok w' 1 ⟨a.A2,l.keys.length,a.c2,keyVals l.keys⟩ ∧ Part.Ok w' 1 ⟨b.A2,r.keys.length,b.c2,keyVals r.keys⟩) := Lib.hid (fun w' e =>
  ⟨⟨(hl.keys.mono (G := No) (by omega) (fun _ _ h => h.elim)).ext e,hl.e2,one_keys _,hl.l2⟩,⟨(hr.keys.mono (G := No) (by omega) (fun _ _ h => h.elim)).ext e,hr.e2,one_keys _,hr.l2⟩⟩)
 have HPI : Hid (∀ w',Ext No w w' → Part.Ok w' 1 ⟨a.A3,l.kids.length,a.c3,kidVals l.kids⟩ ∧ Part.Ok w' 1 ⟨b.A3,r.kids.length,b.c3,kidVals r.kids⟩) := Lib.hid (fun w' e =>
  ⟨⟨(hl.kids.mono (G := No) (by omega) (fun _ _ h => h.elim)).ext e,hl.e3,one_kids _,hl.l3⟩,⟨(hr.kids.mono (G := No) (by omega) (fun _ _ h => h.elim)).ext e,hr.e3,one_kids _,hr.l3⟩⟩)
 have HPC : Hid (∀ w',Ext No w w' → Part.Ok w' 4 ⟨a.A1,l.cells.length,a.c1,cellVals l.cells⟩ ∧ Part.Ok w' 4 ⟨b.A1,r.cells.length,b.c1,cellVals r.cells⟩) := Lib.hid (fun w' e =>
  ⟨⟨(hl.cells.mono (G := No) (by omega) (fun _ _ h => h.elim)).ext e,hl.e1,one_cells _,hl.l1⟩,⟨(hr.cells.mono (G := No) (by omega) (fun _ _ h => h.elim)).ext e,hr.e1,one_cells _,hr.l1⟩⟩)
 obtain ⟨L,hL⟩ : ∃ L,L = l.cells ++ r.cells := ⟨_,rfl⟩
 have hLV : cellVals l.cells ++ cellVals r.cells = cellVals L := by rw [hL,cellVals_append]
 have hLL : L.length = l.cells.length + r.cells.length := by rw [hL]; simp
 rw [← hL] at HC ⊢
 obtain ⟨K,hK⟩ : ∃ K,K = l.keys ++ key :: r.keys := ⟨_,rfl⟩
 have hKV : keyVals l.keys ++ (.string (str key) :: keyVals r.keys) = keyVals K := by rw [hK]; simp [keyVals]
 have hKL : K.length = l.keys.length + (r.keys.length + 1) := by rw [hK]; simp
 rw [← hK] at HC ⊢
 obtain ⟨I,hI⟩ : ∃ I,I = l.kids ++ r.kids := ⟨_,rfl⟩
 have hIV : kidVals l.kids ++ kidVals r.kids = kidVals I := by rw [hI]; simp [kidVals]
 have hIL : I.length = l.kids.length + r.kids.length := by rw [hI]; simp
 rw [← hI] at HC ⊢
 generalize hDD : (if (⟨false,L,K,I⟩ : Nd).ok = true then some (⟨false,L,K,I⟩ : Nd) else none) = D at ⊢
 have HD := Lib.hid hDD
 clear hDD
 obtain ⟨A1,c1,A2,c2,A3,c3⟩ := a
 obtain ⟨B1,d1,B2,d2,B3,d3⟩ := b
 simp only [Nd.value,hlf,hrf,List.length_nil] at HL HR HC HPC HPK HPI ⊢
 generalize l.keys.length = n2 at *
 generalize l.kids.length = n3 at *
 generalize r.keys.length = m2 at *
 generalize r.kids.length = m3 at *
 have hE0 : Ext No w (((w.alloc (.cells #[.bool false,.slice A1 l.cells.length c1,.slice A2 n2 c2,.slice A3 n3 c3] 40)).alloc (.cells #[.bool false,.slice B1 r.cells.length d1,.slice B2 m2 d2,.slice B3 m3 d3] 40)).alloc (.cells #[.bool false,.slice none 0 0,.slice none 0 0,.slice none 0 0] 40)) := (((Ext.refl No w).alloc _).alloc _).alloc _
 have bl0 : Blk (((w.alloc (.cells #[.bool false,.slice A1 l.cells.length c1,.slice A2 n2 c2,.slice A3 n3 c3] 40)).alloc (.cells #[.bool false,.slice B1 r.cells.length d1,.slice B2 m2 d2,.slice B3 m3 d3] 40)).alloc (.cells #[.bool false,.slice none 0 0,.slice none 0 0,.slice none 0 0] 40)) w.heap.size 40 #[.bool false,.slice A1 l.cells.length c1,.slice A2 n2 c2,.slice A3 n3 c3] := ((Blk.new w 40 _).alloc _).alloc _
 have br0 : Blk (((w.alloc (.cells #[.bool false,.slice A1 l.cells.length c1,.slice A2 n2 c2,.slice A3 n3 c3] 40)).alloc (.cells #[.bool false,.slice B1 r.cells.length d1,.slice B2 m2 d2,.slice B3 m3 d3] 40)).alloc (.cells #[.bool false,.slice none 0 0,.slice none 0 0,.slice none 0 0] 40)) (w.heap.size + 1) 40 #[.bool false,.slice B1 r.cells.length d1,.slice B2 m2 d2,.slice B3 m3 d3] := (Blk.new_at (b := w.heap.size + 1) (w.alloc _) 40 _ (by simp)).alloc _
 have bs0 : Blk (((w.alloc (.cells #[.bool false,.slice A1 l.cells.length c1,.slice A2 n2 c2,.slice A3 n3 c3] 40)).alloc (.cells #[.bool false,.slice B1 r.cells.length d1,.slice B2 m2 d2,.slice B3 m3 d3] 40)).alloc (.cells #[.bool false,.slice none 0 0,.slice none 0 0,.slice none 0 0] 40)) (w.heap.size + 2) 40 #[.bool false,.slice none 0 0,.slice none 0 0,.slice none 0 0] := Blk.new_at (b := w.heap.size + 2) ((w.alloc _).alloc _) 40 _ (by simp)
 have HE0 := Lib.hid hE0; have HBL := Lib.hid bl0; have HBR := Lib.hid br0; have HBS := Lib.hid bs0
 generalize l.cells.length = n1 at *
 generalize r.cells.length = m1 at *
 have HLL := Lib.hid hLL; have HLV := Lib.hid hLV
 have HKL := Lib.hid hKL; have HKV := Lib.hid hKV
 have HIL := Lib.hid hIL; have HIV := Lib.hid hIV
 generalize keyVals l.keys = kx at *
 generalize keyVals r.keys = ky at *
 generalize kidVals l.kids = ix at *
 generalize kidVals r.kids = iy at *
 generalize cellVals l.cells = xs at *
 generalize cellVals r.cells = ys at *
 clear hl hr hfl hfr hE0 bl0 br0 bs0 hOl hOr hgf hg hL hLL hLV hK hKL hKV hI hIL hIV hlo hro hlf hrf
 go_enter Tryz.func188,Tryz.ntmps188
 go_wp2_with fail
 refine (HL.out _ HE0.out).mono ?_
 rintro e w1 ⟨rfl,hx1⟩
 have br1 := HBR.out.ext hx1 (fun h => h)
 obtain ⟨p0,p1,p2,p3,g0,g1,g2,g3,ln⟩ := br1.p4
 go_wp2_with fail
 refine (HR.out _ (HE0.out.trans_ hx1)).mono ?_
 rintro e w2 ⟨rfl,hx2⟩
 clear p0 p1 p2 p3 g0 g1 g2 g3 ln
 have bl2 := (HBL.out.ext hx1 (fun h => h)).ext hx2 (fun h => h)
 have br2 := br1.ext hx2 (fun h => h)
 have bs2 := (HBS.out.ext hx1 (fun h => h)).ext hx2 (fun h => h)
 have hE2 := (HE0.out.trans_ hx1).trans_ hx2
 have lr := bs2.lt
 obtain ⟨p0,p1,p2,p3,g0,g1,g2,g3,ln⟩ := bl2.p4
 obtain ⟨q0,q1,q2,q3,f0,f1,f2,f3,lq⟩ := br2.p4
 have HE2 := Lib.hid hE2
 have bs3 := bs2
 have HCC : Hid (∀ g W,Ext No w2 W → Blk W g 37 #[.slice A1 n1 c1,.slice B1 m1 d1] → Calls Tryz.prog 147 #[.slice (some ⟨g,0,none⟩) 2 2] W (Row 45 4 W (cellVals L) L.length)) := Lib.hid (fun g W hEW hpb => by
  obtain ⟨hp1,hp2⟩ := HPC.out W (HE2.out.trans_ hEW)
  have h := concat_cells [⟨A1,n1,c1,xs⟩,⟨B1,m1,d1,ys⟩] g 2 2 W rfl
   (by intro p hp; simp at hp; rcases hp with rfl | rfl; exact hp1; exact hp2) (by rw [total_two]; omega) (by omega) (by omega)
   (by
     intro j p hj; match j,hj with
     | 0,hj => simp at hj; subst hj; exact hpb.cell 0
     | 1,hj => simp at hj; subst hj; exact hpb.cell 1
     | j + 2,hj => simp at hj)
  rw [joined_two,total_two,HLV.out,← HLL.out] at h
  exact h)
 have hLb : L.length < 65536 := by rw [HLL.out]; omega
 have HLB := Lib.hid hLb
 clear hx1 hx2 hE2 HPC HLV
 generalize hLn : L.length = ln1 at *
 generalize hKn : K.length = kn1 at *
 generalize hIn : I.length = in1 at *
 clear hLb
 go_wp2_with fail
 go_cut [8] (fun v wx => ∃ (b8 : Nat) (A : Option Addr) (cc : Nat),v = .pointer (some ⟨b8,0,none⟩) ∧ Blk wx b8 40 #[.bool false,.slice A ln1 cc,.slice none 0 0,.slice none 0 0] ∧ w2.heap.size ≤ b8 ∧ Rd wx (fun b => b < w2.heap.size ∨ b = b8) 4 A ln1 (cellVals L) ∧ ln1 ≤ cc ∧ (A = none → cc = 0) ∧ Ext No w2 wx)
 case first =>
  have ne1 : ¬ (w.heap.size = w2.heap.size) := by omega
  have ne2 : ¬ (w.heap.size = w2.heap.size + 1) := by omega
  have ne3 : ¬ (w2.heap.size = w.heap.size) := by omega
  have ne4 : ¬ (w2.heap.size + 1 = w.heap.size) := by omega
  have ne5 : ¬ (w.heap.size + 1 = w2.heap.size) := by omega
  have ne6 : ¬ (w.heap.size + 1 = w2.heap.size + 1) := by omega
  have ne7 : ¬ (w2.heap.size = w.heap.size + 1) := by omega
  have ne8 : ¬ (w2.heap.size + 1 = w.heap.size + 1) := by omega
  go_region_held3 (fun w' => w'.cell? ⟨w.heap.size,0,none⟩ = some (.bool false) ∧ w'.cell? ⟨w.heap.size,1,none⟩ = some (.slice A1 n1 c1) ∧ w'.cell? ⟨w.heap.size + 1,1,none⟩ = some (.slice B1 m1 d1)) (go_keep)
   ((
    go_at_call 147; first
    | (with_reducible (refine (HCC.out (w2.heap.size) (w2.alloc (.cells #[.slice A1 n1 c1,.slice B1 m1 d1] 37)).drew ?_ ?_).mono ?_); exact ((Ext.refl No w2).alloc (.cells #[.slice A1 n1 c1,.slice B1 m1 d1] 37)).drew; exact (Blk.new w2 37 _).drew1; intro e w3 hh; unfold Row at hh; obtain ⟨A,cc,he,hown,hx3⟩ := hh; subst he; have HO := Lib.hid hown; have hE3 := (((Ext.refl No w2).alloc (.cells #[.slice A1 n1 c1,.slice B1 m1 d1] 37)).drew).trans_ hx3; have HX3 := Lib.hid hE3; have HY3 := Lib.hid hx3; have k0 := cell_ext hE3 p0 (fun h => h); have k1 := cell_ext hE3 p1 (fun h => h); have k2 := cell_ext hE3 q1 (fun h => h); have n11 : ¬ (w.heap.size + 1 = w3.heap.size) := (by have := hE3.size; omega); have n12 : ¬ (w3.heap.size = w.heap.size + 1) := (by have := hE3.size; omega); have ne9 : ¬ (w.heap.size = w3.heap.size) := (by have := hE3.size; omega); have n10 : ¬ (w3.heap.size = w.heap.size) := (by have := hE3.size; omega); clear hown hx3 hE3)
    | (with_reducible (refine (HCC.out (w2.heap.size) ((w2.alloc (.cells #[.slice A1 n1 c1,.slice B1 m1 d1] 37)).alloc (.cells #[.bool false,.slice none 0 0,.slice none 0 0,.slice none 0 0] 40)).drew ?_ ?_).mono ?_); exact (((Ext.refl No w2).alloc (.cells #[.slice A1 n1 c1,.slice B1 m1 d1] 37)).alloc (.cells #[.bool false,.slice none 0 0,.slice none 0 0,.slice none 0 0] 40)).drew; exact ((Blk.new w2 37 _).alloc _).drew1; intro e w3 hh; unfold Row at hh; obtain ⟨A,cc,he,hown,hx3⟩ := hh; subst he; have HO := Lib.hid hown; have hE3 := ((((Ext.refl No w2).alloc (.cells #[.slice A1 n1 c1,.slice B1 m1 d1] 37)).alloc (.cells #[.bool false,.slice none 0 0,.slice none 0 0,.slice none 0 0] 40)).drew).trans_ hx3; have HX3 := Lib.hid hE3; have HY3 := Lib.hid hx3; have k0 := cell_ext hE3 p0 (fun h => h); have k1 := cell_ext hE3 p1 (fun h => h); have k2 := cell_ext hE3 q1 (fun h => h); have n11 : ¬ (w.heap.size + 1 = w3.heap.size) := (by have := hE3.size; omega); have n12 : ¬ (w3.heap.size = w.heap.size + 1) := (by have := hE3.size; omega); have ne9 : ¬ (w.heap.size = w3.heap.size) := (by have := hE3.size; omega); have n10 : ¬ (w3.heap.size = w.heap.size) := (by have := hE3.size; omega); have b8 := Blk.of_ext hx3 ((Blk.new_at (b := w2.heap.size + 1) (w2.alloc (.cells #[.slice A1 n1 c1,.slice B1 m1 d1] 37)) 40 #[.bool false,.slice none 0 0,.slice none 0 0,.slice none 0 0] (by simp)).drew1) (fun h => h); have HB8 := Lib.hid b8; obtain ⟨t0,t1,t2,t3,u0,u1,u2,u3,lt⟩ := b8.p4; clear b8; clear hown hx3 hE3)
    | (with_reducible (refine (HCC.out (w2.heap.size + 1) ((w2.alloc (.cells #[.bool false,.slice none 0 0,.slice none 0 0,.slice none 0 0] 40)).alloc (.cells #[.slice A1 n1 c1,.slice B1 m1 d1] 37)).drew ?_ ?_).mono ?_); exact (((Ext.refl No w2).alloc (.cells #[.bool false,.slice none 0 0,.slice none 0 0,.slice none 0 0] 40)).alloc (.cells #[.slice A1 n1 c1,.slice B1 m1 d1] 37)).drew; exact (Blk.new_at (b := w2.heap.size + 1) (w2.alloc _) 37 _ (by simp)).drew1; intro e w3 hh; unfold Row at hh; obtain ⟨A,cc,he,hown,hx3⟩ := hh; subst he; have HO := Lib.hid hown; have hE3 := ((((Ext.refl No w2).alloc (.cells #[.bool false,.slice none 0 0,.slice none 0 0,.slice none 0 0] 40)).alloc (.cells #[.slice A1 n1 c1,.slice B1 m1 d1] 37)).drew).trans_ hx3; have HX3 := Lib.hid hE3; have HY3 := Lib.hid hx3; have k0 := cell_ext hE3 p0 (fun h => h); have k1 := cell_ext hE3 p1 (fun h => h); have k2 := cell_ext hE3 q1 (fun h => h); have n11 : ¬ (w.heap.size + 1 = w3.heap.size) := (by have := hE3.size; omega); have n12 : ¬ (w3.heap.size = w.heap.size + 1) := (by have := hE3.size; omega); have ne9 : ¬ (w.heap.size = w3.heap.size) := (by have := hE3.size; omega); have n10 : ¬ (w3.heap.size = w.heap.size) := (by have := hE3.size; omega); have b8 := Blk.of_ext hx3 (((Blk.new w2 40 #[.bool false,.slice none 0 0,.slice none 0 0,.slice none 0 0]).alloc _).drew1) (fun h => h); have HB8 := Lib.hid b8; obtain ⟨t0,t1,t2,t3,u0,u1,u2,u3,lt⟩ := b8.p4; clear b8; clear hown hx3 hE3)))
  all_goals (
   go_wp2_with fail
   go_meet
   first
   | (with_reducible (refine cut_after HO.out ?_ HX3.out)); (first | exact (((Ext.refl No w2).alloc _).drew).size | exact ((((Ext.refl No w2).alloc _).alloc _).drew).size)
   | (with_reducible (refine cut_before HO.out ?_ HX3.out HB8.out ?_ ?_)); (exact ((((Ext.refl No w2).alloc _).alloc _).drew).size); omega; (show _ < ((w2.alloc _).alloc _).heap.size; simp <;> omega))
 case rest =>
  obtain ⟨b8,A,cc,rfl,bn,hb8,hrd,hcc,hnil,hx3⟩ := hcut
  obtain ⟨t0,t1,t2,t3,u0,u1,u2,u3,lt⟩ := bn.p4
  have bs3 := bs2.ext hx3 (fun h => h)
  have bl3 := bl2.ext hx3 (fun h => h)
  have br3 := br2.ext hx3 (fun h => h)
  have hE3 := HE2.out.trans_ hx3
  have hw : w.heap.size + 2 < w2.heap.size := lr
  clear p0 p1 p2 p3 g0 g1 g2 g3 ln q0 q1 q2 q3 f0 f1 f2 f3 lq bl2 br2 bs2 br1 lr
  obtain ⟨p0,p1,p2,p3,g0,g1,g2,g3,ln⟩ := bl3.p4
  obtain ⟨q0,q1,q2,q3,f0,f1,f2,f3,lq⟩ := br3.p4
  obtain ⟨W,hW⟩ : ∃ W,W = ((wc.alloc (.cells #[.string (str key)] 9)).alloc (.cells #[.slice A2 n2 c2,.slice (some ⟨wc.heap.size,0,none⟩) 1 1,.slice B2 m2 d2] 38)) := ⟨_,rfl⟩
  have hEW : Ext No wc W := by rw [hW]; exact ((Ext.refl No wc).alloc _).alloc _
  have hkb : Blk W wc.heap.size 9 #[.string (str key)] := by rw [hW]; exact (Blk.new wc 9 _).alloc _
  have hpb : Blk W (wc.heap.size + 1) 38 #[.slice A2 n2 c2,.slice (some ⟨wc.heap.size,0,none⟩) 1 1,.slice B2 m2 d2] := by rw [hW]; exact Blk.new_at (b := wc.heap.size + 1) (wc.alloc _) 38 _ (by simp)
  obtain ⟨hp1,hp2⟩ := HPK.out W (hE3.trans_ hEW)
  have hp3 : Part.Ok W 1 ⟨some ⟨wc.heap.size,0,none⟩,1,1,[.string (str key)]⟩ := ⟨⟨rfl,fun _ => ⟨_,_,rfl,(fun h => h),fun j u hu => by rw [Nat.zero_add,hkb.cell j]; simpa using hu⟩⟩,(fun h => by cases h),(fun u hu => by simp at hu; subst hu; rfl),Nat.le_refl _⟩
  have HKK := Lib.hid (concat_strings [⟨A2,n2,c2,kx⟩,⟨some ⟨wc.heap.size,0,none⟩,1,1,[.string (str key)]⟩,⟨B2,m2,d2,ky⟩] (wc.heap.size + 1) 3 3 W rfl
   (by intro p hp; simp at hp; rcases hp with rfl | rfl | rfl; exact hp1; exact hp3; exact hp2) (by simp [total]; omega) (by omega) (by omega)
   (by
     intro j p hj; match j,hj with
     | 0,hj => simp at hj; subst hj; exact hpb.cell 0
     | 1,hj => simp at hj; subst hj; exact hpb.cell 1
     | 2,hj => simp at hj; subst hj; exact hpb.cell 2
     | j + 3,hj => simp at hj))
  have e1 : joined [⟨A2,n2,c2,kx⟩,⟨some ⟨wc.heap.size,0,none⟩,1,1,[.string (str key)]⟩,⟨B2,m2,d2,ky⟩] = keyVals K := by rw [← HKV.out]; simp [joined]
  have e2 : total [⟨A2,n2,c2,kx⟩,⟨some ⟨wc.heap.size,0,none⟩,1,1,[.string (str key)]⟩,⟨B2,m2,d2,ky⟩] = kn1 := by rw [HKL.out]; simp [total]; omega
  rw [e1,e2] at HKK
  have HEW := Lib.hid hEW
  have hWs : wc.heap.size ≤ W.heap.size := hEW.size
  have HWS := Lib.hid hWs
  clear hp1 hp2 hp3 e1 e2 hkb hpb hEW hWs
  subst hW
  have HBN := Lib.hid bn; have HBL3 := Lib.hid bl3; have HBR3 := Lib.hid br3; have HBS3 := Lib.hid bs3; have HE3 := Lib.hid hE3; have HRD := Lib.hid hrd
  have HHW := Lib.hid hw; have HLT := Lib.hid lt; have HB8 := Lib.hid hb8; have HX3 := Lib.hid hx3
  clear bn bl3 br3 bs3 hE3 hrd hw hx3
  go_wp2_with fail
  refine HKK.out.mono ?_
  rintro e w4 ⟨KA,kc,rfl,hown,hx4⟩
  have hx4' := HEW.out.trans_ hx4
  have bn4 := HBN.out.ext hx4' (fun h => h)
  have hkr := Rd.own_lo hown (by omega)
  have hkc := own_cap hown
  have hkn := own_nilcap hown
  have hkr : Rd (w4.setCell ⟨b8,2,none⟩ (.slice KA kn1 kc)) (fun b => b < wc.heap.size) 1 KA kn1 (keyVals K) := (hkr.mono (G := fun b => b < wc.heap.size) (by omega) (fun b _ hb => Nat.lt_of_lt_of_le hb HWS.out)).ext (Ext.setF (F := fun b => b < wc.heap.size) (b := b8) (Ext.refl _ w4) HLT.out 2 _)
  have hE5 : Ext (fun b => b = b8) wc (w4.setCell ⟨b8,2,none⟩ (.slice KA kn1 kc)) := Ext.setF (F := fun b => b = b8) (b := b8) hx4'.of_no rfl 2 _
  have hE5' : Ext No w (w4.setCell ⟨b8,2,none⟩ (.slice KA kn1 kc)) := (HE3.out.trans_ hx4').setNew (by have := HB8.out; have := HHW.out; omega) 2 _
  have bn5 : Blk (w4.setCell ⟨b8,2,none⟩ (.slice KA kn1 kc)) b8 40 #[.bool false,.slice A ln1 cc,.slice KA kn1 kc,.slice none 0 0] := bn4.set_ 2 _
  have hn1 : ¬ w.heap.size = b8 := by have := HB8.out; have := HHW.out; omega
  have hn2 : ¬ w.heap.size + 1 = b8 := by have := HB8.out; have := HHW.out; omega
  have hn3 : ¬ w.heap.size + 2 = b8 := by have := HB8.out; have := HHW.out; omega
  have bl5 := HBL3.out.ext hE5 hn1
  have br5 := HBR3.out.ext hE5 hn2
  have bs5 := HBS3.out.ext hE5 hn3
  have hc5 : Rd (w4.setCell ⟨b8,2,none⟩ (.slice KA kn1 kc)) (fun b => b < w2.heap.size ∨ b = b8) 4 A ln1 (cellVals L) := HRD.out.ext (hE5.mono (fun b _ h => .inr h))
  have t0 := bn4.cell 2; have u0 := bn4.frozen 2
  simp at t0
  obtain ⟨W,hW⟩ : ∃ W,W = w4.setCell ⟨b8,2,none⟩ (.slice KA kn1 kc) := ⟨_,rfl⟩
  rw [← hW] at hkr hE5 hE5' bn5 bl5 br5 bs5 hc5
  obtain ⟨W2,hW2⟩ : ∃ W2,W2 = W.alloc (.cells #[.slice A3 n3 c3,.slice B3 m3 d3] 35) := ⟨_,rfl⟩
  have hEW2 : Ext No W W2 := by rw [hW2]; exact (Ext.refl No W).alloc _
  have hpb : Blk W2 W.heap.size 35 #[.slice A3 n3 c3,.slice B3 m3 d3] := by rw [hW2]; exact Blk.new W 35 _
  obtain ⟨hp1,hp2⟩ := HPI.out W2 (hE5'.trans_ hEW2)
  have HII := Lib.hid (concat_ints [⟨A3,n3,c3,ix⟩,⟨B3,m3,d3,iy⟩] W.heap.size 2 2 W2 rfl
   (by intro p hp; simp at hp; rcases hp with rfl | rfl; exact hp1; exact hp2) (by simp [total]; omega) (by omega) (by omega)
   (by
     intro j p hj; match j,hj with
     | 0,hj => simp at hj; subst hj; exact hpb.cell 0
     | 1,hj => simp at hj; subst hj; exact hpb.cell 1
     | j + 2,hj => simp at hj))
  rw [joined_two,total_two,HIV.out,← HIL.out] at HII
  have hWsz : W.heap.size = w4.heap.size := by rw [hW]; simp [World.setCell]
  rw [hWsz] at HII
  have HE5 := Lib.hid hE5; have HE5' := Lib.hid hE5'; have HBN5 := Lib.hid bn5; have HBS5 := Lib.hid bs5; have HC5 := Lib.hid hc5; have HKR := Lib.hid hkr; have HEW2 := Lib.hid hEW2
  have HSZ4 : Hid (wc.heap.size ≤ w4.heap.size) := Lib.hid hx4'.size
  have HWSZ := Lib.hid hWsz
  have bl4 := HBL3.out.ext hx4' (fun h => h)
  have br4 := HBR3.out.ext hx4' (fun h => h)
  have lb4 := bn4.lt
  obtain ⟨t0,t1,t2,t3,u0,u1,u2,u3,lt⟩ := bn4.p4
  clear p0 p1 p2 p3 g0 g1 g2 g3 ln q0 q1 q2 q3 f0 f1 f2 f3 lq hp1 hp2 hpb hEW2 hE5 hE5' bs5 hc5 hkr bn4 hown hx4 hx4' bl5 br5 bn5 hWsz
  obtain ⟨p0,p1,p2,p3,g0,g1,g2,g3,ln⟩ := bl4.p4
  obtain ⟨q0,q1,q2,q3,f0,f1,f2,f3,lq⟩ := br4.p4
  clear bl4 br4
  subst hW2
  subst hW
  have hn4 : ¬ b8 = w.heap.size := fun h => hn1 h.symm
  have hn5 : ¬ b8 = w.heap.size + 1 := fun h => hn2 h.symm
  go_wp2_with fail
  clear p0 p1 p2 p3 g0 g1 g2 g3 ln q0 q1 q2 q3 f0 f1 f2 f3 lq t0 t1 t2 t3 u0 u1 u2 u3 lt
  refine HII.out.mono ?_
  rintro e w5 ⟨KI,ic,rfl,hown,hx5⟩
  have hir := (Rd.own_lo hown (by omega)).mono (G := fun b => b < w4.heap.size) (by omega) (fun b _ hb => by unfold Lo; have h1 := HWSZ.out; have h2 := HEW2.out.size; rw [h1] at h2; omega)
  have hic := own_cap hown
  have hin := own_nilcap hown
  have hx5' := HEW2.out.trans_ hx5
  have bn5 := HBN5.out.ext hx5' (fun h => h)
  have bs6 : Blk (w5.setCell ⟨b8,3,none⟩ (.slice KI in1 ic)) (w.heap.size + 2) 40 #[.bool false,.slice none 0 0,.slice none 0 0,.slice none 0 0] := (HBS5.out.ext hx5' (fun h => h)).far (p := ⟨b8,3,none⟩) hn3 _
  have bn6 : Blk (w5.setCell ⟨b8,3,none⟩ (.slice KI in1 ic)) b8 40 #[.bool false,.slice A ln1 cc,.slice KA kn1 kc,.slice KI in1 ic] := bn5.set_ 3 _
  have hir6 : Rd (w5.setCell ⟨b8,3,none⟩ (.slice KI in1 ic)) (fun b => b < w4.heap.size) 1 KI in1 (kidVals I) := hir.ext (Ext.setF (F := fun b => b < w4.heap.size) (b := b8) (Ext.refl _ w5) lb4 3 _)
  have hkr6 : Rd (w5.setCell ⟨b8,3,none⟩ (.slice KI in1 ic)) (fun b => b < wc.heap.size) 1 KA kn1 (keyVals K) := HKR.out.ext (Ext.setF (F := fun b => b < wc.heap.size) (b := b8) hx5'.of_no HLT.out 3 _)
  have hcr6 : Rd (w5.setCell ⟨b8,3,none⟩ (.slice KI in1 ic)) (fun b => b < w2.heap.size ∨ b = b8) 4 A ln1 (cellVals L) := HC5.out.ext (Ext.setF (F := fun b => b < w2.heap.size ∨ b = b8) (b := b8) hx5'.of_no (.inr rfl) 3 _)
  have hE6 : Ext No w (w5.setCell ⟨b8,3,none⟩ (.slice KI in1 ic)) := (HE5'.out.trans_ hx5').setNew (by have := HB8.out; have := HHW.out; omega) 3 _
  have hN : NodeAt (w5.setCell ⟨b8,3,none⟩ (.slice KI in1 ic)) (fun b => b < w2.heap.size ∨ b = b8) A cc KA kc KI ic ⟨false,L,K,I⟩ := by
   subst hLn
   subst hKn
   subst hIn
   have h4 := HSZ4.out; have h5 := HX3.out.size; have h6 := HLT.out
   exact ⟨hcr6,hkr6.mono (by omega) (fun b _ hb => by rcases hb with hb | hb <;> omega),hir6.mono (by omega) (fun b _ hb => by rcases hb with hb | hb <;> omega),hcc,hkc,hic,
    (by show L.length < 65536; exact HLB.out),(by show K.length < 65536; rw [HKL.out]; omega),(by show I.length < 65536; rw [HIL.out]; omega),hnil,hkn,hin⟩
  have HCN := Lib.hid (HC.out _ _ _ _ _ _ _ _ hN)
  have HN := Lib.hid hN; have HE6 := Lib.hid hE6; have HBS6 := Lib.hid bs6; have HBN6 := Lib.hid bn6
  obtain ⟨t0,t1,t2,t3,u0,u1,u2,u3,lt⟩ := bn5.p4
  clear hN hir hir6 hkr6 hcr6 hx5 hx5' hown bn5 bs6 bn6 hE6
  have hDo := HD.out
  rcases Bool.eq_false_or_eq_true (⟨false,L,K,I⟩ : Nd).ok with hok | hok
  rotate_left
  ·have hD : D = none := by rw [← hDo,hok]; rfl
   rw [Nd.chk_bad hok] at HCN
   clear HD hDo hok
   subst hD
   go_wp2_with fail
   refine HCN.out.mono ?_
   rintro e w7 ⟨rfl,hx7⟩
   have bs7 := HBS6.out.ext hx7 (fun h => h)
   clear t0 t1 t2 t3 u0 u1 u2 u3 lt
   obtain ⟨r0,r1,r2,r3,s0,s1,s2,s3,lr⟩ := bs7.p4
   have lr : w.heap.size < w7.heap.size := by omega
   go_wp2_with fail
   refine join_back (w.heap.size + 2) _ (bs7.put4 (.bool false) (.slice none 0 0) (.slice none 0 0) (.slice none 0 0)) rfl rfl rfl rfl ?_
   exact ⟨((((HE6.out.trans_ hx7).setNew (by omega) _ _).setNew (by omega) _ _).setNew (by omega) _ _).setNew (by omega) _ _,rfl⟩
  ·have hD : D = some ⟨false,L,K,I⟩ := by rw [← hDo,hok]; rfl
   rw [Nd.chk_ok hok] at HCN
   clear HD hDo hok
   subst hD
   go_wp2_with fail
   refine HCN.out.mono ?_
   rintro e w7 ⟨rfl,hx7⟩
   have bs7 := HBS6.out.ext hx7 (fun h => h)
   have bn7 := HBN6.out.ext hx7 (fun h => h)
   clear t0 t1 t2 t3 u0 u1 u2 u3 lt
   obtain ⟨r0,r1,r2,r3,s0,s1,s2,s3,lr⟩ := bs7.p4
   obtain ⟨t0,t1,t2,t3,u0,u1,u2,u3,lt⟩ := bn7.p4
   have lr : w.heap.size < w7.heap.size := by omega
   go_wp2_with fail
   refine join_back (w.heap.size + 2) _ (bs7.put4 (.bool false) (.slice A ln1 cc) (.slice KA kn1 kc) (.slice KI in1 ic)) rfl rfl rfl rfl ?_
   have hin : (fun b => b < w2.heap.size ∨ b = b8) (w.heap.size + 2) := .inl HHW.out
   have hz : Ext (fun b => b < w2.heap.size ∨ b = b8) w7 _ := ((((Ext.refl _ w7).setF hin 0 (.bool false)).setF hin 1 (.slice A ln1 cc)).setF hin 2 (.slice KA kn1 kc)).setF hin 3 (.slice KI in1 ic)
   refine ⟨((((HE6.out.trans_ hx7).setNew (by omega) _ _).setNew (by omega) _ _).setNew (by omega) _ _).setNew (by omega) _ _,⟨A,cc,KA,kc,KI,ic⟩,by simp only [Nd.value]; rw [hLn,hKn,hIn]; rfl,?_⟩
   exact ((HN.out.ext hx7.of_no).ext hz).mono (fun b _ hb => by unfold Old at hb; have := HHW.out; exact .inl (by omega))
theorem join_any (l r : Nd) (key : Bs) (w : World) (F : Nat → Prop) (a b : Adr) (hl : NodeIn w F a l) (hr : NodeIn w F b r) (hfl : l.fits) (hfr : r.fits) (hkl : key.length < 65536) :
  Calls Tryz.prog 188 #[l.value a.A1 a.c1 a.A2 a.c2 a.A3 a.c3,r.value b.A1 b.c1 b.A2 b.c2 b.A3 b.c3,.string (str key)] w (JoinTold w (l.join r key)) := by
 unfold Nd.join
 split
 ·rename_i h
  exact join_bad l r key w F a b hl hr hfl hfr h
 ·rename_i h
  have h1 : l.ok = true := by cases hx : l.ok <;> simp_all
  have h2 : r.ok = true := by cases hx : r.ok <;> simp_all
  have h3 : l.leaf = r.leaf := by
   by_cases hx : l.leaf = r.leaf
   ·exact hx
   ·exact absurd (.inr (.inr hx)) h
  cases hf : l.leaf
  ·exact join_branch l r key w F a b hl hr hkl h1 h2 hf (h3 ▸ hf)
  ·exact join_leaf l r key w F a b hl hr hkl h1 h2 hf (h3 ▸ hf)
def joinR : Option Nd → Nat × Nd
 | none => (2,⟨false,[],[],[]⟩)
 | some b => (0,b)
theorem join_any' (l r : Nd) (key : Bs) (w : World) (F : Nat → Prop) (a b : Adr) (hl : NodeIn w F a l) (hr : NodeIn w F b r) (hfl : l.fits) (hfr : r.fits) (hkl : key.length < 65536) :
  Calls Tryz.prog 188 #[l.value a.A1 a.c1 a.A2 a.c2 a.A3 a.c3,r.value b.A1 b.c1 b.A2 b.c2 b.A3 b.c3,.string (str key)] w fun e w' => Ext No w w' ∧
   ∃ c : Adr,e = .returned (.tuple #[(joinR (l.join r key)).2.value c.A1 c.c1 c.A2 c.c2 c.A3 c.c3,.int .i64 ((joinR (l.join r key)).1 : Int)]) ∧ NodeIn w' (Old w) c (joinR (l.join r key)).2 := by
 refine (join_any l r key w F a b hl hr hfl hfr hkl).mono ?_
 rintro e w' ⟨hx,h⟩
 refine ⟨hx,?_⟩
 cases hj : l.join r key with
 | none =>
  rw [hj] at h
  simp only at h
  exact ⟨⟨none,0,none,0,none,0⟩,h,⟨Rd.nil_ _,Rd.nil_ _,Rd.nil_ _,Nat.le_refl _,Nat.le_refl _,Nat.le_refl _,by simp [joinR],by simp [joinR],by simp [joinR],fun _ => rfl,fun _ => rfl,fun _ => rfl⟩⟩
 | some c =>
  rw [hj] at h
  simp only at h
  obtain ⟨a',h1,h2⟩ := h
  exact ⟨a',h1,h2⟩
def BesideTold (w : World) (r : Nat × Nat × Nd) (e : Ending) (w' : World) : Prop :=
 Ext No w w' ∧ ∃ c : Adr,e = .returned (.tuple #[.int .i64 (r.2.1 : Int),r.2.2.value c.A1 c.c1 c.A2 c.c2 c.A3 c.c3,.int .i64 (r.1 : Int)]) ∧ (r.1 = 0 → NodeIn w' (Old w) c r.2.2)
theorem results_tct {fn : Func} {p q x : Tmp} {ty : TypeId} (h : fn.results = #[.tmp x,.cell p ty,.tmp q]) (tmps : Array Value) (P : Program) (w : World) :
  (results fn tmps).run P w = ((asAddr (tmps.getD p undef)).run P w).andThen fun a w1 => ((loadVar ty a).run P w1).andThen fun v w2 => .ok (.tuple #[tmps.getD x undef,v,tmps.getD q undef]) w2 := by
 simp only [results,h]
 simp [Sem.run_bind,Result.andThen]
theorem beside_back {Q : Ending → World → Prop} {a : Act} {w : World} (b : Nat) (cs : Array Value) (hb : Blk w b 40 cs) {u v : Value} (hs : some 4 = some cs.size)
  (hp : a.tmps.getD 9 undef = .pointer (some ⟨b,0,none⟩)) (h8 : a.tmps.getD 8 undef = u) (h4 : a.tmps.getD 10 undef = v) (hd : a.defers = [])
  (h : Q (.returned (.tuple #[u,.agg cs,v])) w) : bodyPost Tryz.prog Tryz.f149 Q Exit.ret a w := by
 refine bodyPost_ret (v := .tuple #[u,.agg cs,v]) (w := w) ?_ hd h
 have hl := run_loadVar_row w b 40 40 cs (0,0) _ hb Tryz.underlying40 rfl (by rw [← hs]; kernel_rfl)
 rw [results_tct rfl,hp,h4,h8]
 simp [asAddr,Result.andThen,hl]
theorem beside_empty (v : V) (p n : Nd) (i : Nat) (gx : Value) (w : World) (a b : Adr) (hp : p.keys = []) :
  Calls Tryz.prog 149 #[gx,p.value a.A1 a.c1 a.A2 a.c2 a.A3 a.c3,.int .i64 (i : Int),n.value b.A1 b.c1 b.A2 b.c2 b.A3 b.c3] w (BesideTold w (v.beside p i n)) := by
 have e : v.beside p i n = (5,0,n) := by unfold V.beside; rw [if_pos hp]
 rw [e]
 simp only [Nd.value,hp,List.length_nil]
 generalize p.cells.length = n1 at *
 generalize p.kids.length = n3 at *
 generalize hm1 : n.cells.length = m1 at *
 generalize hm2 : n.keys.length = m2 at *
 generalize hm3 : n.kids.length = m3 at *
 generalize p.leaf = lf at *
 generalize hrf : n.leaf = rf at *
 obtain ⟨A1,c1,A2,c2,A3,c3⟩ := a
 obtain ⟨B1,d1,B2,d2,B3,d3⟩ := b
 simp only
 clear e hp
 go_enter Tryz.func149,Tryz.ntmps149
 have bs := (Blk.new_at (b := w.heap.size + 2) ((w.alloc (.cells #[.bool lf,.slice A1 n1 c1,.slice A2 0 c2,.slice A3 n3 c3] 40)).alloc (.cells #[.bool rf,.slice B1 m1 d1,.slice B2 m2 d2,.slice B3 m3 d3] 40)) 40 #[.bool rf,.slice B1 m1 d1,.slice B2 m2 d2,.slice B3 m3 d3] (by simp)).drew1
 have HBS := Lib.hid bs
 clear bs
 go_wp2_with fail
 go_region
 go_wp2_with fail
 refine beside_back (w.heap.size + 2) _ HBS.out rfl rfl rfl rfl rfl ?_
 refine ⟨(((Ext.refl No w).alloc _).alloc _).alloc _ |>.drew,⟨B1,d1,B2,d2,B3,d3⟩,by simp only [Nd.value,hm1,hm2,hm3,hrf]; rfl,fun h => by cases h⟩
theorem beside_left {v : V} {p n : Nd} {i : Nat} (hk : p.keys ≠ []) (hi : 0 < i) : v.beside p i n = (match v.node (p.kids.getD (i - 1) 0) with | none => (5,i - 1,n) | some l => ((joinR (l.join n (p.keys.getD (i - 1) []))).1,i - 1,(joinR (l.join n (p.keys.getD (i - 1) []))).2)) := by
 unfold V.beside
 rw [if_neg hk,if_pos hi]
 cases v.node (p.kids.getD (i - 1) 0) with
 | none => rfl
 | some l => simp only; cases l.join n (p.keys.getD (i - 1) []) <;> rfl
theorem beside_right {v : V} {p n : Nd} (hk : p.keys ≠ []) : v.beside p 0 n = (match v.node (p.kids.getD 1 0) with | none => (5,0,n) | some r => ((joinR (n.join r (p.keys.getD 0 []))).1,0,(joinR (n.join r (p.keys.getD 0 []))).2)) := by
 unfold V.beside
 rw [if_neg hk,if_neg (by omega)]
 cases v.node (p.kids.getD 1 0) with
 | none => rfl
 | some l => simp only; cases n.join l (p.keys.getD 0 []) <;> rfl
theorem beside_l (s : Sys) (hs : s.Ok) (v : V) (p n : Nd) (i : Nat) (gx root : Nat) (w : World) (F : Nat → Prop) (a b : Adr) (h : TxAt w s v) (hg : v.Good) (hx : Blk w gx 70 (treeCells s root)) (hP : NodeIn w F a p) (hNd : NodeIn w F b n)
  (hpf : p.fits) (hnf : n.fits) (hk : p.keys ≠ []) (hkk : p.kids.length = p.keys.length + 1) (hi : 0 < i) (hik : i < p.kids.length) :
  Calls Tryz.prog 149 #[.pointer (some ⟨gx,0,none⟩),p.value a.A1 a.c1 a.A2 a.c2 a.A3 a.c3,.int .i64 (i : Int),n.value b.A1 b.c1 b.A2 b.c2 b.A3 b.c3] w (BesideTold w (v.beside p i n)) := by
 have hbl := hP.b3
 rw [beside_left hk hi]
 obtain ⟨at_,hat⟩ : ∃ k,i = k + 1 := ⟨i - 1,by omega⟩
 subst hat
 simp only [Nat.add_sub_cancel]
 obtain ⟨kid,hkid⟩ : ∃ k,p.kids[at_]? = some k := ⟨_,List.getElem?_eq_getElem (by omega)⟩
 obtain ⟨key,hkey⟩ : ∃ k,p.keys[at_]? = some k := ⟨_,List.getElem?_eq_getElem (by omega)⟩
 have ek : p.kids.getD at_ 0 = kid := by rw [List.getD_eq_getElem?_getD,hkid]; rfl
 have ey : p.keys.getD at_ [] = key := by rw [List.getD_eq_getElem?_getD,hkey]; rfl
 rw [ek,ey]
 obtain ⟨kb,ko,hA3,hkF,hkc⟩ := hP.kids.kidAt hkid
 obtain ⟨yb,yo,hA2,hyF,hyc⟩ := hP.keys.keyAt hkey
 have hkl : key.length < 65536 := hpf.k key (List.mem_of_getElem? hkey)
 have HND := Lib.hid (fun w' (e : Ext No w w') => node_any s hs w' v (h.no hs e) hg gx root (hx.ext e (fun h => h)) kid)
 have HJ := Lib.hid (fun w' (e : Ext No w w') l c (hl : NodeIn w' No c l) (hfl : l.fits) => join_any' l n key w' No c b hl ((hNd.mono (fun _ _ h => h.elim)).ext e) hfl hnf hkl)
 have HNO := Lib.hid (fun l (hl : v.node kid = some l) => Nd.Ok.fits (Nd.Ok.of (V.node_ok hl)))
 simp only [Nd.value] at HJ ⊢
 have hk1 : 0 < p.keys.length := List.length_pos_iff.2 hk
 have hk2 : ¬ ((p.keys.length : Int) = 0) := by omega
 have hx3 : (at_ : Int) < (p.kids.length : Int) := by omega
 have hx2 : (at_ : Int) < (p.keys.length : Int) := by omega
 have hx4 : IntKind.i64.wrap (((at_ + 1 : Nat) : Int) - 1) = (at_ : Int) := by rw [IntWalk.i64_in _ (by omega)]; omega
 have hx5 : (0 : Int) < ((at_ + 1 : Nat) : Int) := by omega
 have lk := World.block_lt_of_cell? w _ hkc
 have ly := World.block_lt_of_cell? w _ hyc
 simp only at lk ly
 rw [hA2,hA3]
 have HKC := Lib.hid hkc; have HYC := Lib.hid hyc
 clear h hx hP hNd hpf hnf hk hkk ek ey hkid hkey hA2 hA3 hkF hyF hik hkc hyc
 generalize p.cells.length = n1 at *
 generalize hn2 : p.keys.length = n2 at *
 generalize hn3 : p.kids.length = n3 at *
 generalize hm1 : n.cells.length = m1 at *
 generalize hm2 : n.keys.length = m2 at *
 generalize hm3 : n.kids.length = m3 at *
 generalize p.leaf = lf at *
 generalize hrf : n.leaf = rf at *
 obtain ⟨A1,c1,A2,c2,A3,c3⟩ := a
 obtain ⟨B1,d1,B2,d2,B3,d3⟩ := b
 simp only at HJ ⊢
 obtain ⟨D,hD⟩ : ∃ D,D = (match v.node kid with | none => (5,at_,n) | some l => ((joinR (l.join n key)).1,at_,(joinR (l.join n key)).2)) := ⟨_,rfl⟩
 rw [← hD]
 have HD := Lib.hid hD
 clear hD
 go_enter Tryz.func149,Tryz.ntmps149
 go_wp2_with fail
 go_cut [11,12] (fun u1 u2 wx => ∃ b1 b2 : Nat,u1 = .pointer (some ⟨b1,0,none⟩) ∧ u2 = .pointer (some ⟨b2,0,none⟩) ∧ b1 ≠ b2 ∧ w.heap.size + 3 ≤ b1 ∧ w.heap.size + 3 ≤ b2 ∧ Blk wx b1 40 #[.bool rf,.slice B1 m1 d1,.slice B2 m2 d2,.slice B3 m3 d3] ∧ Blk wx b2 40 #[.bool rf,.slice B1 m1 d1,.slice B2 m2 d2,.slice B3 m3 d3] ∧
  Blk wx w.heap.size 40 #[.bool lf,.slice A1 n1 c1,.slice (some ⟨yb,yo,none⟩) n2 c2,.slice (some ⟨kb,ko,none⟩) n3 c3] ∧ Blk wx (w.heap.size + 1) 40 #[.bool rf,.slice B1 m1 d1,.slice B2 m2 d2,.slice B3 m3 d3] ∧ Blk wx (w.heap.size + 2) 40 #[.bool false,.slice none 0 0,.slice none 0 0,.slice none 0 0] ∧ Ext No w wx)
 case first =>
  go_region
  all_goals (
   go_wp2_with fail
   go_meet
   have b0 := ((((Blk.new w 40 #[.bool lf,.slice A1 n1 c1,.slice (some ⟨yb,yo,none⟩) n2 c2,.slice (some ⟨kb,ko,none⟩) n3 c3]).alloc (.cells #[.bool rf,.slice B1 m1 d1,.slice B2 m2 d2,.slice B3 m3 d3] 40)).alloc (.cells #[.bool false,.slice none 0 0,.slice none 0 0,.slice none 0 0] 40)).alloc (.cells #[.bool rf,.slice B1 m1 d1,.slice B2 m2 d2,.slice B3 m3 d3] 40)).alloc (.cells #[.bool rf,.slice B1 m1 d1,.slice B2 m2 d2,.slice B3 m3 d3] 40)
   have b1 := (((Blk.new_at (b := w.heap.size + 1) (w.alloc (.cells #[.bool lf,.slice A1 n1 c1,.slice (some ⟨yb,yo,none⟩) n2 c2,.slice (some ⟨kb,ko,none⟩) n3 c3] 40)) 40 #[.bool rf,.slice B1 m1 d1,.slice B2 m2 d2,.slice B3 m3 d3] (by simp)).alloc (.cells #[.bool false,.slice none 0 0,.slice none 0 0,.slice none 0 0] 40)).alloc (.cells #[.bool rf,.slice B1 m1 d1,.slice B2 m2 d2,.slice B3 m3 d3] 40)).alloc (.cells #[.bool rf,.slice B1 m1 d1,.slice B2 m2 d2,.slice B3 m3 d3] 40)
   have b2 := ((Blk.new_at (b := w.heap.size + 2) ((w.alloc (.cells #[.bool lf,.slice A1 n1 c1,.slice (some ⟨yb,yo,none⟩) n2 c2,.slice (some ⟨kb,ko,none⟩) n3 c3] 40)).alloc (.cells #[.bool rf,.slice B1 m1 d1,.slice B2 m2 d2,.slice B3 m3 d3] 40)) 40 #[.bool false,.slice none 0 0,.slice none 0 0,.slice none 0 0] (by simp)).alloc (.cells #[.bool rf,.slice B1 m1 d1,.slice B2 m2 d2,.slice B3 m3 d3] 40)).alloc (.cells #[.bool rf,.slice B1 m1 d1,.slice B2 m2 d2,.slice B3 m3 d3] 40)
   have b3 := (Blk.new_at (b := w.heap.size + 3) (((w.alloc (.cells #[.bool lf,.slice A1 n1 c1,.slice (some ⟨yb,yo,none⟩) n2 c2,.slice (some ⟨kb,ko,none⟩) n3 c3] 40)).alloc (.cells #[.bool rf,.slice B1 m1 d1,.slice B2 m2 d2,.slice B3 m3 d3] 40)).alloc (.cells #[.bool false,.slice none 0 0,.slice none 0 0,.slice none 0 0] 40)) 40 #[.bool rf,.slice B1 m1 d1,.slice B2 m2 d2,.slice B3 m3 d3] (by simp)).alloc (.cells #[.bool rf,.slice B1 m1 d1,.slice B2 m2 d2,.slice B3 m3 d3] 40)
   have b4 := Blk.new_at (b := w.heap.size + 4) ((((w.alloc (.cells #[.bool lf,.slice A1 n1 c1,.slice (some ⟨yb,yo,none⟩) n2 c2,.slice (some ⟨kb,ko,none⟩) n3 c3] 40)).alloc (.cells #[.bool rf,.slice B1 m1 d1,.slice B2 m2 d2,.slice B3 m3 d3] 40)).alloc (.cells #[.bool false,.slice none 0 0,.slice none 0 0,.slice none 0 0] 40)).alloc (.cells #[.bool rf,.slice B1 m1 d1,.slice B2 m2 d2,.slice B3 m3 d3] 40)) 40 #[.bool rf,.slice B1 m1 d1,.slice B2 m2 d2,.slice B3 m3 d3] (by simp)
   have hE := (((((Ext.refl No w).alloc (.cells #[.bool lf,.slice A1 n1 c1,.slice (some ⟨yb,yo,none⟩) n2 c2,.slice (some ⟨kb,ko,none⟩) n3 c3] 40)).alloc (.cells #[.bool rf,.slice B1 m1 d1,.slice B2 m2 d2,.slice B3 m3 d3] 40)).alloc (.cells #[.bool false,.slice none 0 0,.slice none 0 0,.slice none 0 0] 40)).alloc (.cells #[.bool rf,.slice B1 m1 d1,.slice B2 m2 d2,.slice B3 m3 d3] 40)).alloc (.cells #[.bool rf,.slice B1 m1 d1,.slice B2 m2 d2,.slice B3 m3 d3] 40)
   first
    | exact ⟨w.heap.size + 3,w.heap.size + 4,rfl,rfl,by omega,by omega,by omega,b3.drew1,b4.drew1,b0.drew1,b1.drew1,b2.drew1,hE.drew⟩
    | exact ⟨w.heap.size + 4,w.heap.size + 3,rfl,rfl,by omega,by omega,by omega,b4.drew1,b3.drew1,b0.drew1,b1.drew1,b2.drew1,hE.drew⟩)
 case rest =>
  obtain ⟨b1,b2,rfl,rfl,hne,hb1,hb2,k1,k2,kp,kn,kr,hE⟩ := hcut
  obtain ⟨p0,p1,p2,p3,g0,g1,g2,g3,ln⟩ := kp.p4
  obtain ⟨t0,t1,t2,t3,f0,f1,f2,f3,lt⟩ := k1.p4
  have hkc := cell_ext hE HKC.out (fun h => h)
  have hyc := cell_ext hE HYC.out (fun h => h)
  have HK1 := Lib.hid k1; have HK2 := Lib.hid k2; have HKN := Lib.hid kn; have HKR := Lib.hid kr; have HKP := Lib.hid kp; have HE := Lib.hid hE
  have HB1 := Lib.hid hb1; have HB2 := Lib.hid hb2; have HNE := Lib.hid hne
  have hlk : kb < wc.heap.size := Nat.lt_of_lt_of_le lk hE.size
  have hnb1 : ¬ b1 = w.heap.size := by omega
  have hnb2 : ¬ b1 = w.heap.size + 1 := by omega
  have hnb3 : ¬ b1 = w.heap.size + 2 := by omega
  have hnb4 : ¬ b1 = kb := by omega
  have hnb5 : ¬ b1 = yb := by omega
  clear k1 k2 kn kr kp hE hb1 hb2
  have HND1 := Lib.hid (HND.out _ HE.out)
  have hDo := HD.out
  clear HD
  cases hnk : v.node kid with
  | none =>
   rw [hnk] at HND1 hDo
   simp only at hDo
   subst hDo
   clear hnk HJ HNO
   go_wp2_with fail
   refine HND1.out.mono ?_
   rintro e w2 ⟨hx2,he⟩
   simp only [Nd.zero] at he
   subst he
   clear p0 p1 p2 p3 g0 g1 g2 g3 ln t0 t1 t2 t3 f0 f1 f2 f3 lt hkc hyc
   have hx2' : Ext No wc w2 := hx2
   obtain ⟨t0,t1,t2,t3,f0,f1,f2,f3,lt⟩ := (HK1.out.ext hx2' (fun h => h)).p4
   obtain ⟨q0,q1,q2,q3,j0,j1,j2,j3,lq⟩ := (HKN.out.ext hx2' (fun h => h)).p4
   have kr2 := HKR.out.ext hx2' (fun h => h)
   obtain ⟨r0,r1,r2,r3,s0,s1,s2,s3,lr⟩ := kr2.p4
   have HKR2 := Lib.hid kr2
   have HE2 := Lib.hid (HE.out.trans_ hx2')
   clear kr2 hx2 hx2'
   go_wp2_with fail
   go_region
   go_wp2_with fail
   have hb1n : w.heap.size + 2 ≠ b1 := fun h => hnb3 h.symm
   have hb1g : w.heap.size ≤ b1 := by have := HB1.out; omega
   have kr3 := (((((((HKR2.out.far (p := ⟨b1,0,none⟩) hb1n (.bool false)).far (p := ⟨b1,1,none⟩) hb1n (.slice none 0 0)).far (p := ⟨b1,2,none⟩) hb1n (.slice none 0 0)).far (p := ⟨b1,3,none⟩) hb1n (.slice none 0 0)).put4 (.bool rf) (.slice B1 m1 d1) (.slice B2 m2 d2) (.slice B3 m3 d3))).drew1)
   refine beside_back (w.heap.size + 2) _ kr3 rfl rfl rfl rfl rfl ?_
   refine ⟨((((((((HE2.out.setNew hb1g _ _).setNew hb1g _ _).setNew hb1g _ _).setNew hb1g _ _).setNew (by omega) _ _).setNew (by omega) _ _).setNew (by omega) _ _).setNew (by omega) _ _).drew,⟨B1,d1,B2,d2,B3,d3⟩,by simp only [Nd.value,hm1,hm2,hm3,hrf]; rfl,fun h => by cases h⟩
  | some l =>
   rw [hnk] at HND1 hDo
   simp only at hDo
   have HLF := Lib.hid (HNO.out l hnk)
   clear hnk HNO
   obtain ⟨R,hR⟩ : ∃ R,R = joinR (l.join n key) := ⟨_,rfl⟩
   have HJ2 := Lib.hid (fun w' e c hl => HJ.out w' e l c hl HLF.out)
   rw [← hR] at HJ2 hDo
   subst hDo
   clear hR HJ
   go_wp2_with fail
   refine HND1.out.mono ?_
   rintro e w2 ⟨hx2,D1,e1,D2,e2,D3,e3,he,hnl⟩
   simp only [Nd.value] at he
   subst he
   have hx2' : Ext No wc w2 := hx2
   clear p0 p1 p2 p3 g0 g1 g2 g3 ln t0 t1 t2 t3 f0 f1 f2 f3 lt
   have k1b := HK1.out.ext hx2' (fun h => h)
   obtain ⟨t0,t1,t2,t3,f0,f1,f2,f3,lt⟩ := k1b.p4
   have HK1b := Lib.hid k1b
   obtain ⟨u0,u1,u2,u3,m0,m1,m2,m3,lu⟩ := (HK2.out.ext hx2' (fun h => h)).p4
   obtain ⟨q0,q1,q2,q3,j0,j1,j2,j3,lq⟩ := (HKP.out.ext hx2' (fun h => h)).p4
   have hyc2 := cell_ext hx2' hyc (fun h => h)
   have kr2 := HKR.out.ext hx2' (fun h => h)
   obtain ⟨r0,r1,r2,r3,s0,s1,s2,s3,lr⟩ := kr2.p4
   have HKR2 := Lib.hid kr2
   have HE2 := Lib.hid (HE.out.trans_ hx2')
   have HNL := Lib.hid hnl
   have HX2 := Lib.hid hx2'
   clear kr2 hx2 hx2' hnl hkc hyc k1b
   have hne2 : ¬ b2 = b1 := fun h => HNE.out h.symm
   go_wp2_with fail
   obtain ⟨W3,hW3⟩ : ∃ W3,W3 = ((((w2.setCell ⟨b1,0,none⟩ (.bool l.leaf)).setCell ⟨b1,1,none⟩ (.slice D1 l.cells.length e1)).setCell ⟨b1,2,none⟩ (.slice D2 l.keys.length e2)).setCell ⟨b1,3,none⟩ (.slice D3 l.kids.length e3)) := ⟨_,rfl⟩
   have hb1g : w.heap.size ≤ b1 := by have := HB1.out; omega
   have HE3 := Lib.hid ((((HE2.out.setNew hb1g 0 (.bool l.leaf)).setNew hb1g 1 (.slice D1 l.cells.length e1)).setNew hb1g 2 (.slice D2 l.keys.length e2)).setNew hb1g 3 (.slice D3 l.kids.length e3))
   have k13 := HK1b.out.put4 (.bool l.leaf) (.slice D1 l.cells.length e1) (.slice D2 l.keys.length e2) (.slice D3 l.kids.length e3)
   have HFR := Lib.hid (fun g t cs (hb : Blk w2 g t cs) (hg : g ≠ b1) => ((((hb.far (p := ⟨b1,0,none⟩) hg (.bool l.leaf)).far (p := ⟨b1,1,none⟩) hg (.slice D1 l.cells.length e1)).far (p := ⟨b1,2,none⟩) hg (.slice D2 l.keys.length e2)).far (p := ⟨b1,3,none⟩) hg (.slice D3 l.kids.length e3)))
   have hOn : On b1 b1 := rfl
   have hXb : Ext (On b1) w2 ((((w2.setCell ⟨b1,0,none⟩ (.bool l.leaf)).setCell ⟨b1,1,none⟩ (.slice D1 l.cells.length e1)).setCell ⟨b1,2,none⟩ (.slice D2 l.keys.length e2)).setCell ⟨b1,3,none⟩ (.slice D3 l.kids.length e3)) := ((((Ext.refl (On b1) w2).setF hOn 0 (.bool l.leaf)).setF hOn 1 (.slice D1 l.cells.length e1)).setF hOn 2 (.slice D2 l.keys.length e2)).setF hOn 3 (.slice D3 l.kids.length e3)
   rw [← hW3] at HE3 k13 HFR hXb ⊢
   have hnl3 : NodeIn W3 No ⟨D1,e1,D2,e2,D3,e3⟩ l := (HNL.out.ext (hXb.mono (fun b _ h => by have h' : b = b1 := h; rw [h']; exact HK1.out.lt))).mono (fun _ _ h => h.elim)
   have hyc3 := cell_ext hXb hyc2 (fun h => hnb5 h.symm)
   have ly3 : yb < W3.heap.size := by have := World.block_lt_of_cell? W3 _ hyc3; exact this
   have HJ3 := Lib.hid (HJ2.out W3.drew HE3.out.drew ⟨D1,e1,D2,e2,D3,e3⟩ (hnl3.ext (Ext.refl No W3).drew))
   simp only at HJ3
   have hx2o := HX2.out
   clear t0 t1 t2 t3 f0 f1 f2 f3 lt u0 u1 u2 u3 m0 m1 m2 m3 lu q0 q1 q2 q3 j0 j1 j2 j3 lq r0 r1 r2 r3 s0 s1 s2 s3 lr hyc2 hnl3 hXb hW3
   obtain ⟨t0,t1,t2,t3,f0,f1,f2,f3,lt⟩ := k13.p4
   obtain ⟨u0,u1,u2,u3,m0,m1,m2,m3,lu⟩ := (HFR.out _ _ _ (HK2.out.ext hx2o (fun h => h)) hne2).p4
   obtain ⟨q0,q1,q2,q3,j0,j1,j2,j3,lq⟩ := (HFR.out _ _ _ (HKP.out.ext hx2o (fun h => h)) (fun h => hnb1 h.symm)).p4
   have hr3 := HFR.out _ _ _ HKR2.out (fun h => hnb3 h.symm)
   obtain ⟨r0,r1,r2,r3,s0,s1,s2,s3,lr⟩ := hr3.p4
   have HR3 := Lib.hid hr3
   clear hr3 k13 hx2o
   have HWS := Lib.hid (show w.heap.size ≤ W3.heap.size from HE3.out.size)
   go_cut [10] (fun k wx => k = .int .i64 (R.1 : Int) ∧ ∃ c : Adr,Blk wx (w.heap.size + 2) 40 #[.bool R.2.leaf,.slice c.A1 R.2.cells.length c.c1,.slice c.A2 R.2.keys.length c.c2,.slice c.A3 R.2.kids.length c.c3] ∧ Ext No w wx ∧ NodeIn wx (Old W3.drew) c R.2)
   case first =>
    go_region_law ((go_simp; go_at_call 188; refine HJ3.out.mono ?_; rintro e w7 ⟨hx7,c,rfl,hn7⟩; have hr7 := (HR3.out.drew1).ext hx7 (fun h => h); have HR7 := Lib.hid hr7; obtain ⟨r0',r1',r2',r3',s0',s1',s2',s3',lr'⟩ := hr7.p4; have HX7 := Lib.hid hx7; have HN7 := Lib.hid hn7; clear hx7 hn7 hr7))
    all_goals (
     go_wp2_with fail
     go_meet
     refine ⟨rfl,c,HR7.out.put4 (.bool R.2.leaf) (.slice c.A1 R.2.cells.length c.c1) (.slice c.A2 R.2.keys.length c.c2) (.slice c.A3 R.2.kids.length c.c3),?_,?_⟩
     ·exact (((((HE3.out.drew).trans_ HX7.out).setNew (Nat.le_add_right _ 2) _ _).setNew (Nat.le_add_right _ 2) _ _).setNew (Nat.le_add_right _ 2) _ _).setNew (Nat.le_add_right _ 2) _ _
     ·have hOn2 : Old W3.drew (w.heap.size + 2) := lr
      exact (HN7.out.ext (((((Ext.refl (Old W3.drew) w7).setF hOn2 0 (.bool R.2.leaf)).setF hOn2 1 (.slice c.A1 R.2.cells.length c.c1)).setF hOn2 2 (.slice c.A2 R.2.keys.length c.c2)).setF hOn2 3 (.slice c.A3 R.2.kids.length c.c3))))
   case rest =>
    have HLR := Lib.hid (show Old W3.drew (w.heap.size + 2) from lr)
    obtain ⟨rfl,c,hk8,hE8,hN8⟩ := hcut
    clear r0 r1 r2 r3 s0 s1 s2 s3 lr t0 t1 t2 t3 f0 f1 f2 f3 lt u0 u1 u2 u3 m0 m1 m2 m3 lu q0 q1 q2 q3 j0 j1 j2 j3 lq
    obtain ⟨x0,x1,x2,x3,y0,y1,y2,y3,lx⟩ := hk8.p4
    have HK8 := Lib.hid hk8; have HE8 := Lib.hid hE8; have HN8 := Lib.hid hN8
    clear hk8 hE8 hN8
    go_wp2_with fail
    go_region
    go_wp2_with fail
    have hk9 := (HK8.out.drew1).put4 (.bool R.2.leaf) (.slice c.A1 R.2.cells.length c.c1) (.slice c.A2 R.2.keys.length c.c2) (.slice c.A3 R.2.kids.length c.c3)
    refine beside_back (w.heap.size + 2) _ hk9 rfl rfl rfl rfl rfl ?_
    refine ⟨((((HE8.out.drew).setNew (Nat.le_add_right _ 2) _ _).setNew (Nat.le_add_right _ 2) _ _).setNew (Nat.le_add_right _ 2) _ _).setNew (Nat.le_add_right _ 2) _ _,c,rfl,fun _ => ?_⟩
    exact (HN8.out.ext (((((Ext.refl (Old W3.drew) _).drew.setF HLR.out 0 _).setF HLR.out 1 _).setF HLR.out 2 _).setF HLR.out 3 _)).mono (fun b _ hb => Nat.lt_of_lt_of_le hb HWS.out)
theorem beside_r (s : Sys) (hs : s.Ok) (v : V) (p n : Nd) (gx root : Nat) (w : World) (F : Nat → Prop) (a b : Adr) (h : TxAt w s v) (hg : v.Good) (hx : Blk w gx 70 (treeCells s root)) (hP : NodeIn w F a p) (hNd : NodeIn w F b n)
  (hpf : p.fits) (hnf : n.fits) (hk : p.keys ≠ []) (hkk : p.kids.length = p.keys.length + 1) :
  Calls Tryz.prog 149 #[.pointer (some ⟨gx,0,none⟩),p.value a.A1 a.c1 a.A2 a.c2 a.A3 a.c3,(.int .i64 0),n.value b.A1 b.c1 b.A2 b.c2 b.A3 b.c3] w (BesideTold w (v.beside p 0 n)) := by
 have hbl := hP.b3
 obtain ⟨D,hD⟩ : ∃ D,D = v.beside p 0 n := ⟨_,rfl⟩
 rw [← hD]
 rw [beside_right hk] at hD
 have hk0 : 0 < p.keys.length := List.length_pos_iff.2 hk
 obtain ⟨kid,hkid⟩ : ∃ k,p.kids[1]? = some k := ⟨_,List.getElem?_eq_getElem (by omega)⟩
 obtain ⟨key,hkey⟩ : ∃ k,p.keys[0]? = some k := ⟨_,List.getElem?_eq_getElem (by omega)⟩
 have ek : p.kids.getD 1 0 = kid := by rw [List.getD_eq_getElem?_getD,hkid]; rfl
 have ey : p.keys.getD 0 [] = key := by rw [List.getD_eq_getElem?_getD,hkey]; rfl
 rw [ek,ey] at hD
 obtain ⟨kb,ko,hA3,hkF,hkc⟩ := hP.kids.kidAt hkid
 obtain ⟨yb,yo,hA2,hyF,hyc⟩ := hP.keys.keyAt hkey
 have hkl : key.length < 65536 := hpf.k key (List.mem_of_getElem? hkey)
 have HND := Lib.hid (fun w' (e : Ext No w w') => node_any s hs w' v (h.no hs e) hg gx root (hx.ext e (fun h => h)) kid)
 have HJ := Lib.hid (fun w' (e : Ext No w w') l c (hl : NodeIn w' No c l) (hfl : l.fits) => join_any' n l key w' No b c ((hNd.mono (fun _ _ h => h.elim)).ext e) hl hnf hfl hkl)
 have HNO := Lib.hid (fun l (hl : v.node kid = some l) => Nd.Ok.fits (Nd.Ok.of (V.node_ok hl)))
 simp only [Nd.value] at HJ ⊢
 have hk1 : 0 < p.keys.length := List.length_pos_iff.2 hk
 have hk2 : ¬ ((p.keys.length : Int) = 0) := by omega
 have hx3 : (1 : Int) < (p.kids.length : Int) := by omega
 have hx2 : (0 : Int) < (p.keys.length : Int) := by omega
 have lk := World.block_lt_of_cell? w _ hkc
 have ly := World.block_lt_of_cell? w _ hyc
 simp only at lk ly
 rw [hA2,hA3]
 simp only [Nat.add_zero] at hyc
 have HKC := Lib.hid hkc; have HYC := Lib.hid hyc
 clear h hx hP hNd hpf hnf hk hkk ek ey hkid hkey hA2 hA3 hkF hyF hkc hyc hk0
 generalize p.cells.length = n1 at *
 generalize hn2 : p.keys.length = n2 at *
 generalize hn3 : p.kids.length = n3 at *
 generalize hm1 : n.cells.length = m1 at *
 generalize hm2 : n.keys.length = m2 at *
 generalize hm3 : n.kids.length = m3 at *
 generalize p.leaf = lf at *
 generalize hrf : n.leaf = rf at *
 obtain ⟨A1,c1,A2,c2,A3,c3⟩ := a
 obtain ⟨B1,d1,B2,d2,B3,d3⟩ := b
 simp only at HJ ⊢
 have HD := Lib.hid hD
 clear hD
 go_enter Tryz.func149,Tryz.ntmps149
 go_wp2_with fail
 go_cut [11,12] (fun u1 u2 wx => ∃ b1 b2 : Nat,u1 = .pointer (some ⟨b1,0,none⟩) ∧ u2 = .pointer (some ⟨b2,0,none⟩) ∧ b1 ≠ b2 ∧ w.heap.size + 3 ≤ b1 ∧ w.heap.size + 3 ≤ b2 ∧ Blk wx b1 40 #[.bool rf,.slice B1 m1 d1,.slice B2 m2 d2,.slice B3 m3 d3] ∧ Blk wx b2 40 #[.bool rf,.slice B1 m1 d1,.slice B2 m2 d2,.slice B3 m3 d3] ∧
  Blk wx w.heap.size 40 #[.bool lf,.slice A1 n1 c1,.slice (some ⟨yb,yo,none⟩) n2 c2,.slice (some ⟨kb,ko,none⟩) n3 c3] ∧ Blk wx (w.heap.size + 1) 40 #[.bool rf,.slice B1 m1 d1,.slice B2 m2 d2,.slice B3 m3 d3] ∧ Blk wx (w.heap.size + 2) 40 #[.bool false,.slice none 0 0,.slice none 0 0,.slice none 0 0] ∧ Ext No w wx)
 case first =>
  go_region
  all_goals (
   go_wp2_with fail
   go_meet
   have b0 := ((((Blk.new w 40 #[.bool lf,.slice A1 n1 c1,.slice (some ⟨yb,yo,none⟩) n2 c2,.slice (some ⟨kb,ko,none⟩) n3 c3]).alloc (.cells #[.bool rf,.slice B1 m1 d1,.slice B2 m2 d2,.slice B3 m3 d3] 40)).alloc (.cells #[.bool false,.slice none 0 0,.slice none 0 0,.slice none 0 0] 40)).alloc (.cells #[.bool rf,.slice B1 m1 d1,.slice B2 m2 d2,.slice B3 m3 d3] 40)).alloc (.cells #[.bool rf,.slice B1 m1 d1,.slice B2 m2 d2,.slice B3 m3 d3] 40)
   have b1 := (((Blk.new_at (b := w.heap.size + 1) (w.alloc (.cells #[.bool lf,.slice A1 n1 c1,.slice (some ⟨yb,yo,none⟩) n2 c2,.slice (some ⟨kb,ko,none⟩) n3 c3] 40)) 40 #[.bool rf,.slice B1 m1 d1,.slice B2 m2 d2,.slice B3 m3 d3] (by simp)).alloc (.cells #[.bool false,.slice none 0 0,.slice none 0 0,.slice none 0 0] 40)).alloc (.cells #[.bool rf,.slice B1 m1 d1,.slice B2 m2 d2,.slice B3 m3 d3] 40)).alloc (.cells #[.bool rf,.slice B1 m1 d1,.slice B2 m2 d2,.slice B3 m3 d3] 40)
   have b2 := ((Blk.new_at (b := w.heap.size + 2) ((w.alloc (.cells #[.bool lf,.slice A1 n1 c1,.slice (some ⟨yb,yo,none⟩) n2 c2,.slice (some ⟨kb,ko,none⟩) n3 c3] 40)).alloc (.cells #[.bool rf,.slice B1 m1 d1,.slice B2 m2 d2,.slice B3 m3 d3] 40)) 40 #[.bool false,.slice none 0 0,.slice none 0 0,.slice none 0 0] (by simp)).alloc (.cells #[.bool rf,.slice B1 m1 d1,.slice B2 m2 d2,.slice B3 m3 d3] 40)).alloc (.cells #[.bool rf,.slice B1 m1 d1,.slice B2 m2 d2,.slice B3 m3 d3] 40)
   have b3 := (Blk.new_at (b := w.heap.size + 3) (((w.alloc (.cells #[.bool lf,.slice A1 n1 c1,.slice (some ⟨yb,yo,none⟩) n2 c2,.slice (some ⟨kb,ko,none⟩) n3 c3] 40)).alloc (.cells #[.bool rf,.slice B1 m1 d1,.slice B2 m2 d2,.slice B3 m3 d3] 40)).alloc (.cells #[.bool false,.slice none 0 0,.slice none 0 0,.slice none 0 0] 40)) 40 #[.bool rf,.slice B1 m1 d1,.slice B2 m2 d2,.slice B3 m3 d3] (by simp)).alloc (.cells #[.bool rf,.slice B1 m1 d1,.slice B2 m2 d2,.slice B3 m3 d3] 40)
   have b4 := Blk.new_at (b := w.heap.size + 4) ((((w.alloc (.cells #[.bool lf,.slice A1 n1 c1,.slice (some ⟨yb,yo,none⟩) n2 c2,.slice (some ⟨kb,ko,none⟩) n3 c3] 40)).alloc (.cells #[.bool rf,.slice B1 m1 d1,.slice B2 m2 d2,.slice B3 m3 d3] 40)).alloc (.cells #[.bool false,.slice none 0 0,.slice none 0 0,.slice none 0 0] 40)).alloc (.cells #[.bool rf,.slice B1 m1 d1,.slice B2 m2 d2,.slice B3 m3 d3] 40)) 40 #[.bool rf,.slice B1 m1 d1,.slice B2 m2 d2,.slice B3 m3 d3] (by simp)
   have hE := (((((Ext.refl No w).alloc (.cells #[.bool lf,.slice A1 n1 c1,.slice (some ⟨yb,yo,none⟩) n2 c2,.slice (some ⟨kb,ko,none⟩) n3 c3] 40)).alloc (.cells #[.bool rf,.slice B1 m1 d1,.slice B2 m2 d2,.slice B3 m3 d3] 40)).alloc (.cells #[.bool false,.slice none 0 0,.slice none 0 0,.slice none 0 0] 40)).alloc (.cells #[.bool rf,.slice B1 m1 d1,.slice B2 m2 d2,.slice B3 m3 d3] 40)).alloc (.cells #[.bool rf,.slice B1 m1 d1,.slice B2 m2 d2,.slice B3 m3 d3] 40)
   first
    | exact ⟨w.heap.size + 3,w.heap.size + 4,rfl,rfl,by omega,by omega,by omega,b3.drew1,b4.drew1,b0.drew1,b1.drew1,b2.drew1,hE.drew⟩
    | exact ⟨w.heap.size + 4,w.heap.size + 3,rfl,rfl,by omega,by omega,by omega,b4.drew1,b3.drew1,b0.drew1,b1.drew1,b2.drew1,hE.drew⟩)
 case rest =>
  obtain ⟨b1,b2,rfl,rfl,hne,hb1,hb2,k1,k2,kp,kn,kr,hE⟩ := hcut
  obtain ⟨p0,p1,p2,p3,g0,g1,g2,g3,ln⟩ := kp.p4
  obtain ⟨t0,t1,t2,t3,f0,f1,f2,f3,lt⟩ := k2.p4
  have hkc := cell_ext hE HKC.out (fun h => h)
  have hyc := cell_ext hE HYC.out (fun h => h)
  have HK1 := Lib.hid k1; have HK2 := Lib.hid k2; have HKN := Lib.hid kn; have HKR := Lib.hid kr; have HKP := Lib.hid kp; have HE := Lib.hid hE
  have HB1 := Lib.hid hb1; have HB2 := Lib.hid hb2; have HNE := Lib.hid hne
  have hlk : kb < wc.heap.size := Nat.lt_of_lt_of_le lk hE.size
  have hnb1 : ¬ b2 = w.heap.size := by omega
  have hnb2 : ¬ b2 = w.heap.size + 1 := by omega
  have hnb3 : ¬ b2 = w.heap.size + 2 := by omega
  have hnb4 : ¬ b2 = kb := by omega
  have hnb5 : ¬ b2 = yb := by omega
  clear k1 k2 kn kr kp hE hb1 hb2
  have HND1 := Lib.hid (HND.out _ HE.out)
  have hDo := HD.out
  clear HD
  cases hnk : v.node kid with
  | none =>
   rw [hnk] at HND1 hDo
   simp only at hDo
   subst hDo
   clear hnk HJ HNO
   go_wp2_with fail
   refine HND1.out.mono ?_
   rintro e w2 ⟨hx2,he⟩
   simp only [Nd.zero] at he
   subst he
   clear p0 p1 p2 p3 g0 g1 g2 g3 ln t0 t1 t2 t3 f0 f1 f2 f3 lt hkc hyc
   have hx2' : Ext No wc w2 := hx2
   obtain ⟨t0,t1,t2,t3,f0,f1,f2,f3,lt⟩ := (HK2.out.ext hx2' (fun h => h)).p4
   obtain ⟨q0,q1,q2,q3,j0,j1,j2,j3,lq⟩ := (HKN.out.ext hx2' (fun h => h)).p4
   have kr2 := HKR.out.ext hx2' (fun h => h)
   obtain ⟨r0,r1,r2,r3,s0,s1,s2,s3,lr⟩ := kr2.p4
   have HKR2 := Lib.hid kr2
   have HE2 := Lib.hid (HE.out.trans_ hx2')
   clear kr2 hx2 hx2'
   go_wp2_with fail
   go_region
   go_wp2_with fail
   have hb2n : w.heap.size + 2 ≠ b2 := fun h => hnb3 h.symm
   have hb2g : w.heap.size ≤ b2 := by have := HB2.out; omega
   have kr3 := (((((((HKR2.out.far (p := ⟨b2,0,none⟩) hb2n (.bool false)).far (p := ⟨b2,1,none⟩) hb2n (.slice none 0 0)).far (p := ⟨b2,2,none⟩) hb2n (.slice none 0 0)).far (p := ⟨b2,3,none⟩) hb2n (.slice none 0 0)).put4 (.bool rf) (.slice B1 m1 d1) (.slice B2 m2 d2) (.slice B3 m3 d3))).drew1)
   refine beside_back (w.heap.size + 2) _ kr3 rfl rfl rfl rfl rfl ?_
   refine ⟨((((((((HE2.out.setNew hb2g _ _).setNew hb2g _ _).setNew hb2g _ _).setNew hb2g _ _).setNew (by omega) _ _).setNew (by omega) _ _).setNew (by omega) _ _).setNew (by omega) _ _).drew,⟨B1,d1,B2,d2,B3,d3⟩,by simp only [Nd.value,hm1,hm2,hm3,hrf]; rfl,fun h => by cases h⟩
  | some l =>
   rw [hnk] at HND1 hDo
   simp only at hDo
   have HLF := Lib.hid (HNO.out l hnk)
   clear hnk HNO
   obtain ⟨R,hR⟩ : ∃ R,R = joinR (n.join l key) := ⟨_,rfl⟩
   have HJ2 := Lib.hid (fun w' e c hl => HJ.out w' e l c hl HLF.out)
   rw [← hR] at HJ2 hDo
   subst hDo
   clear hR HJ
   go_wp2_with fail
   refine HND1.out.mono ?_
   rintro e w2 ⟨hx2,D1,e1,D2,e2,D3,e3,he,hnl⟩
   simp only [Nd.value] at he
   subst he
   have hx2' : Ext No wc w2 := hx2
   clear p0 p1 p2 p3 g0 g1 g2 g3 ln t0 t1 t2 t3 f0 f1 f2 f3 lt
   have k1b := HK2.out.ext hx2' (fun h => h)
   obtain ⟨t0,t1,t2,t3,f0,f1,f2,f3,lt⟩ := k1b.p4
   have HK2b := Lib.hid k1b
   obtain ⟨u0,u1,u2,u3,m0,m1,m2,m3,lu⟩ := (HK1.out.ext hx2' (fun h => h)).p4
   obtain ⟨q0,q1,q2,q3,j0,j1,j2,j3,lq⟩ := (HKP.out.ext hx2' (fun h => h)).p4
   have hyc2 := cell_ext hx2' hyc (fun h => h)
   have kr2 := HKR.out.ext hx2' (fun h => h)
   obtain ⟨r0,r1,r2,r3,s0,s1,s2,s3,lr⟩ := kr2.p4
   have HKR2 := Lib.hid kr2
   have HE2 := Lib.hid (HE.out.trans_ hx2')
   have HNL := Lib.hid hnl
   have HX2 := Lib.hid hx2'
   clear kr2 hx2 hx2' hnl hkc hyc k1b
   have hne2 : ¬ b1 = b2 := fun h => HNE.out h
   go_wp2_with fail
   obtain ⟨W3,hW3⟩ : ∃ W3,W3 = ((((w2.setCell ⟨b2,0,none⟩ (.bool l.leaf)).setCell ⟨b2,1,none⟩ (.slice D1 l.cells.length e1)).setCell ⟨b2,2,none⟩ (.slice D2 l.keys.length e2)).setCell ⟨b2,3,none⟩ (.slice D3 l.kids.length e3)) := ⟨_,rfl⟩
   have hb2g : w.heap.size ≤ b2 := by have := HB2.out; omega
   have HE3 := Lib.hid ((((HE2.out.setNew hb2g 0 (.bool l.leaf)).setNew hb2g 1 (.slice D1 l.cells.length e1)).setNew hb2g 2 (.slice D2 l.keys.length e2)).setNew hb2g 3 (.slice D3 l.kids.length e3))
   have k13 := HK2b.out.put4 (.bool l.leaf) (.slice D1 l.cells.length e1) (.slice D2 l.keys.length e2) (.slice D3 l.kids.length e3)
   have HFR := Lib.hid (fun g t cs (hb : Blk w2 g t cs) (hg : g ≠ b2) => ((((hb.far (p := ⟨b2,0,none⟩) hg (.bool l.leaf)).far (p := ⟨b2,1,none⟩) hg (.slice D1 l.cells.length e1)).far (p := ⟨b2,2,none⟩) hg (.slice D2 l.keys.length e2)).far (p := ⟨b2,3,none⟩) hg (.slice D3 l.kids.length e3)))
   have hOn : On b2 b2 := rfl
   have hXb : Ext (On b2) w2 ((((w2.setCell ⟨b2,0,none⟩ (.bool l.leaf)).setCell ⟨b2,1,none⟩ (.slice D1 l.cells.length e1)).setCell ⟨b2,2,none⟩ (.slice D2 l.keys.length e2)).setCell ⟨b2,3,none⟩ (.slice D3 l.kids.length e3)) := ((((Ext.refl (On b2) w2).setF hOn 0 (.bool l.leaf)).setF hOn 1 (.slice D1 l.cells.length e1)).setF hOn 2 (.slice D2 l.keys.length e2)).setF hOn 3 (.slice D3 l.kids.length e3)
   rw [← hW3] at HE3 k13 HFR hXb ⊢
   have hnl3 : NodeIn W3 No ⟨D1,e1,D2,e2,D3,e3⟩ l := (HNL.out.ext (hXb.mono (fun b _ h => by have h' : b = b2 := h; rw [h']; exact HK2.out.lt))).mono (fun _ _ h => h.elim)
   have hyc3 := cell_ext hXb hyc2 (fun h => hnb5 h.symm)
   have ly3 : yb < W3.heap.size := by have := World.block_lt_of_cell? W3 _ hyc3; exact this
   have HJ3 := Lib.hid (HJ2.out W3.drew HE3.out.drew ⟨D1,e1,D2,e2,D3,e3⟩ (hnl3.ext (Ext.refl No W3).drew))
   simp only at HJ3
   have hx2o := HX2.out
   clear t0 t1 t2 t3 f0 f1 f2 f3 lt u0 u1 u2 u3 m0 m1 m2 m3 lu q0 q1 q2 q3 j0 j1 j2 j3 lq r0 r1 r2 r3 s0 s1 s2 s3 lr hyc2 hnl3 hXb hW3
   obtain ⟨t0,t1,t2,t3,f0,f1,f2,f3,lt⟩ := k13.p4
   obtain ⟨u0,u1,u2,u3,m0,m1,m2,m3,lu⟩ := (HFR.out _ _ _ (HK1.out.ext hx2o (fun h => h)) hne2).p4
   obtain ⟨q0,q1,q2,q3,j0,j1,j2,j3,lq⟩ := (HFR.out _ _ _ (HKP.out.ext hx2o (fun h => h)) (fun h => hnb1 h.symm)).p4
   have hr3 := HFR.out _ _ _ HKR2.out (fun h => hnb3 h.symm)
   obtain ⟨r0,r1,r2,r3,s0,s1,s2,s3,lr⟩ := hr3.p4
   have HR3 := Lib.hid hr3
   clear hr3 k13 hx2o
   have HWS := Lib.hid (show w.heap.size ≤ W3.heap.size from HE3.out.size)
   go_cut [10] (fun k wx => k = .int .i64 (R.1 : Int) ∧ ∃ c : Adr,Blk wx (w.heap.size + 2) 40 #[.bool R.2.leaf,.slice c.A1 R.2.cells.length c.c1,.slice c.A2 R.2.keys.length c.c2,.slice c.A3 R.2.kids.length c.c3] ∧ Ext No w wx ∧ NodeIn wx (Old W3.drew) c R.2)
   case first =>
    go_region_law ((go_simp; go_at_call 188; refine HJ3.out.mono ?_; rintro e w7 ⟨hx7,c,rfl,hn7⟩; have hr7 := (HR3.out.drew1).ext hx7 (fun h => h); have HR7 := Lib.hid hr7; obtain ⟨r0',r1',r2',r3',s0',s1',s2',s3',lr'⟩ := hr7.p4; have HX7 := Lib.hid hx7; have HN7 := Lib.hid hn7; clear hx7 hn7 hr7))
    all_goals (
     go_wp2_with fail
     go_meet
     refine ⟨rfl,c,HR7.out.put4 (.bool R.2.leaf) (.slice c.A1 R.2.cells.length c.c1) (.slice c.A2 R.2.keys.length c.c2) (.slice c.A3 R.2.kids.length c.c3),?_,?_⟩
     ·exact (((((HE3.out.drew).trans_ HX7.out).setNew (Nat.le_add_right _ 2) _ _).setNew (Nat.le_add_right _ 2) _ _).setNew (Nat.le_add_right _ 2) _ _).setNew (Nat.le_add_right _ 2) _ _
     ·have hOn2 : Old W3.drew (w.heap.size + 2) := lr
      exact (HN7.out.ext (((((Ext.refl (Old W3.drew) w7).setF hOn2 0 (.bool R.2.leaf)).setF hOn2 1 (.slice c.A1 R.2.cells.length c.c1)).setF hOn2 2 (.slice c.A2 R.2.keys.length c.c2)).setF hOn2 3 (.slice c.A3 R.2.kids.length c.c3))))
   case rest =>
    have HLR := Lib.hid (show Old W3.drew (w.heap.size + 2) from lr)
    obtain ⟨rfl,c,hk8,hE8,hN8⟩ := hcut
    clear r0 r1 r2 r3 s0 s1 s2 s3 lr t0 t1 t2 t3 f0 f1 f2 f3 lt u0 u1 u2 u3 m0 m1 m2 m3 lu q0 q1 q2 q3 j0 j1 j2 j3 lq
    obtain ⟨x0,x1,x2,x3,y0,y1,y2,y3,lx⟩ := hk8.p4
    have HK8 := Lib.hid hk8; have HE8 := Lib.hid hE8; have HN8 := Lib.hid hN8
    clear hk8 hE8 hN8
    go_wp2_with fail
    go_region
    go_wp2_with fail
    have hk9 := (HK8.out.drew1).put4 (.bool R.2.leaf) (.slice c.A1 R.2.cells.length c.c1) (.slice c.A2 R.2.keys.length c.c2) (.slice c.A3 R.2.kids.length c.c3)
    refine beside_back (w.heap.size + 2) _ hk9 rfl rfl rfl rfl rfl ?_
    refine ⟨((((HE8.out.drew).setNew (Nat.le_add_right _ 2) _ _).setNew (Nat.le_add_right _ 2) _ _).setNew (Nat.le_add_right _ 2) _ _).setNew (Nat.le_add_right _ 2) _ _,c,rfl,fun _ => ?_⟩
    exact (HN8.out.ext (((((Ext.refl (Old W3.drew) _).drew.setF HLR.out 0 _).setF HLR.out 1 _).setF HLR.out 2 _).setF HLR.out 3 _)).mono (fun b _ hb => Nat.lt_of_lt_of_le hb HWS.out)
end Go.Proofs.YtccnemmlkcmceaaGreatDoor
