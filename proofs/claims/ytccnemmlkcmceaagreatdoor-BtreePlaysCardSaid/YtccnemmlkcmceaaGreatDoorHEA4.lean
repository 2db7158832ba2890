/- Proofs about the given program, joined out of the texts R4, J3. -/
import Derived.Test.YtccnemmlkcmceaaGreatDoorHEA2
import Derived.Test.YtccnemmlkcmceaaGreatDoorHEA3
set_option linter.unusedVariables false
set_option linter.unusedSimpArgs false
set_option maxRecDepth 100000
set_option maxHeartbeats 6400000
namespace Go.Proofs.YtccnemmlkcmceaaGreatDoor
open Go.RowKit
def rput (key val:Bs):Bool → List Ent → List Ent
 | put,[]=>if put then [] else [(key,val)]
 | put,e :: E=>(if !put && !klt e.1 key then [(key,val)] else []) ++ (if e.1 = key then [] else [e]) ++ rput key val (put || !klt e.1 key) E
theorem rput_true (key val:Bs):∀ E,rput key val true E = del key E
 | []=>rfl
 | e :: E=>by
  rw [rput,Bool.true_or,rput_true key val E]
  by_cases h:e.1 = key <;> simp [del,h]
theorem rput_ins (key val:Bs):∀ (E:List Ent),Sorted (E.map (·.1)) → rput key val false E = ins key val E
 | [],_=>rfl
 | e :: E,h=>by
  have h':=List.pairwise_cons.1 h
  rw [rput,ins]
  cases hk:klt e.1 key
  ·have hgt:∀ x ∈ E,x.1 ≠ key:=fun x hx e1=>by
    have h2:=h'.1 x.1 (List.mem_map.2 ⟨x,hx,rfl⟩)
    rw [e1,hk] at h2;cases h2
   simp only [Bool.not_false,Bool.and_true,if_true,Bool.false_or,rput_true,del_ne hgt]
   by_cases he:e.1 = key <;> simp [he]
  ·have hne:e.1 ≠ key:=klt_ne hk
   simp [hne,rput_ins key val E h'.2]
theorem rput_step (key val:Bs) (put:Bool) (e:Ent) (E O:List Ent):O ++ rput key val put (e :: E) = (O ++ (if !put && !klt e.1 key then [(key,val)] else [])) ++ ((if e.1 = key then [] else [e]) ++ rput key val (put || !klt e.1 key) E):=by rw [rput];simp
theorem rput_len (key val:Bs):∀ (put:Bool) (E:List Ent),(rput key val put E).length ≤ E.length + (if put then 0 else 1)
 | put,[]=>by cases put <;> simp [rput]
 | put,e :: E=>by
  have h:=rput_len key val (put || !klt e.1 key) E
  rw [rput]
  simp only [List.length_append,List.length_cons]
  cases put <;> cases hk:klt e.1 key <;> simp [hk] at h ⊢ <;> by_cases he:e.1 = key <;> simp [he] at * <;> omega
theorem join_branch (l r:Nd) (key:Bs) (w:World) (F:Nat → Prop) (a b:Adr) (hl:NodeIn w F a l) (hr:NodeIn w F b r) (hkl:key.length < 65536) (hlo:l.ok = true) (hro:r.ok = true) (hlf:l.leaf = false) (hrf:r.leaf = false) :
  Calls Tryz.prog 188 #[l.value a.A1 a.c1 a.A2 a.c2 a.A3 a.c3,r.value b.A1 b.c1 b.A2 b.c2 b.A3 b.c3,.string (str key)] w (JoinTold w (if (l.glue r key).ok then some (l.glue r key) else none)):=by
 have hOl:=Nd.Ok.of hlo
 have hOr:=Nd.Ok.of hro
 have hfl:=Nd.Ok.fits hOl
 have hfr:=Nd.Ok.fits hOr
 have HL:=Lib.hid (fun w' (e:Ext No w w')=>check_any l w' F _ _ _ _ _ _ (hl.ext e.of_no) hfl)
 have HR:=Lib.hid (fun w' (e:Ext No w w')=>check_any r w' F _ _ _ _ _ _ (hr.ext e.of_no) hfr)
 rw [Nd.chk_ok hlo] at HL
 rw [Nd.chk_ok hro] at HR
 have hgf:=Nd.glue_fits (key:=key) hfl hfr hkl
 have hg:l.glue r key = ⟨false,l.cells ++ r.cells,l.keys ++ key :: r.keys,l.kids ++ r.kids⟩:=by unfold Nd.glue;rw [if_neg (by rw [hlf];simp)]
 have HC:=Lib.hid (fun w' F A1 c1 A2 c2 A3 c3 hn=>check_any (l.glue r key) w' F A1 c1 A2 c2 A3 c3 hn hgf)
 rw [hg] at HC ⊢
 have hn1:l.cells.length ≤ 255:=hOl.a1
 have hn2:r.cells.length ≤ 255:=hOr.a1
 have hk1:l.keys.length ≤ 255:=hOl.a2
 have hk2:r.keys.length ≤ 255:=hOr.a2
 have hi1:l.kids.length ≤ 256:=by rw [(hOl.br hlf).2];omega
 have hi2:r.kids.length ≤ 256:=by rw [(hOr.br hrf).2];omega
 have HPK:Hid (∀ w',Ext No w w' → Part.Ok w' 1 ⟨a.A2,l.keys.length,a.c2,keyVals l.keys⟩ ∧ Part.Ok w' 1 ⟨b.A2,r.keys.length,b.c2,keyVals r.keys⟩):=Lib.hid (fun w' e =>
  ⟨⟨(hl.keys.mono (G:=No) (by omega) (fun _ _ h=>h.elim)).ext e,hl.e2,one_keys _,hl.l2⟩,⟨(hr.keys.mono (G:=No) (by omega) (fun _ _ h=>h.elim)).ext e,hr.e2,one_keys _,hr.l2⟩⟩)
 have HPI:Hid (∀ w',Ext No w w' → Part.Ok w' 1 ⟨a.A3,l.kids.length,a.c3,kidVals l.kids⟩ ∧ Part.Ok w' 1 ⟨b.A3,r.kids.length,b.c3,kidVals r.kids⟩):=Lib.hid (fun w' e =>
  ⟨⟨(hl.kids.mono (G:=No) (by omega) (fun _ _ h=>h.elim)).ext e,hl.e3,one_kids _,hl.l3⟩,⟨(hr.kids.mono (G:=No) (by omega) (fun _ _ h=>h.elim)).ext e,hr.e3,one_kids _,hr.l3⟩⟩)
 have HPC:Hid (∀ w',Ext No w w' → Part.Ok w' 4 ⟨a.A1,l.cells.length,a.c1,cellVals l.cells⟩ ∧ Part.Ok w' 4 ⟨b.A1,r.cells.length,b.c1,cellVals r.cells⟩):=Lib.hid (fun w' e =>
  ⟨⟨(hl.cells.mono (G:=No) (by omega) (fun _ _ h=>h.elim)).ext e,hl.e1,one_cells _,hl.l1⟩,⟨(hr.cells.mono (G:=No) (by omega) (fun _ _ h=>h.elim)).ext e,hr.e1,one_cells _,hr.l1⟩⟩)
 obtain ⟨L,hL⟩:∃ L,L = l.cells ++ r.cells:=⟨_,rfl⟩
 have hLV:cellVals l.cells ++ cellVals r.cells = cellVals L:=by rw [hL,cellVals_append]
 have hLL:L.length = l.cells.length + r.cells.length:=by rw [hL];simp
 rw [← hL] at HC ⊢
 obtain ⟨K,hK⟩:∃ K,K = l.keys ++ key :: r.keys:=⟨_,rfl⟩
 have hKV:keyVals l.keys ++ (.string (str key) :: keyVals r.keys) = keyVals K:=by rw [hK];simp [keyVals]
 have hKL:K.length = l.keys.length + (r.keys.length + 1):=by rw [hK];simp
 rw [← hK] at HC ⊢
 obtain ⟨I,hI⟩:∃ I,I = l.kids ++ r.kids:=⟨_,rfl⟩
 have hIV:kidVals l.kids ++ kidVals r.kids = kidVals I:=by rw [hI];simp [kidVals]
 have hIL:I.length = l.kids.length + r.kids.length:=by rw [hI];simp
 rw [← hI] at HC ⊢
 generalize hDD:(if (⟨false,L,K,I⟩:Nd).ok = true then some (⟨false,L,K,I⟩:Nd) else none) = D at ⊢
 have HD:=Lib.hid hDD
 clear hDD
 obtain ⟨A1,c1,A2,c2,A3,c3⟩:=a
 obtain ⟨B1,d1,B2,d2,B3,d3⟩:=b
 simp only [Nd.value,hlf,hrf,List.length_nil] at HL HR HC HPC HPK HPI ⊢
 generalize l.keys.length = n2 at *
 generalize l.kids.length = n3 at *
 generalize r.keys.length = m2 at *
 generalize r.kids.length = m3 at *
 have hE0:Ext No w (((w.alloc (.cells #[.bool false,.slice A1 l.cells.length c1,.slice A2 n2 c2,.slice A3 n3 c3] 40)).alloc (.cells #[.bool false,.slice B1 r.cells.length d1,.slice B2 m2 d2,.slice B3 m3 d3] 40)).alloc (.cells #[.bool false,.slice none 0 0,.slice none 0 0,.slice none 0 0] 40)):=(((Ext.refl No w).alloc _).alloc _).alloc _
 have bl0:Blk (((w.alloc (.cells #[.bool false,.slice A1 l.cells.length c1,.slice A2 n2 c2,.slice A3 n3 c3] 40)).alloc (.cells #[.bool false,.slice B1 r.cells.length d1,.slice B2 m2 d2,.slice B3 m3 d3] 40)).alloc (.cells #[.bool false,.slice none 0 0,.slice none 0 0,.slice none 0 0] 40)) w.heap.size 40 #[.bool false,.slice A1 l.cells.length c1,.slice A2 n2 c2,.slice A3 n3 c3]:=((Blk.new w 40 _).alloc _).alloc _
 have br0:Blk (((w.alloc (.cells #[.bool false,.slice A1 l.cells.length c1,.slice A2 n2 c2,.slice A3 n3 c3] 40)).alloc (.cells #[.bool false,.slice B1 r.cells.length d1,.slice B2 m2 d2,.slice B3 m3 d3] 40)).alloc (.cells #[.bool false,.slice none 0 0,.slice none 0 0,.slice none 0 0] 40)) (w.heap.size + 1) 40 #[.bool false,.slice B1 r.cells.length d1,.slice B2 m2 d2,.slice B3 m3 d3]:=(Blk.new_at (b:=w.heap.size + 1) (w.alloc _) 40 _ (by simp)).alloc _
 have bs0:Blk (((w.alloc (.cells #[.bool false,.slice A1 l.cells.length c1,.slice A2 n2 c2,.slice A3 n3 c3] 40)).alloc (.cells #[.bool false,.slice B1 r.cells.length d1,.slice B2 m2 d2,.slice B3 m3 d3] 40)).alloc (.cells #[.bool false,.slice none 0 0,.slice none 0 0,.slice none 0 0] 40)) (w.heap.size + 2) 40 #[.bool false,.slice none 0 0,.slice none 0 0,.slice none 0 0]:=Blk.new_at (b:=w.heap.size + 2) ((w.alloc _).alloc _) 40 _ (by simp)
 have HE0:=Lib.hid hE0;have HBL:=Lib.hid bl0;have HBR:=Lib.hid br0;have HBS:=Lib.hid bs0
 generalize l.cells.length = n1 at *
 generalize r.cells.length = m1 at *
 have HLL:=Lib.hid hLL;have HLV:=Lib.hid hLV
 have HKL:=Lib.hid hKL;have HKV:=Lib.hid hKV
 have HIL:=Lib.hid hIL;have HIV:=Lib.hid hIV
 generalize keyVals l.keys = kx at *
 generalize keyVals r.keys = ky at *
 generalize kidVals l.kids = ix at *
 generalize kidVals r.kids = iy at *
 generalize cellVals l.cells = xs at *
 generalize cellVals r.cells = ys at *
 clear hl hr hfl hfr hE0 bl0 br0 bs0 hOl hOr hgf hg hL hLL hLV hK hKL hKV hI hIL hIV hlo hro hlf hrf
 go_enter Tryz.func188,Tryz.ntmps188
 go_wp2_with fail
 refine (HL.out _ HE0.out).mono ?_
 rintro e w1 ⟨rfl,hx1⟩
 have br1:=HBR.out.ext hx1 (fun h=>h)
 obtain ⟨p0,p1,p2,p3,g0,g1,g2,g3,ln⟩:=br1.p4
 go_wp2_with fail
 refine (HR.out _ (HE0.out.trans_ hx1)).mono ?_
 rintro e w2 ⟨rfl,hx2⟩
 clear p0 p1 p2 p3 g0 g1 g2 g3 ln
 have bl2:=(HBL.out.ext hx1 (fun h=>h)).ext hx2 (fun h=>h)
 have br2:=br1.ext hx2 (fun h=>h)
 have bs2:=(HBS.out.ext hx1 (fun h=>h)).ext hx2 (fun h=>h)
 have hE2:=(HE0.out.trans_ hx1).trans_ hx2
 have lr:=bs2.lt
 obtain ⟨p0,p1,p2,p3,g0,g1,g2,g3,ln⟩:=bl2.p4
 obtain ⟨q0,q1,q2,q3,f0,f1,f2,f3,lq⟩:=br2.p4
 have HE2:=Lib.hid hE2
 have bs3:=bs2
 have HCC:Hid (∀ g W,Ext No w2 W → Blk W g 37 #[.slice A1 n1 c1,.slice B1 m1 d1] → Calls Tryz.prog 147 #[.slice (some ⟨g,0,none⟩) 2 2] W (Row 45 4 W (cellVals L) L.length)):=Lib.hid (fun g W hEW hpb=>by
  obtain ⟨hp1,hp2⟩:=HPC.out W (HE2.out.trans_ hEW)
  have h:=concat_cells [⟨A1,n1,c1,xs⟩,⟨B1,m1,d1,ys⟩] g 2 2 W rfl
   (by intro p hp;simp at hp;rcases hp with rfl | rfl;exact hp1;exact hp2) (by rw [total_two];omega) (by omega) (by omega)
   (by
     intro j p hj;match j,hj with
     | 0,hj=>simp at hj;subst hj;exact hpb.cell 0
     | 1,hj=>simp at hj;subst hj;exact hpb.cell 1
     | j + 2,hj=>simp at hj)
  rw [joined_two,total_two,HLV.out,← HLL.out] at h
  exact h)
 have hLb:L.length < 65536:=by rw [HLL.out];omega
 have HLB:=Lib.hid hLb
 clear hx1 hx2 hE2 HPC HLV
 generalize hLn:L.length = ln1 at *
 generalize hKn:K.length = kn1 at *
 generalize hIn:I.length = in1 at *
 clear hLb
 go_wp2_with fail
 go_cut [8] (fun v wx=>∃ (b8:Nat) (A:Option Addr) (cc:Nat),v = .pointer (some ⟨b8,0,none⟩) ∧ Blk wx b8 40 #[.bool false,.slice A ln1 cc,.slice none 0 0,.slice none 0 0] ∧ w2.heap.size ≤ b8 ∧ Rd wx (fun b=>b < w2.heap.size ∨ b = b8) 4 A ln1 (cellVals L) ∧ ln1 ≤ cc ∧ (A = none → cc = 0) ∧ Ext No w2 wx)
 case first =>
  have ne1:¬ (w.heap.size = w2.heap.size):=by omega
  have ne2:¬ (w.heap.size = w2.heap.size + 1):=by omega
  have ne3:¬ (w2.heap.size = w.heap.size):=by omega
  have ne4:¬ (w2.heap.size + 1 = w.heap.size):=by omega
  have ne5:¬ (w.heap.size + 1 = w2.heap.size):=by omega
  have ne6:¬ (w.heap.size + 1 = w2.heap.size + 1):=by omega
  have ne7:¬ (w2.heap.size = w.heap.size + 1):=by omega
  have ne8:¬ (w2.heap.size + 1 = w.heap.size + 1):=by omega
  go_region_held3 (fun w'=>w'.cell? ⟨w.heap.size,0,none⟩ = some (.bool false) ∧ w'.cell? ⟨w.heap.size,1,none⟩ = some (.slice A1 n1 c1) ∧ w'.cell? ⟨w.heap.size + 1,1,none⟩ = some (.slice B1 m1 d1)) (go_keep)
   ((
    go_at_call 147;first
    | (with_reducible (refine (HCC.out (w2.heap.size) (w2.alloc (.cells #[.slice A1 n1 c1,.slice B1 m1 d1] 37)).drew ?_ ?_).mono ?_);exact ((Ext.refl No w2).alloc (.cells #[.slice A1 n1 c1,.slice B1 m1 d1] 37)).drew;exact (Blk.new w2 37 _).drew1;intro e w3 hh;unfold Row at hh;obtain ⟨A,cc,he,hown,hx3⟩:=hh;subst he;have HO:=Lib.hid hown;have hE3:=(((Ext.refl No w2).alloc (.cells #[.slice A1 n1 c1,.slice B1 m1 d1] 37)).drew).trans_ hx3;have HX3:=Lib.hid hE3;have HY3:=Lib.hid hx3;have k0:=cell_ext hE3 p0 (fun h=>h);have k1:=cell_ext hE3 p1 (fun h=>h);have k2:=cell_ext hE3 q1 (fun h=>h);have n11:¬ (w.heap.size + 1 = w3.heap.size):=(by have:=hE3.size;omega);have n12:¬ (w3.heap.size = w.heap.size + 1):=(by have:=hE3.size;omega);have ne9:¬ (w.heap.size = w3.heap.size):=(by have:=hE3.size;omega);have n10:¬ (w3.heap.size = w.heap.size):=(by have:=hE3.size;omega);clear hown hx3 hE3)
    | (with_reducible (refine (HCC.out (w2.heap.size) ((w2.alloc (.cells #[.slice A1 n1 c1,.slice B1 m1 d1] 37)).alloc (.cells #[.bool false,.slice none 0 0,.slice none 0 0,.slice none 0 0] 40)).drew ?_ ?_).mono ?_);exact (((Ext.refl No w2).alloc (.cells #[.slice A1 n1 c1,.slice B1 m1 d1] 37)).alloc (.cells #[.bool false,.slice none 0 0,.slice none 0 0,.slice none 0 0] 40)).drew;exact ((Blk.new w2 37 _).alloc _).drew1;intro e w3 hh;unfold Row at hh;obtain ⟨A,cc,he,hown,hx3⟩:=hh;subst he;have HO:=Lib.hid hown;have hE3:=((((Ext.refl No w2).alloc (.cells #[.slice A1 n1 c1,.slice B1 m1 d1] 37)).alloc (.cells #[.bool false,.slice none 0 0,.slice none 0 0,.slice none 0 0] 40)).drew).trans_ hx3;have HX3:=Lib.hid hE3;have HY3:=Lib.hid hx3;have k0:=cell_ext hE3 p0 (fun h=>h);have k1:=cell_ext hE3 p1 (fun h=>h);have k2:=cell_ext hE3 q1 (fun h=>h);have n11:¬ (w.heap.size + 1 = w3.heap.size):=(by have:=hE3.size;omega);have n12:¬ (w3.heap.size = w.heap.size + 1):=(by have:=hE3.size;omega);have ne9:¬ (w.heap.size = w3.heap.size):=(by have:=hE3.size;omega);have n10:¬ (w3.heap.size = w.heap.size):=(by have:=hE3.size;omega);have b8:=Blk.of_ext hx3 ((Blk.new_at (b:=w2.heap.size + 1) (w2.alloc (.cells #[.slice A1 n1 c1,.slice B1 m1 d1] 37)) 40 #[.bool false,.slice none 0 0,.slice none 0 0,.slice none 0 0] (by simp)).drew1) (fun h=>h);have HB8:=Lib.hid b8;obtain ⟨t0,t1,t2,t3,u0,u1,u2,u3,lt⟩:=b8.p4;clear b8;clear hown hx3 hE3)
    | (with_reducible (refine (HCC.out (w2.heap.size + 1) ((w2.alloc (.cells #[.bool false,.slice none 0 0,.slice none 0 0,.slice none 0 0] 40)).alloc (.cells #[.slice A1 n1 c1,.slice B1 m1 d1] 37)).drew ?_ ?_).mono ?_);exact (((Ext.refl No w2).alloc (.cells #[.bool false,.slice none 0 0,.slice none 0 0,.slice none 0 0] 40)).alloc (.cells #[.slice A1 n1 c1,.slice B1 m1 d1] 37)).drew;exact (Blk.new_at (b:=w2.heap.size + 1) (w2.alloc _) 37 _ (by simp)).drew1;intro e w3 hh;unfold Row at hh;obtain ⟨A,cc,he,hown,hx3⟩:=hh;subst he;have HO:=Lib.hid hown;have hE3:=((((Ext.refl No w2).alloc (.cells #[.bool false,.slice none 0 0,.slice none 0 0,.slice none 0 0] 40)).alloc (.cells #[.slice A1 n1 c1,.slice B1 m1 d1] 37)).drew).trans_ hx3;have HX3:=Lib.hid hE3;have HY3:=Lib.hid hx3;have k0:=cell_ext hE3 p0 (fun h=>h);have k1:=cell_ext hE3 p1 (fun h=>h);have k2:=cell_ext hE3 q1 (fun h=>h);have n11:¬ (w.heap.size + 1 = w3.heap.size):=(by have:=hE3.size;omega);have n12:¬ (w3.heap.size = w.heap.size + 1):=(by have:=hE3.size;omega);have ne9:¬ (w.heap.size = w3.heap.size):=(by have:=hE3.size;omega);have n10:¬ (w3.heap.size = w.heap.size):=(by have:=hE3.size;omega);have b8:=Blk.of_ext hx3 (((Blk.new w2 40 #[.bool false,.slice none 0 0,.slice none 0 0,.slice none 0 0]).alloc _).drew1) (fun h=>h);have HB8:=Lib.hid b8;obtain ⟨t0,t1,t2,t3,u0,u1,u2,u3,lt⟩:=b8.p4;clear b8;clear hown hx3 hE3)))
  all_goals (
   go_wp2_with fail
   go_meet
   first
   | (with_reducible (refine cut_after HO.out ?_ HX3.out));(first | exact (((Ext.refl No w2).alloc _).drew).size | exact ((((Ext.refl No w2).alloc _).alloc _).drew).size)
   | (with_reducible (refine cut_before HO.out ?_ HX3.out HB8.out ?_ ?_));(exact ((((Ext.refl No w2).alloc _).alloc _).drew).size);omega;(show _ < ((w2.alloc _).alloc _).heap.size;simp <;> omega))
 case rest =>
  obtain ⟨b8,A,cc,rfl,bn,hb8,hrd,hcc,hnil,hx3⟩:=hcut
  obtain ⟨t0,t1,t2,t3,u0,u1,u2,u3,lt⟩:=bn.p4
  have bs3:=bs2.ext hx3 (fun h=>h)
  have bl3:=bl2.ext hx3 (fun h=>h)
  have br3:=br2.ext hx3 (fun h=>h)
  have hE3:=HE2.out.trans_ hx3
  have hw:w.heap.size + 2 < w2.heap.size:=lr
  clear p0 p1 p2 p3 g0 g1 g2 g3 ln q0 q1 q2 q3 f0 f1 f2 f3 lq bl2 br2 bs2 br1 lr
  obtain ⟨p0,p1,p2,p3,g0,g1,g2,g3,ln⟩:=bl3.p4
  obtain ⟨q0,q1,q2,q3,f0,f1,f2,f3,lq⟩:=br3.p4
  obtain ⟨W,hW⟩:∃ W,W = ((wc.alloc (.cells #[.string (str key)] 9)).alloc (.cells #[.slice A2 n2 c2,.slice (some ⟨wc.heap.size,0,none⟩) 1 1,.slice B2 m2 d2] 38)):=⟨_,rfl⟩
  have hEW:Ext No wc W:=by rw [hW];exact ((Ext.refl No wc).alloc _).alloc _
  have hkb:Blk W wc.heap.size 9 #[.string (str key)]:=by rw [hW];exact (Blk.new wc 9 _).alloc _
  have hpb:Blk W (wc.heap.size + 1) 38 #[.slice A2 n2 c2,.slice (some ⟨wc.heap.size,0,none⟩) 1 1,.slice B2 m2 d2]:=by rw [hW];exact Blk.new_at (b:=wc.heap.size + 1) (wc.alloc _) 38 _ (by simp)
  obtain ⟨hp1,hp2⟩:=HPK.out W (hE3.trans_ hEW)
  have hp3:Part.Ok W 1 ⟨some ⟨wc.heap.size,0,none⟩,1,1,[.string (str key)]⟩:=⟨⟨rfl,fun _=>⟨_,_,rfl,(fun h=>h),fun j u hu=>by rw [Nat.zero_add,hkb.cell j];simpa using hu⟩⟩,(fun h=>by cases h),(fun u hu=>by simp at hu;subst hu;rfl),Nat.le_refl _⟩
  have HKK:=Lib.hid (concat_strings [⟨A2,n2,c2,kx⟩,⟨some ⟨wc.heap.size,0,none⟩,1,1,[.string (str key)]⟩,⟨B2,m2,d2,ky⟩] (wc.heap.size + 1) 3 3 W rfl
   (by intro p hp;simp at hp;rcases hp with rfl | rfl | rfl;exact hp1;exact hp3;exact hp2) (by simp [total];omega) (by omega) (by omega)
   (by
     intro j p hj;match j,hj with
     | 0,hj=>simp at hj;subst hj;exact hpb.cell 0
     | 1,hj=>simp at hj;subst hj;exact hpb.cell 1
     | 2,hj=>simp at hj;subst hj;exact hpb.cell 2
     | j + 3,hj=>simp at hj))
  have e1:joined [⟨A2,n2,c2,kx⟩,⟨some ⟨wc.heap.size,0,none⟩,1,1,[.string (str key)]⟩,⟨B2,m2,d2,ky⟩] = keyVals K:=by rw [← HKV.out];simp [joined]
  have e2:total [⟨A2,n2,c2,kx⟩,⟨some ⟨wc.heap.size,0,none⟩,1,1,[.string (str key)]⟩,⟨B2,m2,d2,ky⟩] = kn1:=by rw [HKL.out];simp [total];omega
  rw [e1,e2] at HKK
  have HEW:=Lib.hid hEW
  have hWs:wc.heap.size ≤ W.heap.size:=hEW.size
  have HWS:=Lib.hid hWs
  clear hp1 hp2 hp3 e1 e2 hkb hpb hEW hWs
  subst hW
  have HBN:=Lib.hid bn;have HBL3:=Lib.hid bl3;have HBR3:=Lib.hid br3;have HBS3:=Lib.hid bs3;have HE3:=Lib.hid hE3;have HRD:=Lib.hid hrd
  have HHW:=Lib.hid hw;have HLT:=Lib.hid lt;have HB8:=Lib.hid hb8;have HX3:=Lib.hid hx3
  clear bn bl3 br3 bs3 hE3 hrd hw hx3
  go_wp2_with fail
  refine HKK.out.mono ?_
  rintro e w4 ⟨KA,kc,rfl,hown,hx4⟩
  have hx4':=HEW.out.trans_ hx4
  have bn4:=HBN.out.ext hx4' (fun h=>h)
  have hkr:=Rd.own_lo hown (by omega)
  have hkc:=own_cap hown
  have hkn:=own_nilcap hown
  have hkr:Rd (w4.setCell ⟨b8,2,none⟩ (.slice KA kn1 kc)) (fun b=>b < wc.heap.size) 1 KA kn1 (keyVals K):=(hkr.mono (G:=fun b=>b < wc.heap.size) (by omega) (fun b _ hb=>Nat.lt_of_lt_of_le hb HWS.out)).ext (Ext.setF (F:=fun b=>b < wc.heap.size) (b:=b8) (Ext.refl _ w4) HLT.out 2 _)
  have hE5:Ext (fun b=>b = b8) wc (w4.setCell ⟨b8,2,none⟩ (.slice KA kn1 kc)):=Ext.setF (F:=fun b=>b = b8) (b:=b8) hx4'.of_no rfl 2 _
  have hE5':Ext No w (w4.setCell ⟨b8,2,none⟩ (.slice KA kn1 kc)):=(HE3.out.trans_ hx4').setNew (by have:=HB8.out;have:=HHW.out;omega) 2 _
  have bn5:Blk (w4.setCell ⟨b8,2,none⟩ (.slice KA kn1 kc)) b8 40 #[.bool false,.slice A ln1 cc,.slice KA kn1 kc,.slice none 0 0]:=bn4.set_ 2 _
  have hn1:¬ w.heap.size = b8:=by have:=HB8.out;have:=HHW.out;omega
  have hn2:¬ w.heap.size + 1 = b8:=by have:=HB8.out;have:=HHW.out;omega
  have hn3:¬ w.heap.size + 2 = b8:=by have:=HB8.out;have:=HHW.out;omega
  have bl5:=HBL3.out.ext hE5 hn1
  have br5:=HBR3.out.ext hE5 hn2
  have bs5:=HBS3.out.ext hE5 hn3
  have hc5:Rd (w4.setCell ⟨b8,2,none⟩ (.slice KA kn1 kc)) (fun b=>b < w2.heap.size ∨ b = b8) 4 A ln1 (cellVals L):=HRD.out.ext (hE5.mono (fun b _ h=>.inr h))
  have t0:=bn4.cell 2;have u0:=bn4.frozen 2
  simp at t0
  obtain ⟨W,hW⟩:∃ W,W = w4.setCell ⟨b8,2,none⟩ (.slice KA kn1 kc):=⟨_,rfl⟩
  rw [← hW] at hkr hE5 hE5' bn5 bl5 br5 bs5 hc5
  obtain ⟨W2,hW2⟩:∃ W2,W2 = W.alloc (.cells #[.slice A3 n3 c3,.slice B3 m3 d3] 35):=⟨_,rfl⟩
  have hEW2:Ext No W W2:=by rw [hW2];exact (Ext.refl No W).alloc _
  have hpb:Blk W2 W.heap.size 35 #[.slice A3 n3 c3,.slice B3 m3 d3]:=by rw [hW2];exact Blk.new W 35 _
  obtain ⟨hp1,hp2⟩:=HPI.out W2 (hE5'.trans_ hEW2)
  have HII:=Lib.hid (concat_ints [⟨A3,n3,c3,ix⟩,⟨B3,m3,d3,iy⟩] W.heap.size 2 2 W2 rfl
   (by intro p hp;simp at hp;rcases hp with rfl | rfl;exact hp1;exact hp2) (by simp [total];omega) (by omega) (by omega)
   (by
     intro j p hj;match j,hj with
     | 0,hj=>simp at hj;subst hj;exact hpb.cell 0
     | 1,hj=>simp at hj;subst hj;exact hpb.cell 1
     | j + 2,hj=>simp at hj))
  rw [joined_two,total_two,HIV.out,← HIL.out] at HII
  have hWsz:W.heap.size = w4.heap.size:=by rw [hW];simp [World.setCell]
  rw [hWsz] at HII
  have HE5:=Lib.hid hE5;have HE5':=Lib.hid hE5';have HBN5:=Lib.hid bn5;have HBS5:=Lib.hid bs5;have HC5:=Lib.hid hc5;have HKR:=Lib.hid hkr;have HEW2:=Lib.hid hEW2
  have HSZ4:Hid (wc.heap.size ≤ w4.heap.size):=Lib.hid hx4'.size
  have HWSZ:=Lib.hid hWsz
  have bl4:=HBL3.out.ext hx4' (fun h=>h)
  have br4:=HBR3.out.ext hx4' (fun h=>h)
  have lb4:=bn4.lt
  obtain ⟨t0,t1,t2,t3,u0,u1,u2,u3,lt⟩:=bn4.p4
  clear p0 p1 p2 p3 g0 g1 g2 g3 ln q0 q1 q2 q3 f0 f1 f2 f3 lq hp1 hp2 hpb hEW2 hE5 hE5' bs5 hc5 hkr bn4 hown hx4 hx4' bl5 br5 bn5 hWsz
  obtain ⟨p0,p1,p2,p3,g0,g1,g2,g3,ln⟩:=bl4.p4
  obtain ⟨q0,q1,q2,q3,f0,f1,f2,f3,lq⟩:=br4.p4
  clear bl4 br4
  subst hW2
  subst hW
  have hn4:¬ b8 = w.heap.size:=fun h=>hn1 h.symm
  have hn5:¬ b8 = w.heap.size + 1:=fun h=>hn2 h.symm
  go_wp2_with fail
  clear p0 p1 p2 p3 g0 g1 g2 g3 ln q0 q1 q2 q3 f0 f1 f2 f3 lq t0 t1 t2 t3 u0 u1 u2 u3 lt
  refine HII.out.mono ?_
  rintro e w5 ⟨KI,ic,rfl,hown,hx5⟩
  have hir:=(Rd.own_lo hown (by omega)).mono (G:=fun b=>b < w4.heap.size) (by omega) (fun b _ hb=>by unfold Lo;have h1:=HWSZ.out;have h2:=HEW2.out.size;rw [h1] at h2;omega)
  have hic:=own_cap hown
  have hin:=own_nilcap hown
  have hx5':=HEW2.out.trans_ hx5
  have bn5:=HBN5.out.ext hx5' (fun h=>h)
  have bs6:Blk (w5.setCell ⟨b8,3,none⟩ (.slice KI in1 ic)) (w.heap.size + 2) 40 #[.bool false,.slice none 0 0,.slice none 0 0,.slice none 0 0]:=(HBS5.out.ext hx5' (fun h=>h)).far (p:=⟨b8,3,none⟩) hn3 _
  have bn6:Blk (w5.setCell ⟨b8,3,none⟩ (.slice KI in1 ic)) b8 40 #[.bool false,.slice A ln1 cc,.slice KA kn1 kc,.slice KI in1 ic]:=bn5.set_ 3 _
  have hir6:Rd (w5.setCell ⟨b8,3,none⟩ (.slice KI in1 ic)) (fun b=>b < w4.heap.size) 1 KI in1 (kidVals I):=hir.ext (Ext.setF (F:=fun b=>b < w4.heap.size) (b:=b8) (Ext.refl _ w5) lb4 3 _)
  have hkr6:Rd (w5.setCell ⟨b8,3,none⟩ (.slice KI in1 ic)) (fun b=>b < wc.heap.size) 1 KA kn1 (keyVals K):=HKR.out.ext (Ext.setF (F:=fun b=>b < wc.heap.size) (b:=b8) hx5'.of_no HLT.out 3 _)
  have hcr6:Rd (w5.setCell ⟨b8,3,none⟩ (.slice KI in1 ic)) (fun b=>b < w2.heap.size ∨ b = b8) 4 A ln1 (cellVals L):=HC5.out.ext (Ext.setF (F:=fun b=>b < w2.heap.size ∨ b = b8) (b:=b8) hx5'.of_no (.inr rfl) 3 _)
  have hE6:Ext No w (w5.setCell ⟨b8,3,none⟩ (.slice KI in1 ic)):=(HE5'.out.trans_ hx5').setNew (by have:=HB8.out;have:=HHW.out;omega) 3 _
  have hN:NodeAt (w5.setCell ⟨b8,3,none⟩ (.slice KI in1 ic)) (fun b=>b < w2.heap.size ∨ b = b8) A cc KA kc KI ic ⟨false,L,K,I⟩:=by
   subst hLn
   subst hKn
   subst hIn
   have h4:=HSZ4.out;have h5:=HX3.out.size;have h6:=HLT.out
   exact ⟨hcr6,hkr6.mono (by omega) (fun b _ hb=>by rcases hb with hb | hb <;> omega),hir6.mono (by omega) (fun b _ hb=>by rcases hb with hb | hb <;> omega),hcc,hkc,hic,
    (by show L.length < 65536;exact HLB.out),(by show K.length < 65536;rw [HKL.out];omega),(by show I.length < 65536;rw [HIL.out];omega),hnil,hkn,hin⟩
  have HCN:=Lib.hid (HC.out _ _ _ _ _ _ _ _ hN)
  have HN:=Lib.hid hN;have HE6:=Lib.hid hE6;have HBS6:=Lib.hid bs6;have HBN6:=Lib.hid bn6
  obtain ⟨t0,t1,t2,t3,u0,u1,u2,u3,lt⟩:=bn5.p4
  clear hN hir hir6 hkr6 hcr6 hx5 hx5' hown bn5 bs6 bn6 hE6
  have hDo:=HD.out
  rcases Bool.eq_false_or_eq_true (⟨false,L,K,I⟩:Nd).ok with hok | hok
  rotate_left
  ·have hD:D = none:=by rw [← hDo,hok];rfl
   rw [Nd.chk_bad hok] at HCN
   clear HD hDo hok
   subst hD
   go_wp2_with fail
   refine HCN.out.mono ?_
   rintro e w7 ⟨rfl,hx7⟩
   have bs7:=HBS6.out.ext hx7 (fun h=>h)
   clear t0 t1 t2 t3 u0 u1 u2 u3 lt
   obtain ⟨r0,r1,r2,r3,s0,s1,s2,s3,lr⟩:=bs7.p4
   have lr:w.heap.size < w7.heap.size:=by omega
   go_wp2_with fail
   refine join_back (w.heap.size + 2) _ (bs7.put4 (.bool false) (.slice none 0 0) (.slice none 0 0) (.slice none 0 0)) rfl rfl rfl rfl ?_
   exact ⟨((((HE6.out.trans_ hx7).setNew (by omega) _ _).setNew (by omega) _ _).setNew (by omega) _ _).setNew (by omega) _ _,rfl⟩
  ·have hD:D = some ⟨false,L,K,I⟩:=by rw [← hDo,hok];rfl
   rw [Nd.chk_ok hok] at HCN
   clear HD hDo hok
   subst hD
   go_wp2_with fail
   refine HCN.out.mono ?_
   rintro e w7 ⟨rfl,hx7⟩
   have bs7:=HBS6.out.ext hx7 (fun h=>h)
   have bn7:=HBN6.out.ext hx7 (fun h=>h)
   clear t0 t1 t2 t3 u0 u1 u2 u3 lt
   obtain ⟨r0,r1,r2,r3,s0,s1,s2,s3,lr⟩:=bs7.p4
   obtain ⟨t0,t1,t2,t3,u0,u1,u2,u3,lt⟩:=bn7.p4
   have lr:w.heap.size < w7.heap.size:=by omega
   go_wp2_with fail
   refine join_back (w.heap.size + 2) _ (bs7.put4 (.bool false) (.slice A ln1 cc) (.slice KA kn1 kc) (.slice KI in1 ic)) rfl rfl rfl rfl ?_
   have hin:(fun b=>b < w2.heap.size ∨ b = b8) (w.heap.size + 2):=.inl HHW.out
   have hz:Ext (fun b=>b < w2.heap.size ∨ b = b8) w7 _:=((((Ext.refl _ w7).setF hin 0 (.bool false)).setF hin 1 (.slice A ln1 cc)).setF hin 2 (.slice KA kn1 kc)).setF hin 3 (.slice KI in1 ic)
   refine ⟨((((HE6.out.trans_ hx7).setNew (by omega) _ _).setNew (by omega) _ _).setNew (by omega) _ _).setNew (by omega) _ _,⟨A,cc,KA,kc,KI,ic⟩,by simp only [Nd.value];rw [hLn,hKn,hIn];rfl,?_⟩
   exact ((HN.out.ext hx7.of_no).ext hz).mono (fun b _ hb=>by unfold Old at hb;have:=HHW.out;exact .inl (by omega))
theorem join_any (l r:Nd) (key:Bs) (w:World) (F:Nat → Prop) (a b:Adr) (hl:NodeIn w F a l) (hr:NodeIn w F b r) (hfl:l.fits) (hfr:r.fits) (hkl:key.length < 65536) :
  Calls Tryz.prog 188 #[l.value a.A1 a.c1 a.A2 a.c2 a.A3 a.c3,r.value b.A1 b.c1 b.A2 b.c2 b.A3 b.c3,.string (str key)] w (JoinTold w (l.join r key)):=by
 unfold Nd.join
 split
 ·rename_i h
  exact join_bad l r key w F a b hl hr hfl hfr h
 ·rename_i h
  have h1:l.ok = true:=by cases hx:l.ok <;> simp_all
  have h2:r.ok = true:=by cases hx:r.ok <;> simp_all
  have h3:l.leaf = r.leaf:=by
   by_cases hx:l.leaf = r.leaf
   ·exact hx
   ·exact absurd (.inr (.inr hx)) h
  cases hf:l.leaf
  ·exact join_branch l r key w F a b hl hr hkl h1 h2 hf (h3 ▸ hf)
  ·exact join_leaf l r key w F a b hl hr hkl h1 h2 hf (h3 ▸ hf)
end Go.Proofs.YtccnemmlkcmceaaGreatDoor
