/- Proofs about the given program, joined out of the texts GE, GF. -/
import Derived.Test.YtccnemmlkcmceaaGreatDoorHEA6
set_option linter.unusedVariables false
set_option linter.unusedSimpArgs false
set_option maxRecDepth 100000
set_option maxHeartbeats 6400000
namespace Go.Proofs.YtccnemmlkcmceaaGreatDoor
open Go.RowKit
theorem shrink_end (s:Sys) (hs:s.Ok) (w w12 W20 w16:World) (ks:List Bs) (is:List Nat) (v12:V) (KB:Option Addr) (kd:Nat) (IB:Option Addr) (id n1 n2:Nat) (e1:ks.length = n1) (e2:is.length = n2) (b1:n1 < 65536) (b2:n2 < 65536) (HOLD:Hid (∀ b,s.F b → b < w.heap.size)) (HDB:Hid (∀ w',Ext s.F w w' → s.db w'))
  (HWF:Hid (∀ b,(s.F b ∨ b = w.heap.size) → b < W20.heap.size)) (HX20:Hid (Ext No w12 W20)) (HE20:Hid (Ext s.F w W20)) (HE16:Hid (Ext No W20 w16)) (HT12:Hid (TxAt w12 s v12)) (n14:Nat)
  (HRK:Hid (Rd w16 (fun b=>b < W20.heap.size ∨ n14 ≤ b) 1 KB n1 (keyVals ks))) (HRI:Hid (Rd w16 (fun b=>b < W20.heap.size) 1 IB n2 (kidVals is)))
  (HC14:Hid (n1 ≤ kd)) (HC16:Hid (n2 ≤ id)) (HN14:Hid (KB = none → kd = 0)) (HN16:Hid (IB = none → id = 0)) :
  Hid (NodeIn ((((w16.setCell ⟨w.heap.size,0,none⟩ (.bool false)).setCell ⟨w.heap.size,1,none⟩ (.slice none 0 0)).setCell ⟨w.heap.size,2,none⟩ (.slice KB n1 kd)).setCell ⟨w.heap.size,3,none⟩ (.slice IB n2 id)) (fun b=>s.F b ∨ b = w.heap.size) ⟨none,0,KB,kd,IB,id⟩ ⟨false,[],ks,is⟩) ∧
  Hid (TxAt ((((w16.setCell ⟨w.heap.size,0,none⟩ (.bool false)).setCell ⟨w.heap.size,1,none⟩ (.slice none 0 0)).setCell ⟨w.heap.size,2,none⟩ (.slice KB n1 kd)).setCell ⟨w.heap.size,3,none⟩ (.slice IB n2 id)) s v12) ∧
  Hid (Ext s.F w ((((w16.setCell ⟨w.heap.size,0,none⟩ (.bool false)).setCell ⟨w.heap.size,1,none⟩ (.slice none 0 0)).setCell ⟨w.heap.size,2,none⟩ (.slice KB n1 kd)).setCell ⟨w.heap.size,3,none⟩ (.slice IB n2 id))):=by
 have hEw:Ext s.F w ((((w16.setCell ⟨w.heap.size,0,none⟩ (.bool false)).setCell ⟨w.heap.size,1,none⟩ (.slice none 0 0)).setCell ⟨w.heap.size,2,none⟩ (.slice KB n1 kd)).setCell ⟨w.heap.size,3,none⟩ (.slice IB n2 id)) :=
  ((((HE20.out.trans_ HE16.out.of_no).setNew (Nat.le_refl _) 0 (.bool false)).setNew (Nat.le_refl _) 1 (.slice none 0 0)).setNew (Nat.le_refl _) 2 (.slice KB n1 kd)).setNew (Nat.le_refl _) 3 (.slice IB n2 id)
 have hset:∀ (F:Nat → Prop),F w.heap.size → Ext F w16 ((((w16.setCell ⟨w.heap.size,0,none⟩ (.bool false)).setCell ⟨w.heap.size,1,none⟩ (.slice none 0 0)).setCell ⟨w.heap.size,2,none⟩ (.slice KB n1 kd)).setCell ⟨w.heap.size,3,none⟩ (.slice IB n2 id)) :=
  fun F hF=>((((Ext.refl F w16).setF hF 0 (.bool false)).setF hF 1 (.slice none 0 0)).setF hF 2 (.slice KB n1 kd)).setF hF 3 (.slice IB n2 id)
 have hwin:=HWF.out w.heap.size (.inr rfl)
 generalize ((((w16.setCell ⟨w.heap.size,0,none⟩ (.bool false)).setCell ⟨w.heap.size,1,none⟩ (.slice none 0 0)).setCell ⟨w.heap.size,2,none⟩ (.slice KB n1 kd)).setCell ⟨w.heap.size,3,none⟩ (.slice IB n2 id)) = wx at *
 refine ⟨Lib.hid ⟨Rd.nil_ _,?_,?_,Nat.le_refl _,by rw [e1];exact HC14.out,by rw [e2];exact HC16.out,by simp,by rw [e1];omega,by rw [e2];omega,fun _=>rfl,HN14.out,HN16.out⟩,Lib.hid ?_,Lib.hid hEw⟩
 ·show Rd wx _ 1 KB ks.length (keyVals ks)
  rw [e1]
  exact (HRK.out.ext (hset _ (.inl hwin))).mono (by omega) (fun b _ hb=>.inl (HWF.out b hb))
 ·show Rd wx _ 1 IB is.length (kidVals is)
  rw [e2]
  exact (HRI.out.ext (hset _ hwin)).mono (by omega) (fun b _ hb=>HWF.out b hb)
 ·have hg:Ext (On w.heap.size) w12 wx:=(HX20.out.trans_ HE16.out).of_no.trans_ (hset (On w.heap.size) rfl)
  exact HT12.out.local_ hg (fun h=>by have h1:=HOLD.out s.t (.inl rfl);have h2:s.t = w.heap.size:=h;omega) (fun h=>by have h1:=HOLD.out s.m (.inr rfl);have h2:s.m = w.heap.size:=h;omega) (HDB.out _ hEw)
theorem shrink_any (s:Sys) (hs:s.Ok) (root:Nat) (hroot:root < 4) (v:V) (ws:List Stp) (n:Nd) (hne:ws ≠ []) (hup:∀ st ∈ ws.dropLast,UpOk st) (hN:NOk n):ShrinkOk s root v ws n:=by
 intro w gx F A cap l a h hg hx hF hWA hlw hn hf
 have hwl:∃ m,ws.length = m + 1:=by cases hz:ws.length <;> simp_all
 obtain ⟨m,hwl⟩:=hwl
 have hll:l.length = m + 1:=by rw [← hwl,← hlw,List.length_map]
 obtain ⟨b,o,hA,hbF,_⟩:=hWA.rd.2 (by omega)
 subst hA
 have hcap:m + 1 ≤ cap:=by have:=hWA.cap;omega
 have hm41:m < 65536:=by have:=hWA.len;omega
 have HWA:=Lib.hid (hWA.mono (G:=s.F) (fun b _=>hF b))
 have HX:=Lib.hid (fun (w':World) (e:Ext s.F w w')=>tree_ext h hx e)
 have HOLD:=Lib.hid (fun b (hb:s.F b)=>h.old hb)
 have HDB:=Lib.hid (fun (w':World) (e:Ext s.F w w')=>hs.keep _ _ e h.db)
 have HLT:=Lib.hid (fun i (hi:i < m + 1)=>(⟨_,List.getElem?_eq_getElem (by omega)⟩:∃ p,l[i]? = some p))
 have HLW:=Lib.hid hlw
 have HLL:=Lib.hid hll
 have HUP:=Lib.hid hup
 have HWL:=Lib.hid hwl
 have HT0:=Lib.hid (h.no hs ((Ext.refl No w).alloc (.cells #[.bool n.leaf,.slice a.A1 n.cells.length a.c1,.slice a.A2 n.keys.length a.c2,.slice a.A3 n.kids.length a.c3] 40)))
 have HN0:Hid (NodeIn (w.alloc (.cells #[.bool n.leaf,.slice a.A1 n.cells.length a.c1,.slice a.A2 n.keys.length a.c2,.slice a.A3 n.kids.length a.c3] 40)) (fun b=>s.F b ∨ b = w.heap.size) a n):=Lib.hid ((hn.mono (G:=fun b=>s.F b ∨ b = w.heap.size) (fun b hb h=>h.elim (hF b) (fun e=>absurd e (by omega)))).box _)
 have HNK0:=Lib.hid hN
 have HG0:=Lib.hid hg
 obtain ⟨D,hD⟩:∃ D,D = V.shrink s.cap root ws.reverse n v:=⟨_,rfl⟩
 rw [← hD,hwl]
 have HD:Hid (V.shrink s.cap root (ws.take (m + 1)).reverse n v = D):=Lib.hid (by rw [hD,← hwl,List.take_length])
 have HBN:=Lib.hid (Blk.new w 40 #[.bool n.leaf,.slice a.A1 n.cells.length a.c1,.slice a.A2 n.keys.length a.c2,.slice a.A3 n.kids.length a.c3])
 have HE0:=Lib.hid ((Ext.refl s.F w).alloc (.cells #[.bool n.leaf,.slice a.A1 n.cells.length a.c1,.slice a.A2 n.keys.length a.c2,.slice a.A3 n.kids.length a.c3] 40))
 simp only [Nd.value]
 clear hD hlw hup hwl hll hbF hF hn hf hx hg h hne hWA hN
 go_enter Tryz.func102,Tryz.ntmps102
 go_wp2_with fail
 obtain ⟨W0,hW0⟩:∃ W0,W0 = (w.alloc (.cells #[.bool n.leaf,.slice a.A1 n.cells.length a.c1,.slice a.A2 n.keys.length a.c2,.slice a.A3 n.kids.length a.c3] 40)):=⟨_,rfl⟩
 rw [← hW0] at HT0 HN0 HBN HE0 ⊢
 clear hW0
 go_step3
 go_wp2_with fail
 go_step3
 go_wp2_with fail
 go_loopg [1,7] (m + 1) (fun gk ww k wr=>∃ (kk:Nat) (n':Nd) (v':V) (a':Adr),ww = .slice (some ⟨b,o,none⟩) (kk + 1) cap ∧ k = .int .i64 (kk:Int) ∧ Hid (gk = kk + 1) ∧ Hid (kk < m + 1) ∧ Blk wr w.heap.size 40 #[.bool n'.leaf,.slice a'.A1 n'.cells.length a'.c1,.slice a'.A2 n'.keys.length a'.c2,.slice a'.A3 n'.kids.length a'.c3] ∧
  Hid (NodeIn wr (fun b=>s.F b ∨ b = w.heap.size) a' n') ∧ Hid (NOk n') ∧ Hid (TxAt wr s v') ∧ Hid v'.Good ∧ Hid (Ext s.F w wr) ∧ Hid (V.shrink s.cap root (ws.take (kk + 1)).reverse n' v' = D))
 case atStart=>exact ⟨m,n,v,a,rfl,by go_num,Lib.hid rfl,Lib.hid (by omega),HBN.out,HN0,HNK0,HT0,HG0,HE0,HD⟩
 case round =>
  clear HBN HN0 HNK0 HT0 HG0 HE0 HD
  obtain ⟨kk,n',v',a',rfl,rfl,hgk,hkk,hbn,HN,HNK,HT,HG,HE,HD⟩:=hrel
  obtain ⟨⟨st,ad⟩,hp⟩:=HLT.out kk hkk.out
  obtain ⟨_,_,hAe,_,q0,_⟩:=(HWA.out.ext HE.out).at hp
  injection hAe with hAe;injection hAe with e1 e2
  subst e1;subst e2
  simp only at q0
  have lq:=World.block_lt_of_cell? _ _ q0
  simp only at lq
  have hws:ws[kk]? = some st:=by rw [← HLW.out,List.getElem?_map,hp];rfl
  have HP:=Lib.hid hp
  have hkc:kk + 1 ≤ cap:=by have:=hkk.out;omega
  have hkb:kk < 65536:=by have:=hkk.out;omega
  have HDD:=HD.out
  rw [take_rev hws] at HDD
  have HD':=Lib.hid HDD
  have HST:=Lib.hid (fun fst=>settle_any s hs wr.drew v' (HT.out.no hs (Ext.refl No wr).drew) HG.out gx root (HX.out _ HE.out.drew) hroot st.id n' a' ((HN.out.mono (G:=s.F) (fun b _ hb=>Or.inl hb)).ext (Ext.refl s.F wr).drew) HNK.out fst)
  have HSZ:=Lib.hid (Size_any n' wr _ _ _ _ _ _ _ HN.out HNK.out.f)
  obtain ⟨p0,p1,p2,p3,g0,g1,g2,g3,ln⟩:=hbn.p4
  have HBN:=Lib.hid hbn
  simp only [Nd.value] at HST HSZ
  rw [show n'.Size = n'.Sz from rfl] at HSZ
  clear HDD HD hws hbn HLT
  obtain ⟨A1,c1,A2,c2,A3,c3⟩:=a'
  simp only at HST HSZ p0 p1 p2 p3
  by_cases hk0:kk = 0
  ·subst hk0
   have hd:=HD'.out
   simp only [List.take_zero,List.reverse_nil] at hd
   have hd2:v'.settle root st.id n' true = D:=hd
   have HST1:=Lib.hid (HST.out true)
   rw [hd2] at HST1
   simp only [Nat.zero_mul,Nat.add_zero] at q0
   have hw0:IntKind.i64.wrap 0 = 0:=rfl
   clear hd hd2 HST
   go_wp2_with fail
   go_region_law ((go_simp;go_at_call 153;refine HST1.out.mono ?_;rintro e w2 ⟨rfl,hT,hG,hx2⟩;have HT2:=Lib.hid hT;have HG2:=Lib.hid hG;have HX2:=Lib.hid hx2;clear hT hG hx2))
   all_goals (
    go_wp2_with fail
    try rw [Exit.noGoto_ret]
    go_ret
    exact ⟨rfl,HT2.out,HG2.out,HE.out.drew.trans_ HX2.out⟩)
  ·obtain ⟨j,hj⟩:∃ j,kk = j + 1:=⟨kk - 1,by omega⟩
   have HJ:=Lib.hid hj
   have hkp:(0:Int) < (kk:Int):=by omega
   obtain ⟨⟨sp,ap⟩,hpp⟩:∃ q,l[j]? = some q:=⟨_,List.getElem?_eq_getElem (by have:=(List.getElem?_eq_some_iff.1 hp).1;omega)⟩
   have HPP:=Lib.hid hpp
   have hwsj:ws[j]? = some sp:=by rw [← HLW.out,List.getElem?_map,hpp];rfl
   have HWSJ:=Lib.hid hwsj
   have hupk:UpOk sp:=HUP.out sp (by
    have hkl:=hkk.out
    have hwm:=HWL.out
    refine List.mem_iff_getElem?.2 ⟨j,?_⟩
    rw [List.getElem?_dropLast,if_pos (by omega)]
    exact hwsj)
   have HUPK:=Lib.hid hupk
   have hdd:=HD'.out
   have htk:(ws.take kk).reverse = sp :: (ws.take j).reverse:=by rw [hj];exact take_rev hwsj
   have HTK:=Lib.hid htk
   rw [htk,V.shrink] at hdd
   have HDJ:=Lib.hid hdd
   clear hdd htk hwsj hupk hpp hp hj hk0 HD'
   go_wp2_with fail
   refine HSZ.out.mono ?_
   rintro e w2 ⟨rfl,hx2⟩
   have HX2:=Lib.hid hx2
   have HE2:=Lib.hid (HE.out.trans_ hx2.of_no)
   have HT2:=Lib.hid (HT.out.no hs hx2)
   have HN2:=Lib.hid (HN.out.ext hx2.of_no)
   have hb2:=HBN.out.ext hx2 (fun h=>h)
   have HBN2:=Lib.hid hb2
   clear p0 p1 p2 p3 g0 g1 g2 g3 ln q0 lq hx2
   obtain ⟨p0,p1,p2,p3,g0,g1,g2,g3,ln⟩:=hb2.p4
   clear hb2
   by_cases hbig:166 ≤ n'.Sz
   ·have hd:=HDJ.out
    rw [if_pos hbig] at hd
    obtain ⟨_,_,hAe,_,q0,_⟩:=(HWA.out.ext HE2.out).at HP.out
    injection hAe with hAe;injection hAe with e1 e2
    subst e1;subst e2
    simp only at q0
    have lq:=World.block_lt_of_cell? _ _ q0
    simp only at lq
    have HSTF:=Lib.hid (settle_any s hs w2.drew v' (HT2.out.no hs (Ext.refl No w2).drew) HG.out gx root (HX.out _ HE2.out.drew) hroot st.id n' _ ((HN2.out.mono (G:=s.F) (fun b _ hb=>Or.inl hb)).ext (Ext.refl s.F w2).drew) HNK.out false)
    rw [hd] at HSTF
    simp only [Nd.value] at HSTF
    have hbi:(166:Int) ≤ (n'.Sz:Int):=by omega
    have hn1:(((kk:Int) + 1) == 1) = false:=beq_eq_false_iff_ne.2 (by omega)
    have hkk2:(kk:Int) < (kk:Int) + 1:=by omega
    have hwk:IntKind.i64.wrap (kk:Int) = (kk:Int):=IntWalk.i64_in _ (by omega)
    have hn2:¬ ((kk:Int) = 0):=by omega
    clear hd hbig HST
    go_wp2_with fail
    go_region_law ((go_simp;go_at_call 153;refine HSTF.out.mono ?_;rintro e w3 ⟨rfl,hT,hG,hx2⟩;have HT3:=Lib.hid hT;have HG3:=Lib.hid hG;have HX3:=Lib.hid hx2;clear hT hG hx2))
    all_goals (
     go_wp2_with fail
     try rw [Exit.noGoto_ret]
     go_ret
     exact ⟨rfl,HT3.out,HG3.out,HE2.out.drew.trans_ HX3.out⟩)
   ·have hd:=HDJ.out
    rw [if_neg hbig] at hd
    have HDB2:=Lib.hid hd
    have hbi:¬ ((166:Int) ≤ (n'.Sz:Int)):=by omega
    clear hd hbig HST HSZ HDJ
    obtain ⟨_,_,hAe,_,q0,q1,q2,q3,q4,q5⟩:=(HWA.out.ext HE2.out).at HPP.out
    injection hAe with hAe;injection hAe with e1 e2
    subst e1;subst e2
    simp only at q0 q1 q2 q3 q4 q5
    have lq:=World.block_lt_of_cell? _ _ q0
    simp only at lq
    have hjm:IntKind.i64.wrap ((kk:Int) - 1) = (j:Int):=by have:=HJ.out;rw [IntWalk.i64_in _ (by omega)];omega
    have hj1:(j:Int) < (kk:Int) + 1:=by have:=HJ.out;omega
    go_wp2_with fail
    obtain ⟨W5,hW5⟩:∃ W5,W5 = (w2.alloc (.cells #[.bool sp.n.leaf,.slice ap.A1 sp.n.cells.length ap.c1,.slice ap.A2 sp.n.keys.length ap.c2,.slice ap.A3 sp.n.kids.length ap.c3] 40)):=⟨_,rfl⟩
    have hE25:Ext No w2 W5:=by rw [hW5];exact (Ext.refl No w2).alloc _
    have hBP:Blk W5 w2.heap.size 40 #[.bool sp.n.leaf,.slice ap.A1 sp.n.cells.length ap.c1,.slice ap.A2 sp.n.keys.length ap.c2,.slice ap.A3 sp.n.kids.length ap.c3]:=by rw [hW5];exact Blk.new w2 40 _
    have hW5s:W5.heap.size = w2.heap.size + 1:=by rw [hW5];simp
    have HW5S:=Lib.hid hW5s
    rw [← hW5]
    have HE5:=Lib.hid (HE2.out.trans_ hE25.of_no)
    have HT5:=Lib.hid (HT2.out.no hs hE25)
    have HN5:=Lib.hid (HN2.out.ext hE25.of_no)
    have hb5:=HBN2.out.ext hE25 (fun h=>h)
    have HBN5:=Lib.hid hb5
    have HBP:=Lib.hid hBP
    have hk5:=cell_ext hE25 q5 (fun h=>h)
    have lq5:b < W5.heap.size:=World.block_lt_of_cell? _ _ hk5
    have hspO:=Nd.Ok.of HUPK.out.2.1
    have hspkk:=(hspO.br HUPK.out.1).2
    have HSPN:=Lib.hid ((HWA.out.ext HE5.out).nodes _ (List.mem_of_getElem? HPP.out))
    have HBS:=Lib.hid (fun w' (e:Ext No W5 w')=>beside_any s hs v' sp.n n' sp.i gx root w' No ap ⟨A1,c1,A2,c2,A3,c3⟩ (HT5.out.no hs e) HG.out (HX.out _ (HE5.out.trans_ e.of_no)) ((HSPN.out.mono (fun _ _ h=>h.elim)).ext e) ((HN5.out.mono (fun _ _ h=>h.elim)).ext e) (Nd.Ok.fits hspO) HNK.out.f hspkk (by have:=HUPK.out.2.2;omega))
    obtain ⟨r,hr⟩:∃ r,r = v'.beside sp.n sp.i n':=⟨_,rfl⟩
    have hro:r.1 = 0 → r.2.2.ok = true ∧ r.2.1 < sp.n.keys.length:=fun h0=>by rw [hr] at h0 ⊢;exact beside_ok h0 HUPK.out.2.2
    have HRO:=Lib.hid hro
    have hd:=HDB2.out
    rw [← hr] at HBS hd
    have HD5:=Lib.hid hd
    simp only [Nd.value] at HBS
    clear hro hr hd hW5 hE25 p0 p1 p2 p3 g0 g1 g2 g3 ln q0 q1 q2 q3 q4 q5 lq HDB2 hspO hspkk
    obtain ⟨p0,p1,p2,p3,g0,g1,g2,g3,ln⟩:=hb5.p4
    obtain ⟨z0,z1,z2,z3,y0,y1,y2,y3,lz⟩:=hBP.p4
    have HK5:=Lib.hid hk5
    have hww:w.heap.size < W5.heap.size:=ln
    have ne1:¬ (w2.heap.size = W5.heap.size):=by omega
    have ne2:¬ (W5.heap.size = w2.heap.size):=by omega
    have ne3:¬ (w.heap.size = W5.heap.size):=by omega
    have ne4:¬ (W5.heap.size = w.heap.size):=by omega
    have ne5:¬ (b = W5.heap.size):=by omega
    have ne6:¬ (W5.heap.size = b):=by omega
    clear hb5 hBP hW5s
    go_cut [9,10,11] (fun x9 x10 x11 wx=>∃ (bb:Nat) (c:Adr),x9 = .int .i64 (r.2.1:Int) ∧ x10 = .pointer (some ⟨bb,0,none⟩) ∧ x11 = .int .i64 (r.1:Int) ∧ Hid (W5.heap.size ≤ bb) ∧ Hid (Blk wx bb 40 #[.bool r.2.2.leaf,.slice c.A1 r.2.2.cells.length c.c1,.slice c.A2 r.2.2.keys.length c.c2,.slice c.A3 r.2.2.kids.length c.c3]) ∧
     Hid (Ext No W5 wx) ∧ Hid (r.1 = 0 → NodeIn wx (fun b=>b < W5.heap.size) c r.2.2))
    case first =>
     go_region_held3 (fun w'=>w'.cell? ⟨w2.heap.size,0,none⟩ = some (.bool sp.n.leaf) ∧ w'.cell? ⟨w2.heap.size,1,none⟩ = some (.slice ap.A1 sp.n.cells.length ap.c1) ∧ w'.cell? ⟨w2.heap.size,2,none⟩ = some (.slice ap.A2 sp.n.keys.length ap.c2) ∧ w'.cell? ⟨w2.heap.size,3,none⟩ = some (.slice ap.A3 sp.n.kids.length ap.c3) ∧ w'.cell? ⟨w.heap.size,0,none⟩ = some (.bool n'.leaf) ∧ w'.cell? ⟨w.heap.size,1,none⟩ = some (.slice A1 n'.cells.length c1) ∧ w'.cell? ⟨w.heap.size,2,none⟩ = some (.slice A2 n'.keys.length c2) ∧ w'.cell? ⟨w.heap.size,3,none⟩ = some (.slice A3 n'.kids.length c3) ∧ w'.cell? ⟨b,o + j * 6 + 5,none⟩ = some (.int .i64 (sp.i:Int))) (go_keep)
      ((
       go_at_call 149;refine (HBS.out _ ?_).mono ?_;(with_reducible (repeat' (first | exact Ext.refl _ _ | apply Ext.drew | apply Ext.alloc)));rintro e w7 ⟨hx7,c,rfl,hn7⟩;simp only [Nd.value];have hE57:Ext No W5 w7:=(by refine Ext.trans_ ?_ hx7;(with_reducible (repeat' (first | exact Ext.refl _ _ | apply Ext.drew | apply Ext.alloc))));have HE57:=Lib.hid hE57;have hN7:r.1 = 0 → NodeIn w7 (fun b=>b < W5.heap.size) c r.2.2:=(fun h0=>(hn7 h0).mono (fun b _ hb=>by show b < _;first | exact hb | (simp;exact hb) | (simp;omega)));have HN7:=Lib.hid hN7;
       (first | ((with_reducible have hy:=(hx7:Ext No (W5.alloc (.cells #[.bool false,.slice none 0 0,.slice none 0 0,.slice none 0 0] 40)).drew w7));have hbx:=Blk.of_ext hy ((Blk.new W5 40 #[.bool false,.slice none 0 0,.slice none 0 0,.slice none 0 0]).drew1) (fun h=>h);have HBX:=Lib.hid hbx;have HNY:Hid (r.1 = 0 → NodeIn w7 (fun b=>b < W5.heap.size + 1) c r.2.2):=Lib.hid (fun h0=>(hn7 h0).mono (fun b _ hb=>by show b < _;simp;omega));obtain ⟨x0,x1,x2,x3,v0,v1,v2,v3,lx⟩:=hbx.p4;clear hy hbx) | skip);
       have P0:=cell_ext hE57 p0 (fun h=>h);have P1:=cell_ext hE57 p1 (fun h=>h);have P2:=cell_ext hE57 p2 (fun h=>h);have P3:=cell_ext hE57 p3 (fun h=>h);have Z0:=cell_ext hE57 z0 (fun h=>h);have Z1:=cell_ext hE57 z1 (fun h=>h);have Z2:=cell_ext hE57 z2 (fun h=>h);have Z3:=cell_ext hE57 z3 (fun h=>h);have K5:=cell_ext hE57 hk5 (fun h=>h);have L7:=hE57.size;have m1:¬ (w2.heap.size = w7.heap.size):=(by omega);have m2:¬ (w7.heap.size = w2.heap.size):=(by omega);have m3:¬ (w.heap.size = w7.heap.size):=(by omega);have m4:¬ (w7.heap.size = w.heap.size):=(by omega);have m5:¬ (b = w7.heap.size):=(by omega);have m6:¬ (w7.heap.size = b):=(by omega);clear hx7 hE57 hn7 hN7))
     all_goals (
      go_wp2_with fail
      go_meet
      first
       | (
         refine ⟨W5.heap.size,c,rfl,rfl,rfl,Lib.hid (Nat.le_refl _),Lib.hid (HBX.out.put4 (.bool r.2.2.leaf) (.slice c.A1 r.2.2.cells.length c.c1) (.slice c.A2 r.2.2.keys.length c.c2) (.slice c.A3 r.2.2.kids.length c.c3)),Lib.hid ((((HE57.out.setNew (Nat.le_refl W5.heap.size) 0 (.bool r.2.2.leaf)).setNew (Nat.le_refl W5.heap.size) 1 (.slice c.A1 r.2.2.cells.length c.c1)).setNew (Nat.le_refl W5.heap.size) 2 (.slice c.A2 r.2.2.keys.length c.c2)).setNew (Nat.le_refl W5.heap.size) 3 (.slice c.A3 r.2.2.kids.length c.c3)),Lib.hid (fun h0=>?_)⟩
         have hon:(fun b=>b < W5.heap.size + 1) W5.heap.size:=Nat.lt_succ_self _
         exact ((HNY.out h0).ext (((((Ext.refl (fun b=>b < W5.heap.size + 1) w7).setF hon 0 (.bool r.2.2.leaf)).setF hon 1 (.slice c.A1 r.2.2.cells.length c.c1)).setF hon 2 (.slice c.A2 r.2.2.keys.length c.c2)).setF hon 3 (.slice c.A3 r.2.2.kids.length c.c3))).mono (fun b _ hb=>Nat.lt_succ_of_lt hb))
       | exact ⟨w7.heap.size,c,rfl,rfl,rfl,Lib.hid L7,Lib.hid (Blk.new w7 40 #[.bool r.2.2.leaf,.slice c.A1 r.2.2.cells.length c.c1,.slice c.A2 r.2.2.keys.length c.c2,.slice c.A3 r.2.2.kids.length c.c3]),Lib.hid (HE57.out.alloc _),Lib.hid (fun h0=>(HN7.out h0).box _)⟩)
    case rest =>
     clear p0 p1 p2 p3 g0 g1 g2 g3 ln z0 z1 z2 z3 y0 y1 y2 y3 lz hk5 lq5
     obtain ⟨bb,c,rfl,rfl,rfl,HBB,HBK,HXC,HNB⟩:=hcut
     have HEC:=Lib.hid (HE5.out.trans_ HXC.out.of_no)
     have HTC:=Lib.hid (HT5.out.no hs HXC.out)
     have hkc2:(kk:Int) ≤ (cap:Int):=by omega
     have hkc3:kk ≤ cap:=by omega
     by_cases hr0:r.1 = 0
     ·obtain ⟨hbok,hbat⟩:=HRO.out hr0
      have HBOK:=Lib.hid hbok;have HBAT:=Lib.hid hbat
      have hd:=HD5.out
      rw [if_neg (by rw [hr0];simp)] at hd
      have HD6:=Lib.hid hd
      have HNB1:=Lib.hid (HNB.out hr0)
      obtain ⟨at_,hat⟩:∃ at_,at_ = r.2.1:=⟨_,rfl⟩
      obtain ⟨both,hbth⟩:∃ both,both = r.2.2:=⟨_,rfl⟩
      rw [← hat,← hbth] at HD6
      rw [← hat] at HBAT ⊢
      rw [← hbth] at HBOK HBK HNB1
      rw [hr0]
      have HSZ2:=Lib.hid (Size_any both wc _ _ _ _ _ _ _ HNB1.out (Nd.Ok.fits (Nd.Ok.of HBOK.out)))
      rw [show both.Size = both.Sz from rfl] at HSZ2
      simp only [Nd.value] at HSZ2
      obtain ⟨p0,p1,p2,p3,g0,g1,g2,g3,ln⟩:=HBK.out.p4
      clear hbok hbat hd HD5 HRO HNB HBS hat hbth hr0
      go_wp2_with fail
      refine HSZ2.out.mono ?_
      rintro e w8 ⟨rfl,hx8⟩
      have HX8:=Lib.hid (HXC.out.trans_ hx8)
      have HE8:=Lib.hid (HEC.out.trans_ hx8.of_no)
      have HT8:=Lib.hid (HTC.out.no hs hx8)
      have HBK8:=Lib.hid (HBK.out.ext hx8 (fun h=>h))
      have HNB8:=Lib.hid (HNB1.out.ext hx8.of_no)
      have HBP8:=Lib.hid (HBP.out.ext (HXC.out.trans_ hx8) (fun h=>h))
      have HSP8:=Lib.hid (HSPN.out.ext (HXC.out.trans_ hx8).of_no)
      have HBN8:=Lib.hid (HBN5.out.ext (HXC.out.trans_ hx8) (fun h=>h))
      clear p0 p1 p2 p3 g0 g1 g2 g3 ln hx8
      obtain ⟨p0,p1,p2,p3,g0,g1,g2,g3,ln⟩:=HBK8.out.p4
      obtain ⟨z0,z1,z2,z3,y0,y1,y2,y3,lz⟩:=HBP8.out.p4
      have hFW:∀ b,s.F b → b < W5.heap.size:=fun b hb=>by have h1:=HOLD.out b hb;omega
      have HFW:=Lib.hid hFW
      have HJL:=Lib.hid (show kk ≤ l.length by have h1:=hkk.out;have h2:=HLL.out;omega)
      clear hFW
      by_cases hbg:500 < both.Sz
      ·have hd:=HD6.out
       rw [if_pos hbg,← HTK.out] at hd
       have hbgi:(500:Int) < (both.Sz:Int):=by omega
       have hsz5:500 < both.size:=by unfold Nd.Sz at hbg;rw [if_pos HBOK.out] at hbg;exact hbg
       have hlen:(ws.take kk).length = kk:=by rw [List.length_take];have h1:=hkk.out;have h2:=HWL.out;omega
       have hlast:(ws.take kk).getLast? = some sp:=by
        rw [List.getLast?_eq_getElem?,hlen,List.getElem?_take,if_pos (by omega)]
        rw [show kk - 1 = j from by have:=HJ.out;omega]
        exact HWSJ.out
       have hupt:∀ st ∈ ws.take kk,UpOk st:=fun st hst=>HUP.out st (by
        have h1:ws.take kk = ws.dropLast.take kk:=by rw [List.dropLast_eq_take,List.take_take,HWL.out];congr 1;have:=hkk.out;omega
        rw [h1] at hst
        exact List.mem_of_mem_take hst)
       have HSHR:=Lib.hid (share_any s hs root hroot v' (ws.take kk) both at_ sp hlast hupt HBOK.out hsz5 HBAT.out w8 gx s.F (some ⟨b,o,none⟩) cap (l.take kk) c HT8.out HG.out (HX.out _ HE8.out) (fun b hb=>hb) ((HWA.out.ext HE8.out).take kk HJL.out) (by rw [← HLW.out,List.map_take]) (HNB8.out.mono (fun b _ hb=>HFW.out b hb)))
       rw [hlen,hd] at HSHR
       simp only [Nd.value] at HSHR
       clear hd hbg hsz5 hlen hlast hupt
       go_wp2_with fail
       refine HSHR.out.mono ?_
       rintro e w9 ⟨rfl,hT9,hG9,hx9⟩
       have hx:=HE8.out.trans_ hx9
       go_wp2_with fail
       try rw [Exit.noGoto_ret]
       go_ret
       exact ⟨rfl,hT9,hG9,hx⟩
      ·have hd:=HD6.out
       rw [if_neg hbg] at hd
       have hbgi:¬ ((500:Int) < (both.Sz:Int)):=by omega
       have HD7:=Lib.hid hd
       clear hd hbg
       have hspO:=Nd.Ok.of HUPK.out.2.1
       have hspkk:=(hspO.br HUPK.out.1).2
       have hspa:=hspO.a2
       have hatk:=HBAT.out
       obtain ⟨k1,hk1⟩:∃ k,sp.n.kids[at_]? = some k:=⟨_,List.getElem?_eq_getElem (by omega)⟩
       obtain ⟨k2,hk2⟩:∃ k,sp.n.kids[at_ + 1]? = some k:=⟨_,List.getElem?_eq_getElem (by omega)⟩
       obtain ⟨kb,ko,hA3,_,hc1⟩:=HSP8.out.kids.kidAt hk1
       have lk:=World.block_lt_of_cell? _ _ hc1
       simp only at lk
       have eg1:sp.n.kids.getD at_ 0 = k1:=by rw [List.getD_eq_getElem?_getD,hk1];rfl
       have eg2:sp.n.kids.getD (at_ + 1) 0 = k2:=by rw [List.getD_eq_getElem?_getD,hk2];rfl
       have hdd:=HD7.out
       rw [eg1,eg2] at hdd
       have HA3:=Lib.hid hA3;have HK2:=Lib.hid hk2
       rw [hA3] at z3
       have hx1:(at_:Int) < (sp.n.kids.length:Int):=by omega
       have hx2:(at_:Int) + 1 < (sp.n.kids.length:Int):=by omega
       have hx3:IntKind.i64.wrap ((at_:Int) + 1) = (at_:Int) + 1:=IntWalk.i64_in _ (by omega)
       have hx5:IntKind.i64.wrap ((at_:Int) + 2) = (at_:Int) + 2:=IntWalk.i64_in _ (by omega)
       have hx6:(0:Int) ≤ (at_:Int) + 1:=by omega
       have HW12:=Lib.hid (wr_any s hs w8.drew v' (HT8.out.no hs (Ext.refl No w8).drew) HG.out gx root (HX.out _ HE8.out.drew) k1 both s.F _ _ _ _ _ _ ((HNB8.out.mono (fun b _ hb=>HFW.out b hb)).ext (Ext.refl _ w8).drew) (Nd.Ok.fits (Nd.Ok.of HBOK.out)))
       obtain ⟨r12,hr12⟩:∃ r12,r12 = v'.wr k1 both:=⟨_,rfl⟩
       rw [← hr12] at HW12 hdd
       have HD12:=Lib.hid hdd
       simp only [Nd.value] at HW12
       clear hspO hspkk hspa hk1 hk2 hA3 eg1 eg2 hdd hr12 HD7 HD6
       go_wp2_with fail
       go_cut [12] (fun k9 wx=>k9 = .int .i64 (r12.1:Int) ∧ Hid (TxAt wx s r12.2) ∧ Hid r12.2.Good ∧ Hid (Ext s.F w8 wx))
       case first =>
        go_region_law ((go_simp;go_at_call 141;refine HW12.out.mono ?_;rintro e w2 ⟨rfl,hT,hG,hx2⟩;have HTa:=Lib.hid hT;have HGa:=Lib.hid hG;have HXa:=Lib.hid hx2;clear hT hG hx2))
        all_goals (
         go_wp2_with fail
         go_meet
         exact ⟨rfl,HTa,HGa,Lib.hid ((Ext.refl s.F w8).drew.trans_ HXa.out)⟩)
       case rest =>
        clear p0 p1 p2 p3 g0 g1 g2 g3 ln HW12 z0 z1 z2 z3 y0 y1 y2 y3 lz hc1 lk
        obtain ⟨rfl,HT12,HG12,HX12⟩:=hcut
        obtain ⟨c12,v12⟩:=r12
        simp only at HT12 HG12 HD12 ⊢
        have HE12:=Lib.hid (HE8.out.trans_ HX12.out)
        by_cases h12:c12 = 0
        ·subst h12
         have hdd:=HD12.out
         rw [if_neg (by simp)] at hdd
         have HBP12:=Lib.hid (HBP8.out.ext HX12.out (fun hb=>by have h1:=HOLD.out _ hb;have h2:=HE2.out.size;omega))
         have HBN12:=Lib.hid (HBN8.out.ext HX12.out (fun hb=>absurd (HOLD.out _ hb) (Nat.lt_irrefl _)))
         have HSP12:=Lib.hid (HSP8.out.ext HX12.out)
         obtain ⟨z0,z1,z2,z3,y0,y1,y2,y3,lz⟩:=HBP12.out.p4
         obtain ⟨_,_,hAe,_,d2⟩:=HSP12.out.kids.kidAt (k:=k2) (i:=at_ + 1) HK2.out
         rw [HA3.out] at hAe z3
         injection hAe with hAe;injection hAe with e1 e2
         subst e1;subst e2
         have ld:=World.block_lt_of_cell? _ _ d2
         simp only at ld
         have hXt:=HX.out _ HE12.out
         have t0:=hXt.cell 0
         simp [treeCells] at t0
         have lt0:=hXt.lt
         have HFR:=Lib.hid (free_any s hs wc.drew v12 (HT12.out.no hs (Ext.refl No wc).drew) HG12.out k2)
         have hgd:=HG12.out.drop k2
         obtain ⟨r15,hr15⟩:∃ r15,r15 = v12.drop k2:=⟨_,rfl⟩
         rw [← hr15] at HFR hdd hgd
         have HGD:=Lib.hid hgd
         have HD15:=Lib.hid hdd
         clear hdd hr15 hgd hXt
         go_wp2_with fail
         go_cut [13] (fun k9 wx=>k9 = .int .i64 (r15.1:Int) ∧ Hid (TxAt wx s r15.2) ∧ Hid (Ext s.F wc wx))
         case first =>
          go_region_law ((go_simp;go_at_call 142;refine HFR.out.mono ?_;rintro e w2 ⟨rfl,hT,hx2⟩;have HTa:=Lib.hid hT;have HXa:=Lib.hid hx2;clear hT hx2))
          all_goals (
           go_wp2_with fail
           go_meet
           exact ⟨rfl,HTa,Lib.hid ((Ext.refl s.F wc).drew.trans_ HXa.out)⟩)
         case rest =>
          clear z0 z1 z2 z3 y0 y1 y2 y3 lz d2 ld t0 lt0 HFR
          obtain ⟨rfl,HT15,HX15⟩:=hcut
          obtain ⟨c15,v15⟩:=r15
          simp only at HT15 HGD HD15 ⊢
          have HE15:=Lib.hid (HE12.out.trans_ HX15.out)
          by_cases h15:c15 = 0
          ·subst h15
           have hdd:=HD15.out
           rw [if_neg (by simp)] at hdd
           have HDN:Hid (V.shrink s.cap root (ws.take (j + 1)).reverse ⟨false,[],sp.n.keys.eraseIdx at_,sp.n.kids.eraseIdx (at_ + 1)⟩ v15 = D):=Lib.hid (by rw [← HJ.out,HTK.out];exact hdd)
           have hwz:w.heap.size ≤ w2.heap.size:=HE2.out.size
           have HBP15:=HBP12.out.ext HX15.out (fun hb=>by have h1:=HOLD.out _ hb;omega)
           have HBN15:=Lib.hid (HBN12.out.ext HX15.out (fun hb=>absurd (HOLD.out _ hb) (Nat.lt_irrefl _)))
           have hsp15:=HSP12.out.ext HX15.out
           obtain ⟨z0,z1,z2,z3,y0,y1,y2,y3,lz⟩:=HBP15.p4
           have hspO:=Nd.Ok.of HUPK.out.2.1
           have hspkk:=(hspO.br HUPK.out.1).2
           have hspa:=hspO.a2
           have hatk:=HBAT.out
           have HCK:Hid (∀ W',Ext No wc W' → Calls Tryz.prog 124 #[.slice ap.A2 sp.n.keys.length ap.c2] W' (Row 9 1 W' (keyVals sp.n.keys) sp.n.keys.length)):=Lib.hid (fun W' e=>clone_strings ⟨ap.A2,sp.n.keys.length,ap.c2,keyVals sp.n.keys⟩ W' ⟨(hsp15.keys.mono (G:=No) (by omega) (fun _ _ h=>h.elim)).ext e,hsp15.e2,one_keys _,hsp15.l2⟩ (by simp only;omega))
           have HCI:Hid (∀ W',Ext No wc W' → Calls Tryz.prog 146 #[.slice ap.A3 sp.n.kids.length ap.c3] W' (Row 3 1 W' (kidVals sp.n.kids) sp.n.kids.length)):=Lib.hid (fun W' e=>clone_ints ⟨ap.A3,sp.n.kids.length,ap.c3,kidVals sp.n.kids⟩ W' ⟨(hsp15.kids.mono (G:=No) (by omega) (fun _ _ h=>h.elim)).ext e,hsp15.e3,one_kids _,hsp15.l3⟩ (by simp only;omega))
           have HDK:Hid (∀ base v w,w.ownsRow base 9 1 v sp.n.keys.length (keyVals sp.n.keys) → Calls Tryz.prog 151 #[v,.int .i64 (at_:Int),.int .i64 ((at_:Int) + 1)] w (Rowed base v w (keyVals (sp.n.keys.eraseIdx at_)) (sp.n.keys.length - 1))) :=
            Lib.hid (fun base v w ho=>by
             have h0:=delete_strings sp.n.keys at_ hatk base v w ho
             rw [show (((at_ + 1:Nat):Int)) = (at_:Int) + 1 from by omega] at h0
             exact h0)
           have HDI:Hid (∀ base v w,w.ownsRow base 3 1 v sp.n.kids.length (kidVals sp.n.kids) → Calls Tryz.prog 152 #[v,.int .i64 ((at_:Int) + 1),.int .i64 ((at_:Int) + 2)] w (Rowed base v w (kidVals (sp.n.kids.eraseIdx (at_ + 1))) (sp.n.kids.length - 1))) :=
            Lib.hid (fun base v w ho=>by
             have h0:=delete_ints sp.n.kids (at_ + 1) (by omega) base v w ho
             rw [show (((at_ + 1:Nat):Int)) = (at_:Int) + 1 from by omega,show (((at_ + 1 + 1:Nat):Int)) = (at_:Int) + 2 from by omega] at h0
             exact h0)
           have HNKN:=Lib.hid (erase_NOk HUPK.out.2.1 HUPK.out.1 hatk)
           have ek:(sp.n.keys.eraseIdx at_).length = sp.n.keys.length - 1:=by rw [List.length_eraseIdx,if_pos hatk]
           have ei:(sp.n.kids.eraseIdx (at_ + 1)).length = sp.n.kids.length - 1:=by rw [List.length_eraseIdx,if_pos (by omega)]
           have HEK:=Lib.hid ek;have HEI:=Lib.hid ei
           have HB1:=Lib.hid (show sp.n.keys.length - 1 < 65536 by omega);have HB2:=Lib.hid (show sp.n.kids.length - 1 < 65536 by omega)
           have hwlt:w.heap.size < wc.heap.size:=HBN15.out.lt
           have HWF:=Lib.hid (show ∀ b,(s.F b ∨ b = w.heap.size) → b < wc.heap.size from fun b hb=>by
            rcases hb with hb | hb
            ·have:=HOLD.out b hb;omega
            ·omega)
           have HX20:=Lib.hid (Ext.refl No wc)
           have nn1:¬ (w2.heap.size = w.heap.size):=by have h1:=HBN2.out.lt;omega
           have nn2:¬ (w.heap.size = w2.heap.size):=fun h=>nn1 h.symm
           clear hdd hsp15 HBP15 hspO hspkk hspa hatk ek ei
           go_wp2_with fail
           go_region_held3 (fun w'=>w'.cell? ⟨w2.heap.size,2,none⟩ = some (.slice ap.A2 sp.n.keys.length ap.c2) ∧ w'.cell? ⟨w2.heap.size,3,none⟩ = some (.slice ap.A3 sp.n.kids.length ap.c3)) (go_keep)
            (first
             | (go_at_call 124;refine (HCK.out _ ?_).mono ?_;(with_reducible (repeat' (first | exact Ext.refl _ _ | apply Ext.drew | apply Ext.alloc)));rintro e w13 ⟨KA,kc,rfl,hown,hx13⟩;have HO13:=Lib.hid hown;have HX13:=Lib.hid hx13;have hE13:Ext No wc w13:=(by refine Ext.trans_ ?_ hx13;(with_reducible (repeat' (first | exact Ext.refl _ _ | apply Ext.drew | apply Ext.alloc))));have HE13:=Lib.hid hE13;have k2:=cell_ext hE13 z2 (fun h=>h);have k3:=cell_ext hE13 z3 (fun h=>h);clear hown hx13 hE13)
             | (go_at_call 151;refine (HDK.out _ _ _ HO13.out).mono ?_;rintro e w14 ⟨KB,kd,rfl,hrd,hcc,hnil,hx14⟩;have HR14:=Lib.hid hrd;have HC14:=Lib.hid hcc;have HN14:=Lib.hid hnil;have hE14:Ext No wc w14:=(by refine Ext.trans HE13.out hx14 (fun i hi hb=>?_);exfalso;have h1:=HO13.out.lt _ hb;first | omega | (simp at h1;done) | (simp at h1;omega));have HE14:=Lib.hid hE14;clear k2 k3;have k2:=cell_ext hE14 z2 (fun h=>h);have k3:=cell_ext hE14 z3 (fun h=>h);clear hrd hcc hnil hx14 hE14)
             | (go_at_call 146;refine (HCI.out _ HE14.out).mono ?_;rintro e w15 ⟨IA,ic,rfl,hown,hx15⟩;have HO15:=Lib.hid hown;have HF15:=Lib.hid hx15;have hE15:Ext No wc w15:=(HE14.out.trans_ hx15);have HE15x:=Lib.hid hE15;clear k2 k3;have k2:=cell_ext hE15 z2 (fun h=>h);have k3:=cell_ext hE15 z3 (fun h=>h);clear hown hx15 hE15)
             | (go_at_call 152;refine (HDI.out _ _ _ HO15.out).mono ?_;rintro e w16 ⟨IB,id,rfl,hrd,hcc,hnil,hx16⟩;have HC16:=Lib.hid hcc;have HN16:=Lib.hid hnil;have hE16:Ext No wc w16:=(by refine Ext.trans HE15x.out hx16 (fun i hi hb=>?_);exfalso;have h1:=HO15.out.lt _ hb;have h2:=HE14.out.size;omega);have HE16:=Lib.hid hE16;have hF16:Ext (fun b=>b < wc.heap.size ∨ w14.heap.size ≤ b) w14 w16:=(by refine Ext.trans (F:=fun b=>b < wc.heap.size ∨ w14.heap.size ≤ b) HF15.out.of_no hx16 (fun i hi hb=>?_);exact Or.inr (by have h1:=HO15.out.lt _ hb;omega));have hR14:Rd w14 (fun b=>b < wc.heap.size ∨ w14.heap.size ≤ b) 1 KB (sp.n.keys.length - 1) _:=HR14.out.mono (by omega) (fun b hb h=>by show b < _;rcases h with h | h;(first | exact h | (simp;exact h));exact absurd h (by omega));have HRK:=Lib.hid (hR14.ext hF16);have hRI:Rd w16 (fun b=>b < wc.heap.size) 1 IB (sp.n.kids.length - 1) _:=hrd.mono (by omega) (fun b hb h=>by show b < _;have h4:b < wc.heap.size:=h;have h2:=HE14.out.size;omega);have HRI:=Lib.hid hRI;have hb16:=Blk.of_ext hE16 HBN15.out (fun h=>h);have HB16:=Lib.hid hb16;obtain ⟨s0,s1,s2,s3,f0,f1,f2,f3,lf⟩:=hb16.p4;clear k2 k3;have k2:=cell_ext hE16 z2 (fun h=>h);have k3:=cell_ext hE16 z3 (fun h=>h);clear hrd hcc hnil hx16 hE16 hF16 hR14 hRI hb16))
           all_goals (
            go_wp2_with fail
            go_roundg (j + 1)
            case rel =>
             have hend:=shrink_end s hs w wc wc w16 (sp.n.keys.eraseIdx at_) (sp.n.kids.eraseIdx (at_ + 1)) v15 KB kd IB id _ _ HEK.out HEI.out HB1.out HB2.out HOLD HDB HWF HX20 HE15 HE16 HT15 (w14.heap.size) HRK HRI HC14 HC16 HN14 HN16
             refine ⟨j,⟨false,[],sp.n.keys.eraseIdx at_,sp.n.kids.eraseIdx (at_ + 1)⟩,v15,⟨none,0,KB,kd,IB,id⟩,by rw [HJ.out],by go_num,Lib.hid rfl,Lib.hid (by have:=hkk.out;have:=HJ.out;omega),?_,hend.1,HNKN,hend.2.1,HGD,hend.2.2,HDN⟩
             simp only [HEK.out,HEI.out,List.length_nil]
             exact HB16.out.put4 (.bool false) (.slice none 0 0) (.slice KB (sp.n.keys.length - 1) kd) (.slice IB (sp.n.kids.length - 1) id)
            case measure=>have:=hgk.out;have:=HJ.out;omega)
          ·have hD:(c15,v15) = D:=by rw [← HD15.out,if_pos h15]
           subst hD
           have h15':((c15:Int) != 0) = true:=by simpa using (by omega:¬ (c15:Int) = 0)
           clear h15
           go_wp2_with fail
           try rw [Exit.noGoto_ret]
           go_ret
           exact ⟨rfl,HT15.out,HGD.out,HE15.out⟩
        ·have hD:(c12,v12) = D:=by rw [← HD12.out,if_pos h12]
         subst hD
         have h12':((c12:Int) != 0) = true:=by simpa using (by omega:¬ (c12:Int) = 0)
         clear h12
         go_wp2_with fail
         try rw [Exit.noGoto_ret]
         go_ret
         exact ⟨rfl,HT12.out,HG12.out,HE12.out⟩
     ·have hd:=HD5.out
      rw [if_pos hr0] at hd
      subst hd
      have hr0':((r.1:Int) != 0) = true:=by simpa using (by omega:¬ (r.1:Int) = 0)
      clear hr0
      go_wp2_with fail
      try rw [Exit.noGoto_ret]
      go_ret
      exact ⟨rfl,HTC.out,HG.out,HEC.out⟩
theorem del_full (s:Sys) (hs:s.Ok) (w:World) (v:V) (h:TxAt w s v) (hg:v.Good) (gx i:Nat) (hx:Blk w gx 70 (treeCells s i)) (hi:i < 4) (key:Bs) :
  Calls Tryz.prog 27 #[.pointer (some ⟨gx,0,none⟩),.string (str key)] w (DidB s w (v.Del s.cap i key)):=by
 by_cases hm:may key [] = 0
 ·refine Del_of s hs w v h gx i hx key hm fun w' e=>?_
  have h':=h.no hs e
  have hx':=hx.ext e (fun h=>h)
  cases hw:v.way i key with
  | none =>
   have hp:v.del0 s.cap i key = (false,5,v):=by unfold V.del0;rw [hw]
   rw [hp]
   exact del0_none s hs w' v h' hg gx i hx' hi key hw
  | some ws =>
   cases hh:hit ws key with
   | none =>
    have hp:v.del0 s.cap i key = (false,0,v):=by
     unfold V.del0
     rw [hw]
     simp only [hh]
     split
     ·rename_i h1 _ h2;cases h2
     ·rfl
    rw [hp]
    exact del0_miss s hs w' v h' hg gx i hx' hi key ws hw hh
   | some c =>
    match ws,hw,hh with
    | [],hw,hh=>cases hh
    | a :: l,hw,hh =>
     obtain ⟨st,hst⟩:∃ st,(a :: l).getLast? = some st:=⟨_,List.getLast?_eq_some_getLast (by simp)⟩
     have hwo:=way_ok hw
     have hup:=up_ok hwo
     have hok:=V.node_ok (hwo.all st (List.mem_of_getLast? hst)).1
     have hlf:=hwo.last st hst
     have hN:NOk (st.n.cut st.i):=by
      refine ⟨Nd.cut_fits (Nd.Ok.fits (Nd.Ok.of hok)),fun _=>((Nd.Ok.of hok).lf hlf).1,fun h=>?_⟩
      have h2:st.n.leaf = false:=h
      rw [hlf] at h2;cases h2
     have hp:v.del0 s.cap i key = if (v.letGo c).1 ≠ 0 then (false,v.letGo c) else (true,V.shrink s.cap i (a :: l).reverse (st.n.cut st.i) (v.letGo c).2):=by
      unfold V.del0
      rw [hw]
      simp only [hst,hh]
      rfl
     rw [hp]
     exact del0_hit s hs w' v h' hg gx i hx' hi key (a :: l) hw st hst c hh (fun _=>shrink_any s hs i hi _ _ _ (by simp) hup hN)
 ·have hp:v.Del s.cap i key = (false,may key [],v):=by unfold V.Del;rw [if_pos hm]
  rw [hp]
  exact Del_bad s hs w v h hg gx i hx key hm
end Go.Proofs.YtccnemmlkcmceaaGreatDoor
