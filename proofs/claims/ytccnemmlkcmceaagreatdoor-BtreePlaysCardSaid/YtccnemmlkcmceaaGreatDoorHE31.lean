/- Proofs about the given program, joined out of the texts GA, GB, GD. -/
import Derived.Test.YtccnemmlkcmceaaGreatDoorHE27
import Derived.Test.YtccnemmlkcmceaaGreatDoorHE29
set_option linter.unusedVariables false
set_option linter.unusedSimpArgs false
set_option maxRecDepth 100000
set_option maxHeartbeats 6400000
namespace Go.Proofs.YtccnemmlkcmceaaGreatDoor
open Go.RowKit
def UpOk (st:Stp):Prop:=st.n.leaf = false ∧ st.n.ok = true ∧ st.i ≤ st.n.keys.length
theorem take_rev {α:Type} {ws:List α} {k:Nat} {x:α} (h:ws[k]? = some x):(ws.take (k + 1)).reverse = x :: (ws.take k).reverse:=by
 rw [List.take_add_one,h];simp
theorem grow_end (s:Sys) (hs:s.Ok) (w w12 W20 w16:World) (sp:Stp) (key:Bs) (id2:Nat) (v12:V) (KB:Option Addr) (kd:Nat) (IB:Option Addr) (id:Nat) (HUPK:Hid (UpOk sp)) (HOLD:Hid (∀ b,s.F b → b < w.heap.size)) (HDB:Hid (∀ w',Ext s.F w w' → s.db w'))
  (HWF:Hid (∀ b,(s.F b ∨ b = w.heap.size) → b < W20.heap.size)) (HX20:Hid (Ext No w12 W20)) (HE20:Hid (Ext s.F w W20)) (HE16:Hid (Ext No W20 w16)) (HT12:Hid (TxAt w12 s v12)) (n14:Nat)
  (HRK:Hid (Rd w16 (fun b=>b < W20.heap.size ∨ n14 ≤ b) 1 KB (sp.n.keys.length + 1) ((keyVals sp.n.keys).take sp.i ++ .string (str key) :: (keyVals sp.n.keys).drop sp.i)))
  (HRI:Hid (Rd w16 (fun b=>b < W20.heap.size) 1 IB (sp.n.kids.length + 1) ((kidVals sp.n.kids).take (sp.i + 1) ++ .int .i64 (id2:Int) :: (kidVals sp.n.kids).drop (sp.i + 1))))
  (HC14:Hid (sp.n.keys.length + 1 ≤ kd)) (HC16:Hid (sp.n.kids.length + 1 ≤ id)) (HN14:Hid (KB = none → kd = 0)) (HN16:Hid (IB = none → id = 0)) :
  Hid (NodeIn ((((w16.setCell ⟨w.heap.size,0,none⟩ (.bool false)).setCell ⟨w.heap.size,1,none⟩ (.slice none 0 0)).setCell ⟨w.heap.size,2,none⟩ (.slice KB (sp.n.keys.length + 1) kd)).setCell ⟨w.heap.size,3,none⟩ (.slice IB (sp.n.kids.length + 1) id)) (fun b=>s.F b ∨ b = w.heap.size) ⟨none,0,KB,kd,IB,id⟩ ⟨false,[],sp.n.keys.insertIdx sp.i key,sp.n.kids.insertIdx (sp.i + 1) id2⟩) ∧
  Hid (TxAt ((((w16.setCell ⟨w.heap.size,0,none⟩ (.bool false)).setCell ⟨w.heap.size,1,none⟩ (.slice none 0 0)).setCell ⟨w.heap.size,2,none⟩ (.slice KB (sp.n.keys.length + 1) kd)).setCell ⟨w.heap.size,3,none⟩ (.slice IB (sp.n.kids.length + 1) id)) s v12) ∧
  Hid (Ext s.F w ((((w16.setCell ⟨w.heap.size,0,none⟩ (.bool false)).setCell ⟨w.heap.size,1,none⟩ (.slice none 0 0)).setCell ⟨w.heap.size,2,none⟩ (.slice KB (sp.n.keys.length + 1) kd)).setCell ⟨w.heap.size,3,none⟩ (.slice IB (sp.n.kids.length + 1) id))):=by
 have hO:=Nd.Ok.of HUPK.out.2.1
 have hkk:=(hO.br HUPK.out.1).2
 have hi:=HUPK.out.2.2
 have ha:=hO.a2
 have hEw:Ext s.F w ((((w16.setCell ⟨w.heap.size,0,none⟩ (.bool false)).setCell ⟨w.heap.size,1,none⟩ (.slice none 0 0)).setCell ⟨w.heap.size,2,none⟩ (.slice KB (sp.n.keys.length + 1) kd)).setCell ⟨w.heap.size,3,none⟩ (.slice IB (sp.n.kids.length + 1) id)) :=
  ((((HE20.out.trans_ HE16.out.of_no).setNew (Nat.le_refl _) 0 (.bool false)).setNew (Nat.le_refl _) 1 (.slice none 0 0)).setNew (Nat.le_refl _) 2 (.slice KB (sp.n.keys.length + 1) kd)).setNew (Nat.le_refl _) 3 (.slice IB (sp.n.kids.length + 1) id)
 have hset:∀ (F:Nat → Prop),F w.heap.size → Ext F w16 ((((w16.setCell ⟨w.heap.size,0,none⟩ (.bool false)).setCell ⟨w.heap.size,1,none⟩ (.slice none 0 0)).setCell ⟨w.heap.size,2,none⟩ (.slice KB (sp.n.keys.length + 1) kd)).setCell ⟨w.heap.size,3,none⟩ (.slice IB (sp.n.kids.length + 1) id)) :=
  fun F hF=>((((Ext.refl F w16).setF hF 0 (.bool false)).setF hF 1 (.slice none 0 0)).setF hF 2 (.slice KB (sp.n.keys.length + 1) kd)).setF hF 3 (.slice IB (sp.n.kids.length + 1) id)
 have hwin:=HWF.out w.heap.size (.inr rfl)
 generalize ((((w16.setCell ⟨w.heap.size,0,none⟩ (.bool false)).setCell ⟨w.heap.size,1,none⟩ (.slice none 0 0)).setCell ⟨w.heap.size,2,none⟩ (.slice KB (sp.n.keys.length + 1) kd)).setCell ⟨w.heap.size,3,none⟩ (.slice IB (sp.n.kids.length + 1) id)) = wx at *
 have e1:(sp.n.keys.insertIdx sp.i key).length = sp.n.keys.length + 1:=List.length_insertIdx_of_le_length hi _
 have e2:(sp.n.kids.insertIdx (sp.i + 1) id2).length = sp.n.kids.length + 1:=List.length_insertIdx_of_le_length (by omega) _
 refine ⟨Lib.hid ⟨Rd.nil_ _,?_,?_,Nat.le_refl _,by rw [e1];exact HC14.out,by rw [e2];exact HC16.out,by simp,by rw [e1];omega,by rw [e2];omega,fun _=>rfl,HN14.out,HN16.out⟩,Lib.hid ?_,Lib.hid hEw⟩
 ·show Rd wx _ 1 KB (sp.n.keys.insertIdx sp.i key).length (keyVals (sp.n.keys.insertIdx sp.i key))
  rw [e1,keyVals_ins _ _ _ hi]
  exact (HRK.out.ext (hset _ (.inl hwin))).mono (by omega) (fun b _ hb=>.inl (HWF.out b hb))
 ·show Rd wx _ 1 IB (sp.n.kids.insertIdx (sp.i + 1) id2).length (kidVals (sp.n.kids.insertIdx (sp.i + 1) id2))
  rw [e2,kidVals_ins _ _ _ (by omega)]
  exact (HRI.out.ext (hset _ hwin)).mono (by omega) (fun b _ hb=>HWF.out b hb)
 ·have hg:Ext (On w.heap.size) w12 wx:=(HX20.out.trans_ HE16.out).of_no.trans_ (hset (On w.heap.size) rfl)
  exact HT12.out.local_ hg (fun h=>by have h1:=HOLD.out s.t (.inl rfl);have h2:s.t = w.heap.size:=h;omega) (fun h=>by have h1:=HOLD.out s.m (.inr rfl);have h2:s.m = w.heap.size:=h;omega) (HDB.out _ hEw)
theorem ins_fits {sp:Stp} {key:Bs} {id2:Nat} (h:UpOk sp) (hk:key.length < 65536) (hi:id2 ≤ 65536):(⟨false,[],sp.n.keys.insertIdx sp.i key,sp.n.kids.insertIdx (sp.i + 1) id2⟩:Nd).fits:=by
 have hO:=Nd.Ok.of h.2.1
 have hf:=Nd.Ok.fits hO
 have hkk:=(hO.br h.1).2
 have h3:=h.2.2
 refine ⟨by simp,fun k hk'=>?_,fun i hi'=>?_⟩
 ·rcases (List.mem_insertIdx h3).1 hk' with e | e
  ·rw [e];exact hk
  ·exact hf.k k e
 ·rcases (List.mem_insertIdx (by omega)).1 hi' with e | e
  ·rw [e];omega
  ·exact hf.i i e
theorem grow_any (s:Sys) (hs:s.Ok) (root:Nat) (hroot:root < 4) (v:V) (ws:List Stp) (n:Nd) (hne:ws ≠ []) (hup:∀ st ∈ ws.dropLast,UpOk st):GrowOk s root v ws n:=by
 intro w gx F A cap l a h hg hx hF hWA hlw hn hf
 have hwl:∃ m,ws.length = m + 1:=by cases hz:ws.length <;> simp_all
 obtain ⟨m,hwl⟩:=hwl
 have hll:l.length = m + 1:=by rw [← hwl,← hlw,List.length_map]
 obtain ⟨b,o,hA,hbF,_⟩:=hWA.rd.2 (by omega)
 subst hA
 have hcap:m + 1 ≤ cap:=by have:=hWA.cap;omega
 have hm41:m < 65536:=by have:=hWA.len;omega
 have HWA:=Lib.hid (hWA.mono (G:=s.F) (fun b _=>hF b))
 have HX:=Lib.hid (fun (w':World) (e:Ext s.F w w')=>tree_ext h hx e)
 have HOLD:=Lib.hid (fun b (hb:s.F b)=>h.old hb)
 have HLT:=Lib.hid (fun i (hi:i < m + 1)=>(⟨_,List.getElem?_eq_getElem (by omega)⟩:∃ p,l[i]? = some p))
 have HLW:=Lib.hid hlw
 have HUP:=Lib.hid hup
 have HWL:=Lib.hid hwl
 have HT0:=Lib.hid (h.no hs ((Ext.refl No w).alloc (.cells #[.bool n.leaf,.slice a.A1 n.cells.length a.c1,.slice a.A2 n.keys.length a.c2,.slice a.A3 n.kids.length a.c3] 40)))
 have HN0:Hid (NodeIn (w.alloc (.cells #[.bool n.leaf,.slice a.A1 n.cells.length a.c1,.slice a.A2 n.keys.length a.c2,.slice a.A3 n.kids.length a.c3] 40)) (fun b=>s.F b ∨ b = w.heap.size) a n):=Lib.hid ((hn.mono (G:=fun b=>s.F b ∨ b = w.heap.size) (fun b hb h=>h.elim (hF b) (fun e=>absurd e (by omega)))).box _)
 have HF0:=Lib.hid hf
 have HG0:=Lib.hid hg
 have HDB:=Lib.hid (fun (w':World) (e:Ext s.F w w')=>hs.keep _ _ e h.db)
 obtain ⟨D,hD⟩:∃ D,D = V.grow s.cap root ws.reverse n v:=⟨_,rfl⟩
 rw [← hD,hwl]
 have HD:Hid (V.grow s.cap root (ws.take (m + 1)).reverse n v = D):=Lib.hid (by rw [hD,← hwl,List.take_length])
 have bn:=Blk.new w 40 #[.bool n.leaf,.slice a.A1 n.cells.length a.c1,.slice a.A2 n.keys.length a.c2,.slice a.A3 n.kids.length a.c3]
 have HBN:=Lib.hid bn
 have HE0:=Lib.hid ((Ext.refl s.F w).alloc (.cells #[.bool n.leaf,.slice a.A1 n.cells.length a.c1,.slice a.A2 n.keys.length a.c2,.slice a.A3 n.kids.length a.c3] 40))
 simp only [Nd.value]
 clear hD hlw hup hwl hll hbF hF hn hf hx hg h hne hWA bn
 go_enter Tryz.func100,Tryz.ntmps100
 go_wp2_with fail
 obtain ⟨W0,hW0⟩:∃ W0,W0 = (w.alloc (.cells #[.bool n.leaf,.slice a.A1 n.cells.length a.c1,.slice a.A2 n.keys.length a.c2,.slice a.A3 n.kids.length a.c3] 40)):=⟨_,rfl⟩
 rw [← hW0] at HT0 HN0 HBN HE0 ⊢
 clear hW0
 go_loopg [7] (m + 1) (fun gk k wr=>∃ (kk:Nat) (n':Nd) (v':V) (a':Adr),k = .int .i64 (kk:Int) ∧ Hid (gk = kk + 1) ∧ Hid (kk < m + 1) ∧ Blk wr w.heap.size 40 #[.bool n'.leaf,.slice a'.A1 n'.cells.length a'.c1,.slice a'.A2 n'.keys.length a'.c2,.slice a'.A3 n'.kids.length a'.c3] ∧
  Hid (NodeIn wr (fun b=>s.F b ∨ b = w.heap.size) a' n') ∧ Hid n'.fits ∧ Hid (TxAt wr s v') ∧ Hid v'.Good ∧ Hid (Ext s.F w wr) ∧ Hid (V.grow s.cap root (ws.take (kk + 1)).reverse n' v' = D))
 case atStart=>exact ⟨m,n,v,a,by go_num,Lib.hid rfl,Lib.hid (by omega),HBN.out,HN0,HF0,HT0,HG0,HE0,HD⟩
 case round =>
  clear HBN HN0 HF0 HT0 HG0 HE0 HD
  obtain ⟨kk,n',v',a',rfl,hgk,hkk,hbn,HN,HFT,HT,HG,HE,HD⟩:=hrel
  obtain ⟨⟨st,ad⟩,hp⟩:=HLT.out kk hkk.out
  have hwr:=HWA.out.ext HE.out
  obtain ⟨b',o',hAe,hbF',q0,q1,q2,q3,q4,q5⟩:=hwr.at hp
  injection hAe with hAe;injection hAe with e1 e2
  subst e1;subst e2
  simp only at q0 q1 q2 q3 q4 q5
  have lq:=World.block_lt_of_cell? _ _ q0
  simp only at lq
  have hws:ws[kk]? = some st:=by rw [← HLW.out,List.getElem?_map,hp];rfl
  have HWS:=Lib.hid hws
  have hki:(kk:Int) < (m:Int) + 1:=by have:=hkk.out;omega
  have HW:=Lib.hid (wr_any s hs wr.drew v' (HT.out.no hs (Ext.refl No wr).drew) HG.out gx root (HX.out _ HE.out.drew) st.id n' _ _ _ _ _ _ _ (HN.out.ext (Ext.refl _ wr).drew) HFT.out)
  have HDD:=HD.out
  rw [take_rev hws] at HDD
  have HD':=Lib.hid HDD
  obtain ⟨r,hr⟩:∃ r,r = v'.wr st.id n':=⟨_,rfl⟩
  rw [← hr] at HW
  have HR:=Lib.hid hr
  obtain ⟨p0,p1,p2,p3,g0,g1,g2,g3,ln⟩:=hbn.p4
  have HBN:=Lib.hid hbn
  simp only [Nd.value] at HW
  clear HDD HD hr hws hwr hbn q1 q2 q3 q4 q5 hbF' HLT
  obtain ⟨A1,c1,A2,c2,A3,c3⟩:=a'
  simp only at HW p0 p1 p2 p3
  go_wp2_with fail
  go_cut [8] (fun k8 wx=>k8 = .int .i64 (r.1:Int) ∧ Hid (TxAt wx s r.2) ∧ Hid r.2.Good ∧ Hid (Ext s.F wr wx))
  case first =>
   go_region_law ((go_simp;go_at_call 141;refine HW.out.mono ?_;rintro e w2 ⟨rfl,hT,hG,hx2⟩;have HT2:=Lib.hid hT;have HG2:=Lib.hid hG;have HX2:=Lib.hid hx2;clear hT hG hx2))
   all_goals (
    go_wp2_with fail
    go_meet
    exact ⟨rfl,HT2,HG2,Lib.hid ((Ext.refl s.F wr).drew.trans_ HX2.out)⟩)
  case rest =>
   obtain ⟨rfl,HT2,HG2,HX2⟩:=hcut
   have hnF:¬ s.F w.heap.size:=fun hb=>absurd (HOLD.out _ hb) (Nat.lt_irrefl _)
   have HE2:=Lib.hid (HE.out.trans_ HX2.out)
   have HN2:=Lib.hid (HN.out.ext (HX2.out.mono (fun b _ hb=>Or.inl hb):Ext (fun b=>s.F b ∨ b = w.heap.size) wr wc))
   have hbn2:=HBN.out.ext HX2.out hnF
   obtain ⟨r1,v2⟩:=r
   simp only at HT2 HG2 HX2 HR HW ⊢
   by_cases hk3:r1 = 3
   ·subst hk3
    obtain ⟨hok,hsz,hv2⟩:=wr_three (v:=v') (id:=st.id) (n:=n') (by rw [← HR.out])
    have hv2':v2 = v':=by rw [← HR.out] at hv2;exact hv2
    subst hv2'
    have HSP:=Lib.hid (split_any n' wc _ _ HN2.out hok hsz)
    have hspl:=split_some hok hsz
    have HOK:=Lib.hid hok
    have HDD:=HD'.out
    rw [V.grow,if_neg (by rw [← HR.out];simp),hspl] at HDD
    simp only at HDD
    have e2:(v2.wr st.id n').2 = v2:=by rw [← HR.out]
    rw [e2] at HDD
    have HLF:=Lib.hid (Nd.part_fits HFT.out 0 n'.best)
    have HRF:=Lib.hid (Nd.part_fits HFT.out (n'.best + n'.gap) n'.all)
    generalize hL:n'.part 0 n'.best = NL at HSP HDD HLF
    generalize hR:n'.part (n'.best + n'.gap) n'.all = NR at HSP HDD HRF
    have HKL:Hid ((n'.mid n'.best).length < 65536):=Lib.hid (mid_len HOK.out)
    generalize hK:n'.mid n'.best = key at HSP HDD HKL
    have HDG:=Lib.hid HDD
    simp only [Nd.value] at HSP
    clear HDD hspl e2 hok hsz hv2 HD' p0 p1 p2 p3 g0 g1 g2 g3 ln
    have HBN2:=Lib.hid hbn2
    obtain ⟨p0,p1,p2,p3,g0,g1,g2,g3,ln⟩:=hbn2.p4
    clear hbn2
    go_wp2_with fail
    refine HSP.out.mono ?_
    rintro e w5 ⟨hx5,aL,aR,rfl,hnL,hnR⟩
    have HX5:=Lib.hid hx5;have HNL:=Lib.hid hnL;have HNR:=Lib.hid hnR
    clear hx5 hnL hnR p0 p1 p2 p3 g0 g1 g2 g3 ln q0
    simp only [Nd.value]
    go_wp2_with fail
    obtain ⟨W6,hW6⟩:∃ W6,W6 = ((w5.alloc (.cells #[.bool NL.leaf,.slice aL.A1 NL.cells.length aL.c1,.slice aL.A2 NL.keys.length aL.c2,.slice aL.A3 NL.kids.length aL.c3] 40)).alloc (.cells #[.bool NR.leaf,.slice aR.A1 NR.cells.length aR.c1,.slice aR.A2 NR.keys.length aR.c2,.slice aR.A3 NR.kids.length aR.c3] 40)):=⟨_,rfl⟩
    have hE56:Ext No w5 W6:=by rw [hW6];exact ((Ext.refl No w5).alloc _).alloc _
    have hE26:Ext No wc W6:=HX5.out.trans_ hE56
    have hBL:Blk W6 w5.heap.size 40 #[.bool NL.leaf,.slice aL.A1 NL.cells.length aL.c1,.slice aL.A2 NL.keys.length aL.c2,.slice aL.A3 NL.kids.length aL.c3]:=by rw [hW6];exact (Blk.new w5 40 _).alloc _
    have hBR:Blk W6 (w5.heap.size + 1) 40 #[.bool NR.leaf,.slice aR.A1 NR.cells.length aR.c1,.slice aR.A2 NR.keys.length aR.c2,.slice aR.A3 NR.kids.length aR.c3]:=by rw [hW6];exact Blk.new_at (b:=w5.heap.size + 1) (w5.alloc _) 40 _ (by simp)
    have hwc5:w.heap.size < wc.heap.size:=HBN2.out.lt
    have h5s:wc.heap.size ≤ w5.heap.size:=HX5.out.size
    have hFo:∀ b,s.F b ∨ b = w.heap.size → Old wc b:=fun b hb=>hb.elim (fun h=>Nat.lt_of_lt_of_le (HOLD.out b h) (Nat.le_of_lt hwc5)) (fun h=>h ▸ hwc5)
    have HNL6:Hid (NodeIn W6 (fun b=>s.F b ∨ b = w.heap.size) aL NL):=Lib.hid ((HNL.out.mono (G:=fun b=>s.F b ∨ b = w.heap.size) (fun b _ hb=>hFo b hb)).ext hE56.of_no)
    have HNR6:Hid (NodeIn W6 (fun b=>s.F b ∨ b = w.heap.size) aR NR):=Lib.hid ((HNR.out.mono (G:=fun b=>s.F b ∨ b = w.heap.size) (fun b _ hb=>hFo b hb)).ext hE56.of_no)
    have HE6:=Lib.hid (HE2.out.trans_ hE26.of_no)
    have HT6:=Lib.hid (HT2.out.no hs hE26)
    have HBN6:=Lib.hid (HBN2.out.ext hE26 (fun h=>h))
    have HBL:=Lib.hid hBL;have HBR:=Lib.hid hBR;have HS5:=Lib.hid (Nat.lt_of_lt_of_le hwc5 h5s)
    rw [← hW6]
    clear hW6 hE56 hE26 hwc5 h5s hFo HNL HNR HX5
    obtain ⟨_,_,hAe,_,q0,_⟩:=(HWA.out.ext HE6.out).at hp
    injection hAe with hAe;injection hAe with e1 e2
    subst e1;subst e2
    simp only at q0
    have lq6:=World.block_lt_of_cell? _ _ q0
    simp only at lq6
    obtain ⟨p0,p1,p2,p3,g0,g1,g2,g3,ln⟩:=hBL.p4
    have HW9:=Lib.hid (wr_any s hs W6.drew v2 (HT6.out.no hs (Ext.refl No W6).drew) HG2.out gx root (HX.out _ HE6.out.drew) st.id NL _ _ _ _ _ _ _ (HNL6.out.ext (Ext.refl _ W6).drew) HLF.out)
    obtain ⟨r9,hr9⟩:∃ r9,r9 = v2.wr st.id NL:=⟨_,rfl⟩
    have hdg:=HDG.out
    have HR9:=Lib.hid hr9
    rw [← hr9] at HW9 hdg
    have HD9:=Lib.hid hdg
    simp only [Nd.value] at HW9
    clear hdg HDG hr9 hBL hBR
    go_cut [13] (fun k9 wx=>k9 = .int .i64 (r9.1:Int) ∧ Hid (TxAt wx s r9.2) ∧ Hid r9.2.Good ∧ Hid (Ext s.F W6 wx))
    case first =>
     go_region_law ((go_simp;go_at_call 141;refine HW9.out.mono ?_;rintro e w2 ⟨rfl,hT,hG,hx2⟩;have HT2:=Lib.hid hT;have HG2:=Lib.hid hG;have HX2:=Lib.hid hx2;clear hT hG hx2))
     all_goals (
      go_wp2_with fail
      go_meet
      exact ⟨rfl,HT2,HG2,Lib.hid ((Ext.refl s.F W6).drew.trans_ HX2.out)⟩)
    case rest =>
     clear p0 p1 p2 p3 g0 g1 g2 g3 ln q0 lq6 HW9
     obtain ⟨rfl,HT9,HG9,HX9⟩:=hcut
     obtain ⟨c9,v9⟩:=r9
     simp only at HT9 HG9 HD9 ⊢
     have HE9:=Lib.hid (HE6.out.trans_ HX9.out)
     by_cases h9:c9 = 0
     ·subst h9
      have hse:=wr_zero (v:=v2) (id:=st.id) (n:=NL) (by rw [← HR9.out])
      have hsid:=V.err_ok hse
      have hT6h:=HT6.out.h2
      have hcl:=Sys.cap_le hs
      have HSID:=Lib.hid (show st.id < 65536 by omega)
      clear hse hsid hT6h hcl
      have hdd:=HD9.out
      rw [if_neg (by simp)] at hdd
      have hbr9:=HBR.out.ext HX9.out (fun hb=>by have:=HOLD.out _ hb;have:=HS5.out;omega)
      obtain ⟨p0,p1,p2,p3,g0,g1,g2,g3,ln⟩:=hbr9.p4
      have HF12:=Lib.hid (fresh_any s hs wc v9 HT9.out HG9.out gx root (HX.out _ HE9.out) NR _ _ _ _ _ _ _ (HNR6.out.ext (HX9.out.mono (fun b _ hb=>Or.inl hb))) HRF.out (fun b hb=>Or.inl hb))
      obtain ⟨r12,hr12⟩:∃ r12,r12 = v9.fresh s.cap NR:=⟨_,rfl⟩
      have hid12:=V.fresh_id HG9.out HT9.out.h2 (Sys.cap_le hs) NR
      rw [← hr12] at HF12 hdd hid12
      have HID:=Lib.hid hid12
      have HD12:=Lib.hid hdd
      simp only [Nd.value] at HF12
      clear hdd hbr9 hr12 hid12 HD9
      go_wp2_with fail
      refine HF12.out.mono ?_
      rintro e w12 ⟨rfl,hT12,hG12,hx12⟩
      have HT12:=Lib.hid hT12;have HG12:=Lib.hid hG12;have HX12:=Lib.hid hx12
      clear hT12 hG12 hx12 p0 p1 p2 p3 g0 g1 g2 g3 ln HF12
      obtain ⟨id2,c12,v12⟩:=r12
      simp only at HT12 HG12 HD12 HID ⊢
      have HE12:=Lib.hid (HE9.out.trans_ HX12.out)
      by_cases h12:c12 = 0
      ·subst h12
       have hdd:=HD12.out
       rw [if_neg (by simp)] at hdd
       cases kk with
       | zero =>
        simp only [List.take_zero,List.reverse_nil] at hdd
        obtain ⟨_,_,hAe,_,q0,_⟩:=(HWA.out.ext HE12.out).at hp
        injection hAe with hAe;injection hAe with e1 e2
        subst e1;subst e2
        simp only [Nat.zero_mul,Nat.add_zero] at q0
        have lq6:=World.block_lt_of_cell? _ _ q0
        simp only at lq6
        have hE16:Ext No w12 ((w12.alloc (.cells #[.string (str key)] 9)).alloc (.cells #[.int .i64 (st.id:Int),.int .i64 (id2:Int)] 3)):=((Ext.refl No w12).alloc _).alloc _
        have hws5:=HE12.out.size
        have hn16:NodeIn ((w12.alloc (.cells #[.string (str key)] 9)).alloc (.cells #[.int .i64 (st.id:Int),.int .i64 (id2:Int)] 3)) s.F ⟨none,0,some ⟨w12.heap.size,0,none⟩,1,some ⟨w12.heap.size + 1,0,none⟩,2⟩ ⟨false,[],[key],[st.id,id2]⟩ :=
         two_node ((Blk.new w12 9 _).alloc _) (Blk.new_at (b:=w12.heap.size + 1) (w12.alloc _) 3 _ (by simp)) (fun hb=>by have:=HOLD.out _ hb;omega) (fun hb=>by have:=HOLD.out _ hb;omega)
        have hf16:(⟨false,[],[key],[st.id,id2]⟩:Nd).fits:=⟨by simp,fun k hk=>by
         have hk':k = key:=by simpa using hk
         rw [hk'];exact HKL.out,fun i hi=>by
         have hi':i = st.id ∨ i = id2:=by simpa using hi
         have h1:=HSID.out
         have h2:=HID.out
         rcases hi' with rfl | rfl <;> omega⟩
        have HF16:=Lib.hid (fresh_any s hs _ v12 (HT12.out.no hs hE16) HG12.out gx root (HX.out _ (HE12.out.trans_ hE16.of_no)) _ s.F _ _ _ _ _ _ hn16 hf16 (fun b hb=>hb))
        simp only [Nd.value,List.length_nil,List.length_singleton,List.length_cons,Nat.zero_add,Nat.reduceAdd] at HF16
        have hid16:=V.fresh_id HG12.out HT12.out.h2 (Sys.cap_le hs) ⟨false,[],[key],[st.id,id2]⟩
        obtain ⟨r16,hr16⟩:∃ r16,r16 = v12.fresh s.cap ⟨false,[],[key],[st.id,id2]⟩:=⟨_,rfl⟩
        rw [← hr16] at HF16 hdd hid16
        have HD16:=Lib.hid hdd
        have HID16:=Lib.hid hid16
        have HE16:=Lib.hid (HE12.out.trans_ hE16.of_no)
        clear hdd hr16 hE16 hn16 hf16 hid16 hws5
        go_wp2_with fail
        refine HF16.out.mono ?_
        rintro e w16 ⟨rfl,hT16,hG16,hx16⟩
        have HT16:=Lib.hid hT16;have HG16:=Lib.hid hG16;have HX16:=Lib.hid hx16
        clear hT16 hG16 hx16
        obtain ⟨top,c16,v16⟩:=r16
        simp only at HT16 HG16 HD16 HID16 ⊢
        have HE17:=Lib.hid (HE16.out.trans_ HX16.out)
        by_cases h16:c16 = 0
        ·subst h16
         have hdd:=HD16.out
         rw [if_neg (by simp)] at hdd
         subst hdd
         have hX2:=HX.out _ HE17.out
         have d0:=hX2.cell 0
         have d1:=hX2.cell 1
         have ld:=hX2.lt
         simp [treeCells] at d0 d1
         have HSR:=Lib.hid (setroot_any s hs w16.drew v16 (HT16.out.no hs (Ext.refl No w16).drew) root top hroot (by have:=HID16.out;omega))
         clear hX2 q0 lq6
         go_wp2_with fail
         go_region_law ((go_simp;go_at_call 21;refine (HSR.out).mono ?_;rintro e w7 ⟨rfl,hT7,hx7⟩;have HT7:=Lib.hid hT7;have HX7:=Lib.hid hx7;clear hT7 hx7))
         all_goals (
          go_wp2_with fail
          go_ret
          exact ⟨rfl,HT7.out,HG16.out.setR _ _,HE17.out.drew.trans_ HX7.out⟩)
        ·have hD:(c16,v16) = D:=by rw [← HD16.out,if_pos h16]
         subst hD
         have h16':((c16:Int) != 0) = true:=by simpa using (by omega:¬ (c16:Int) = 0)
         clear h16
         go_wp2_with fail
         go_ret
         exact ⟨rfl,HT16.out,HG16.out,HE17.out⟩
       | succ j =>
        obtain ⟨⟨sp,ap⟩,hpp⟩:∃ q,l[j]? = some q:=⟨_,List.getElem?_eq_getElem (by have:=(List.getElem?_eq_some_iff.1 hp).1;omega)⟩
        obtain ⟨_,_,hAe,_,q0,q1,q2,q3,q4,q5⟩:=(HWA.out.ext HE12.out).at hpp
        injection hAe with hAe;injection hAe with e1 e2
        subst e1;subst e2
        simp only at q0 q1 q2 q3 q4 q5
        have lqp:=World.block_lt_of_cell? _ _ q1
        simp only at lqp
        have hwsj:ws[j]? = some sp:=by rw [← HLW.out,List.getElem?_map,hpp];rfl
        rw [take_rev hwsj] at hdd
        simp only at hdd
        have HD20:Hid (V.grow s.cap root (ws.take (j + 1)).reverse ⟨false,[],sp.n.keys.insertIdx sp.i key,sp.n.kids.insertIdx (sp.i + 1) id2⟩ v12 = D):=Lib.hid (by rw [take_rev hwsj];exact hdd)
        have HNP:=Lib.hid ((HWA.out.ext HE12.out).nodes _ (List.mem_of_getElem? hpp))
        have hupk:UpOk sp:=HUP.out sp (by
         have hkl:=hkk.out
         have hwm:=HWL.out
         refine List.mem_iff_getElem?.2 ⟨j,?_⟩
         rw [List.getElem?_dropLast,if_pos (by omega)]
         exact hwsj)
        have HUPK:=Lib.hid hupk
        have hjm:IntKind.i64.wrap (((j + 1:Nat):Int) - 1) = (j:Int):=by rw [IntWalk.i64_in _ (by have:=hkk.out;omega)];omega
        have hjm2:(j:Int) < (m:Int) + 1:=by have:=hkk.out;omega
        have hj0:¬ (((j + 1:Nat):Int) = 0):=by omega
        clear hdd hwsj hupk
        go_wp2_with fail
        go_region
        obtain ⟨W20,hW20⟩:∃ W20,W20 = (w12.alloc (.cells #[.bool sp.n.leaf,.slice ap.A1 sp.n.cells.length ap.c1,.slice ap.A2 sp.n.keys.length ap.c2,.slice ap.A3 sp.n.kids.length ap.c3] 40)).drew:=⟨_,rfl⟩
        have hE20:Ext No w12 W20:=by rw [hW20];exact ((Ext.refl No w12).alloc _).drew
        have hBP:Blk W20 w12.heap.size 40 #[.bool sp.n.leaf,.slice ap.A1 sp.n.cells.length ap.c1,.slice ap.A2 sp.n.keys.length ap.c2,.slice ap.A3 sp.n.kids.length ap.c3]:=by rw [hW20];exact (Blk.new w12 40 _).drew1
        rw [← hW20]
        have HBN20:=Lib.hid (((HBN6.out.ext HX9.out (fun hb=>absurd (HOLD.out _ hb) (Nat.lt_irrefl _))).ext HX12.out (fun hb=>absurd (HOLD.out _ hb) (Nat.lt_irrefl _))).ext hE20 (fun h=>h))
        have hnp:=HNP.out
        have hpkO:=Nd.Ok.of HUPK.out.2.1
        have HCK:Hid (∀ W',Ext No W20 W' → Calls Tryz.prog 124 #[.slice ap.A2 sp.n.keys.length ap.c2] W' (Row 9 1 W' (keyVals sp.n.keys) sp.n.keys.length)):=Lib.hid (fun W' e=>clone_strings ⟨ap.A2,sp.n.keys.length,ap.c2,keyVals sp.n.keys⟩ W' ⟨(hnp.keys.mono (G:=No) (by omega) (fun _ _ h=>h.elim)).ext (hE20.trans_ e),hnp.e2,one_keys _,hnp.l2⟩ (by have:=hpkO.a2;simp only;omega))
        have HCI:Hid (∀ W',Ext No W20 W' → Calls Tryz.prog 146 #[.slice ap.A3 sp.n.kids.length ap.c3] W' (Row 3 1 W' (kidVals sp.n.kids) sp.n.kids.length)):=Lib.hid (fun W' e=>clone_ints ⟨ap.A3,sp.n.kids.length,ap.c3,kidVals sp.n.kids⟩ W' ⟨(hnp.kids.mono (G:=No) (by omega) (fun _ _ h=>h.elim)).ext (hE20.trans_ e),hnp.e3,one_kids _,hnp.l3⟩ (by have:=hnp.b3;simp only;omega))
        clear hW20 hnp hpkO q0 q1 q2 q3 q4 q5 lqp
        obtain ⟨p0,p1,p2,p3,g0,g1,g2,g3,ln⟩:=hBP.p4
        have HBP:=Lib.hid hBP
        have HE20a:=Lib.hid hE20
        have HE20:=Lib.hid (HE12.out.trans_ hE20.of_no)
        clear hBP hE20
        go_wp2_with fail
        have HIK:Hid (∀ base v w vb,w.ownsRow base 9 1 v sp.n.keys.length (keyVals sp.n.keys) → Blk w vb 9 #[.string (str key)] → some vb ≠ v.ownBlock → base ≤ w.heap.size → Calls Tryz.prog 144 #[v,.int .i64 (sp.i:Int),.slice (some ⟨vb,0,none⟩) 1 1] w (Rowed base v w ((keyVals sp.n.keys).take sp.i ++ .string (str key) :: (keyVals sp.n.keys).drop sp.i) (sp.n.keys.length + 1))) :=
         Lib.hid (fun base v w vb ho hb hn hs=>insert_strings sp.i _ HUPK.out.2.2 (by have:=(Nd.Ok.of HUPK.out.2.1).a2;omega) base v _ w ho (one_keys _) vb _ rfl hb hn hs)
        have HII:Hid (∀ base v w vb,w.ownsRow base 3 1 v sp.n.kids.length (kidVals sp.n.kids) → Blk w vb 3 #[.int .i64 (id2:Int)] → some vb ≠ v.ownBlock → base ≤ w.heap.size → Calls Tryz.prog 145 #[v,.int .i64 ((sp.i:Int) + 1),.slice (some ⟨vb,0,none⟩) 1 1] w (Rowed base v w ((kidVals sp.n.kids).take (sp.i + 1) ++ .int .i64 (id2:Int) :: (kidVals sp.n.kids).drop (sp.i + 1)) (sp.n.kids.length + 1))) :=
         Lib.hid (fun base v w vb ho hb hn hs=>by
          have h0:=insert_ints (sp.i + 1) _ (by have:=(Nd.Ok.of HUPK.out.2.1).br HUPK.out.1;have:=HUPK.out.2.2;omega) (by have:=(Nd.Ok.of HUPK.out.2.1).br HUPK.out.1;have:=(Nd.Ok.of HUPK.out.2.1).a2;omega) base v _ w ho (one_kids _) vb _ rfl hb hn hs
          rw [show (((sp.i + 1:Nat):Int)) = (sp.i:Int) + 1 from by omega] at h0
          exact h0)
        have hne1:¬ (w12.heap.size = w.heap.size):=by have h1:=(HBN6.out.ext HX9.out (fun hb=>absurd (HOLD.out _ hb) (Nat.lt_irrefl _))).lt;have h2:=HX12.out.size;omega
        have hne2:¬ (w.heap.size = w12.heap.size):=fun h=>hne1 h.symm
        have hsw:IntKind.i64.wrap ((sp.i:Int) + 1) = (sp.i:Int) + 1:=IntWalk.i64_in _ (by have:=HUPK.out.2.2;have:=(Nd.Ok.of HUPK.out.2.1).a2;omega)
        have HWF:=Lib.hid (show ∀ b,(s.F b ∨ b = w.heap.size) → b < W20.heap.size from fun b hb=>by
         have h1:=HBN20.out.lt
         rcases hb with hb | hb
         ·have:=HOLD.out b hb;omega
         ·omega)
        have HX20:=Lib.hid (show Ext No w12 W20 from HE20a.out)
        have HFN:=Lib.hid (show (⟨false,[],sp.n.keys.insertIdx sp.i key,sp.n.kids.insertIdx (sp.i + 1) id2⟩:Nd).fits from ins_fits HUPK.out HKL.out HID.out)
        go_region_held3 (fun w'=>w'.cell? ⟨w12.heap.size,2,none⟩ = some (.slice ap.A2 sp.n.keys.length ap.c2) ∧ w'.cell? ⟨w12.heap.size,3,none⟩ = some (.slice ap.A3 sp.n.kids.length ap.c3)) (go_keep)
         (first
          | (go_at_call 124;refine (HCK.out _ ?_).mono ?_;(with_reducible (repeat' (first | exact Ext.refl _ _ | exact HE15.out | exact HE14.out | exact HE13.out | apply Ext.drew | apply Ext.alloc)));rintro e w13 ⟨KA,kc,rfl,hown,hx13⟩;have HO13:=Lib.hid hown;have HX13:=Lib.hid hx13;have hE13:Ext No W20 w13:=(by refine Ext.trans_ ?_ hx13;(with_reducible (repeat' (first | exact Ext.refl _ _ | exact HE15.out | exact HE14.out | exact HE13.out | apply Ext.drew | apply Ext.alloc))));have HE13:=Lib.hid hE13;have k2:=cell_ext hE13 p2 (fun h=>h);have k3:=cell_ext hE13 p3 (fun h=>h);(first | ((with_reducible have hy:=(hx13:Ext No ((W20.alloc (.cells #[.string (str key)] 9)).alloc (.cells #[.int .i64 (id2:Int)] 3)).drew w13));have HKB:=Lib.hid (Blk.of_ext hy (((Blk.new W20 9 #[.string (str key)]).alloc _).drew1) (fun h=>h));have HIB:=Lib.hid (Blk.of_ext hy ((Blk.new_at (b:=W20.heap.size + 1) (W20.alloc (.cells #[.string (str key)] 9)) 3 #[.int .i64 (id2:Int)] (by simp)).drew1) (fun h=>h));clear hy) | ((with_reducible have hy:=(hx13:Ext No ((W20.alloc (.cells #[.int .i64 (id2:Int)] 3)).alloc (.cells #[.string (str key)] 9)).drew w13));have HIB:=Lib.hid (Blk.of_ext hy (((Blk.new W20 3 #[.int .i64 (id2:Int)]).alloc _).drew1) (fun h=>h));have HKB:=Lib.hid (Blk.of_ext hy ((Blk.new_at (b:=W20.heap.size + 1) (W20.alloc (.cells #[.int .i64 (id2:Int)] 3)) 9 #[.string (str key)] (by simp)).drew1) (fun h=>h));clear hy) | ((with_reducible have hy:=(hx13:Ext No (W20.alloc (.cells #[.string (str key)] 9)).drew w13));have HKB:=Lib.hid (Blk.of_ext hy ((Blk.new W20 9 #[.string (str key)]).drew1) (fun h=>h));clear hy) | ((with_reducible have hy:=(hx13:Ext No (W20.alloc (.cells #[.int .i64 (id2:Int)] 3)).drew w13));have HIB:=Lib.hid (Blk.of_ext hy ((Blk.new W20 3 #[.int .i64 (id2:Int)]).drew1) (fun h=>h));clear hy) | skip);clear hown hx13 hE13)
          | (go_at_call 144;refine (HIK.out _ _ _ _ (own_of_ext (F:=No) ?_ HO13.out (fun _ _ h=>h)) ?_ ?_ ?_).mono ?_;(with_reducible (repeat' (first | exact Ext.refl _ _ | exact HE15.out | exact HE14.out | exact HE13.out | apply Ext.drew | apply Ext.alloc)));(with_reducible (first | exact HKB.out | exact HKB.out.alloc _ | exact Blk.new _ _ _ | exact (Blk.new _ _ _).alloc _ | exact Blk.new_at _ _ _ (by simp) | exact (HKB.out.alloc _).alloc _));(intro h;have h1:=HO13.out.lt _ h.symm;have h2:=HX13.out.size;first | omega | (simp at h1 h2;done) | (simp at h1 h2;omega));(have h2:=HX13.out.size;first | omega | (simp at h2 ⊢;done) | (simp at h2 ⊢;omega));rintro e w14 ⟨KB,kd,rfl,hrd,hcc,hnil,hx14⟩;have HR14:=Lib.hid hrd;have HC14:=Lib.hid hcc;have HN14:=Lib.hid hnil;have HX14:=Lib.hid hx14;have hE14:Ext No W20 w14:=(by refine Ext.trans ?_ hx14 (fun i hi hb=>?_);(with_reducible (repeat' (first | exact Ext.refl _ _ | exact HE15.out | exact HE14.out | exact HE13.out | apply Ext.drew | apply Ext.alloc)));exfalso;have h1:=HO13.out.lt _ hb;have h2:=HX13.out.size;first | omega | (simp at h1 h2;done) | (simp at h1 h2;omega) | (simp at h1 h2 hi;done) | (simp at h1 h2 hi;omega));have HE14:=Lib.hid hE14;clear k2 k3;have k2:=cell_ext hE14 p2 (fun h=>h);have k3:=cell_ext hE14 p3 (fun h=>h);(first | ((with_reducible have hy:=(hx14:Ext (fun b=>(Value.slice KA sp.n.keys.length kc).ownBlock = some b) ((w13.alloc (.cells #[.string (str key)] 9)).alloc (.cells #[.int .i64 (id2:Int)] 3)) w14));have HIB:=Lib.hid (Blk.of_ext hy (Blk.new_at (b:=w13.heap.size + 1) (w13.alloc (.cells #[.string (str key)] 9)) 3 #[.int .i64 (id2:Int)] (by simp)) (by intro h;have h1:=HO13.out.lt _ h;have h2:=HX13.out.size;first | omega | (simp at h1 h2;done) | (simp at h1 h2;omega)));clear hy) | ((with_reducible have hy:=(hx14:Ext (fun b=>(Value.slice KA sp.n.keys.length kc).ownBlock = some b) ((w13.alloc (.cells #[.int .i64 (id2:Int)] 3)).alloc (.cells #[.string (str key)] 9)) w14));have HIB:=Lib.hid (Blk.of_ext hy ((Blk.new w13 3 #[.int .i64 (id2:Int)]).alloc _) (by intro h;have h1:=HO13.out.lt _ h;have h2:=HX13.out.size;first | omega | (simp at h1 h2;done) | (simp at h1 h2;omega)));clear hy) | ((with_reducible have hy:=(hx14:Ext (fun b=>(Value.slice KA sp.n.keys.length kc).ownBlock = some b) (w13.alloc (.cells #[.int .i64 (id2:Int)] 3)) w14));have HIB:=Lib.hid (Blk.of_ext hy (Blk.new w13 3 #[.int .i64 (id2:Int)]) (by intro h;have h1:=HO13.out.lt _ h;have h2:=HX13.out.size;first | omega | (simp at h1 h2;done) | (simp at h1 h2;omega)));clear hy) | ((with_reducible have hy:=(hx14:Ext (fun b=>(Value.slice KA sp.n.keys.length kc).ownBlock = some b) (w13.alloc (.cells #[.string (str key)] 9)) w14));have HIB:=Lib.hid (Blk.of_ext hy (HIB.out.alloc _) (by intro h;have h1:=HO13.out.lt _ h;have h2:=HX13.out.size;first | omega | (simp at h1 h2;done) | (simp at h1 h2;omega)));clear hy) | ((with_reducible have hy:=(hx14:Ext (fun b=>(Value.slice KA sp.n.keys.length kc).ownBlock = some b) w13 w14));have HIB:=Lib.hid (Blk.of_ext hy (HIB.out) (by intro h;have h1:=HO13.out.lt _ h;have h2:=HX13.out.size;first | omega | (simp at h1 h2;done) | (simp at h1 h2;omega)));clear hy) | skip);clear hrd hcc hnil hx14 hE14)
          | (go_at_call 146;refine (HCI.out _ ?_).mono ?_;(with_reducible (repeat' (first | exact Ext.refl _ _ | exact HE15.out | exact HE14.out | exact HE13.out | apply Ext.drew | apply Ext.alloc)));rintro e w15 ⟨IA,ic,rfl,hown,hx15⟩;have HO15:=Lib.hid hown;have HX15:=Lib.hid hx15;have hE15:Ext No W20 w15:=(by refine Ext.trans_ ?_ hx15;(with_reducible (repeat' (first | exact Ext.refl _ _ | exact HE15.out | exact HE14.out | exact HE13.out | apply Ext.drew | apply Ext.alloc))));have HE15:=Lib.hid hE15;have hF15:Ext No w14 w15:=(by refine Ext.trans_ ?_ hx15;(with_reducible (repeat' (first | exact Ext.refl _ _ | apply Ext.drew | apply Ext.alloc))));have HF15:=Lib.hid hF15;clear k2 k3;have k2:=cell_ext hE15 p2 (fun h=>h);have k3:=cell_ext hE15 p3 (fun h=>h);(first | ((with_reducible have hy:=(hx15:Ext No (w14.alloc (.cells #[.int .i64 (id2:Int)] 3)) w15));have HIB:=Lib.hid (Blk.of_ext hy (Blk.new w14 3 #[.int .i64 (id2:Int)]) (fun h=>h));clear hy) | ((with_reducible have hy:=(hx15:Ext No w14 w15));have HIB:=Lib.hid (Blk.of_ext hy (HIB.out) (fun h=>h));clear hy) | skip);clear hown hx15 hE15 hF15)
          | (go_at_call 145;refine (HII.out _ _ _ _ (own_of_ext (F:=No) ?_ HO15.out (fun _ _ h=>h)) ?_ ?_ ?_).mono ?_;(with_reducible (repeat' (first | exact Ext.refl _ _ | apply Ext.drew | apply Ext.alloc)));(with_reducible (first | exact HIB.out | exact HIB.out.alloc _ | exact Blk.new _ _ _ | exact (Blk.new _ _ _).alloc _ | exact Blk.new_at _ _ _ (by simp) | exact (HIB.out.alloc _).alloc _));(intro h;have h1:=HO15.out.lt _ h.symm;have h2:=HX15.out.size;have h3:=HX14.out.size;have h4:=HX13.out.size;first | omega | (simp at h1 h2 h3 h4;done) | (simp at h1 h2 h3 h4;omega));(have h2:=HX15.out.size;first | omega | (simp at h2 ⊢;done) | (simp at h2 ⊢;omega));rintro e w16 ⟨IB,id,rfl,hrd,hcc,hnil,hx16⟩;have HR16:=Lib.hid hrd;have HC16:=Lib.hid hcc;have HN16:=Lib.hid hnil;have hE16:Ext No W20 w16:=(by refine Ext.trans ?_ hx16 (fun i hi hb=>?_);(with_reducible (repeat' (first | exact Ext.refl _ _ | exact HE15.out | exact HE14.out | exact HE13.out | apply Ext.drew | apply Ext.alloc)));exfalso;have h1:=HO15.out.lt _ hb;have h2:=HE14.out.size;have h3:=HX15.out.size;first | omega | (simp at h1;done) | (simp at h1;omega));have HE16:=Lib.hid hE16;have hF16:Ext (fun b=>b < W20.heap.size ∨ w14.heap.size ≤ b) w14 w16:=(by refine Ext.trans (F:=fun b=>b < W20.heap.size ∨ w14.heap.size ≤ b) ?_ hx16 (fun i hi hb=>?_);refine Ext.trans_ HF15.out.of_no ?_;(with_reducible (repeat' (first | exact Ext.refl _ _ | apply Ext.drew | apply Ext.alloc)));exact Or.inr (by have h1:=HO15.out.lt _ hb;have h2:=HF15.out.size;have h3:=HX15.out.size;first | omega | (simp at h1;done) | (simp at h1;omega)));have HF16:=Lib.hid hF16;have hR14:Rd w14 (fun b=>b < W20.heap.size ∨ w14.heap.size ≤ b) 1 KB (sp.n.keys.length + 1) _:=HR14.out.mono (by omega) (fun b hb h=>by show b < _;rcases h with h | h;(have h2:=HE13.out.size;have h3:=HX13.out.size;first | omega | (simp at h2 h3 ⊢;omega));exact absurd h (by omega));have HRK:=Lib.hid (hR14.ext hF16);have hRI:Rd w16 (fun b=>b < W20.heap.size) 1 IB (sp.n.kids.length + 1) _:=hrd.mono (by omega) (fun b hb h=>by show b < _;have h4:b < W20.heap.size:=h;have h2:=HE14.out.size;have h3:=HX15.out.size;first | omega | (simp;omega) | (simp at h2 h3 ⊢;omega));have HRI:=Lib.hid hRI;have hb16:=Blk.of_ext hE16 HBN20.out (fun h=>h);have HB16:=Lib.hid hb16;obtain ⟨s0,s1,s2,s3,f0,f1,f2,f3,lf⟩:=hb16.p4;clear k2 k3;have k2:=cell_ext hE16 p2 (fun h=>h);have k3:=cell_ext hE16 p3 (fun h=>h);clear hrd hcc hnil hx16 hE16 hF16 hR14 hRI hb16))
        all_goals (
         go_wp2_with fail
         go_roundg (j + 1)
         case rel =>
          have hend:=grow_end s hs w w12 W20 w16 sp key id2 v12 KB kd IB id HUPK HOLD HDB HWF HX20 HE20 HE16 HT12 (w14.heap.size) HRK HRI HC14 HC16 HN14 HN16
          refine ⟨j,⟨false,[],sp.n.keys.insertIdx sp.i key,sp.n.kids.insertIdx (sp.i + 1) id2⟩,v12,⟨none,0,KB,kd,IB,id⟩,by go_num,Lib.hid rfl,Lib.hid (by have:=hkk.out;omega),?_,hend.1,HFN,hend.2.1,HG12,hend.2.2,HD20⟩
          have e1:(sp.n.keys.insertIdx sp.i key).length = sp.n.keys.length + 1:=List.length_insertIdx_of_le_length HUPK.out.2.2 _
          have e2:(sp.n.kids.insertIdx (sp.i + 1) id2).length = sp.n.kids.length + 1:=List.length_insertIdx_of_le_length (by have h1:=((Nd.Ok.of HUPK.out.2.1).br HUPK.out.1).2;have h2:=HUPK.out.2.2;omega) _
          simp only [e1,e2,List.length_nil]
          exact HB16.out.put4 (.bool false) (.slice none 0 0) (.slice KB (sp.n.keys.length + 1) kd) (.slice IB (sp.n.kids.length + 1) id)
         case measure=>have:=hgk.out;omega)
      ·have hD:(c12,v12) = D:=by rw [← HD12.out,if_pos h12]
       subst hD
       have h12':((c12:Int) != 0) = true:=by simpa using (by omega:¬ (c12:Int) = 0)
       clear h12
       go_wp2_with fail
       go_ret
       exact ⟨rfl,HT12.out,HG12.out,HE12.out⟩
     ·have hD:(c9,v9) = D:=by rw [← HD9.out,if_pos h9]
      subst hD
      have h9':((c9:Int) != 0) = true:=by simpa using (by omega:¬ (c9:Int) = 0)
      clear h9
      go_wp2_with fail
      go_ret
      exact ⟨rfl,HT9.out,HG9.out,HE9.out⟩
   ·have hD:(r1,v2) = D:=by rw [← HD'.out,V.grow,if_pos (by rw [← HR.out];exact hk3),HR.out]
    subst hD
    have hk3':((r1:Int) != 3) = true:=by simpa using (by omega:¬ (r1:Int) = 3)
    clear hk3
    go_wp2_with fail
    go_ret
    exact ⟨rfl,HT2.out,HG2.out,HE2.out⟩
theorem up_ok {v:V} {key:Bs} {ws:List Stp} (h:WayOk v key ws):∀ st ∈ ws.dropLast,UpOk st:=by
 intro st hs
 have hm:=(List.dropLast_sublist ws).subset hs
 obtain ⟨h1,h2⟩:=h.all st hm
 have hl:=h.up st hs
 have hok:=V.node_ok h1
 refine ⟨hl,hok,?_⟩
 have h3:=(Nd.find_le hok key).2 hl
 have h4:=((Nd.Ok.of hok).br hl).2
 rw [h2];omega
theorem put_full (s:Sys) (hs:s.Ok) (w:World) (v:V) (h:TxAt w s v) (hg:v.Good) (gx i:Nat) (hx:Blk w gx 70 (treeCells s i)) (hi:i < 4) (key val:Bs) :
  Calls Tryz.prog 25 #[.pointer (some ⟨gx,0,none⟩),.string (str key),.string (str val)] w (Did s w (v.Put s.cap i key val)):=by
 by_cases hm:may key val = 0
 ·refine Put_of s hs w v h hg gx i hx key val hm fun w' e=>?_
  have h':=h.no hs e
  have hx':=hx.ext e (fun h=>h)
  have hkv:key.length ≤ 140 ∧ val.length ≤ 16384:=by
   unfold may at hm
   split at hm
   ·cases hm
   ·split at hm
    ·cases hm
    ·omega
  have hM:=mk_any s hs v hg h.h2 key val hkv.1 hkv.2
  cases hw:v.way i key with
  | none =>
   have hp:v.put0 s.cap i key val = (5,v):=by unfold V.put0;rw [hw]
   rw [hp]
   exact put0_none s hs w' v h' hg gx i hx' hi key val hw
  | some ws =>
   by_cases he:(v.mkCell s.cap key val).2.1 = 0
   ·match ws,hw with
    | [],hw=>exact put0_first s hs w' v h' hg gx i hx' hi key val hw hM he
    | a :: l,hw =>
     obtain ⟨st,hst⟩:∃ st,(a :: l).getLast? = some st:=⟨_,List.getLast?_eq_some_getLast (by simp)⟩
     have hup:=up_ok (way_ok hw)
     cases hh:hit (a :: l) key with
     | none =>
      have hp:v.put0 s.cap i key val = V.grow s.cap i (a :: l).reverse (st.n.put (v.mkCell s.cap key val).1) (v.mkCell s.cap key val).2.2:=by
       unfold V.put0
       rw [hw]
       simp only [he,ne_eq,not_true,if_false,hst,hh]
      rw [hp]
      exact put0_new s hs w' v h' hg gx i hx' hi key val (a :: l) hw st hst hM he hh (grow_any s hs i hi _ _ _ (by simp) hup)
     | some d =>
      have hp:v.put0 s.cap i key val = if ((v.mkCell s.cap key val).2.2.letGo d).1 ≠ 0 then (v.mkCell s.cap key val).2.2.letGo d else V.grow s.cap i (a :: l).reverse (st.n.put (v.mkCell s.cap key val).1) ((v.mkCell s.cap key val).2.2.letGo d).2:=by
       unfold V.put0
       rw [hw]
       simp only [he,ne_eq,not_true,if_false,hst,hh]
      rw [hp]
      exact put0_hit s hs w' v h' hg gx i hx' hi key val (a :: l) hw st hst hM he d hh (fun _=>grow_any s hs i hi _ _ _ (by simp) hup)
   ·have hp:v.put0 s.cap i key val = (v.mkCell s.cap key val).2:=by
     unfold V.put0
     rw [hw]
     simp only [ne_eq,he,not_false_iff,if_true]
    rw [hp]
    exact put0_mk s hs w' v h' hg gx i hx' hi key val ws hw hM he
 ·have hp:v.Put s.cap i key val = (may key val,v):=by unfold V.Put;rw [if_pos hm]
  rw [hp]
  exact Put_bad s hs w v h hg gx i hx key val hm
structure NOk (n:Nd):Prop where
 f:n.fits
 lf:n.leaf = true → n.keys = []
 br:n.leaf = false → n.kids.length = n.keys.length + 1 ∧ ∀ i ∈ n.kids,i < 2147483648
end Go.Proofs.YtccnemmlkcmceaaGreatDoor
