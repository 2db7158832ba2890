/- Proofs about the given program, joined out of the texts S3, Shelf, G3, MK, X5, X7, X8, E3, E8, EA, J1, I1. -/
import Derived.Test.YtccnemmlkcmceaaGreatDoorHE30
set_option linter.unusedVariables false
set_option linter.unusedSimpArgs false
set_option maxRecDepth 100000
set_option maxHeartbeats 6400000
namespace Go.Proofs.YtccnemmlkcmceaaGreatDoor
open Go.RowKit
def Nd.Size (n:Nd):Nat:=if n.ok then n.size else 0
theorem Size_any (n:Nd) (w:World) (F:Nat → Prop) (A1:Option Addr) (c1:Nat) (A2:Option Addr) (c2:Nat) (A3:Option Addr) (c3:Nat) (hn:NodeAt w F A1 c1 A2 c2 A3 c3 n) (hf:n.fits) :
  Calls Tryz.prog 148 #[n.value A1 c1 A2 c2 A3 c3] w fun e w'=>e = .returned (.int .i64 (n.Size:Int)) ∧ Ext No w w':=by
 have HC:=Lib.hid (fun w hn=>check_any n w F A1 c1 A2 c2 A3 c3 hn hf)
 have HS:=Lib.hid (fun w hn=>size_any n w F A1 c1 A2 c2 A3 c3 hn hf)
 cases hno:n.ok
 ·have e:n.Size = 0:=by simp [Nd.Size,hno]
  rw [Nd.chk_bad hno] at HC
  rw [e]
  clear e hno
  go_enter Tryz.func148,Tryz.ntmps148
  simp only [Nd.value]
  go_wp2_with fail
  refine (HC.out _ (hn.ext ((Ext.refl _ w).alloc _))).mono ?_
  rintro e w1 ⟨rfl,hb1⟩
  go_wp2_with fail
  go_ret
  exact ⟨rfl,by (repeat' (first | exact Ext.refl _ _ | assumption | apply Ext.alloc | apply Ext.drewN | apply Ext.drew | refine Ext.setNew ?_ (by first | omega | (simp;omega) | simp) _ _ | refine Ext.setF ?_ (by first | exact Or.inl rfl | exact Or.inr rfl | rfl) _ _ | refine Ext.trans_ ?_ (by assumption) | refine Ext.trans_ ?_ (Ext.of_no (by assumption))))⟩
 ·have e:n.Size = n.size:=by simp [Nd.Size,hno]
  rw [Nd.chk_ok hno] at HC
  rw [e]
  clear e hno
  go_enter Tryz.func148,Tryz.ntmps148
  simp only [Nd.value]
  go_wp2_with fail
  refine (HC.out _ (hn.ext ((Ext.refl _ w).alloc _))).mono ?_
  rintro e w1 ⟨rfl,hb1⟩
  have bb:=(Blk.new w 40 #[.bool n.leaf,.slice A1 n.cells.length c1,.slice A2 n.keys.length c2,.slice A3 n.kids.length c3]).ext hb1 (fun h=>h)
  have q0:=bb.cell 0
  have q1:=bb.cell 1
  have q2:=bb.cell 2
  have q3:=bb.cell 3
  have bl:=bb.lt
  simp at q0 q1 q2 q3
  go_wp2_with fail
  refine (HS.out _ (hn.ext (((Ext.refl _ w).alloc _).trans_ hb1.of_no))).mono ?_
  rintro e w2 ⟨rfl,hb2⟩
  go_wp2_with fail
  go_ret
  exact ⟨rfl,by (repeat' (first | exact Ext.refl _ _ | assumption | apply Ext.alloc | apply Ext.drewN | apply Ext.drew | refine Ext.setNew ?_ (by first | omega | (simp;omega) | simp) _ _ | refine Ext.setF ?_ (by first | exact Or.inl rfl | exact Or.inr rfl | rfl) _ _ | refine Ext.trans_ ?_ (by assumption) | refine Ext.trans_ ?_ (Ext.of_no (by assumption))))⟩
end Go.Proofs.YtccnemmlkcmceaaGreatDoor
namespace Go.Proofs
open Go.Shelf
def Tryz.laysNm217_ren:Go.Shelf.Ren:=⟨fun | 17=>223 | n=>n,fun | 24=>38 | 9=>9 | 3=>3 | 4=>4 | 0=>0 | n=>n,fun | n=>n⟩
def Tryz.laysNm223_ren:Go.Shelf.Ren:=⟨fun | 23=>152 | n=>n,fun | 22=>35 | 3=>3 | 4=>4 | 0=>0 | n=>n,fun | n=>n⟩
theorem Tryz.laysNm223:Go.Proofs.Lays2.n23 Tryz.prog Tryz.laysNm223_ren:={
 mixed:=by kernel_rfl
 f23:=Tryz.func152.trans (congrArg some (by kernel_rfl))
 t0:=Tryz.underlying0
 a0:=Tryz.isAgg0
 z0:=Tryz.sizeOf0
 v0:=Tryz.zeroValue0
 t3:=Tryz.underlying3
 a3:=Tryz.isAgg3
 z3:=Tryz.sizeOf3
 v3:=Tryz.zeroValue3
 t4:=Tryz.underlying4
 a4:=Tryz.isAgg4
 z4:=Tryz.sizeOf4
 v4:=Tryz.zeroValue4
 t22:=Tryz.underlying35
 a22:=Tryz.isAgg35
 z22:=Tryz.sizeOf35
 v22:=Tryz.zeroValue35
 i3:=by kernel_rfl }
def Tryz.laysNm224_ren:Go.Shelf.Ren:=⟨fun | 24=>151 | n=>n,fun | 24=>38 | 9=>9 | 3=>3 | 4=>4 | 0=>0 | n=>n,fun | n=>n⟩
theorem Tryz.laysNm224:Go.Proofs.Lays2.n24 Tryz.prog Tryz.laysNm224_ren:={
 mixed:=by kernel_rfl
 f24:=Tryz.func151.trans (congrArg some (by kernel_rfl))
 t0:=Tryz.underlying0
 a0:=Tryz.isAgg0
 z0:=Tryz.sizeOf0
 v0:=Tryz.zeroValue0
 t3:=Tryz.underlying3
 a3:=Tryz.isAgg3
 z3:=Tryz.sizeOf3
 v3:=Tryz.zeroValue3
 t4:=Tryz.underlying4
 a4:=Tryz.isAgg4
 z4:=Tryz.sizeOf4
 v4:=Tryz.zeroValue4
 t9:=Tryz.underlying9
 a9:=Tryz.isAgg9
 z9:=Tryz.sizeOf9
 v9:=Tryz.zeroValue9
 t24:=Tryz.underlying38
 a24:=Tryz.isAgg38
 z24:=Tryz.sizeOf38
 v24:=Tryz.zeroValue38
 i9:=by kernel_rfl }
open Go.RowKit Go.Lib Go.Sort in
theorem Tryz.slices_Delete_int_cells (b off n c i j:Nat) (zs:List Int) (w:World) (hz:n ≤ zs.length) (hcap:n ≤ c) (hm:c ≤ 9223372036854775807) (hij:i ≤ j) (hj:j ≤ n) (hc:∀ j,j < zs.length → w.cell? ⟨b,off + j,none⟩ = some (.int .i64 (zs.getD j 0))) (hf:∀ j,j < n → w.frozen? ⟨b,off + j,none⟩ = false) :
  Calls Tryz.prog 152 #[.slice (some ⟨b,off,none⟩) n c,.int .i64 i,.int .i64 j] w fun e w'=>e = .returned (.slice (some ⟨b,off,none⟩) (n - (j - i)) c) ∧ ∃ q,w' = (w.drewN q).setCells b off (((zs.take n).take i ++ (zs.take n).drop j ++ List.replicate (j - i) 0).map (Value.int .i64)):=Any.slices_Delete_int_cells Tryz.laysNm223 b off n c i j zs w hz hcap hm hij hj hc hf
open Go.RowKit Go.Lib Go.Sort in
theorem Tryz.slices_Delete_string_cells (b off n c i j:Nat) (Sx:Nat → ByteArray) (w:World) (hcap:n ≤ c) (hm:c ≤ 9223372036854775807) (hij:i ≤ j) (hj:j ≤ n) (hc:∀ i,i < n → w.cell? ⟨b,off + i,none⟩ = some (.string (Sx i))) (hf:∀ j,j < n → w.frozen? ⟨b,off + j,none⟩ = false) :
  Calls Tryz.prog 151 #[.slice (some ⟨b,off,none⟩) n c,.int .i64 i,.int .i64 j] w fun e w'=>e = .returned (.slice (some ⟨b,off,none⟩) (n - (j - i)) c) ∧ ∃ q,w' = (w.drewN q).setCells b off (((Lib.strsOf Sx n).take i ++ (Lib.strsOf Sx n).drop j ++ List.replicate (j - i) []).map encStr):=Any.slices_Delete_string_cells Tryz.laysNm224 b off n c i j Sx w hcap hm hij hj hc hf
end Go.Proofs
namespace Go.Proofs.YtccnemmlkcmceaaGreatDoor
open Go.RowKit
theorem grow_ints (n:Nat) (w:World) (hn:n < 100000) :
  Calls Tryz.prog 225 #[.slice none 0 0,.int .i64 (n:Int)] w (Row 3 1 w [] 0):=by
 obtain ⟨i0,hti,htz0,htz1,htz2⟩:=info_parts Tryz.info3
 by_cases h0:n = 0
 ·subst h0
  go_enter Tryz.func225,Tryz.ntmps225
  go_wp2_with fail
  go_ret
  exact ⟨none,0,rfl,World.ownsRow_nil _ _ _ _,Ext.refl _ _⟩
 ·have hp:0 < n:=by omega
  have hrun:=fun (w:World)=>Lib.run_append_nil_zeros (P:=Tryz.prog) w 35 3 35 3 i0 _ .i64 .i64 Tryz.underlying35 Tryz.underlying3 hti htz0 n hp (by omega) (by omega) (by rw [htz2];omega)
  have hge:=grownCap_ge w n 0 3
  have hle:=grownCap_le_maxLen w n 0 3 (by unfold maxLen;omega)
  have HG:=Lib.hid hge
  have HR:=Lib.hid hrun
  have HL:=Lib.hid hle
  unfold maxLen at hle
  clear hrun h0
  generalize hcap:grownCap w n 0 3 = cp at hge hle
  have hcp:(0:Int) ≤ (cp:Int):=by omega
  go_enter Tryz.func225,Tryz.ntmps225
  go_wp2_with (at_builtin;refine Lib.wpList_append_run _ rfl (.tmp 20) (.tmp 21) 35 3 rfl _ _ rfl rfl _ _ (HR.out _) ?_)
  go_ret
  refine ⟨some ⟨w.heap.size,0,none⟩,cp,rfl,⟨by simp,.inr ⟨w.heap.size,cp,_,rfl,Nat.le_refl _,heap_alloc_new w _,by omega,by rw [← hcap];exact HL.out,?_,by simp⟩⟩,((Ext.refl No w).alloc _).drew⟩
  rw [Array.size_append,size_zeroCells,size_zeroCells]
  show n * 1 + (cp - n) * 1 = cp * 1
  omega
theorem concat_ints (ps:List Part) (b m cap:Nat) (w:World) (hm:ps.length = m) (hps:∀ p ∈ ps,p.Ok w 1) (hsum:total ps < 100000) (hml:m < 100) (hmc:m ≤ cap)
  (hc:∀ j p,ps[j]? = some p → w.cell? ⟨b,j,none⟩ = some p.v) :
  Calls Tryz.prog 207 #[.slice (some ⟨b,0,none⟩) m cap] w (Row 3 1 w (joined ps) (total ps)):=by
 obtain ⟨i0,hti,htz0,htz1,htz2⟩:=info_parts Tryz.info3
 have HP:=Lib.hid hps;have HC:=Lib.hid hc;have HM:=Lib.hid hm
 have HGR:=Lib.hid (fun w=>grow_ints (total ps) w hsum)
 have HT:=Lib.hid (fun k=>total_le ps k)
 clear hps hc hm
 go_enter Tryz.func207,Tryz.ntmps207
 go_wp2_with fail
 go_loopg [3,11] m (fun gk s i wr=>∃ (k:Nat),k + gk = m ∧ i = .int .i64 (k:Int) ∧ s = .int .i64 (total (ps.take k):Int) ∧ w = wr)
 case atStart=>exact ⟨0,by omega,rfl,rfl,rfl⟩
 case round =>
  obtain ⟨k,hk0,rfl,rfl,rfl⟩:=hrel
  have HK0:=Lib.hid hk0
  have hk:k ≤ m:=by omega
  clear hk0
  have ht:=HT.out k
  by_cases hlt:k < m
  ·obtain ⟨p,hp⟩:∃ p,ps[k]? = some p:=⟨_,List.getElem?_eq_getElem (by rw [HM.out];exact hlt)⟩
   have e0:=HC.out k p hp
   have HE:=Lib.hid (total_take ps k p hp)
   have ht2:=HT.out (k + 1)
   rw [HE.out] at ht2
   generalize total (ps.take k) = s0 at ht ht2 HE ⊢
   clear hp
   unfold Part.v at e0
   go_wp2_with fail
   go_roundg (gk - 1)
   case rel=>exact ⟨k + 1,by have:=HK0.out;omega,by go_num,by rw [HE.out];go_num,rfl⟩
   case measure=>have:=HK0.out;omega
  ·have hke:k = m:=by omega
   have htk:total (ps.take k) = total ps:=by rw [hke,← HM.out,List.take_length]
   rw [htk]
   clear htk hke ht
   go_wp2_with fail
   refine (HGR.out _).mono ?_
   rintro e w1 ⟨A,c,rfl,hown0,hx⟩
   have HO0:=Lib.hid hown0;have HX:=Lib.hid hx
   have hsz:=hx.size
   clear hown0 hx
   go_wp2_with fail
   go_loopg [6,27] m (fun gk v i wr=>∃ (k:Nat),k + gk = m ∧ i = .int .i64 (k:Int) ∧ wr.ownsRow w.heap.size 3 1 v (total (ps.take k)) (joined (ps.take k)) ∧ Ext No w wr)
   case atStart=>exact ⟨0,by omega,rfl,by simpa [total,joined] using HO0.out,HX.out⟩
   case round =>
    obtain ⟨k,hk0,rfl,hown,hE⟩:=hrel
    have HK0:=Lib.hid hk0;have HO:=Lib.hid hown;have HE:=Lib.hid hE
    have hk:k ≤ m:=by omega
    have hsz:=hE.size
    clear hk0 hown hE
    have ht:=HT.out k
    by_cases hlt:k < m
    ·obtain ⟨p,hp⟩:∃ p,ps[k]? = some p:=⟨_,List.getElem?_eq_getElem (by rw [HM.out];exact hlt)⟩
     have e0:=cell_ext HE.out (HC.out k p hp) (fun h=>h)
     have HE1:=Lib.hid (total_take ps k p hp)
     have HE2:=Lib.hid (joined_take ps k p hp)
     have ht2:=HT.out (k + 1)
     have hpo:=HP.out p (List.mem_of_getElem? hp)
     rw [HE1.out] at ht2
     unfold Part.v at e0
     clear hp
     obtain ⟨v',w2,hrun,hown2,hg⟩:=run_append_rd 35 35 w.heap.size 3 i0 _ 1 8 Tryz.underlying35 hti htz0 htz1 htz2 rfl (by decide) _ _ _ HO.out No p.A p.n p.c p.xs (hpo.rd.ext HE.out) hpo.e hpo.one (by unfold maxLen;omega) (by omega) hsz
     have HO2:=Lib.hid hown2;have HG:=Lib.hid hg;have HRN:=Lib.hid hrun
     clear hown2 hg hpo hrun
     go_wp2_with (at_builtin;refine Lib.wpList_append_run _ rfl (.tmp 31) (.tmp 32) 35 35 rfl _ _ rfl rfl _ _ HRN.out ?_)
     go_wp2_with fail
     go_roundg (gk - 1)
     case rel=>exact ⟨k + 1,by have:=HK0.out;omega,by go_num,by rw [HE1.out,HE2.out];exact HO2.out,HE.out.grown HG.out (own_bounds HO.out (Nat.le_refl _))⟩
     case measure=>have:=HK0.out;omega
    ·have hke:k = m:=by omega
     have HKE:=Lib.hid hke
     obtain ⟨A',c',hv⟩:=own_form HO.out
     subst hv
     clear hke ht
     go_wp2_with fail
     go_ret
     have hT:=HO.out
     have e1:ps.take k = ps:=by rw [HKE.out,← HM.out,List.take_length]
     rw [e1] at hT ⊢
     exact ⟨A',c',rfl,hT,HE.out⟩
section
variable {cap:Nat} {sp:Bool} {v u x:V}
theorem V.StepsB.trans (h:V.StepsB cap sp v u) (h':V.StepsB cap sp u x):V.StepsB cap sp v x:=by
 induction h' with
 | refl=>exact h
 | alloc _ ih=>exact ih.alloc
 | set id k b h1 h2 _ ih=>exact ih.set id k b h1 h2
 | drop id _ ih=>exact ih.drop id
 | setR i n _ ih=>exact ih.setR i n
 | spoil h _ ih=>exact ih.spoil h
theorem V.StepsB.settle (h:V.StepsB cap sp v u) (root id:Nat) (n:Nd) (first:Bool):V.StepsB cap sp v (u.settle root id n first).2:=by
 unfold V.settle
 split
 ·exact h.wr id n
 ·split
  ·exact h.drop id
  ·exact (h.drop id).setR _ _
theorem V.StepsB.share (h:V.StepsB cap sp v u) (root:Nat) (ws:List Stp) (up:Nd) (at_:Nat) (both:Nd):V.StepsB cap sp v (u.share cap root ws up at_ both).2:=by
 unfold V.share
 split
 ·exact h
 ·split
  ·exact h.wr _ _
  ·split
   ·exact (h.wr _ _).wr _ _
   ·exact grow_steps root _ _ _ ((h.wr _ _).wr _ _)
theorem shrink_steps (root:Nat):∀ (ws:List Stp) (n:Nd) (u:V),V.StepsB cap sp v u → V.StepsB cap sp v (V.shrink cap root ws n u).2
 | [],n,u,h=>h
 | [st],n,u,h=>by rw [V.shrink];exact h.settle _ _ _ _
 | st :: p :: up,n,u,h=>by
  rw [V.shrink]
  split
  ·exact h.settle _ _ _ _
  ·split
   ·exact h
   ·split
    ·exact h.share _ _ _ _ _
    ·split
     ·exact h.wr _ _
     ·split
      ·exact (h.wr _ _).drop _
      ·exact shrink_steps root _ _ _ ((h.wr _ _).drop _)
theorem V.StepsB.del0 (h:V.StepsB cap sp v u) (root:Nat) (key:Bs):V.StepsB cap sp v (u.del0 cap root key).2.2:=by
 unfold V.del0
 split
 ·exact h
 ·split
  ·split
   ·exact h.letGo _
   ·exact shrink_steps root _ _ _ (h.letGo _)
  ·exact h
theorem V.StepsB.Del (h:V.StepsB cap true v u) (root:Nat) (key:Bs):V.StepsB cap true v (u.Del cap root key).2.2:=by
 unfold V.Del
 split
 ·exact h
 ·split
  ·exact h.del0 root key
  ·exact (h.del0 root key).spoil rfl
end
theorem settle_branch (s:Sys) (hs:s.Ok) (w:World) (v:V) (h:TxAt w s v) (hg:v.Good) (gx i:Nat) (hx:Blk w gx 70 (treeCells s i)) (hi:i < 4) (id:Nat) (n:Nd) (a:Adr)
  (hlf:n.leaf = false) (hk:n.keys = []) (hn:NodeIn w s.F a n) (kid:Nat) (hkid:n.kids[0]? = some kid) (hk31:kid < 2147483648) :
  Calls Tryz.prog 153 #[.pointer (some ⟨gx,0,none⟩),.int .i64 (id:Int),n.value a.A1 a.c1 a.A2 a.c2 a.A3 a.c3,.bool true] w (Did s w (v.settle i id n true)):=by
 have HF:=Lib.hid (fun o=>free_any s hs (w.alloc o) v (h.no hs ((Ext.refl No w).alloc o)) hg id)
 have HG:=Lib.hid (hg.drop id)
 have HX:=Lib.hid (fun (w':World) (e:Ext s.F w w')=>tree_ext h hx e)
 have HS:=Lib.hid (fun w h=>setroot_any s hs w (v.drop id).2 h i kid hi hk31)
 have hkd:n.kids.getD 0 0 = kid:=by simp [List.getD,hkid]
 have e:v.settle i id n true = if (v.drop id).1 ≠ 0 then v.drop id else (0,(v.drop id).2.setR i kid):=by
  unfold V.settle;rw [if_neg (by simp [hlf,hk])];simp only [hlf,Bool.false_eq_true,if_false,hkd]
 rw [e]
 obtain ⟨kb,ko,hA3,hbF,q0⟩:=hn.kids.kidAt hkid
 simp only [Nat.add_zero] at q0
 have lq:=World.block_lt_of_cell? w _ q0
 simp only at lq
 have hil:0 < n.kids.length:=(List.getElem?_eq_some_iff.1 hkid).1
 have hil':(0:Int) < n.kids.length:=by omega
 have c0:=hx.cell 0
 simp [treeCells] at c0
 have hgl:=hx.lt
 generalize v.drop id = r at *
 obtain ⟨k,v2⟩:=r
 simp only [Nd.value,hlf,hk,List.length_nil,hA3] at HF HG HS ⊢
 generalize n.kids.length = il at *
 generalize n.cells.length = cl at *
 clear e h hg hx hlf hk hn hkid hkd hA3 hbF
 by_cases hk:k = 0
 ·subst hk
  rw [if_neg (by simp)]
  go_enter Tryz.func153,Tryz.ntmps153
  go_wp2_with fail
  refine (HF.out _).mono ?_
  rintro e w2 ⟨rfl,hT,hx2⟩
  have hE2:=((Ext.refl s.F w).alloc (.cells #[.bool false,.slice a.A1 cl a.c1,.slice a.A2 0 a.c2,.slice (some ⟨kb,ko,none⟩) il a.c3] 40)).trans_ hx2
  have hX2:=HX.out _ hE2
  have d0:=hX2.cell 0
  have d1:=hX2.cell 1
  simp [treeCells] at d0 d1
  have HSR:=Lib.hid (HS.out w2.drew (hT.no hs (Ext.refl No w2).drew))
  have HE2:=Lib.hid hE2
  clear hT hx2 hE2 hX2
  go_wp2_with fail
  go_region_law ((go_simp;go_at_call 21;refine (HSR.out).mono ?_;rintro e w7 ⟨rfl,hT7,hx7⟩;have HT7:=Lib.hid hT7;have HX7:=Lib.hid hx7;clear hT7 hx7))
  all_goals (
   go_wp2_with fail
   go_ret
   exact ⟨rfl,HT7.out,HG.out.setR _ _,HE2.out.drew.trans_ HX7.out⟩)
 ·rw [if_pos hk]
  have hk':((k:Int) != 0) = true:=by simpa using (by omega:¬ (k:Int) = 0)
  clear hk
  go_enter Tryz.func153,Tryz.ntmps153
  go_wp2_with fail
  refine (HF.out _).mono ?_
  rintro e w2 ⟨rfl,hT,hx2⟩
  go_wp2_with fail
  go_ret
  exact ⟨rfl,hT,HG.out,((Ext.refl s.F w).alloc _).trans_ hx2⟩
theorem del0_none (s:Sys) (hs:s.Ok) (w:World) (v:V) (h:TxAt w s v) (hg:v.Good) (gx i:Nat) (hx:Blk w gx 70 (treeCells s i)) (hi:i < 4) (key:Bs) (hw:v.way i key = none) :
  Calls Tryz.prog 63 #[.pointer (some ⟨gx,0,none⟩),.string (str key)] w (DidB s w (false,5,v)):=by
 have HW:=Lib.hid (way_any s hs w v h hg gx i hx hi key)
 have HT:=Lib.hid (fun (w':World) (e:Ext No w w')=>h.no hs e)
 have HG:=Lib.hid hg
 rw [hw] at HW
 clear h hg hx hw
 go_enter Tryz.func63,Tryz.ntmps63
 go_wp2_with fail
 refine (HW.out).mono ?_
 rintro e' w2 ⟨hx2,rfl⟩
 go_wp2_with fail
 go_ret2
 exact ⟨rfl,HT.out _ hx2,HG.out,hx2.of_no⟩
theorem del0_miss (s:Sys) (hs:s.Ok) (w:World) (v:V) (h:TxAt w s v) (hg:v.Good) (gx i:Nat) (hx:Blk w gx 70 (treeCells s i)) (hi:i < 4) (key:Bs) (ws:List Stp) (hw:v.way i key = some ws) (hh:hit ws key = none) :
  Calls Tryz.prog 63 #[.pointer (some ⟨gx,0,none⟩),.string (str key)] w (DidB s w (false,0,v)):=by
 have HW:=Lib.hid (way_any s hs w v h hg gx i hx hi key)
 have HT:=Lib.hid (fun (w':World) (e:Ext No w w')=>h.no hs e)
 have HG:=Lib.hid hg
 have HWO:=Lib.hid (way_ok hw)
 rw [hw] at HW
 clear h hg hx hw
 have HH:=Lib.hid hh
 clear hh
 rcases Nat.eq_zero_or_pos ws.length with hwl | hwl
 ·have hn:ws = []:=List.eq_nil_of_length_eq_zero hwl
  subst hn
  clear hwl
  go_enter Tryz.func63,Tryz.ntmps63
  go_wp2_with fail
  refine (HW.out).mono ?_
  rintro e' w2 ⟨hx2,A,cap,l,hl,rfl,_⟩
  clear hl
  simp only [List.length_nil]
  go_wp2_with fail
  go_ret2
  exact ⟨rfl,HT.out _ hx2,HG.out,hx2.of_no⟩
 ·obtain ⟨m,hwl⟩:∃ m,ws.length = m + 1:=by cases hz:ws.length <;> simp_all
  have hst:∃ st,ws.getLast? = some st:=by cases hz:ws.getLast? <;> simp_all
  obtain ⟨st,hst⟩:=hst
  have HST:=Lib.hid hst
  have hm41:m ≤ 40:=by have:=HWO.out.len;omega
  have HWL:=Lib.hid hwl
  have hhit:=hit_eq hst key
  rw [HH.out] at hhit
  have HHIT:=Lib.hid hhit
  clear hst hwl hhit
  go_enter Tryz.func63,Tryz.ntmps63
  go_wp2_with fail
  refine (HW.out).mono ?_
  rintro e' w2 ⟨hx2,A,cap,l,hl,rfl,hWA⟩
  rw [HWL.out]
  obtain ⟨ad,b,o,rfl,hL⟩:=Lst.of HWO.out HWL.out HST.out hl hWA
  obtain ⟨q0,q1,q2,q3,q4,q5⟩:=And.intro hL.q0 (And.intro hL.q1 (And.intro hL.q2 (And.intro hL.q3 (And.intro hL.q4 hL.q5))))
  have lb:=hL.lb
  have hcap:=hL.hcap
  have hcl1:=hL.hcl1
  have hb1:=hL.hb1
  have hile:=hL.ile
  have hnode:=hL.node
  have HX2:=Lib.hid hx2
  clear hl hWA hL hx2
  rcases Nat.lt_or_ge st.i st.n.cells.length with hlt | hge
  ·obtain ⟨d,hd⟩:∃ d,st.n.cells[st.i]? = some d:=⟨_,List.getElem?_eq_getElem hlt⟩
   obtain ⟨cb,co,hA1,_,k0,k1,k2,k3⟩:=hnode.cells.cellAt hd
   have lc:=World.block_lt_of_cell? w2 _ k0
   simp only at lc
   rw [hA1] at q2
   have hhit:=HHIT.out
   rw [hd] at hhit
   simp only at hhit
   have hbk:(d.key == key) = false:=by
    by_cases hk:d.key = key
    ·rw [if_pos hk] at hhit;cases hhit
    ·simpa using hk
   have hnei:¬ ((st.i:Int) = (st.n.cells.length:Int)):=by omega
   clear hd hnode hA1 hile hhit
   generalize st.i = si at *
   generalize st.n.cells.length = cl at *
   generalize st.n.keys.length = kl at *
   generalize st.n.kids.length = il at *
   generalize st.id = sid at *
   go_wp2_with fail
   go_ret2
   exact ⟨rfl,HT.out _ (HX2.out.alloc _),HG.out,(HX2.out.alloc _).of_no⟩
  ·have hieq:(st.i:Int) = (st.n.cells.length:Int):=by omega
   clear hnode hile hge
   generalize st.i = si at *
   generalize st.n.cells.length = cl at *
   generalize st.n.keys.length = kl at *
   generalize st.n.kids.length = il at *
   generalize st.id = sid at *
   have hse:si = cl:=by omega
   subst hse
   clear hieq
   go_wp2_with fail
   go_ret2
   exact ⟨rfl,HT.out _ (HX2.out.alloc _),HG.out,(HX2.out.alloc _).of_no⟩
theorem Del_bad (s:Sys) (hs:s.Ok) (w:World) (v:V) (h:TxAt w s v) (hg:v.Good) (gx i:Nat) (hx:Blk w gx 70 (treeCells s i)) (key:Bs) (hm:may key [] ≠ 0) :
  Calls Tryz.prog 27 #[.pointer (some ⟨gx,0,none⟩),.string (str key)] w (DidB s w (false,may key [],v)):=by
 have HM:=Lib.hid (may_any s hs w v h gx i hx key [])
 have HT:=Lib.hid (fun (w':World) (e:Ext No w w')=>h.no hs e)
 have HG:=Lib.hid hg
 have hm':((may key []:Int) != 0) = true:=by simpa using (by omega:¬ (may key []:Int) = 0)
 generalize may key [] = k at *
 clear h hg hx hm
 go_enter Tryz.func27,Tryz.ntmps27
 go_wp2_with fail
 refine (HM.out).mono ?_
 rintro e' w1 ⟨rfl,hx1⟩
 go_wp2_with fail
 go_ret2
 exact ⟨rfl,HT.out _ hx1,HG.out,hx1.of_no⟩
theorem lastB_append (lo:Bs) (a b:List (Nat × Bs)):lastB lo (a ++ b) = lastB (lastB lo a) b:=by
 induction a generalizing lo with
 | nil=>rfl
 | cons p a ih=>exact ih p.2
def del (key:Bs) (E:List Ent):List Ent:=E.filter fun e=>!(e.1 == key)
theorem del_ne {key:Bs} {X:List Ent} (h:∀ e ∈ X,e.1 ≠ key):del key X = X:=by
 unfold del
 exact List.filter_eq_self.2 (fun e he=>by simpa using h e he)
theorem del_append (key:Bs) (X Y:List Ent):del key (X ++ Y) = del key X ++ del key Y:=by simp [del]
theorem inB_wide {lo key hi k:Bs} (h:inB lo key k = true) (hk:inS lo hi key):inB lo hi k = true:=by
 have h1:=inB_iff.1 h
 have hne:key ≠ []:=fun e=>by rw [e] at hk;have:=hk.1;rw [klt_nil_right] at this;cases this
 refine inB_iff.2 ⟨h1.1,?_⟩
 rcases hk.2 with h2 | h2
 ·exact .inl h2
 ·exact .inr (klt_trans (h1.2.resolve_left hne) h2)
theorem inB_wide' {lo key hi k:Bs} (h:inB key hi k = true) (hk:inS lo hi key):inB lo hi k = true:=by
 have h1:=inB_iff.1 h
 exact inB_iff.2 ⟨klt_asymm (lt_kle hk.1 h1.1),h1.2⟩
theorem inS_wide {lo key hi k:Bs} (h:inS lo key k) (hk:inS lo hi key):inS lo hi k:=by
 have hne:key ≠ []:=fun e=>by rw [e] at hk;have:=hk.1;rw [klt_nil_right] at this;cases this
 refine ⟨h.1,?_⟩
 rcases hk.2 with h2 | h2
 ·exact .inl h2
 ·exact .inr (klt_trans (h.2.resolve_left hne) h2)
theorem inS_wide' {lo key hi k:Bs} (h:inS key hi k) (hk:inS lo hi key):inS lo hi k:=⟨klt_trans hk.1 h.1,h.2⟩
theorem glue_body {g:Bool} {v:V} {h:Nat} {l r:Nd} {key lo hi:Bs} {Ql Qr:List Nat} {El Er:List Ent} (hl:Body g v h l lo key Ql El) (hr:Body g v h r key hi Qr Er) (hk:inS lo hi key):Body g v h (l.glue r key) lo hi (Ql ++ Qr) (El ++ Er):=by
 have hc:∀ c ∈ l.cells ++ r.cells,inB lo hi c.key = true:=by
  intro c hc
  rcases List.mem_append.1 hc with h | h
  ·exact inB_wide (hl.1.1 c h) hk
  ·exact inB_wide' (hr.1.1 c h) hk
 cases h with
 | zero =>
  have e:l.glue r key = ⟨true,l.cells ++ r.cells,[],[]⟩:=by unfold Nd.glue;rw [if_pos hl.2.1]
  rw [e]
  exact ⟨⟨hc,by simp⟩,rfl,CellsAt.append.2 ⟨_,_,_,_,hl.2.2,hr.2.2,List.Perm.refl _,rfl⟩⟩
 | succ h =>
  obtain ⟨⟨_,k1⟩,hl0,la,l1,l2,l3⟩:=hl
  obtain ⟨⟨_,k2⟩,hr0,lb,r1,r2,r3⟩:=hr
  have e:l.glue r key = ⟨false,l.cells ++ r.cells,l.keys ++ key :: r.keys,l.kids ++ r.kids⟩:=by unfold Nd.glue;rw [if_neg (by simp [hl0])]
  rw [e]
  refine ⟨⟨hc,?_⟩,rfl,la ++ lb,by simp [l1,r1],?_,?_⟩
  ·intro k hkm
   have hkm':k ∈ l.keys ++ key :: r.keys:=hkm
   rcases List.mem_append.1 hkm' with h | h
   ·exact inS_wide (k1 k h) hk
   ·rcases List.mem_cons.1 h with rfl | h
    ·exact hk
    ·exact inS_wide' (k2 k h) hk
  ·show (l.keys ++ key :: r.keys) ++ [hi] = _
   rw [List.map_append,← l2,← r2];simp
  ·refine Run.append.2 ⟨_,_,_,_,l3,?_,List.Perm.refl _,rfl⟩
   rw [last_keys l2];exact r3
theorem glue_ok {g:Bool} {v:V} {h:Nat} {l r:Nd} {key lo hi:Bs} {Ql Qr:List Nat} {El Er:List Ent} (hl:Body g v h l lo key Ql El) (hr:Body g v h r key hi Qr Er) (hk:inS lo hi key) (hko:keyOk key = true)
  (ho:l.ok = true) (hp:r.ok = true) (hs:l.size ≤ 500) (ht:r.size ≤ 500) :
  l.join r key = some (l.glue r key) ∧ (l.glue r key).ok = true ∧ (l.glue r key).size ≤ l.size + r.size + 139 ∧ (l.glue r key).leaf = l.leaf:=by
 have hO:=Nd.Ok.of ho
 have hP:=Nd.Ok.of hp
 have hlr:l.leaf = r.leaf:=by
  cases h with
  | zero=>rw [hl.2.1,hr.2.1]
  | succ h=>rw [hl.2.1,hr.2.1]
 have hkl:=keyOk_len hko
 have hne:key ≠ []:=fun e=>by rw [e] at hkl;simp at hkl
 have main:(l.glue r key).ok = true ∧ (l.glue r key).size ≤ l.size + r.size + 139 ∧ (l.glue r key).leaf = l.leaf:=by
  cases hlf:l.leaf
  ·have hrf:r.leaf = false:=by rw [← hlr];exact hlf
   have e:l.glue r key = ⟨false,[],l.keys ++ key :: r.keys,l.kids ++ r.kids⟩:=by unfold Nd.glue;rw [if_neg (by simp [hlf]),(hO.br hlf).1,(hP.br hrf).1];rfl
   have s1:l.size = 6 + sumK l.keys:=by rw [Nd.eq_branch ho hlf,size_branch]
   have s2:r.size = 6 + sumK r.keys:=by rw [Nd.eq_branch hp hrf,size_branch]
   have g1:=sumK_ge l.keys hO.k
   have g2:=sumK_ge r.keys hP.k
   have b1:=(hO.br hlf).2
   have b2:=(hP.br hrf).2
   rw [e]
   refine ⟨ok_branch ?_ ?_ ?_ ?_ ?_,?_,rfl⟩
   ·rw [List.length_append,List.length_cons];omega
   ·intro k hkm
    rcases List.mem_append.1 hkm with h | h
    ·exact hO.k k h
    ·rcases List.mem_cons.1 h with rfl | h
     ·exact hko
     ·exact hP.k k h
   ·refine List.pairwise_append.2 ⟨Nd.Ok.sortedK ho,List.pairwise_cons.2 ⟨fun k hkm=>(hr.1.2 k hkm).1,Nd.Ok.sortedK hp⟩,fun a ha b hb=>?_⟩
    have h1:=(hl.1.2 a ha).2.resolve_left hne
    rcases List.mem_cons.1 hb with rfl | hb
    ·exact h1
    ·exact klt_trans h1 (hr.1.2 b hb).1
   ·rw [List.length_append,List.length_append,List.length_cons];omega
   ·intro i hi
    rcases List.mem_append.1 hi with h | h
    ·exact hO.i i h
    ·exact hP.i i h
   ·rw [size_branch,sumK_append]
    have:sumK (key :: r.keys) = 5 + key.length + sumK r.keys:=by simp [sumK]
    rw [this];omega
  ·have hrf:r.leaf = true:=by rw [← hlr];exact hlf
   have e:l.glue r key = ⟨true,l.cells ++ r.cells,[],[]⟩:=by unfold Nd.glue;rw [if_pos hlf]
   have s1:l.size = 2 + sumC l.cells:=by rw [Nd.eq_leaf ho hlf,size_leaf]
   have s2:r.size = 2 + sumC r.cells:=by rw [Nd.eq_leaf hp hrf,size_leaf]
   have g1:=sumC_ge l.cells hO.c
   have g2:=sumC_ge r.cells hP.c
   rw [e]
   refine ⟨ok_leaf ?_ ?_ ?_,?_,rfl⟩
   ·rw [List.length_append];omega
   ·intro c hc
    rcases List.mem_append.1 hc with h | h
    ·exact hO.c c h
    ·exact hP.c c h
   ·rw [List.map_append]
    refine List.pairwise_append.2 ⟨Nd.Ok.sortedC ho,Nd.Ok.sortedC hp,fun a ha b hb=>?_⟩
    obtain ⟨c,hc,rfl⟩:=List.mem_map.1 ha
    obtain ⟨d,hd,rfl⟩:=List.mem_map.1 hb
    have h1:=inB_iff.1 (hl.1.1 c hc)
    have h2:=inB_iff.1 (hr.1.1 d hd)
    exact lt_kle (h1.2.resolve_left hne) h2.1
   ·rw [size_leaf,sumC_append];omega
 refine ⟨?_,main⟩
 unfold Nd.join
 rw [if_neg (by simp [ho,hp,hlr]),if_pos main.1]
theorem branch_less {p:Nd} {A B:List Bs} {key lo' hi':Bs} {C D:List Nat} {x y:Nat} (hok:p.ok = true) (hs:p.size ≤ 500) (hl:p.leaf = false) (hin:∀ k ∈ p.keys,inS lo' hi' k) (e:p.keys = A ++ key :: B) (ei:p.kids = C ++ x :: y :: D) (hC:C.length = A.length) :
  (⟨false,[],A ++ B,C ++ x :: D⟩:Nd).ok = true ∧ (⟨false,[],A ++ B,C ++ x :: D⟩:Nd).size ≤ 500 ∧ (∀ k ∈ A ++ B,inS lo' hi' k):=by
 have hO:=Nd.Ok.of hok
 have hbr:=(hO.br hl).2
 have hS:=Nd.Ok.sortedK hok
 have hsz:sumK p.keys ≤ 494:=by
  have h2:=Nd.eq_branch hok hl
  rw [h2,size_branch] at hs
  omega
 have h2:=hO.a2
 have hko:=hO.k
 have hid:=hO.i
 rw [e] at hS hin hsz hbr h2 hko
 rw [ei] at hbr hid
 have hmem:∀ k ∈ A ++ B,k ∈ A ++ key :: B:=by
  intro k hk;simp at hk ⊢;rcases hk with h | h <;> simp [h]
 have hsub:(A ++ B).Sublist (A ++ key :: B):=(List.Sublist.refl A).append (List.sublist_cons_self _ _)
 simp only [List.length_append,List.length_cons] at hbr h2
 refine ⟨ok_branch (by rw [List.length_append];omega) (fun k hk=>hko k (hmem k hk)) (hS.sublist hsub) (by simp only [List.length_append,List.length_cons];omega) (fun i hi=>hid i (by
  simp at hi ⊢;rcases hi with h | h | h <;> simp [h])),?_,fun k hk=>hin k (hmem k hk)⟩
 rw [size_branch]
 have:sumK (A ++ key :: B) = sumK (A ++ B) + (5 + key.length):=by simp [sumK];omega
 omega
theorem eraseIdx_len {α:Type} (A B:List α) (y:α):(A ++ y :: B).eraseIdx A.length = A ++ B:=by
 induction A with
 | nil=>rfl
 | cons a A ih=>simpa using ih
theorem set_len {α:Type} (A B:List α) (y z:α):(A ++ y :: B).set A.length z = A ++ z :: B:=by
 induction A with
 | nil=>rfl
 | cons a A ih=>simp
theorem getD_len {α:Type} (A B:List α) (y d:α):(A ++ y :: B).getD A.length d = y:=by
 rw [List.getD_eq_getElem?_getD];simp
theorem Min.root {g rt:Bool} {n:Nd} (h:Min g false n):Min g rt n:=⟨fun hl=>⟨(h.1 hl).1,fun hg _=>(h.1 hl).2 hg rfl⟩,h.2⟩
theorem Sub.root {g:Bool} {v:V} {h:Nat} {rt:Bool} {id:Nat} {lo hi:Bs} {P:List Nat} {E:List Ent} (hs:Sub g v h false id lo hi P E):Sub g v h rt id lo hi P E:=by
 rw [Sub.iff] at hs ⊢
 obtain ⟨n,Q,h1,h2,h3⟩:=hs
 exact ⟨n,Q,h1,h2.root,h3⟩
theorem big_min {n:Nd} (hok:n.ok = true) (hs:166 ≤ n.size) (g rt:Bool):Min g rt n:=by
 have hO:=Nd.Ok.of hok
 refine ⟨fun hl=>?_,fun hl _ e=>?_⟩
 ·rw [Nd.eq_leaf hok hl,size_leaf] at hs
  have:=sumC_ge n.cells hO.c
  refine ⟨fun e=>?_,fun _ _=>?_⟩
  ·rw [e] at hs;simp [sumC] at hs
  ·omega
 ·rw [Nd.eq_branch hok hl,size_branch,e] at hs
  simp [sumK] at hs
def JoinTold (w:World) (o:Option Nd) (e:Ending) (w':World):Prop :=
 Ext No w w' ∧ match o with
  | none=>e = .returned (.tuple #[Nd.zero,.int .i64 2])
  | some b=>∃ a:Adr,e = .returned (.tuple #[b.value a.A1 a.c1 a.A2 a.c2 a.A3 a.c3,.int .i64 0]) ∧ NodeIn w' (Old w) a b
theorem results_ct {fn:Func} {p q:Tmp} {ty:TypeId} (h:fn.results = #[.cell p ty,.tmp q]) (tmps:Array Value) (P:Program) (w:World) :
  (results fn tmps).run P w = ((asAddr (tmps.getD p undef)).run P w).andThen fun a w1=>((loadVar ty a).run P w1).andThen fun v w2=>.ok (.tuple #[v,tmps.getD q undef]) w2:=by
 simp only [results,h]
 simp [Sem.run_bind,Result.andThen]
theorem join_back {Q:Ending → World → Prop} {a:Act} {w:World} (b:Nat) (cs:Array Value) (hb:Blk w b 40 cs) {v:Value} (hs:some 4 = some cs.size)
  (hp:a.tmps.getD 6 undef = .pointer (some ⟨b,0,none⟩)) (h4:a.tmps.getD 7 undef = v) (hd:a.defers = [])
  (h:Q (.returned (.tuple #[.agg cs,v])) w):bodyPost Tryz.prog Tryz.f188 Q Exit.ret a w:=by
 refine bodyPost_ret (v:=.tuple #[.agg cs,v]) (w:=w) ?_ hd h
 have hl:=run_loadVar_row w b 40 40 cs (0,0) _ hb Tryz.underlying40 rfl (by rw [← hs];kernel_rfl)
 rw [results_ct rfl,hp,h4]
 simp [asAddr,Result.andThen,hl]
theorem join_bad (l r:Nd) (key:Bs) (w:World) (F:Nat → Prop) (a b:Adr) (hl:NodeIn w F a l) (hr:NodeIn w F b r) (hfl:l.fits) (hfr:r.fits) (h:l.ok = false ∨ r.ok = false ∨ l.leaf ≠ r.leaf) :
  Calls Tryz.prog 188 #[l.value a.A1 a.c1 a.A2 a.c2 a.A3 a.c3,r.value b.A1 b.c1 b.A2 b.c2 b.A3 b.c3,.string (str key)] w (JoinTold w none):=by
 have HL:=Lib.hid (fun w' (e:Ext No w w')=>check_any l w' F _ _ _ _ _ _ (hl.ext e.of_no) hfl)
 have HR:=Lib.hid (fun w' (e:Ext No w w')=>check_any r w' F _ _ _ _ _ _ (hr.ext e.of_no) hfr)
 simp only [Nd.value] at HL HR ⊢
 generalize l.cells.length = n1 at *
 generalize l.keys.length = n2 at *
 generalize l.kids.length = n3 at *
 generalize r.cells.length = m1 at *
 generalize r.keys.length = m2 at *
 generalize r.kids.length = m3 at *
 obtain ⟨A1,c1,A2,c2,A3,c3⟩:=a
 obtain ⟨B1,d1,B2,d2,B3,d3⟩:=b
 simp only at HL HR ⊢
 generalize hlf:l.leaf = lf at *
 generalize hrf:r.leaf = rf at *
 have hE0:Ext No w (((w.alloc (.cells #[.bool lf,.slice A1 n1 c1,.slice A2 n2 c2,.slice A3 n3 c3] 40)).alloc (.cells #[.bool rf,.slice B1 m1 d1,.slice B2 m2 d2,.slice B3 m3 d3] 40)).alloc (.cells #[.bool false,.slice none 0 0,.slice none 0 0,.slice none 0 0] 40)):=(((Ext.refl No w).alloc _).alloc _).alloc _
 have bl0:Blk (((w.alloc (.cells #[.bool lf,.slice A1 n1 c1,.slice A2 n2 c2,.slice A3 n3 c3] 40)).alloc (.cells #[.bool rf,.slice B1 m1 d1,.slice B2 m2 d2,.slice B3 m3 d3] 40)).alloc (.cells #[.bool false,.slice none 0 0,.slice none 0 0,.slice none 0 0] 40)) w.heap.size 40 #[.bool lf,.slice A1 n1 c1,.slice A2 n2 c2,.slice A3 n3 c3]:=((Blk.new w 40 _).alloc _).alloc _
 have br0:Blk (((w.alloc (.cells #[.bool lf,.slice A1 n1 c1,.slice A2 n2 c2,.slice A3 n3 c3] 40)).alloc (.cells #[.bool rf,.slice B1 m1 d1,.slice B2 m2 d2,.slice B3 m3 d3] 40)).alloc (.cells #[.bool false,.slice none 0 0,.slice none 0 0,.slice none 0 0] 40)) (w.heap.size + 1) 40 #[.bool rf,.slice B1 m1 d1,.slice B2 m2 d2,.slice B3 m3 d3]:=(Blk.new_at (b:=w.heap.size + 1) (w.alloc _) 40 _ (by simp)).alloc _
 have bs0:Blk (((w.alloc (.cells #[.bool lf,.slice A1 n1 c1,.slice A2 n2 c2,.slice A3 n3 c3] 40)).alloc (.cells #[.bool rf,.slice B1 m1 d1,.slice B2 m2 d2,.slice B3 m3 d3] 40)).alloc (.cells #[.bool false,.slice none 0 0,.slice none 0 0,.slice none 0 0] 40)) (w.heap.size + 2) 40 #[.bool false,.slice none 0 0,.slice none 0 0,.slice none 0 0]:=Blk.new_at (b:=w.heap.size + 2) ((w.alloc _).alloc _) 40 _ (by simp)
 have HE0:=Lib.hid hE0;have HBL:=Lib.hid bl0;have HBR:=Lib.hid br0;have HBS:=Lib.hid bs0
 clear hl hr hfl hfr hE0 bl0 br0 bs0
 cases hlo:l.ok with
 | false =>
  rw [Nd.chk_bad hlo] at HL
  clear HR h hlo hlf hrf
  go_enter Tryz.func188,Tryz.ntmps188
  go_wp2_with fail
  refine (HL.out _ HE0.out).mono ?_
  rintro e w1 ⟨rfl,hx1⟩
  have bs1:=HBS.out.ext hx1 (fun h=>h)
  obtain ⟨r0,r1,r2,r3,s0,s1,s2,s3,lr⟩:=bs1.p4
  have lr:w.heap.size < w1.heap.size:=by omega
  go_wp2_with fail
  refine join_back (w.heap.size + 2) _ (bs1.put4 (.bool false) (.slice none 0 0) (.slice none 0 0) (.slice none 0 0)) rfl rfl rfl rfl ?_
  exact ⟨((((HE0.out.trans_ hx1).setNew (by omega) _ _).setNew (by omega) _ _).setNew (by omega) _ _).setNew (by omega) _ _,rfl⟩
 | true =>
  rw [Nd.chk_ok hlo] at HL
  cases hro:r.ok with
  | false =>
   rw [Nd.chk_bad hro] at HR
   clear h hlo hlf hrf hro
   go_enter Tryz.func188,Tryz.ntmps188
   go_wp2_with fail
   refine (HL.out _ HE0.out).mono ?_
   rintro e w1 ⟨rfl,hx1⟩
   have br1:=HBR.out.ext hx1 (fun h=>h)
   obtain ⟨p0,p1,p2,p3,g0,g1,g2,g3,ln⟩:=br1.p4
   go_wp2_with fail
   refine (HR.out _ (HE0.out.trans_ hx1)).mono ?_
   rintro e w2 ⟨rfl,hx2⟩
   clear p0 p1 p2 p3 g0 g1 g2 g3 ln
   have bs1:=(HBS.out.ext hx1 (fun h=>h)).ext hx2 (fun h=>h)
   obtain ⟨r0,r1,r2,r3,s0,s1,s2,s3,lr⟩:=bs1.p4
   have lr:w.heap.size < w2.heap.size:=by omega
   go_wp2_with fail
   refine join_back (w.heap.size + 2) _ (bs1.put4 (.bool false) (.slice none 0 0) (.slice none 0 0) (.slice none 0 0)) rfl rfl rfl rfl ?_
   exact ⟨(((((HE0.out.trans_ hx1).trans_ hx2).setNew (by omega) _ _).setNew (by omega) _ _).setNew (by omega) _ _).setNew (by omega) _ _,rfl⟩
  | true =>
   rw [Nd.chk_ok hro] at HR
   have hne:lf ≠ rf:=by
    rcases h with h | h | h
    ·rw [h] at hlo;cases hlo
    ·rw [h] at hro;cases hro
    ·exact h
   have hne':(lf == rf) = false:=by cases lf <;> cases rf <;> simp_all
   clear h hlo hlf hrf hro hne
   go_enter Tryz.func188,Tryz.ntmps188
   go_wp2_with fail
   refine (HL.out _ HE0.out).mono ?_
   rintro e w1 ⟨rfl,hx1⟩
   have br1:=HBR.out.ext hx1 (fun h=>h)
   obtain ⟨p0,p1,p2,p3,g0,g1,g2,g3,ln⟩:=br1.p4
   go_wp2_with fail
   refine (HR.out _ (HE0.out.trans_ hx1)).mono ?_
   rintro e w2 ⟨rfl,hx2⟩
   clear p0 p1 p2 p3 g0 g1 g2 g3 ln
   have bl2:=(HBL.out.ext hx1 (fun h=>h)).ext hx2 (fun h=>h)
   have br2:=br1.ext hx2 (fun h=>h)
   have bs1:=(HBS.out.ext hx1 (fun h=>h)).ext hx2 (fun h=>h)
   obtain ⟨p0,p1,p2,p3,g0,g1,g2,g3,ln⟩:=bl2.p4
   obtain ⟨q0,q1,q2,q3,f0,f1,f2,f3,lq⟩:=br2.p4
   obtain ⟨r0,r1,r2,r3,s0,s1,s2,s3,lr⟩:=bs1.p4
   go_wp2_with fail
   refine join_back (w.heap.size + 2) _ (bs1.put4 (.bool false) (.slice none 0 0) (.slice none 0 0) (.slice none 0 0)) rfl rfl rfl rfl ?_
   exact ⟨(((((HE0.out.trans_ hx1).trans_ hx2).setNew (by omega) _ _).setNew (by omega) _ _).setNew (by omega) _ _).setNew (by omega) _ _,rfl⟩
theorem delete_strings (ks:List Bs) (i:Nat) (hi:i < ks.length) (base:Nat) (v:Value) (w:World) (hown:w.ownsRow base 9 1 v ks.length (keyVals ks)) :
  Calls Tryz.prog 151 #[v,.int .i64 (i:Int),.int .i64 ((i + 1:Nat):Int)] w (Rowed base v w (keyVals (ks.eraseIdx i)) (ks.length - 1)):=by
 rcases hown.2 with ⟨_,h0⟩ | ⟨g,cap,cur,rfl,hbg,hg,hnc,hcm,hcs,ht⟩
 ·omega
 obtain ⟨k1,k2,k3⟩:=own_cell (base:=base) hg hcs ht
 unfold maxLen at hcm
 have hlen:=hown.1
 refine (Tryz.slices_Delete_string_cells g 0 ks.length cap i (i + 1) (fun j=>str (ks.getD j [])) w hnc (by omega) (by omega) (by omega) (fun j hj=>k1 j _ (by simp [keyVals,hj])) (fun j _=>k3 j)).mono ?_
 rintro e w' ⟨he,q,rfl⟩
 rw [show i + 1 - i = 1 by omega] at he ⊢
 have hso:Lib.strsOf (fun j=>str (ks.getD j [])) ks.length = ks:=by
  apply List.ext_getElem
  ·simp [Lib.strsOf]
  ·intro j h1 h2
   simp [Lib.strsOf,h2]
 have hvs:∀ (l:List Bs),l.map encStr = keyVals l:=fun l=>rfl
 rw [hso,hvs]
 have hE:=(Ext.refl (fun b=>(Value.slice (some ⟨g,0,none⟩) ks.length cap).ownBlock = some b) w).drewN q
 refine ⟨_,_,he,⟨by simp [keyVals,List.length_eraseIdx,hi],fun _=>⟨g,0,rfl,by unfold Lo;omega,fun j u hu=>?_⟩⟩,by omega,(fun h=>by cases h),hE.setCells _ _ (.inl rfl)⟩
 have hjl:j < (ks.eraseIdx i).length:=by have:=(List.getElem?_eq_some_iff.1 hu).1;simpa [keyVals] using this
 rw [List.eraseIdx_eq_take_drop_succ] at hu hjl
 have hl2:(keyVals (ks.take i ++ ks.drop (i + 1) ++ List.replicate 1 [])).length = ks.length:=by simp [keyVals];omega
 have hj2:j < ks.length:=by simp at hjl;omega
 have:=World.cell?_setCells_in g (keyVals (ks.take i ++ ks.drop (i + 1) ++ List.replicate 1 [])) 0 (w.drewN q) (fun j hj=>k2 j (by omega)) j (by omega)
 rw [this,← hu]
 rw [← List.getElem?_eq_getElem (by omega)]
 simp only [keyVals,List.map_append]
 rw [List.getElem?_append_left (by simp at hjl ⊢;omega)]
theorem delete_ints (ks:List Nat) (i:Nat) (hi:i < ks.length) (base:Nat) (v:Value) (w:World) (hown:w.ownsRow base 3 1 v ks.length (kidVals ks)) :
  Calls Tryz.prog 152 #[v,.int .i64 (i:Int),.int .i64 ((i + 1:Nat):Int)] w (Rowed base v w (kidVals (ks.eraseIdx i)) (ks.length - 1)):=by
 rcases hown.2 with ⟨_,h0⟩ | ⟨g,cap,cur,rfl,hbg,hg,hnc,hcm,hcs,ht⟩
 ·omega
 obtain ⟨k1,k2,k3⟩:=own_cell (base:=base) hg hcs ht
 unfold maxLen at hcm
 have hlen:=hown.1
 refine (Tryz.slices_Delete_int_cells g 0 ks.length cap i (i + 1) (ks.map (fun (k:Nat)=>(k:Int))) w (by simp) hnc (by omega) (by omega) (by omega) (fun j hj=>k1 j _ (by simp at hj;simp [kidVals,hj])) (fun j _=>k3 j)).mono ?_
 rintro e w' ⟨he,q,rfl⟩
 rw [show i + 1 - i = 1 by omega] at he ⊢
 have hvs:((((ks.map (fun (k:Nat)=>(k:Int))).take ks.length).take i ++ ((ks.map (fun (k:Nat)=>(k:Int))).take ks.length).drop (i + 1) ++ List.replicate 1 0).map (Value.int .i64)) = kidVals (ks.take i ++ ks.drop (i + 1) ++ List.replicate 1 0):=by
  have hk:(ks.map (fun (k:Nat)=>(k:Int))).take ks.length = ks.map (fun (k:Nat)=>(k:Int)):=List.take_of_length_le (by simp)
  rw [hk]
  simp [kidVals,List.map_take,List.map_drop]
  rfl
 rw [hvs]
 have hE:=(Ext.refl (fun b=>(Value.slice (some ⟨g,0,none⟩) ks.length cap).ownBlock = some b) w).drewN q
 refine ⟨_,_,he,⟨by simp [kidVals,List.length_eraseIdx,hi],fun _=>⟨g,0,rfl,by unfold Lo;omega,fun j u hu=>?_⟩⟩,by omega,(fun h=>by cases h),hE.setCells _ _ (.inl rfl)⟩
 have hjl:j < (ks.eraseIdx i).length:=by have:=(List.getElem?_eq_some_iff.1 hu).1;simpa [kidVals] using this
 rw [List.eraseIdx_eq_take_drop_succ] at hu hjl
 have hl2:(kidVals (ks.take i ++ ks.drop (i + 1) ++ List.replicate 1 0)).length = ks.length:=by simp [kidVals];omega
 have hj2:j < ks.length:=by simp at hjl;omega
 have:=World.cell?_setCells_in g (kidVals (ks.take i ++ ks.drop (i + 1) ++ List.replicate 1 0)) 0 (w.drewN q) (fun j hj=>k2 j (by omega)) j (by omega)
 rw [this,← hu]
 rw [← List.getElem?_eq_getElem (by omega)]
 simp only [kidVals,List.map_append]
 rw [List.getElem?_append_left (by simp at hjl ⊢;omega)]
end Go.Proofs.YtccnemmlkcmceaaGreatDoor
