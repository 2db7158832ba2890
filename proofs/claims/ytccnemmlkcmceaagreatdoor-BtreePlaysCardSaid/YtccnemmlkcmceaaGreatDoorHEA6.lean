/- Proofs about the given program, joined out of the texts GC, GD. -/
import Derived.Test.YtccnemmlkcmceaaGreatDoorHE31
import Derived.Test.YtccnemmlkcmceaaGreatDoorHEA5
set_option linter.unusedVariables false
set_option linter.unusedSimpArgs false
set_option maxRecDepth 100000
set_option maxHeartbeats 6400000
namespace Go.Proofs.YtccnemmlkcmceaaGreatDoor
open Go.RowKit
theorem own_set {w:World} {base n c i:Nat} {A:Option Addr} {ks:List Bs} (h:w.ownsRow base 9 1 (.slice A n c) n (keyVals ks)) (hn:n = ks.length) (hi:i < ks.length) (k:Bs) :
  ∃ g,A = some ⟨g,0,none⟩ ∧ base ≤ g ∧ g < w.heap.size ∧ (∃ u,w.cell? ⟨g,i,none⟩ = some u) ∧ w.frozen? ⟨g,i,none⟩ = false ∧ Rd (w.setCell ⟨g,i,none⟩ (.string (str k))) (Lo base) 1 A n (keyVals (ks.set i k)):=by
 have hcap:=own_cap h
 rcases h.2 with ⟨hv,h0⟩ | ⟨g,cap',cur,hv,hbg,hg,hnc,hcm,hcs,htake⟩
 ·omega
 ·injection hv with hA _ hc
  have hb:Blk w g 9 cur:=hg
  have hx:∀ (j:Nat) (v:Value),(keyVals ks)[j]? = some v → cur[j]? = some v:=by
   intro j v hj
   rw [← htake,List.getElem?_take] at hj
   split at hj
   ·rw [← Array.getElem?_toList];exact hj
   ·cases hj
  have hk:(keyVals ks)[i]? = some (.string (str ks[i])):=by simp [keyVals,hi]
  refine ⟨g,hA,hbg,hb.lt,⟨_,(hb.cell i).trans (hx i _ hk)⟩,hb.frozen i,?_⟩
  refine ⟨by simp [keyVals];omega,fun _=>⟨g,0,hA,(fun h=>by unfold Lo at h;omega),fun j u hu=>?_⟩⟩
  rw [Nat.zero_add]
  have hb2:=hb.set_ i (.string (str k))
  rw [hb2.cell j,Array.getElem?_setIfInBounds]
  have hu':((ks.set i k).map fun k=>Value.string (str k))[j]? = some u:=hu
  rw [List.getElem?_map,List.getElem?_set] at hu'
  by_cases hij:i = j
  ·subst hij
   rw [if_pos rfl,if_pos (by have:=(Array.getElem?_eq_some_iff.1 (hx i _ hk)).1;exact this)]
   rw [if_pos rfl,if_pos hi] at hu'
   simpa using hu'
  ·rw [if_neg hij]
   rw [if_neg hij] at hu'
   exact hx j u (by unfold keyVals;rw [List.getElem?_map];exact hu')
def ShareOk (s:Sys) (root:Nat) (v:V) (ws:List Stp) (p:Nd) (at_:Nat) (both:Nd):Prop :=
 ∀ (w:World) (gx:Nat) (F:Nat → Prop) (A:Option Addr) (cap:Nat) (l:List (Stp × Adr)) (a:Adr),TxAt w s v → v.Good → Blk w gx 70 (treeCells s root) → (∀ b,s.F b → F b) → WayAt w F A cap l → l.map (·.1) = ws → NodeIn w F a both →
  Calls Tryz.prog 150 #[.pointer (some ⟨gx,0,none⟩),.slice A ws.length cap,.int .i64 (at_:Int),both.value a.A1 a.c1 a.A2 a.c2 a.A3 a.c3] w (Did s w (V.share s.cap root ws.reverse p at_ both v))
theorem share_any (s:Sys) (hs:s.Ok) (root:Nat) (hroot:root < 4) (v:V) (ws:List Stp) (both:Nd) (at_:Nat) (sp:Stp) (hst:ws.getLast? = some sp) (hup:∀ st ∈ ws,UpOk st) (hok:both.ok = true) (hsz:500 < both.size) (hat:at_ < sp.n.keys.length):ShareOk s root v ws sp.n at_ both:=by
 intro w gx F A cap l a h hg hx hF hWA hlw hn
 have hwl:∃ m,ws.length = m + 1:=by cases hz:ws.length <;> simp_all
 obtain ⟨m,hwl⟩:=hwl
 have hll:l.length = m + 1:=by rw [← hwl,← hlw,List.length_map]
 obtain ⟨p,hp,hlast⟩:=last_of hlw hwl
 obtain ⟨sp',ap⟩:=p
 have:sp' = sp:=by rw [hst] at hlast;simpa using hlast.symm
 subst this
 obtain ⟨b,o,hA,hbF,q0,q1,q2,q3,q4,q5⟩:=hWA.at hp
 simp only at q0 q1 q2 q3 q4 q5
 subst hA
 have lb:=World.block_lt_of_cell? w _ q0
 simp only at lb
 have hcap:m + 1 ≤ cap:=by have:=hWA.cap;omega
 have hm41:m < 65536:=by have:=hWA.len;omega
 have hupk:UpOk sp':=hup sp' (List.mem_of_getLast? hst)
 have hO:=Nd.Ok.of hupk.2.1
 have hkk:=(hO.br hupk.1).2
 have ha2:=hO.a2
 have hspn:=hWA.nodes _ (List.mem_of_getElem? hp)
 simp only at hspn
 obtain ⟨k1,hk1⟩:∃ k,sp'.n.kids[at_]? = some k:=⟨_,List.getElem?_eq_getElem (by omega)⟩
 obtain ⟨k2,hk2⟩:∃ k,sp'.n.kids[at_ + 1]? = some k:=⟨_,List.getElem?_eq_getElem (by omega)⟩
 obtain ⟨kb,ko,hA3,hkF,hc1⟩:=hspn.kids.kidAt hk1
 obtain ⟨kb',ko',hA3',_,hc2⟩:=hspn.kids.kidAt hk2
 rw [hA3] at hA3'
 injection hA3' with hA3';injection hA3' with e1 e2
 subst e1;subst e2
 have lk:=World.block_lt_of_cell? w _ hc1
 simp only at lk
 have eg1:sp'.n.kids.getD at_ 0 = k1:=by rw [List.getD_eq_getElem?_getD,hk1];rfl
 have eg2:sp'.n.kids.getD (at_ + 1) 0 = k2:=by rw [List.getD_eq_getElem?_getD,hk2];rfl
 have hspl:=split_some hok hsz
 have HWA:=Lib.hid (hWA.mono (G:=s.F) (fun b _=>hF b))
 have HX:=Lib.hid (fun (w':World) (e:Ext s.F w w')=>tree_ext h hx e)
 have HOLD:=Lib.hid (fun b (hb:s.F b)=>h.old hb)
 have HLW:=Lib.hid hlw
 have HUP:=Lib.hid (fun st (hst:st ∈ ws.dropLast)=>hup st ((List.dropLast_sublist ws).subset hst))
 have HWL:=Lib.hid hwl
 have HUPK:=Lib.hid hupk
 have HNE:=Lib.hid (show ws ≠ [] from fun e=>by rw [e] at hwl;simp at hwl)
 obtain ⟨W2,hW2⟩:∃ W2,W2 = ((w.alloc (.cells #[.bool both.leaf,.slice a.A1 both.cells.length a.c1,.slice a.A2 both.keys.length a.c2,.slice a.A3 both.kids.length a.c3] 40)).alloc (.cells #[.bool sp'.n.leaf,.slice ap.A1 sp'.n.cells.length ap.c1,.slice ap.A2 sp'.n.keys.length ap.c2,.slice ap.A3 sp'.n.kids.length ap.c3] 40)):=⟨_,rfl⟩
 have hE2:Ext No w W2:=by rw [hW2];exact ((Ext.refl No w).alloc _).alloc _
 have hB1:Blk W2 (w.heap.size + 1) 40 #[.bool sp'.n.leaf,.slice ap.A1 sp'.n.cells.length ap.c1,.slice ap.A2 sp'.n.keys.length ap.c2,.slice ap.A3 sp'.n.kids.length ap.c3]:=by rw [hW2];exact Blk.new_at (b:=w.heap.size + 1) (w.alloc _) 40 _ (by simp)
 have HT2:=Lib.hid (h.no hs hE2)
 have HG2:=Lib.hid hg
 have HSP:=Lib.hid (split_any both W2 _ _ (hn.ext hE2.of_no) hok hsz)
 have hfb:=Nd.Ok.fits (Nd.Ok.of hok)
 have HLF:=Lib.hid (Nd.part_fits hfb 0 both.best)
 have HRF:=Lib.hid (Nd.part_fits hfb (both.best + both.gap) both.all)
 have HKL:Hid ((both.mid both.best).length < 65536):=Lib.hid (mid_len hok)
 have HSPN:=Lib.hid (hspn.mono (G:=s.F) (fun b _=>hF b))
 have HC1:=Lib.hid hc1;have HK2:=Lib.hid hk2
 have HE2:=Lib.hid hE2
 have HB1:=Lib.hid hB1
 have HA3:=Lib.hid hA3
 have hx1:(at_:Int) < (sp'.n.kids.length:Int):=by omega
 have hx2:(at_:Int) + 1 < (sp'.n.kids.length:Int):=by omega
 have hx3:IntKind.i64.wrap ((at_:Int) + 1) = (at_:Int) + 1:=IntWalk.i64_in _ (by omega)
 have hx4:(at_:Int) < (sp'.n.keys.length:Int):=by omega
 have hx6:(0:Int) ≤ (at_:Int) + 1:=by omega
 obtain ⟨D,hD⟩:∃ D,D = V.share s.cap root ws.reverse sp'.n at_ both v:=⟨_,rfl⟩
 rw [← hD,hwl]
 unfold V.share at hD
 rw [hspl] at hD
 simp only [eg1,eg2] at hD
 generalize hL:both.part 0 both.best = NL at HSP hD HLF
 generalize hR:both.part (both.best + both.gap) both.all = NR at HSP hD HRF
 generalize hK:both.mid both.best = key at HSP hD HKL
 have HD:=Lib.hid hD.symm
 have HATK:=Lib.hid hat
 simp only [Nd.value] at HSP ⊢
 rw [hA3] at hW2 hB1 HB1 q4
 clear hD hlw hup hwl hll hbF hF hn hx hg h hWA hst hlast hupk hO hkk ha2 hspn hk1 hk2 hkF hc1 hc2 eg1 eg2 hspl hfb hE2 hok hsz hA3 hp hat hL hR hK
 go_enter Tryz.func150,Tryz.ntmps150
 go_wp2_with fail
 rw [← hW2]
 refine HSP.out.mono ?_
 rintro e w5 ⟨hx5,aL,aR,rfl,hnL,hnR⟩
 have hE25:=HE2.out.trans_ hx5
 have HX5:=Lib.hid hx5;have HNL:=Lib.hid hnL;have HNR:=Lib.hid hnR
 simp only [Nd.value]
 clear hx5 hnL hnR q0 q1 q2 q3 q4 q5 lb
 go_wp2_with fail
 obtain ⟨W6,hW6⟩:∃ W6,W6 = ((w5.alloc (.cells #[.bool NL.leaf,.slice aL.A1 NL.cells.length aL.c1,.slice aL.A2 NL.keys.length aL.c2,.slice aL.A3 NL.kids.length aL.c3] 40)).alloc (.cells #[.bool NR.leaf,.slice aR.A1 NR.cells.length aR.c1,.slice aR.A2 NR.keys.length aR.c2,.slice aR.A3 NR.kids.length aR.c3] 40)):=⟨_,rfl⟩
 have hE56:Ext No w5 W6:=by rw [hW6];exact ((Ext.refl No w5).alloc _).alloc _
 have hE26:Ext No W2 W6:=HX5.out.trans_ hE56
 have hBL:Blk W6 w5.heap.size 40 #[.bool NL.leaf,.slice aL.A1 NL.cells.length aL.c1,.slice aL.A2 NL.keys.length aL.c2,.slice aL.A3 NL.kids.length aL.c3]:=by rw [hW6];exact (Blk.new w5 40 _).alloc _
 have hBR:Blk W6 (w5.heap.size + 1) 40 #[.bool NR.leaf,.slice aR.A1 NR.cells.length aR.c1,.slice aR.A2 NR.keys.length aR.c2,.slice aR.A3 NR.kids.length aR.c3]:=by rw [hW6];exact Blk.new_at (b:=w5.heap.size + 1) (w5.alloc _) 40 _ (by simp)
 have h2s:w.heap.size ≤ W2.heap.size:=HE2.out.size
 have h5s:W2.heap.size ≤ w5.heap.size:=HX5.out.size
 have hFo:∀ b,s.F b → Old W2 b:=fun b hb=>Nat.lt_of_lt_of_le (HOLD.out b hb) h2s
 have HNL6:Hid (NodeIn W6 s.F aL NL):=Lib.hid ((HNL.out.mono (fun b _ hb=>hFo b hb)).ext hE56.of_no)
 have HNR6:Hid (NodeIn W6 s.F aR NR):=Lib.hid ((HNR.out.mono (fun b _ hb=>hFo b hb)).ext hE56.of_no)
 have HE6:=Lib.hid (HE2.out.trans_ hE26)
 have HT6:=Lib.hid (HT2.out.no hs hE26)
 have HB16:=Lib.hid (HB1.out.ext hE26 (fun h=>h))
 have HS5:=Lib.hid (Nat.le_trans h2s h5s)
 have HBR:=Lib.hid hBR
 rw [← hW6]
 clear hW6 hE56 hE26 h5s hFo HNL HNR HX5 hE25 h2s
 obtain ⟨p0,p1,p2,p3,g0,g1,g2,g3,ln⟩:=hBL.p4
 obtain ⟨z0,z1,z2,z3,y0,y1,y2,y3,lz⟩:=HB16.out.p4
 have d1:=cell_ext HE6.out HC1.out (fun h=>h)
 have ld:=World.block_lt_of_cell? _ _ d1
 simp only at ld
 have HW9:=Lib.hid (wr_any s hs W6.drew v (HT6.out.no hs (Ext.refl No W6).drew) HG2.out gx root (HX.out _ HE6.out.drew.of_no) k1 NL _ _ _ _ _ _ _ (HNL6.out.ext (Ext.refl _ W6).drew) HLF.out)
 obtain ⟨r9,hr9⟩:∃ r9,r9 = v.wr k1 NL:=⟨_,rfl⟩
 have hdg:=HD.out
 rw [← hr9] at HW9 hdg
 have HD9:=Lib.hid hdg
 simp only [Nd.value] at HW9
 clear hdg HD hr9 hBL hBR lk
 go_cut [14] (fun k9 wx=>k9 = .int .i64 (r9.1:Int) ∧ Hid (TxAt wx s r9.2) ∧ Hid r9.2.Good ∧ Hid (Ext s.F W6 wx))
 case first =>
  go_region_law ((go_simp;go_at_call 141;refine HW9.out.mono ?_;rintro e w2 ⟨rfl,hT,hG,hx2⟩;have HT2:=Lib.hid hT;have HG2:=Lib.hid hG;have HX2:=Lib.hid hx2;clear hT hG hx2))
  all_goals (
   go_wp2_with fail
   go_meet
   exact ⟨rfl,HT2,HG2,Lib.hid ((Ext.refl s.F W6).drew.trans_ HX2.out)⟩)
 case rest =>
  clear p0 p1 p2 p3 g0 g1 g2 g3 ln HW9 z0 z1 z2 z3 y0 y1 y2 y3 lz d1 ld
  obtain ⟨rfl,HT9,HG9,HX9⟩:=hcut
  obtain ⟨c9,v9⟩:=r9
  simp only at HT9 HG9 HD9 ⊢
  have HE9:=Lib.hid (HE6.out.of_no.trans_ HX9.out)
  by_cases h9:c9 = 0
  ·subst h9
   have hdd:=HD9.out
   rw [if_neg (by simp)] at hdd
   have hbr9:=HBR.out.ext HX9.out (fun hb=>by have:=HOLD.out _ hb;have:=HS5.out;omega)
   obtain ⟨p0,p1,p2,p3,g0,g1,g2,g3,ln⟩:=hbr9.p4
   have hb19:=HB16.out.ext HX9.out (fun hb=>by have:=HOLD.out _ hb;omega)
   obtain ⟨z0,z1,z2,z3,y0,y1,y2,y3,lz⟩:=hb19.p4
   have HB19:=Lib.hid hb19
   have HSP9:=Lib.hid (HSPN.out.ext HE9.out)
   obtain ⟨_,_,hAe,hkF,d2⟩:=HSP9.out.kids.kidAt (k:=k2) (i:=at_ + 1) HK2.out
   rw [HA3.out] at hAe
   injection hAe with hAe;injection hAe with e1 e2
   subst e1;subst e2
   have ld:=World.block_lt_of_cell? _ _ d2
   simp only at ld
   have HW12:=Lib.hid (wr_any s hs wc.drew v9 (HT9.out.no hs (Ext.refl No wc).drew) HG9.out gx root (HX.out _ HE9.out.drew) k2 NR _ _ _ _ _ _ _ ((HNR6.out.ext HX9.out).ext (Ext.refl _ wc).drew) HRF.out)
   obtain ⟨r12,hr12⟩:∃ r12,r12 = v9.wr k2 NR:=⟨_,rfl⟩
   rw [← hr12] at HW12 hdd
   have HD12:=Lib.hid hdd
   simp only [Nd.value] at HW12
   clear hdd hr12 hbr9 hb19 hkF
   go_wp2_with fail
   go_cut [15] (fun k9 wx=>k9 = .int .i64 (r12.1:Int) ∧ Hid (TxAt wx s r12.2) ∧ Hid r12.2.Good ∧ Hid (Ext s.F wc wx))
   case first =>
    go_region_law ((go_simp;go_at_call 141;refine HW12.out.mono ?_;rintro e w2 ⟨rfl,hT,hG,hx2⟩;have HT2:=Lib.hid hT;have HG2:=Lib.hid hG;have HX2:=Lib.hid hx2;clear hT hG hx2))
    all_goals (
     go_wp2_with fail
     go_meet
     exact ⟨rfl,HT2,HG2,Lib.hid ((Ext.refl s.F wc).drew.trans_ HX2.out)⟩)
   case rest =>
    clear p0 p1 p2 p3 g0 g1 g2 g3 ln HW12 z0 z1 z2 z3 y0 y1 y2 y3 lz d2 ld
    obtain ⟨rfl,HT12,HG12,HX12⟩:=hcut
    obtain ⟨c12,v12⟩:=r12
    simp only at HT12 HG12 HD12 ⊢
    have HE12:=Lib.hid (HE9.out.trans_ HX12.out)
    by_cases h12:c12 = 0
    ·subst h12
     have hdd:=HD12.out
     rw [if_neg (by simp)] at hdd
     have HD13:=Lib.hid hdd
     have hb112:=HB19.out.ext HX12.out (fun hb=>by have:=HOLD.out _ hb;omega)
     obtain ⟨z0,z1,z2,z3,y0,y1,y2,y3,lz⟩:=hb112.p4
     have HB112:=Lib.hid hb112
     have hspn12:=HSPN.out.ext HE12.out
     have HCK:=Lib.hid (clone_strings ⟨ap.A2,sp'.n.keys.length,ap.c2,keyVals sp'.n.keys⟩ wc ⟨hspn12.keys.mono (G:=No) (by omega) (fun _ _ h=>h.elim),hspn12.e2,one_keys _,hspn12.l2⟩ (by have:=(Nd.Ok.of HUPK.out.2.1).a2;simp only;omega))
     simp only [Part.v] at HCK
     have HSP12:=Lib.hid hspn12
     clear hdd hb112 hspn12
     go_wp2_with fail
     refine HCK.out.mono ?_
     rintro e w13 ⟨KA,kc,rfl,hown,hx13⟩
     obtain ⟨g,rfl,hgb,hgl,⟨u0,hu0⟩,hfz,hrd⟩:=own_set hown rfl HATK.out key
     have HRD:=Lib.hid hrd
     have hcapk:=own_cap hown
     have HCAPK:=Lib.hid hcapk
     have hx13s:=hx13.size
     have hb113:=HB112.out.ext hx13 (fun h=>h)
     clear z0 z1 z2 z3 y0 y1 y2 y3 lz
     obtain ⟨z0,z1,z2,z3,y0,y1,y2,y3,lz⟩:=hb113.p4
     have HX13:=Lib.hid hx13
     have hsz12:w.heap.size + 1 < wc.heap.size:=HB112.out.lt
     have hne1:¬ (w.heap.size + 1 = g):=by omega
     have hne2:¬ (g = w.heap.size + 1):=by omega
     have hxk:at_ < kc:=by have:=HATK.out;omega
     have HGB:=Lib.hid hgb;have HGL:=Lib.hid hgl
     clear hown hrd hx13 hb113 hcapk
     go_wp2_with fail
     have hxw:Ext s.F wc (w13.setCell ⟨g,at_,none⟩ (.string (str key))):=HX13.out.of_no.setNew HGB.out at_ _
     have hEw:Ext s.F w (w13.setCell ⟨g,at_,none⟩ (.string (str key))):=HE12.out.trans_ hxw
     have hwc:w.heap.size ≤ wc.heap.size:=HE12.out.size
     have hTw:TxAt (w13.setCell ⟨g,at_,none⟩ (.string (str key))) s v12 :=
      HT12.out.local_ (G:=On g) (HX13.out.of_no.setF (show On g g from rfl) at_ _) (fun h=>by have h1:=HOLD.out s.t (.inl rfl);have h2:s.t = g:=h;have h3:=HGB.out;omega) (fun h=>by have h1:=HOLD.out s.m (.inr rfl);have h2:s.m = g:=h;have h3:=HGB.out;omega)
       (hs.keep _ _ hxw HT12.out.db)
     have hsk:(sp'.n.keys.set at_ key).length = sp'.n.keys.length:=List.length_set
     have hnw:NodeIn (w13.setCell ⟨g,at_,none⟩ (.string (str key))) s.F ⟨none,0,some ⟨g,0,none⟩,kc,some ⟨kb,ko,none⟩,ap.c3⟩ ⟨false,[],sp'.n.keys.set at_ key,sp'.n.kids⟩:=by
      have hk:=(HSP12.out.ext hxw)
      refine ⟨Rd.nil_ _,?_,?_,Nat.le_refl _,by rw [hsk];exact HCAPK.out,hk.l3,by simp,by rw [hsk];exact hk.b2,hk.b3,fun _=>rfl,(fun h=>by cases h),(fun h=>by cases h)⟩
      ·show Rd _ s.F 1 _ (sp'.n.keys.set at_ key).length _
       rw [hsk]
       exact HRD.out.mono (by omega) (fun b _ hb=>Nat.lt_of_lt_of_le (HOLD.out b hb) hwc)
      ·have:=hk.kids
       rw [HA3.out] at this
       exact this
     have hfw:(⟨false,[],sp'.n.keys.set at_ key,sp'.n.kids⟩:Nd).fits:=by
      have hf:=Nd.Ok.fits (Nd.Ok.of HUPK.out.2.1)
      refine ⟨by simp,fun k hk=>?_,hf.i⟩
      rcases List.mem_or_eq_of_mem_set hk with h | h
      ·exact hf.k k h
      ·rw [h];exact HKL.out
     have hGW:=grow_any s hs root hroot v12 ws ⟨false,[],sp'.n.keys.set at_ key,sp'.n.kids⟩ HNE.out HUP.out _ gx s.F (some ⟨b,o,none⟩) cap l ⟨none,0,some ⟨g,0,none⟩,kc,some ⟨kb,ko,none⟩,ap.c3⟩ hTw HG12.out (HX.out _ hEw) (fun b hb=>hb) (HWA.out.ext hEw) HLW.out hnw hfw
     simp only [Nd.value,hsk,List.length_nil] at hGW
     rw [HWL.out,HD13.out] at hGW
     refine hGW.mono ?_
     rintro e w14 ⟨rfl,hT14,hG14,hx14⟩
     have hx:=hEw.trans_ hx14
     clear hGW hnw hfw hTw
     go_wp2_with fail
     go_ret
     exact ⟨rfl,hT14,hG14,hx⟩
    ·have hD:(c12,v12) = D:=by rw [← HD12.out,if_pos h12]
     subst hD
     have h12':((c12:Int) != 0) = true:=by simpa using (by omega:¬ (c12:Int) = 0)
     clear h12
     go_wp2_with fail
     go_ret
     exact ⟨rfl,HT12.out,HG12.out,HE12.out⟩
  ·have hD:(c9,v9) = D:=by rw [← HD9.out,if_pos h9]
   subst hD
   have h9':((c9:Int) != 0) = true:=by simpa using (by omega:¬ (c9:Int) = 0)
   clear h9
   go_wp2_with fail
   go_ret
   exact ⟨rfl,HT9.out,HG9.out,HE9.out⟩
theorem settle_any (s:Sys) (hs:s.Ok) (w:World) (v:V) (h:TxAt w s v) (hg:v.Good) (gx i:Nat) (hx:Blk w gx 70 (treeCells s i)) (hi:i < 4) (id:Nat) (n:Nd) (a:Adr) (hn:NodeIn w s.F a n) (hN:NOk n) (first:Bool) :
  Calls Tryz.prog 153 #[.pointer (some ⟨gx,0,none⟩),.int .i64 (id:Int),n.value a.A1 a.c1 a.A2 a.c2 a.A3 a.c3,.bool first] w (Did s w (v.settle i id n first)):=by
 by_cases hc:first = false ∨ (n.leaf = true ∧ 0 < n.cells.length) ∨ 0 < n.keys.length
 ·exact settle_wr s hs w v h hg gx i hx id n s.F a hn hN.f first hc
 ·have hf:first = true:=by cases first;exact absurd (.inl rfl) hc;rfl
  subst hf
  have hk:n.keys = []:=by
   apply List.length_eq_zero_iff.1
   rcases Nat.eq_zero_or_pos n.keys.length with h | h
   ·exact h
   ·exact absurd (.inr (.inr h)) hc
  cases hl:n.leaf
  ·obtain ⟨h1,h2⟩:=hN.br hl
   rw [hk] at h1
   obtain ⟨kid,hkid⟩:∃ k,n.kids[0]? = some k:=⟨_,List.getElem?_eq_getElem (by simp at h1;omega)⟩
   exact settle_branch s hs w v h hg gx i hx hi id n a hl hk hn kid hkid (h2 kid (List.mem_of_getElem? hkid))
  ·have hc0:n.cells = []:=by
    apply List.length_eq_zero_iff.1
    rcases Nat.eq_zero_or_pos n.cells.length with h | h
    ·exact h
    ·exact absurd (.inr (.inl ⟨hl,h⟩)) hc
   exact settle_leaf s hs w v h hg gx i hx hi id n a hl hc0 hk
theorem join_ok {l r b:Nd} {key:Bs} (h:l.join r key = some b):b.ok = true:=by
 unfold Nd.join at h
 split at h
 ·cases h
 ·split at h
  ·rename_i h2;injection h with h;rw [← h];exact h2
  ·cases h
theorem beside_ok {v:V} {p n:Nd} {i:Nat} (h:(v.beside p i n).1 = 0) (hik:i ≤ p.keys.length):(v.beside p i n).2.2.ok = true ∧ (v.beside p i n).2.1 < p.keys.length:=by
 unfold V.beside at h ⊢
 by_cases hk:p.keys = []
 ·rw [if_pos hk] at h;cases h
 ·have hl:0 < p.keys.length:=List.length_pos_iff.2 hk
  rw [if_neg hk] at h ⊢
  by_cases hi:0 < i
  ·rw [if_pos hi] at h ⊢
   cases hn:v.node (p.kids.getD (i - 1) 0) with
   | none=>rw [hn] at h;cases h
   | some l =>
    rw [hn] at h
    simp only at h ⊢
    cases hj:l.join n (p.keys.getD (i - 1) []) with
    | none=>rw [hj] at h;cases h
    | some b=>exact ⟨join_ok hj,by show i - 1 < _;omega⟩
  ·rw [if_neg hi] at h ⊢
   cases hn:v.node (p.kids.getD 1 0) with
   | none=>rw [hn] at h;cases h
   | some l =>
    rw [hn] at h
    simp only at h ⊢
    cases hj:n.join l (p.keys.getD 0 []) with
    | none=>rw [hj] at h;cases h
    | some b=>exact ⟨join_ok hj,hl⟩
theorem stpVals_take (l:List (Stp × Adr)) (k:Nat):(stpVals l).take (k * 6) = stpVals (l.take k):=by
 induction l generalizing k with
 | nil=>simp [stpVals]
 | cons p l ih =>
  match k with
  | 0=>simp [stpVals]
  | k + 1 =>
   have h1:stpVals (p :: l) = p.1.vals p.2 ++ stpVals l:=rfl
   have h2:stpVals (p :: l.take k) = p.1.vals p.2 ++ stpVals (l.take k):=rfl
   rw [List.take_succ_cons,h1,h2,← ih k,List.take_append,show (k + 1) * 6 - (p.1.vals p.2).length = k * 6 from by simp [Stp.vals];omega]
   congr 1
   exact List.take_of_length_le (by simp [Stp.vals];omega)
theorem WayAt.take {w:World} {F:Nat → Prop} {A:Option Addr} {cap:Nat} {l:List (Stp × Adr)} (h:WayAt w F A cap l) (k:Nat) (hk:k ≤ l.length):WayAt w F A cap (l.take k):=by
 have hr:=h.rd.take k hk (by omega)
 rw [stpVals_take] at hr
 have hl:(l.take k).length = k:=by rw [List.length_take];omega
 refine ⟨by rw [hl];exact hr,by have:=h.cap;omega,fun p hp=>h.nodes p (List.mem_of_mem_take hp),by have:=h.len;omega⟩
theorem erase_NOk {p:Nd} {at_:Nat} (hok:p.ok = true) (hl:p.leaf = false) (ha:at_ < p.keys.length):NOk ⟨false,[],p.keys.eraseIdx at_,p.kids.eraseIdx (at_ + 1)⟩:=by
 have hO:=Nd.Ok.of hok
 have hf:=Nd.Ok.fits hO
 have hkk:=(hO.br hl).2
 refine ⟨⟨by simp,fun k hk=>hf.k k ((List.eraseIdx_sublist ..).subset hk),fun i hi=>hf.i i ((List.eraseIdx_sublist ..).subset hi)⟩,(fun h=>by cases h),fun _=>⟨?_,fun i hi=>?_⟩⟩
 ·show (p.kids.eraseIdx (at_ + 1)).length = (p.keys.eraseIdx at_).length + 1
  rw [List.length_eraseIdx,List.length_eraseIdx,if_pos (by omega),if_pos ha];omega
 ·have:=hO.i i ((List.eraseIdx_sublist ..).subset hi)
  simp [idOk] at this
  omega
end Go.Proofs.YtccnemmlkcmceaaGreatDoor
