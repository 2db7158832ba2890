/- Proofs about the given program, joined out of the texts PL5. -/
import Derived.Test.YtccnemmlkcmceaaGreatDoorHEQC3
set_option linter.unusedVariables false
set_option linter.unusedSimpArgs false
set_option maxRecDepth 100000
set_option maxHeartbeats 6400000
namespace Go.Proofs.YtccnemmlkcmceaaGreatDoor
open Go.RowKit
theorem Play.no {w0:World} {g d:Nat} {T:Nat → Nat} {k:Nat} {w w':World} (h:Play w0 g d T k w) (hx:Ext No w w'):Play w0 g d T k w':=by
 obtain ⟨_,_,_,_,_,_,_,_,_,_,_,_,_,_,_,_,hp⟩:=h
 exact ⟨_,_,_,_,_,_,_,_,_,_,_,_,_,_,_,_,hp.no hx⟩
theorem Play.ex {w0:World} {g d:Nat} {T:Nat → Nat} {k:Nat} {w:World} (h:Play w0 g d T k w):Ext (On g) w0 w:=by
 obtain ⟨_,_,_,_,_,_,_,_,_,_,_,_,_,_,_,_,hp⟩:=h
 exact hp.ex
theorem Play.asks {w0:World} {g d:Nat} {T:Nat → Nat} {k:Nat} {w:World} (h:Play w0 g d T k w) (hk:k ≤ 60):∃ gx A n c,w.cell? ⟨g,3,none⟩ = some (.pointer (some ⟨gx,0,none⟩)) ∧ w.cell? ⟨g,4,none⟩ = some (.slice A n c) ∧ g < w.heap.size ∧
  (∀ w',Ext No w w' → Calls Tryz.prog 22 #[.pointer (some ⟨gx,0,none⟩)] w' fun e w''=>e = .returned (.int .i64 0) ∧ Ext No w' w'') ∧
  (∀ w',Ext No w w' → Calls Tryz.prog 29 #[.pointer (some ⟨gx,0,none⟩),.slice A n c] w' fun e w''=>e = .returned (.bool true) ∧ Ext No w' w''):=by
 obtain ⟨s,gx,a,Dd,Dl,N,b,v,P,E,Pw,Ew,A1,c1,A2,c2,hp⟩:=h
 have m3:=hp.tb.cell 3
 have m4:=hp.tb.cell 4
 simp [twoCells] at m3 m4
 refine ⟨gx,A1,E.length,c1,m3,m4,hp.tb.lt,fun w' e=>?_,fun w' e=>?_⟩
 ·have hp':=hp.no e
  have h1:=checkt_any s hp.hop.ok w' v hp'.tx hp.one.sane.1 gx 1 hp'.tree (by decide)
  rw [One.check hp.one.tree (by have:=hp.one.room.2;have:=hp.le;omega)] at h1
  exact h1
 ·have hp':=hp.no e
  have h1:=holds_any s hp.hop.ok w' v hp'.tx hp.one.sane.1 gx 1 hp'.tree (by decide) P E hp.one.tree A1 c1 E (hp'.ra.mono (G:=No) (fun _ _ h=>h.elim)).rd (by have:=hp.le;omega) hp.may
  rw [heldB_self hp.one.tree.sorted] at h1
  exact h1
theorem plays_walk (A:Option Addr) (l:List Ac) (c:Nat) (w:World) (T:Nat → Nat) (hT:Half w T) (hl:Rd w (fun b=>w.heap.size ≤ b) 4 A l.length (acVals l)) (hll:l.length < 2^63) (hf:∀ a ∈ l,a.fits) :
  Calls Tryz.prog 8 #[.slice A l.length c] w fun e w'=>e = .returned (.bool true) ∧ Ext No w w':=by
 obtain ⟨w1,hw1⟩:∃ w1,w1 = w.alloc (.cells #[.pointer none,.pointer none,.pointer none,.pointer none,.slice none 0 0,.slice none 0 0] 78):=⟨_,rfl⟩
 have HB:=Lib.hid (begin_any 400 (by decide) (by decide) w1)
 have HW:=Lib.hid works_any
 have HL:=Lib.hid hl
 have HLL:=Lib.hid hll
 have HFT:=Lib.hid hf
 have HTT:=Lib.hid hT
 have HE1:=Lib.hid (show Ext No w w1 from hw1 ▸ (Ext.refl _ _).alloc _)
 have HB1:=Lib.hid (show Blk w1 w.heap.size 78 _ from hw1 ▸ Blk.new w 78 _)
 clear hl hll hf hT
 go_enter Tryz.func8,Tryz.ntmps8
 go_wp2_with fail
 rw [← hw1]
 refine (HB.out).mono ?_
 rintro e w2 ⟨s,hF,rfl,hx1,ht,hm,hxx,hdd,hNA⟩
 obtain ⟨g,hg⟩:∃ g,g = w.heap.size:=⟨_,rfl⟩
 rw [← hg] at HB1 ⊢
 have HG:=Lib.hid hg
 have hb2:=HB1.out.ext hx1 (fun h=>h)
 have q0:=hb2.cell 0
 have q1:=hb2.cell 1
 have q2:=hb2.cell 2
 have q3:=hb2.cell 3
 have lg:=hb2.lt
 have f0:=hb2.frozen 0
 have f1:=hb2.frozen 1
 have f2:=hb2.frozen 2
 have f3:=hb2.frozen 3
 simp at q0 q1 q2 q3
 obtain ⟨W3,hW3⟩:∃ W3,W3 = ((w2.setCell ⟨g,0,none⟩ (.pointer (some ⟨s.d,0,none⟩))).setCell ⟨g,1,none⟩ (.pointer (some ⟨s.x,0,none⟩))).setCell ⟨g,2,none⟩ (.pointer (some ⟨s.t,0,none⟩)):=⟨_,rfl⟩
 have hb3:Blk W3 g 78 #[.pointer (some ⟨s.d,0,none⟩),.pointer (some ⟨s.x,0,none⟩),.pointer (some ⟨s.t,0,none⟩),.pointer none,.slice none 0 0,.slice none 0 0]:=hW3 ▸ (((hb2.set_ 0 _).set_ 1 _).set_ 2 _)
 have hx3:Ext (On g) w2 W3:=hW3 ▸ Ext.setF (F:=On g) (Ext.setF (F:=On g) (Ext.setF (F:=On g) (Ext.refl _ _) (b:=g) (show On g g from rfl) _ _) (b:=g) (show On g g from rfl) _ _) (b:=g) (show On g g from rfl) _ _
 have HOF:=Lib.hid (of_any (some ⟨s.t,0,none⟩) 1 (by decide) W3)
 obtain ⟨W4,hW4⟩:∃ W4,W4 = W3.alloc (.cells (treeCells s 1) 70):=⟨_,rfl⟩
 have hb4:=hb3.ext (hW4 ▸ (Ext.refl No W3).alloc _) (fun h=>h)
 have HX4:=Lib.hid (show Blk W4 W3.heap.size 70 (treeCells s 1) from hW4 ▸ Blk.new W3 70 _)
 have hT2:Half w2 T:=(HTT.out.ext HE1.out (fun h=>h)).ext hx1 (fun h=>h)
 obtain ⟨a,Dd,Dl,hop,hda,_,hbv⟩:=hNA.opened hF.ok hF.tx.db hT2 (by decide) (by decide)
 have hone:=One.start hF (by decide) (by decide) 1
 have hcap:s.cap = 400:=hF.cap
 rw [hcap] at hone
 have h0g:(0:Nat) ≠ g:=fun e=>by
  have h1:=HTT.out.cell 0 (by decide)
  have h2:=World.block_lt_of_cell? w _ h1
  simp only at h2
  omega
 have hg1:g < w1.heap.size:=HB1.out.lt
 have hPLAY:∀ W5,W5 = W4.setCell ⟨g,3,none⟩ (.pointer (some ⟨W3.heap.size,0,none⟩)) → Play w1 g s.d T 0 W5:=fun W5 hW5=>by
  have hx34:Ext No W3 W4:=hW4 ▸ (Ext.refl No W3).alloc _
  have hx5:Ext (On g) W4 W5:=hW5 ▸ Ext.setF (F:=On g) (Ext.refl _ _) (b:=g) (show On g g from rfl) _ _
  have hFg:¬ s.F g:=fun hf=>by have:=hop.newF g hf;omega
  have nt:¬ On g s.t:=fun e=>hFg (by have e1:s.t = g:=e;rw [← e1];exact .inl rfl)
  have nm:¬ On g s.m:=fun e=>hFg (by have e1:s.m = g:=e;rw [← e1];exact .inr rfl)
  have t3:TxAt W3 s v0:=hF.tx.local_ hx3 nt nm (hop.lw2 g hg1 h0g.symm _ _ hx3 hF.tx.db)
  have t4:=t3.no hF.ok hx34
  have t5:TxAt W5 s v0:=t4.local_ hx5 nt nm (hop.lw2 g hg1 h0g.symm _ _ hx5 t4.db)
  have hra:RefAt W5 (Ch a Dd Dl g s.F) none 0 []:=⟨Rd.nil_ _,by simp,fun _=>rfl,by simp⟩
  refine ⟨s,W3.heap.size,a,Dd,Dl,0,freshDb (400 + 8 * 400),v0,[],[],[],[],none,0,none,0,?_⟩
  refine ⟨?_,hop,t5,((hT2.ext hx3 h0g).ext hx34 (fun h=>h)).ext hx5 h0g,HX4.out.ext hx5 (fun e=>by have e1:W3.heap.size = g:=e;have:=hb3.lt;omega),hone,by rw [hbv];exact hone,by rw [hbv];exact .refl,rfl,fun _ _=>rfl,fun i _=>by rw [hbv];rfl,rfl,hra,hra,by simp,by simp,by simp,by simp,Nat.le_refl _,hg1,((hx1.of_no).trans_ hx3).trans_ (hx34.of_no.trans_ hx5)⟩
  have:=hb4.set_ 3 (.pointer (some ⟨W3.heap.size,0,none⟩))
  rw [← hW5,hop.sx] at this
  exact this
 have HPLAY:=Lib.hid hPLAY
 have m3:=hb4.cell 3
 have g3:=hb4.frozen 3
 have l4:=hb4.lt
 have r2:=hb3.cell 2
 have l3:=hb3.lt
 simp at m3 r2
 clear hF hx1 ht hm hxx hdd hNA hg hb2 hb3 hx3 hb4 hT2 hop hda hbv hone hcap h0g hg1 hPLAY
 go_wp2_with fail
 rw [← hW3]
 refine (HOF.out).mono ?_
 rintro e w4 ⟨rfl,rfl⟩
 rw [show W3.alloc (.cells #[.pointer (some ⟨s.t,0,none⟩),.int .i64 ((1:Nat):Int)] 70) = W4 from hW4.symm]
 clear hW3 hW4 q0 q1 q2 q3 f0 f1 f2 f3 r2 lg hw1
 go_wp2_with fail
 obtain ⟨W5,hW5⟩:∃ W5,W5 = W4.setCell ⟨g,3,none⟩ (.pointer (some ⟨W3.heap.size,0,none⟩)):=⟨_,rfl⟩
 rw [← hW5]
 have HP5:=Lib.hid (HPLAY.out W5 hW5)
 clear hW5 m3 g3 l4 l3
 go_loopg [4] l.length (fun gk iv wr=>∃ (k:Nat),k + gk = l.length ∧ k ≤ 60 ∧ iv = .int .i64 (k:Int) ∧ Hid (Play w1 g s.d T k wr))
 case atStart=>exact ⟨0,by omega,by omega,rfl,HP5⟩
 case round =>
  obtain ⟨k,hk,hkm,rfl,HP⟩:=hrel
  have HK:=Lib.hid hk
  have HKM:=Lib.hid hkm
  have hll:=HLL.out
  have HEW:Hid (Ext (On g) w wr):=Lib.hid (HE1.out.of_no.trans_ HP.out.ex)
  have HEND:Hid (∀ w',Ext No wr w' → Ext No w w'):=Lib.hid (fun w' e=>(HE1.out.trans HP.out.ex (fun x hx h1=>by have e1:x = g:=h1;have:=HG.out;omega)).trans_ e)
  obtain ⟨gx,Am,nm,cm,m3,m4,lg,hck,hhd⟩:=HP.out.asks hkm
  have HHD:=Lib.hid hhd
  have HM3:=Lib.hid m3;have HM4:=Lib.hid m4
  clear hck hhd
  by_cases hlt:k < l.length
  ·by_cases hlt2:k < 60
   ·obtain ⟨ac,ha⟩:∃ ac,l[k]? = some ac:=⟨_,List.getElem?_eq_getElem hlt⟩
    obtain ⟨b,o,hA,_,k0,k1,k2,k3⟩:=(HL.out.ext (HEW.out.mono (fun x _ h1=>by have e1:x = g:=h1;have:=HG.out;show w.heap.size ≤ x;omega))).acAt ha
    subst hA
    have lc:=World.block_lt_of_cell? wr _ k0
    simp only at lc
    have hlt':(k:Int) < (l.length:Int):=by omega
    have hlt2':(k:Int) < 60:=by omega
    have hfa:=HFT.out ac (List.mem_of_getElem? ha)
    have HLT:=Lib.hid hlt
    have HDO:Hid (Calls Tryz.prog 34 #[.pointer (some ⟨g,0,none⟩),.agg #[.int .i64 ac.kind,.int .i64 ac.n,.string (str ac.key),.string (str ac.val)]] wr fun e w'=>e = .returned (.bool true) ∧ Play w1 g s.d T (k + 1) w'):=Lib.hid (by
     obtain ⟨s',gx',a,Dd,Dl,N,b,v,P,E,Pw,Ew,A1,c1,A2,c2,hp⟩:=HP.out
     exact does_any hp hlt2 ac hfa)
    clear hk hkm hfa hlt hlt2 m3 m4 lg
    go_wp2_with fail
    refine (HDO.out).mono ?_
    rintro e w7 ⟨rfl,hp7⟩
    obtain ⟨gx7,Am7,nm7,cm7,m3,m4,lg,hck,hhd⟩:=hp7.asks (by omega)
    have HCK:=Lib.hid (hck w7 (Ext.refl _ _))
    have HP7:=Lib.hid hp7
    clear hck hhd hp7
    go_wp2_with fail
    refine (HCK.out).mono ?_
    rintro e w8 ⟨rfl,hx8⟩
    have HP8:=Lib.hid (HP7.out.no hx8)
    clear hx8 m3 m4 lg
    go_wp2_with fail
    go_roundg (gk - 1)
    case rel=>exact ⟨k + 1,by have:=HK.out;have:=HLT.out;omega,by omega,by go_num,HP8⟩
    case measure=>have:=HK.out;have:=HLT.out;omega
   ·have hlt':(k:Int) < (l.length:Int):=by omega
    have hge:¬ ((k:Int) < 60):=by omega
    clear hk hkm hlt hlt2
    go_wp2_with fail
    have hs0:wr.drew.cell? ⟨g,3,none⟩ = some (.pointer (some ⟨gx,0,none⟩)) ∧ wr.drew.cell? ⟨g,4,none⟩ = some (.slice Am nm cm):=⟨cell_ext (Ext.refl No wr).drew HM3.out (fun h=>h),cell_ext (Ext.refl No wr).drew HM4.out (fun h=>h)⟩
    have HX0:Hid (Ext No wr wr.drew):=Lib.hid (Ext.refl No wr).drew
    clear m3 m4
    go_region_held3 (fun w'=>w'.cell? ⟨g,3,none⟩ = some (.pointer (some ⟨gx,0,none⟩)) ∧ w'.cell? ⟨g,4,none⟩ = some (.slice Am nm cm))
     (first | exact hs0 | exact ⟨cell_ext ((HX0.out.trans_ hx7).trans_ hx8) HM3.out (fun h=>h),cell_ext ((HX0.out.trans_ hx7).trans_ hx8) HM4.out (fun h=>h)⟩ | exact ⟨cell_ext (HX0.out.trans_ hx7) HM3.out (fun h=>h),cell_ext (HX0.out.trans_ hx7) HM4.out (fun h=>h)⟩) (first
     | (go_at_call 29;refine (HHD.out _ HX0.out).mono ?_;rintro e w7 ⟨rfl,hx7⟩)
     | (go_at_call 18;refine (HW.out _).mono ?_;rintro e w8 ⟨rfl,hx8⟩))
    go_wp2_with fail
    go_ret
    exact ⟨rfl,HEND.out _ ((HX0.out.trans_ hx7).trans_ hx8)⟩
  ·have hge:¬ ((k:Int) < (l.length:Int)):=by omega
   clear hk hkm hlt
   go_wp2_with fail
   have hs0:wr.drew.cell? ⟨g,3,none⟩ = some (.pointer (some ⟨gx,0,none⟩)) ∧ wr.drew.cell? ⟨g,4,none⟩ = some (.slice Am nm cm):=⟨cell_ext (Ext.refl No wr).drew HM3.out (fun h=>h),cell_ext (Ext.refl No wr).drew HM4.out (fun h=>h)⟩
   have HX0:Hid (Ext No wr wr.drew):=Lib.hid (Ext.refl No wr).drew
   clear m3 m4
   go_region_held3 (fun w'=>w'.cell? ⟨g,3,none⟩ = some (.pointer (some ⟨gx,0,none⟩)) ∧ w'.cell? ⟨g,4,none⟩ = some (.slice Am nm cm))
    (first | exact hs0 | exact ⟨cell_ext ((HX0.out.trans_ hx7).trans_ hx8) HM3.out (fun h=>h),cell_ext ((HX0.out.trans_ hx7).trans_ hx8) HM4.out (fun h=>h)⟩ | exact ⟨cell_ext (HX0.out.trans_ hx7) HM3.out (fun h=>h),cell_ext (HX0.out.trans_ hx7) HM4.out (fun h=>h)⟩) (first
    | (go_at_call 29;refine (HHD.out _ HX0.out).mono ?_;rintro e w7 ⟨rfl,hx7⟩)
    | (go_at_call 18;refine (HW.out _).mono ?_;rintro e w8 ⟨rfl,hx8⟩))
   go_wp2_with fail
   go_ret
   exact ⟨rfl,HEND.out _ ((HX0.out.trans_ hx7).trans_ hx8)⟩
end Go.Proofs.YtccnemmlkcmceaaGreatDoor
