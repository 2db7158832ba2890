/- Proofs about the given program, joined out of the texts CM3, Z5, Z6, Z7, BG1, W2, W3, W4, W5. -/
import Derived.Test.YtccnemmlkcmceaaGreatDoorHC9
import Derived.Test.YtccnemmlkcmceaaGreatDoorHC11
import Derived.Deep.DeepCutAuto
import Derived.Deep.CutBlock
import Derived.Deep.LoopGhost
set_option linter.unusedVariables false
set_option linter.unusedSimpArgs false
set_option maxRecDepth 100000
set_option maxHeartbeats 6400000
namespace Go.Proofs.YtccnemmlkcmceaaGreatDoor
open Go.RowKit
structure Mid (w wx:World) (Dd Dl Dd1 Dl1:Nat → Prop) (a:Dbp) (T:Nat → Nat) (b b1:Db) (R:Nat × Db) (l:List (Nat × Bs)) (m:Mt):Prop where
 db:DbAt wx Dd1 Dl1 a none false T b1
 nd:Newer w Dd Dd1
 nl:Newer w Dl Dl1
 x:Ext (fun g=>Dd g ∨ Dl g ∨ g = a.x) w wx
 r:R = b1.keep (crc T) a.log l m
 room:(encRec l).length + 8 ≤ b1.room a.log
 near:b1.k.Near (2^25)
 ep:b1.epoch < 2^59
 rl:b1.recs.length < 2^16
 bf:b1.bytes.length ≤ 64 * (a.log - 1)
 n:b1.k.n = b.k.n
 big:(encRec l).length ≤ 65536
theorem commit_any {w:World} {s:Sys} {v:V} {Dd Dl:Nat → Prop} {a:Dbp} {T:Nat → Nat} {b:Db} (h:Ready w s v Dd Dl a T b) :
  Calls Tryz.prog 32 #[.pointer (some ⟨s.t,0,none⟩)] w fun e w'=>∃ ov l,Images s v T ov l ∧ Committed w Dd Dl a T (b.commit (crc T) a.log v.spoilt l v.mt) e w':=by
 obtain ⟨Q,hQ⟩:∃ Q,Q = fun (e:Ending) (w':World)=>∃ ov l,Images s v T ov l ∧ Committed w Dd Dl a T (b.commit (crc T) a.log v.spoilt l v.mt) e w':=⟨_,rfl⟩
 rw [← hQ]
 have HQ:=Lib.hid hQ
 have H:=Lib.hid h
 obtain ⟨ov,hm,hov1,hov2⟩:=h.tx.mp
 have HOV:Hid (Over s v ov):=Lib.hid ⟨hm.nodup,hov1,hov2⟩
 have t0:w.cell? ⟨s.t,0,none⟩ = some (.pointer (some ⟨s.x,0,none⟩)):=h.tx.c0
 have HUP:=Lib.hid (txup s h.ok w h.tx.db t0)
 have x10f:w.frozen? ⟨s.x,10,none⟩ = false:=by rw [h.sx];exact h.db.db.frozen 10
 have HEND:=Lib.hid (end_any s h.ok w v h.tx x10f)
 obtain ⟨W1,hW1⟩:∃ W1,W1 = w.setCell ⟨s.x,10,none⟩ (.pointer none):=⟨_,rfl⟩
 rw [← hW1] at HEND
 have hE1:Ext (On a.x) w W1:=by rw [hW1,h.sx];exact (Ext.refl _ _).setF (F:=On a.x) rfl 10 _
 have htx:s.t ≠ a.x:=by rw [← h.sx];exact h.ok.tx
 have HDB1:Hid (DbAt W1 Dd Dl a none false T b):=Lib.hid (by
  have hb:Blk W1 a.x 131 (dbVals a b.m none false):=by rw [hW1,h.sx];exact h.db.db.set_ 10 (.pointer none)
  have hP:=h.db.parts
  exact ⟨h.db.disk.ext hE1 (fun g hg e=>hP.xd (by have e':g = a.x:=e;rw [← e'];exact hg)),h.db.wal.ext hE1 (fun g hg e=>hP.xl (by have e':g = a.x:=e;rw [← e'];exact hg)),hb,h.db.half.ext hE1 (fun e=>hP.zx (by have e':0 = a.x:=e;exact e'.symm)),hP,h.db.ll⟩)
 have htx1:Blk W1 s.t 111 (v.cells s):=h.tx.tx.ext hE1 htx
 have hm1:MapAt W1 s.m ov:=hm.ext hE1 h.mx
 have hcap:v.high ≤ 8192:=by have h1:=h.tx.h2;have h2:=h.ok.n2;unfold Sys.cap at h1;omega
 have hovl:∀ p ∈ ov,1 ≤ p.1 ∧ p.1 < 10000 ∧ 1 ≤ p.2.kind ∧ p.2.kind ≤ 255 ∧ p.2.body.length ≤ 500:=fun p hp=>by
  obtain ⟨h1,h2⟩:=hov1 p.1 p.2 hp
  have h3:=HOV.out.leaf hp
  obtain ⟨fr,hfr⟩:=h.good
  have h4:=hfr.bd p.1 h1 h2
  have h5:=h.kd p.1 h1 h2
  rw [h3] at h4 h5
  exact ⟨h1,by omega,h5.1,h5.2,h4⟩
 have HRC:=Lib.hid (record_any s W1 v T ov htx1 hm1 HDB1.out.half hovl h.mt)
 have HTX1:=Lib.hid htx1
 have HE1:=Lib.hid hE1
 have HCAP:=Lib.hid hcap
 have htl1:=htx1.lt
 have tx0:w.cell? ⟨s.t,0,none⟩ = some (.pointer (some ⟨a.x,0,none⟩)):=by rw [t0,h.sx]
 have htl:=h.tx.tx.lt
 clear h hm hov1 hov2 t0 x10f hW1 hE1 htx htx1 hm1 hcap hovl hQ
 obtain ⟨x,hx⟩:∃ x,x = a.x:=⟨_,rfl⟩
 rw [← hx] at tx0
 have HXE:=Lib.hid hx
 clear hx
 go_enter Tryz.func32,Tryz.ntmps32
 go_wp2_with fail
 refine (HUP.out).mono ?_
 rintro e w1 ⟨rfl,rfl⟩
 go_wp2_with fail
 refine (HEND.out).mono ?_
 rintro e w1 ⟨rfl,rfl⟩
 clear HUP HEND tx0
 go_wp2_with fail
 refine (HRC.out).mono ?_
 rintro e w2 ⟨⟨l,g,rfl,hlp,l',hg',hl'⟩,hx2⟩
 have HIM:Hid (Images s v T ov l):=Lib.hid ⟨HOV.out,hlp⟩
 have HX2:=Lib.hid hx2
 have HDB2:=Lib.hid (HDB1.out.no hx2)
 have HTX2:=Lib.hid (HTX1.out.ext hx2 (fun h=>h))
 have HG2:=Lib.hid hg'
 have HL2:=Lib.hid hl'
 obtain ⟨R,hR⟩:∃ R,R = b.commit (crc T) a.log v.spoilt l v.mt:=⟨_,rfl⟩
 have HR:=Lib.hid hR
 have HQ2:Hid (∀ e w',Committed w Dd Dl a T R e w' → Q e w'):=Lib.hid (fun e w' hc=>by rw [HQ.out];exact ⟨ov,l,HIM.out,by rw [← HR.out];exact hc⟩)
 have HE2:Hid (Ext (fun g=>Dd g ∨ Dl g ∨ g = a.x) w w2):=Lib.hid ((HE1.out.mono (fun g _ hg=>.inr (.inr hg))).trans_ hx2.of_no)
 obtain ⟨rec,hrec⟩:∃ rec,rec = encRec l:=⟨_,rfl⟩
 rw [← hrec]
 have HREC:=Lib.hid hrec
 obtain ⟨N,hN⟩:∃ N,N = rec.length:=⟨_,rfl⟩
 have HN:=Lib.hid hN
 have t10:w2.cell? ⟨s.t,10,none⟩ = some (.bool v.spoilt):=HTX2.out.cell 10
 have htl2:=HTX2.out.lt
 clear hx2 hlp hg' hl' hR hrec hN
 go_upto_block 0 with fail
 have HSP:Hid (R = b.commit (crc T) a.log v.spoilt l v.mt):=HR
 go_cut [] (fun wx=>∃ (Dd1 Dl1:Nat → Prop) (b1:Db),Hid (Mid w wx Dd Dl Dd1 Dl1 a T b b1 R l v.mt))
 case first =>
  cases hsp:v.spoilt
  ·rw [hsp] at t10 HSP
   have hlen:=fun ty=>run_imglen HG2.out ty
   rw [HL2.out] at hlen
   obtain ⟨n1,hn1⟩:∃ n1,n1 = l.length:=⟨_,rfl⟩
   rw [← hn1] at hlen
   have HN1:=Lib.hid hn1
   clear hsp hn1
   by_cases hn0:n1 = 0
   ·subst hn0
    have HD:Hid (Q (.returned (.int .i64 0)) w2):=Lib.hid (by
     have e:R = (0,b):=by
      have hl0:l = []:=List.eq_nil_of_length_eq_zero HN1.out.symm
      rw [HSP.out];unfold Db.commit
      rw [if_neg (by simp),if_pos hl0]
     exact HQ2.out _ _ (by rw [e];exact ⟨rfl,⟨Dd,Dl,HDB2.out.disk,fun _=>HDB2.out,fun g hg=>.inl hg,fun g hg=>.inl hg⟩,HE2.out⟩))
    go_wp2_with fail
    exact HD.out
   ·have hne:((n1:Int) == 0) = false:=by simpa using hn0
    have HLN:Hid (l ≠ []):=Lib.hid (fun e=>hn0 (by rw [HN1.out,e];rfl))
    have hm1:=HDB2.out.wal.m1
    have hm2:=HDB2.out.wal.m2
    have c2:w2.cell? ⟨x,2,none⟩ = some (.int .i64 (a.log:Int)):=by rw [HXE.out];exact HDB2.out.db.cell 2
    have c1:w2.cell? ⟨x,1,none⟩ = some (.pointer (some ⟨a.l,0,none⟩)):=by rw [HXE.out];exact HDB2.out.db.cell 1
    have hxl:x < w2.heap.size:=by rw [HXE.out];exact HDB2.out.db.lt
    have HRM:=Lib.hid (lg_room HDB2.out.wal rfl H.out.bf)
    obtain ⟨B,hB⟩:∃ B,B = 64 * (a.log - 1):=⟨_,rfl⟩
    obtain ⟨rm,hrm⟩:∃ rm,rm = B - b.bytes.length:=⟨_,rfl⟩
    simp only [← hB,← hrm] at HRM
    have HB:=Lib.hid hB;have HRMV:=Lib.hid hrm
    obtain ⟨lg,hlg⟩:∃ lg,lg = a.log:=⟨_,rfl⟩
    rw [← hlg] at c2 hm1 hm2
    have hrl:rec.length < 9000000:=by
     rw [HREC.out,encRec_len (fun p hp=>(HIM.out.mem H.out.good H.out.tx.h1 hp).2)]
     have:=HIM.out.len (by have:=HCAP.out;omega)
     omega
    have hsz:(str rec).size = N:=by rw [str_size,HN.out]
    obtain ⟨E8,hE8⟩:∃ E8,E8 = N + 8:=⟨_,rfl⟩
    have hN9:N < 9000000:=by rw [HN.out];exact hrl
    have hw1:IntKind.i64.wrap ((N:Int) + 8) = (E8:Int):=by rw [show (N:Int) + 8 = (E8:Int) by omega];exact wrap_tiny _ (by omega) (by omega)
    have hw2:IntKind.i64.wrap ((lg:Int) - 1) = (lg:Int) - 1:=wrap_tiny _ (by omega) (by omega)
    have hw3:IntKind.i64.wrap (64 * ((lg:Int) - 1)) = (B:Int):=by rw [show 64 * ((lg:Int) - 1) = (B:Int) by omega];exact wrap_tiny _ (by omega) (by omega)
    have HE8:=Lib.hid hE8
    rw [str_size] at hsz
    clear hn0 hm1 hm2 hB hrm hlg hrl hE8 hN9
    by_cases hbig:N > 65536 ∨ E8 > B
    ·have HD:Hid (Q (.returned (.int .i64 7)) w2):=Lib.hid (by
      have e:R = (7,b):=by
       rw [HSP.out];unfold Db.commit
       rw [if_neg (by simp),if_neg HLN.out,← HREC.out,← HB.out,← HN.out,if_pos (by rw [HE8.out] at hbig;exact hbig)]
      exact HQ2.out _ _ (by rw [e];exact ⟨rfl,⟨Dd,Dl,HDB2.out.disk,fun _=>HDB2.out,fun g hg=>.inl hg,fun g hg=>.inl hg⟩,HE2.out⟩))
     by_cases hb1:N > 65536
     ·have q1:(65536:Int) < (N:Int):=by omega
      clear hbig hb1
      go_wp2_with fail
      exact HD.out
     ·have q1:¬ ((65536:Int) < (N:Int)):=by omega
      have q2:(B:Int) < (E8:Int):=by omega
      clear hbig hb1
      go_wp2_with fail
      exact HD.out
    ·have q1:¬ ((65536:Int) < (N:Int)):=by omega
     have q2:¬ ((B:Int) < (E8:Int)):=by omega
     have HBIG:=Lib.hid hbig
     clear hbig
     go_wp2_with fail
     refine (HRM.out).mono ?_
     rintro e3 w3 ⟨rfl,hx3⟩
     have HDB3:=Lib.hid (HDB2.out.no hx3)
     have HE3:=Lib.hid (HE2.out.trans_ hx3.of_no)
     clear hx3 c1 c2 q1 q2 hlen hw2 hw3
     by_cases hset:E8 > rm
     ·have q3:(rm:Int) < (E8:Int):=by omega
      have HST:=Lib.hid (dbsettle_any HDB3.out (H.out.near.mono (by decide)) (by have:=H.out.ep;omega) (by have:=H.out.rl;omega))
      obtain ⟨S,hS⟩:∃ S,S = b.settle (crc T):=⟨_,rfl⟩
      rw [← hS,← HXE.out] at HST
      have HS:=Lib.hid hS
      have HRS:Hid (R = if S.1 ≠ 0 then S else S.2.keep (crc T) a.log l v.mt):=Lib.hid (by
       rw [HSP.out];unfold Db.commit
       rw [if_neg (by simp),if_neg HLN.out,← HREC.out,← HB.out,← HN.out,if_neg (by have:=HBIG.out;rw [HE8.out] at this;exact this),if_pos (by unfold Db.room;rw [← HB.out,← HRMV.out];have:=HE8.out;omega),← HS.out])
      clear hset hS
      go_wp2_with fail
      refine (HST.out).mono ?_
      rintro e4 w4 ⟨rfl,⟨Dd4,hd4,hdb4,hp4,hn4⟩,hbx4,hx4⟩
      have HD4:=Lib.hid hd4;have HDB4:=Lib.hid hdb4;have HP4:=Lib.hid hp4;have HN4:=Lib.hid hn4
      have HNW4:Hid (Newer w Dd Dd4):=Lib.hid (fun g hg=>by
       rcases hn4 g hg with h1 | h1
       ·exact .inl h1
       ·exact .inr (by have:=HE3.out.size;omega))
      have HE4:Hid (Ext (fun g=>Dd g ∨ Dl g ∨ g = a.x) w w4):=Lib.hid (HE3.out.trans_ (hx4.mono (fun g _ hg=>by
       rcases hg with hg | hg
       ·exact .inl hg
       ·exact .inr (.inl hg))))
      have HLO:=Lib.hid (lose_any hbx4 S.1)
      rw [← HXE.out] at HLO
      clear hd4 hdb4 hp4 hn4 hbx4 hx4
      go_wp2_with fail
      refine (HLO.out).mono ?_
      rintro e5 w5 ⟨rfl,hb5,hx5⟩
      have HE5:Hid (Ext (fun g=>Dd g ∨ Dl g ∨ g = a.x) w w5):=Lib.hid (HE4.out.trans_ (hx5.mono (fun g _ hg=>.inr (.inr (by have e':g = x:=hg;rw [e',HXE.out])))))
      rw [HXE.out] at hb5 hx5
      have HB5:=Lib.hid hb5;have HX5:=Lib.hid hx5
      clear hb5 hx5
      by_cases hc:S.1 = 0
      ·have hc0:(S.1:Int) = 0:=by omega
       have HMID:Hid (Mid w w5 Dd Dl Dd4 Dl a T b S.2 R l v.mt):=Lib.hid (by
        have h1:=HDB4.out hc
        have hb5:=HB5.out
        rw [hc] at hb5
        obtain ⟨g1,g2,g3⟩:=Db.settle_log (crc T) b
        rw [← HS.out] at g1 g2 g3
        have hbb:S.2.bytes = []:=by
         rcases g1 with ⟨a1,a2,_⟩ | ⟨a1,_,_⟩
         ·rw [a1];exact H.out.rb (by rw [← a2];exact g3 hc)
         ·exact a1
        refine ⟨h1.lose hb5 HX5.out,HNW4.out,fun g hg=>.inl hg,HE5.out,by rw [HRS.out,if_neg (by omega)],?_,?_,?_,?_,?_,?_,?_⟩
        ·unfold Db.room
         rw [hbb,List.length_nil,← HREC.out,← HN.out,← HB.out]
         have:=HBIG.out;have:=HE8.out;omega
        ·rw [HS.out];exact (Db.settle_near H.out.near).mono (by decide)
        ·have:=H.out.ep
         rcases g1 with ⟨_,_,a3⟩ | ⟨_,_,a3⟩ <;> rw [a3] <;> omega
        ·rw [g3 hc];decide
        ·rw [hbb,List.length_nil];omega
        ·rw [HS.out];exact Db.settle_n _ _
        ·rw [← HREC.out,← HN.out];have:=HBIG.out;omega)
       rw [hc0]
       clear hc hc0
       go_wp2_with fail
       go_meet
       exact ⟨Dd4,Dl,S.2,HMID⟩
      ·have hc1:((S.1:Int) != 0) = true:=by simp;omega
       have HD:Hid (Q (.returned (.int .i64 (S.1:Int))) w5):=Lib.hid (by
        have e:R = S:=by rw [HRS.out,if_pos hc]
        have h10:S.1 = 10:=by
         rcases Db.settle_code (crc T) b with h1 | h1
         ·rw [HS.out] at hc;exact absurd h1 hc
         ·rw [HS.out];exact h1
        exact HQ2.out _ _ (by
         rw [e]
         exact ⟨rfl,⟨Dd4,Dl,HD4.out.ext HX5.out (fun g hg e=>HP4.out.xd (by have e':g = a.x:=e;rw [← e'];exact hg)),fun hne=>absurd h10 hne,HNW4.out,fun g hg=>.inl hg⟩,HE5.out⟩))
       clear hc
       go_wp2_with fail
       exact HD.out
     ·have q3:¬ ((rm:Int) < (E8:Int)):=by omega
      have HMID:Hid (Mid w w3 Dd Dl Dd Dl a T b b R l v.mt):=Lib.hid (by
       refine ⟨HDB3.out,fun g hg=>.inl hg,fun g hg=>.inl hg,HE3.out,?_,?_,H.out.near.mono (by decide),by have:=H.out.ep;omega,by have:=H.out.rl;omega,H.out.bf,rfl,by rw [← HREC.out,← HN.out];have:=HBIG.out;omega⟩
       ·rw [HSP.out];unfold Db.commit
        rw [if_neg (by simp),if_neg HLN.out,← HREC.out,← HB.out,← HN.out,if_neg (by have:=HBIG.out;rw [HE8.out] at this;exact this),if_neg (by unfold Db.room;rw [← HB.out,← HRMV.out];have:=HE8.out;omega)]
       ·unfold Db.room
        rw [← HREC.out,← HN.out,← HB.out,← HRMV.out]
        have:=HE8.out;omega)
      clear hset
      go_wp2_with fail
      go_meet
      exact ⟨Dd,Dl,b,HMID⟩
  ·rw [hsp] at t10 HSP
   have HD:Hid (Q (.returned (.int .i64 9)) w2):=Lib.hid (by
    have e:R = (9,b):=by rw [HSP.out];unfold Db.commit;rw [if_pos rfl]
    exact HQ2.out _ _ (by rw [e];exact ⟨rfl,⟨Dd,Dl,HDB2.out.disk,fun _=>HDB2.out,fun g hg=>.inl hg,fun g hg=>.inl hg⟩,HE2.out⟩))
   clear hsp
   go_wp2_with fail
   exact HD.out
 case rest =>
  obtain ⟨Dd1,Dl1,b1,HMID⟩:=hcut
  have M:=HMID.out
  have hzz:rec.length ≤ 65536:=by rw [HREC.out];exact M.big
  have hroom:b1.bytes.length + (rec.length + 8) ≤ 64 * (a.log - 1):=by have h1:=M.room;have h2:=M.bf;unfold Db.room at h1;rw [HREC.out];omega
  have HADD:=Lib.hid (lg_add M.db.wal rfl rfl M.bf rec hzz (by show rec.length + 8 ≤ 64 * (a.log - 1) - b1.bytes.length;omega))
  simp only at HADD
  have c1:wc.cell? ⟨x,1,none⟩ = some (.pointer (some ⟨a.l,0,none⟩)):=by rw [HXE.out];exact M.db.db.cell 1
  have hxl:x < wc.heap.size:=by rw [HXE.out];exact M.db.db.lt
  have HROOM:=Lib.hid (And.intro hzz hroom)
  clear M hzz hroom t10 HSP
  go_wp2_with fail
  refine (HADD.out).mono ?_
  rintro e3 w3 ⟨rfl,hl3,hx3⟩
  have HL3:=Lib.hid hl3;have HX3:=Lib.hid hx3
  have hP:=HMID.out.db.parts
  have HB3:=Lib.hid (HMID.out.db.db.ext hx3 hP.xl)
  have HD3:=Lib.hid (HMID.out.db.disk.ext hx3 (fun g h1 h2=>hP.ap g h2 h1))
  have HT3:=Lib.hid (HMID.out.db.half.ext hx3 hP.zl)
  have HZ3:Hid (¬ Grow Dl1 wc w3 0 ∧ ¬ Grow Dl1 wc w3 a.x):=Lib.hid ⟨fun hg=>by
   rcases hg with hg | hg
   ·exact hP.zl hg
   ·have:=HXE.out;omega,fun hg=>by
   rcases hg with hg | hg
   ·exact hP.xl hg
   ·have:=HXE.out;omega⟩
  have HAP3:Hid (∀ g,Grow Dl1 wc w3 g → ¬ Dd1 g):=Lib.hid (fun g hg hd=>by
   rcases hg with hg | hg
   ·exact hP.ap g hg hd
   ·have:=HMID.out.db.disk.old g hd;omega)
  have c13:w3.cell? ⟨x,1,none⟩ = some (.pointer (some ⟨a.l,0,none⟩)):=by rw [HXE.out];exact HB3.out.cell 1
  have hxl3:x < w3.heap.size:=by rw [HXE.out];exact HB3.out.lt
  have HSY:=Lib.hid (lg_sync HL3.out HD3.out HT3.out hP.zd HZ3.out.1 HAP3.out (HMID.out.near.mono (by decide)) (by exact HMID.out.ep) rfl rec rfl HROOM.out.1 HROOM.out.2 HMID.out.db.ll (by show b1.recs.length < 2^20;have:=HMID.out.rl;omega) ((Dk.logLay_near (m:=a.log) HMID.out.near (by rw [List.length_append,frame_len];exact HROOM.out.2)).mono (by have:=HMID.out.db.wal.m2;omega)))
  simp only at HSY
  obtain ⟨S,hS⟩:∃ S,S = syncOf (crc T) b1.k ⟨b1.epoch,b1.bytes,b1.recs,[rec],false⟩ rec:=⟨_,rfl⟩
  have hSY2:Calls Tryz.prog 72 #[.pointer (some ⟨a.l,0,none⟩)] w3 (Synced w3 (Grow Dl1 wc w3) Dd1 a.l a.d a.log a.kb ⟨b1.epoch,b1.bytes,b1.recs,[rec],false⟩ S ⟨b1.epoch,b1.bytes ++ frameOf (crc T) rec,b1.recs ++ [rec],[],false⟩):=by rw [hS];exact HSY.out
  have HSY2:=Lib.hid hSY2
  have HS:=Lib.hid hS
  have HPP:=Lib.hid hP
  clear hl3 hx3 hP c1 hxl hSY2 hS HSY
  go_wp2_with fail
  refine (HSY2.out).mono ?_
  rintro e4 w4 ⟨rfl,⟨Dd4,Dl4,hd4,hl4,hap4,n1,n2⟩,hx4⟩
  have HD4:=Lib.hid hd4;have HL4:=Lib.hid hl4;have HAP4:=Lib.hid hap4;have HN1:=Lib.hid n1;have HN2:=Lib.hid n2
  have HX4:=Lib.hid hx4
  have HB4:=Lib.hid (HB3.out.ext hx4 (fun hg=>by
   rcases hg with hg | hg
   ·exact HPP.out.xd hg
   ·exact HZ3.out.2 hg))
  have HT4:=Lib.hid (HT3.out.ext hx4 (fun hg=>by
   rcases hg with hg | hg
   ·exact HPP.out.zd hg
   ·exact HZ3.out.1 hg))
  have HP4:Hid (Parts a Dd4 Dl4):=Lib.hid (HPP.out.newer (w:=wc) (fun g hg=>by
   rcases n1 g hg with h1 | h1
   ·exact .inl h1
   ·exact .inr (by have:=HX3.out.size;omega)) (fun g hg=>by
   rcases n2 g hg with (h1 | h1) | h1
   ·exact .inl h1
   ·exact .inr h1.1
   ·exact .inr (by have:=HX3.out.size;omega)) hap4 (by rw [← HXE.out];have:=HMID.out.db.db.lt;rw [← HXE.out] at this;exact this))
  have HNW4:Hid (Newer w Dd Dd4 ∧ Newer w Dl Dl4):=Lib.hid ⟨fun g hg=>by
   have hs:=HMID.out.x.size;have hs3:=HX3.out.size
   rcases n1 g hg with h1 | h1
   ·exact HMID.out.nd g h1
   ·exact .inr (by omega),fun g hg=>by
   have hs:=HMID.out.x.size;have hs3:=HX3.out.size
   rcases n2 g hg with (h1 | h1) | h1
   ·exact HMID.out.nl g h1
   ·exact .inr (by omega)
   ·exact .inr (by omega)⟩
  have HE4:Hid (Ext (fun g=>Dd g ∨ Dl g ∨ g = a.x) w w4):=Lib.hid ((HMID.out.x.trans HX3.out (fun g hg h1=>by
   rcases HMID.out.nl g h1 with h2 | h2
   ·exact .inr (.inl h2)
   ·omega)).trans hx4 (fun g hg h1=>by
   have hs:=HMID.out.x.size
   rcases h1 with h1 | h1 | h1
   ·rcases HMID.out.nd g h1 with h2 | h2
    ·exact .inl h2
    ·omega
   ·rcases HMID.out.nl g h1 with h2 | h2
    ·exact .inr (.inl h2)
    ·omega
   ·omega))
  have HLO:=Lib.hid (lose_any HB4.out S.1)
  rw [← HXE.out] at HLO
  clear hd4 hl4 hap4 n1 n2 hx4 c13 hxl3
  go_wp2_with fail
  refine (HLO.out).mono ?_
  rintro e5 w5 ⟨rfl,hb5,hx5⟩
  have HE5:Hid (Ext (fun g=>Dd g ∨ Dl g ∨ g = a.x) w w5):=Lib.hid (HE4.out.trans_ (hx5.mono (fun g _ hg=>.inr (.inr (by have e':g = x:=hg;rw [e',HXE.out])))))
  rw [HXE.out] at hb5 hx5
  have HX5:=Lib.hid hx5
  have HD5:=Lib.hid (HD4.out.ext hx5 (fun g hg e=>HP4.out.xd (by have e':g = a.x:=e;rw [← e'];exact hg)))
  by_cases hc:S.1 = 0
  ·have HSC:=Lib.hid hc
   have hc0:(S.1:Int) = 0:=by omega
   rw [hc] at hb5
   have HB5:Hid (Blk w5 a.x 131 (dbVals a b1.m none false)):=Lib.hid hb5
   have hnt:¬ (fun g=>Dd g ∨ Dl g ∨ g = a.x) s.t:=fun hg=>by
    rcases hg with hg | hg | hg
    ·exact H.out.tD hg
    ·exact H.out.tL hg
    ·exact H.out.ok.tx (by rw [H.out.sx];exact hg)
   have HTX5:=Lib.hid (H.out.tx.tx.ext HE5.out hnt)
   have y1:w5.cell? ⟨s.t,1,none⟩ = some (.int .i64 (v.r 0:Int)):=HTX5.out.cell 1
   have y2:w5.cell? ⟨s.t,2,none⟩ = some (.int .i64 (v.r 1:Int)):=HTX5.out.cell 2
   have y3:w5.cell? ⟨s.t,3,none⟩ = some (.int .i64 (v.r 2:Int)):=HTX5.out.cell 3
   have y4:w5.cell? ⟨s.t,4,none⟩ = some (.int .i64 (v.r 3:Int)):=HTX5.out.cell 4
   have y5:w5.cell? ⟨s.t,5,none⟩ = some (.int .i64 (v.high:Int)):=HTX5.out.cell 5
   have y6:w5.cell? ⟨s.t,6,none⟩ = some (.int .i64 (v.free:Int)):=HTX5.out.cell 6
   have y7:w5.cell? ⟨s.t,7,none⟩ = some (.int .i64 (v.cnt:Int)):=HTX5.out.cell 7
   have hb6:Blk w5 x 131 (dbVals a b1.m none false):=by rw [HXE.out];exact hb5
   have z3:=hb6.cell 3
   have z4:=hb6.cell 4
   have z5:=hb6.cell 5
   have z6:=hb6.cell 6
   have z7:=hb6.cell 7
   have z8:=hb6.cell 8
   have z9:=hb6.cell 9
   simp [dbVals] at z3 z4 z5 z6 z7 z8 z9
   have fz:=hb6.frozen
   have hxl5:=hb6.lt
   have htl5:=HTX5.out.lt
   rw [hc0]
   clear hc hc0 hnt hb5 hx5 hb6
   go_upto_region 22 with fail
   obtain ⟨W6,hW6⟩:∃ W6,W6 = (((((((w5.setCell ⟨x,3,none⟩ (.int .i64 (v.r 0:Int))).setCell ⟨x,4,none⟩ (.int .i64 (v.r 1:Int))).setCell ⟨x,5,none⟩ (.int .i64 (v.r 2:Int))).setCell ⟨x,6,none⟩ (.int .i64 (v.r 3:Int))).setCell ⟨x,7,none⟩ (.int .i64 (v.high:Int))).setCell ⟨x,8,none⟩ (.int .i64 (v.free:Int))).setCell ⟨x,9,none⟩ (.int .i64 (v.cnt:Int))):=⟨_,rfl⟩
   rw [← hW6]
   have hE6:Ext (On a.x) w5 W6:=by
    rw [hW6,HXE.out]
    exact (((((((Ext.refl _ _).setF (F:=On a.x) rfl 3 _).setF (F:=On a.x) rfl 4 _).setF (F:=On a.x) rfl 5 _).setF (F:=On a.x) rfl 6 _).setF (F:=On a.x) rfl 7 _).setF (F:=On a.x) rfl 8 _).setF (F:=On a.x) rfl 9 _
   have HB6:Hid (Blk W6 a.x 131 (dbVals a v.mt none false)):=Lib.hid (by
    rw [hW6,HXE.out]
    exact ((((((HB5.out.set_ 3 (.int .i64 (v.r 0:Int))).set_ 4 (.int .i64 (v.r 1:Int))).set_ 5 (.int .i64 (v.r 2:Int))).set_ 6 (.int .i64 (v.r 3:Int))).set_ 7 (.int .i64 (v.high:Int))).set_ 8 (.int .i64 (v.free:Int))).set_ 9 (.int .i64 (v.cnt:Int)))
   have hxd:∀ g,Dd4 g → ¬ On a.x g:=fun g hg e=>HP4.out.xd (by have e':g = a.x:=e;rw [← e'];exact hg)
   have hxl':∀ g,Dl4 g → ¬ On a.x g:=fun g hg e=>HP4.out.xl (by have e':g = a.x:=e;rw [← e'];exact hg)
   have hx0:¬ On a.x 0:=fun e=>HP4.out.zx (by have e':0 = a.x:=e;exact e'.symm)
   have HD6:=Lib.hid (HD5.out.ext hE6 hxd)
   have HL6:=Lib.hid (((HL4.out HSC.out).ext HX5.out hxl').ext hE6 hxl')
   have HT6:=Lib.hid ((HT4.out.ext HX5.out hx0).ext hE6 hx0)
   have HE6:Hid (Ext (fun g=>Dd g ∨ Dl g ∨ g = a.x) w W6):=Lib.hid (HE5.out.trans_ (hE6.mono (fun g _ hg=>.inr (.inr hg))))
   have hl6:∀ p ∈ l,a.log + p.1 * 8 + 8 ≤ S.2.n ∧ p.2.length = 512:=fun p hp=>by
    obtain ⟨h1,h2⟩:=HIM.out.mem H.out.good H.out.tx.h1 hp
    refine ⟨?_,h2⟩
    rw [HS.out,syncOf_n,HMID.out.n]
    have:=H.out.cap
    omega
   have HRE:=Lib.hid (redo_any HD6.out (by have:=HB6.out.cell 0;exact this) (by have:=HB6.out.cell 2;exact this) HP4.out.xd (N:=2^25 + a.log + 3) (by rw [HS.out];exact syncOf_near HMID.out.near (by exact HROOM.out.2)) (by have:=HMID.out.db.wal.m2;omega) l hl6 HMID.out.big)
   obtain ⟨K,hK⟩:∃ K,K = S.2.writes (layAll a.log l):=⟨_,rfl⟩
   rw [← hK,← HREC.out,← HXE.out] at HRE
   have HK:=Lib.hid hK
   have hxl6:x < W6.heap.size:=by rw [HXE.out];exact HB6.out.lt
   clear y1 y2 y3 y4 y5 y6 y7 z3 z4 z5 z6 z7 z8 z9 fz hxl5 hW6 hE6 hxd hxl' hx0 hl6 hK
   go_wp2_with fail
   refine (HRE.out).mono ?_
   rintro e7 w7 ⟨rfl,hd7,hx7⟩
   have HD7:=Lib.hid hd7;have HX7:=Lib.hid hx7
   have HB7:=Lib.hid (HB6.out.ext hx7 HP4.out.xd)
   have HL7:=Lib.hid (HL6.out.ext hx7 HAP4.out)
   have HT7:=Lib.hid (HT6.out.ext hx7 HP4.out.zd)
   have HLO7:=Lib.hid (lose_any HB7.out K.1)
   rw [← HXE.out] at HLO7
   clear hd7 hx7
   go_wp2_with fail
   refine (HLO7.out).mono ?_
   rintro e8 w8 ⟨rfl,hb8,hx8⟩
   have HD:Hid (Q (.returned (.int .i64 (K.1:Int))) w8):=Lib.hid (by
    rw [HXE.out] at hb8 hx8
    have e:R = (K.1,{ b1 with k:=K.2,bytes:=b1.bytes ++ frameOf (crc T) rec,recs:=b1.recs ++ [rec],m:=v.mt }):=by
     rw [HMID.out.r];unfold Db.keep
     have hn:¬ (S.1 ≠ 0):=fun h=>h HSC.out
     rw [Db.sync_eq,← HREC.out,← HS.out,if_neg hn]
     rw [if_neg (by simp),← HK.out]
    have hap7:∀ g,Dl4 g → ¬ Grow Dd4 W6 w7 g:=fun g hg hd=>by
     rcases hd with hd | hd
     ·exact HAP4.out g hg hd
     ·have:=HL6.out.old g hg;omega
    have hP7:Parts a (Grow Dd4 W6 w7) Dl4:=HP4.out.newer (w:=W6) (fun g hg=>by
     rcases hg with hg | hg
     ·exact .inl hg
     ·exact .inr hg.1) (fun g hg=>.inl hg) hap7 HB6.out.lt
    have hx8':∀ g,Grow Dd4 W6 w7 g → ¬ On a.x g:=fun g hg e=>hP7.xd (by have e':g = a.x:=e;rw [← e'];exact hg)
    have hd8:=HD7.out.ext hx8 hx8'
    have hE8:Ext (fun g=>Dd g ∨ Dl g ∨ g = a.x) w w8:=(HE6.out.trans HX7.out (fun g hg h1=>by
     rcases HNW4.out.1 g h1 with h2 | h2
     ·exact .inl h2
     ·omega)).trans_ (hx8.mono (fun g _ hg=>.inr (.inr hg)))
    exact HQ2.out _ _ (by
     rw [e]
     refine ⟨rfl,⟨Grow Dd4 W6 w7,Dl4,hd8,fun hne=>?_,fun g hg=>?_,HNW4.out.2⟩,hE8⟩
     ·have h0:K.1 = 0:=by
       rcases Dk.writes_code (layAll a.log l) S.2 with h1 | h1
       ·rw [HK.out];exact h1
       ·rw [← HK.out] at h1;exact absurd h1 hne
      rw [h0] at hb8
      refine ⟨hd8,HL7.out.ext hx8 (fun g hg e=>hP7.xl (by have e':g = a.x:=e;rw [← e'];exact hg)),hb8,HT7.out.ext hx8 (fun e=>hP7.zx (by have e':0 = a.x:=e;exact e'.symm)),hP7,?_⟩
      show a.log ≤ K.2.n
      rw [HK.out,Dk.writes_n,HS.out,syncOf_n]
      exact HMID.out.db.ll
     ·rcases hg with hg | hg
      ·exact HNW4.out.1 g hg
      ·exact .inr (by have:=HE6.out.size;omega)))
   clear hb8 hx8
   go_wp2_with fail
   exact HD.out
  ·have hc1:((S.1:Int) != 0) = true:=by simp;omega
   have HD:Hid (Q (.returned (.int .i64 (S.1:Int))) w5):=Lib.hid (by
    have e:R = (S.1,{ b1 with k:=S.2 }):=by
     rw [HMID.out.r];unfold Db.keep
     rw [Db.sync_eq,← HREC.out,← HS.out,if_pos hc,if_pos hc]
    have h10:S.1 = 10:=by
     rcases syncOf_code (crc T) b1.k ⟨b1.epoch,b1.bytes,b1.recs,[rec],false⟩ rec with h1 | h1
     ·rw [HS.out] at hc;exact absurd h1 hc
     ·rw [HS.out];exact h1
    exact HQ2.out _ _ (by
     rw [e]
     exact ⟨rfl,⟨Dd4,Dl4,HD5.out,fun hne=>absurd h10 hne,HNW4.out.1,HNW4.out.2⟩,HE5.out⟩))
   clear hc hb5 hx5
   go_wp2_with fail
   exact HD.out
structure NewDb (w:World) (kb d l x n log:Nat) (o:Option Addr):Prop where
 kept:Blk w kb 142 (madeCells zero64 (n * 64))
 disk:Blk w d 140 (diskCells kb n)
 wal:Blk w l 179 (logCells d log)
 db:Blk w x 131 (dbCells d l log 1 o)
theorem db_open (d kb n log:Nat) (w:World) (h:Blk w d 140 (diskCells kb n)) (hk:Blk w kb 142 (madeCells zero64 (n * 64))) (hn:n ≤ 65536) (hl:2 ≤ log) (hln:log + 32 ≤ n) :
  Calls Tryz.prog 43 #[.pointer (some ⟨d,0,none⟩),.int .i64 (log:Int)] w fun e w'=>∃ l x,e = .returned (.tuple #[.pointer (some ⟨x,0,none⟩),.int .i64 0]) ∧ NewDb w' kb d l x n log none ∧ Ext No w w' ∧ w.heap.size ≤ x ∧ w.heap.size ≤ l:=by
 have HD:=Lib.hid h;have HK:=Lib.hid hk
 have HW:=Lib.hid (wal_new d kb n log hl (by omega) hn w h hk)
 have g1:¬ ((((n - log) / 8:Nat):Int) < 4):=by omega
 generalize hcn:(n - log) / 8 = cn at g1
 have HCN:=Lib.hid hcn
 clear h hk hcn
 go_enter Tryz.func43,Tryz.ntmps43
 go_wp2_with fail
 refine (HW.out).mono ?_
 rintro e w1 ⟨rfl,hb1,hx1⟩
 have HB1:=Lib.hid hb1
 have HX1:=Lib.hid hx1
 have hx2:Ext No w1 (w1.alloc (.cells (dbCells d w.heap.size log 0 none) 131)):=(Ext.refl No w1).alloc _
 have hb2:=Blk.new w1 131 (dbCells d w.heap.size log 0 none)
 have hl2:=hb1.ext hx2 (fun h=>h)
 have hd2:=(HD.out.ext hx1 (fun h=>h)).ext hx2 (fun h=>h)
 have hk2:=(HK.out.ext hx1 (fun h=>h)).ext hx2 (fun h=>h)
 have HC:=Lib.hid (db_count w1.heap.size d kb n log _ (hb2.cell 0) (hb2.cell 2) hd2 (by omega) hn (by omega))
 rw [HCN.out] at HC
 have HB2:=Lib.hid hb2;have HL2:=Lib.hid hl2;have HD2:=Lib.hid hd2;have HK2:=Lib.hid hk2;have HX2:=Lib.hid hx2
 clear hb1 hx1 hx2 hb2 hl2 hd2 hk2
 go_wp2_with fail
 refine (HC.out).mono ?_
 rintro e w3 ⟨rfl,k,hw3⟩
 have hx3:Ext No (w1.alloc (.cells (dbCells d w.heap.size log 0 none) 131)) w3:=by rw [hw3];exact (Ext.refl No _).drewN k
 have HX3:=Lib.hid hx3
 have HR:=Lib.hid (log_records w.heap.size d log w3 (HL2.out.ext hx3 (fun h=>h)))
 clear hw3 hx3
 go_wp2_with fail
 refine (HR.out).mono ?_
 rintro e w4 ⟨rfl,hx4⟩
 have HX4:=Lib.hid ((HX2.out.trans_ HX3.out).trans_ hx4)
 have hb4:=HB2.out.ext (HX3.out.trans_ hx4) (fun h=>h)
 have HB4:=Lib.hid hb4
 have hl4:=Lib.hid (HL2.out.ext (HX3.out.trans_ hx4) (fun h=>h))
 have hd4:=Lib.hid (HD2.out.ext (HX3.out.trans_ hx4) (fun h=>h))
 have hk4:=Lib.hid (HK2.out.ext (HX3.out.trans_ hx4) (fun h=>h))
 clear hx4 hb4
 go_wp2_with fail
 go_loopg [38] 0 (fun gk k wr=>k = .int .i64 0 ∧ w4 = wr)
 case atStart=>exact ⟨rfl,rfl⟩
 case round =>
  obtain ⟨rfl,rfl⟩:=hrel
  have HS:=Lib.hid (db_settle w1.heap.size d w.heap.size log log 0 none w4 hl4.out HB4.out)
  go_wp2_with fail
  refine (HS.out).mono ?_
  rintro e w5 ⟨rfl,hx5⟩
  have HX5:=Lib.hid hx5
  have hb5:=HB4.out.ext hx5 (fun h=>h)
  have HB5:=Lib.hid hb5
  have HI:=Lib.hid (image_zero w1.heap.size d kb n log 0 w5 (hb5.cell 0) (hb5.cell 2) (hd4.out.ext hx5 (fun h=>h)) (hk4.out.ext hx5 (fun h=>h)) hn (by omega))
  clear hx5 hb5
  go_wp2_with fail
  refine (HI.out).mono ?_
  rintro e w6 ⟨rfl,hx6⟩
  have HX6:=Lib.hid hx6
  have HBL:=Lib.hid (fun w=>blank_zs w)
  clear hx6
  obtain ⟨z,hz⟩:∃ z,z = str (zs 512):=⟨_,rfl⟩
  rw [← hz] at HBL ⊢
  clear hz
  go_wp2_with fail
  refine (HBL.out _).mono ?_
  rintro e w7 ⟨rfl,hx7⟩
  have hx57:=(HX5.out.trans_ HX6.out).trans_ hx7
  have hb7:=HB4.out.ext hx57 (fun h=>h)
  have f7:=hb7.frozen 7
  have c7:=hb7.cell 7
  simp [dbCells] at c7
  have l7:=hb7.lt
  have hne1:d ≠ w1.heap.size:=by have:=HD.out.lt;have:=HX1.out.size;omega
  have hne2:kb ≠ w1.heap.size:=by have:=HK.out.lt;have:=HX1.out.size;omega
  have hne3:w.heap.size ≠ w1.heap.size:=by have:=HB1.out.lt;omega
  have HB7:=Lib.hid hb7;have HX7:=Lib.hid hx57
  clear hb7 hx57 hx7
  go_wp2_with fail
  go_ret2
  refine ⟨w.heap.size,w1.heap.size,rfl,⟨?_,?_,?_,?_⟩,?_,HX1.out.size,Nat.le_refl _⟩
  ·exact (hk4.out.ext HX7.out (fun h=>h)).far hne2 _
  ·exact (hd4.out.ext HX7.out (fun h=>h)).far hne1 _
  ·exact (hl4.out.ext HX7.out (fun h=>h)).far hne3 _
  ·exact HB7.out.set_ 7 (.int .i64 1)
  ·exact ((HX1.out.trans_ HX4.out).trans_ HX7.out).setNew HX1.out.size _ _
theorem newDb_up (w:World) (kb d l x n log:Nat) (o:Option Addr) (h:NewDb w kb d l x n log o) (hn:1 ≤ n) :
  Calls Tryz.prog 74 #[.pointer (some ⟨x,0,none⟩)] w fun e w'=>e = .returned (.int .i64 0) ∧ w = w':=by
 exact xup_any x d n ⟨kb,0,none⟩ w false false (h.disk.cell 0) hn (h.disk.cell 2) (h.db.cell 0) (h.db.cell 11)
def newSys (kb d l x n log t:Nat) (m:Nat):Sys:=⟨d,x,t,m,⟨kb,0,none⟩,n,log,fun w=>NewDb w kb d l x n log (some ⟨t,0,none⟩),1,fun _=>⟨0,[]⟩,fun _=>str []⟩
def v0:V:=⟨fun _=>0,1,0,0,fun _=>⟨0,[]⟩,false,false⟩
theorem v0_good:v0.Good:=⟨[],by simp,rfl,rfl,fun a=>by simp only [v0];constructor <;> (intro h;first | (obtain ⟨h1,h2,_⟩:=h;omega) | cases h),fun k a h=>by simp at h,by decide,by decide,fun a h1 h2=>by simp [v0]⟩
theorem NewDb.ext {F:Nat → Prop} {w w':World} {kb d l x n log:Nat} {o:Option Addr} (h:NewDb w kb d l x n log o) (he:Ext F w w') (h1:¬ F kb) (h2:¬ F d) (h3:¬ F l) (h4:¬ F x):NewDb w' kb d l x n log o :=
 ⟨h.kept.ext he h1,h.disk.ext he h2,h.wal.ext he h3,h.db.ext he h4⟩
theorem newSys_ok {kb d l x n log t m H:Nat} (h1:1 ≤ n) (h2:n ≤ 65536) (h3:log ≤ n) (ht:H ≤ t) (hm:H ≤ m) (k1:kb < H) (k2:d < H) (k3:l < H) (k4:x < H):(newSys kb d l x n log t m).Ok:=by
 have off:∀ b,b < H → ¬ (newSys kb d l x n log t m).F b:=fun b hb hf=>by
  rcases hf with hf | hf
  ·have:b = t:=hf
   omega
  ·have:b = m:=hf
   omega
 refine ⟨fun w w' he h=>NewDb.ext h he (off _ k1) (off _ k2) (off _ k3) (off _ k4),fun w h=>NewDb.db h |>.cell 0,fun w h=>NewDb.db h |>.cell 2,fun w h=>NewDb.db h |>.cell 10,fun w h=>NewDb.db h |>.cell 11,
  fun w h=>NewDb.disk h |>.cell 0,fun w h=>NewDb.disk h |>.cell 2,?_,?_,h1,h2,h3,?_,?_⟩
 ·show t ≠ x;omega
 ·show t ≠ d;omega
 ·intro w id _ a b;have:id < 1:=b;omega
 ·intro w id _ a b;have:id < 1:=b;omega
theorem db_begin (w:World) (kb d l x n log:Nat) (h:NewDb w kb d l x n log none) (hn:1 ≤ n) (hln:log + 8 ≤ n) :
  Calls Tryz.prog 33 #[.pointer (some ⟨x,0,none⟩)] w fun e w'=>e = .returned (.tuple #[.pointer (some ⟨w.heap.size + 1,0,none⟩),.int .i64 0]) ∧
   TxAt w' (newSys kb d l x n log (w.heap.size + 1) w.heap.size) v0 ∧ Ext (fun b=>b = x) w w':=by
 have HU:=Lib.hid (newDb_up w kb d l x n log none h hn)
 have hx:=h.db
 obtain ⟨y0,y1,y2,y3,y4,y5,y6,y7,y8,y9,y10,y11⟩:w.cell? ⟨x,0,none⟩ = _ ∧ w.cell? ⟨x,1,none⟩ = _ ∧ w.cell? ⟨x,2,none⟩ = _ ∧ w.cell? ⟨x,3,none⟩ = _ ∧ w.cell? ⟨x,4,none⟩ = _ ∧ w.cell? ⟨x,5,none⟩ = _ ∧ w.cell? ⟨x,6,none⟩ = _ ∧ w.cell? ⟨x,7,none⟩ = _ ∧ w.cell? ⟨x,8,none⟩ = _ ∧ w.cell? ⟨x,9,none⟩ = _ ∧ w.cell? ⟨x,10,none⟩ = _ ∧ w.cell? ⟨x,11,none⟩ = _ :=
  ⟨hx.cell 0,hx.cell 1,hx.cell 2,hx.cell 3,hx.cell 4,hx.cell 5,hx.cell 6,hx.cell 7,hx.cell 8,hx.cell 9,hx.cell 10,hx.cell 11⟩
 simp [dbCells] at y0 y1 y2 y3 y4 y5 y6 y7 y8 y9 y10 y11
 have fz:=hx.frozen
 have lx:=hx.lt
 have HX:=Lib.hid h
 have hmk:∀ w,(Instr.makeMap 109 none).run Tryz.prog w = .ok (.map (some w.heap.size)) (w.alloc (.map #[] 0)):=fun w=>rfl
 clear h hx
 go_enter Tryz.func33,Tryz.ntmps33
 go_wp2_with fail
 refine (HU.out).mono ?_
 rintro e w1 ⟨rfl,rfl⟩
 go_wp2_with fail
 go_ret2
 obtain ⟨u,hu⟩:∃ u,u = w.setCell ⟨x,10,none⟩ (.pointer (some ⟨w.heap.size + 1,0,none⟩)):=⟨_,rfl⟩
 rw [← hu]
 have hE0:Ext (fun b=>b = x) w u:=by rw [hu];exact (Ext.refl (fun b=>b = x) w).setF (b:=x) rfl _ _
 have hus:u.heap.size = w.heap.size:=by rw [hu];simp [World.setCell]
 obtain ⟨cs,hcs⟩:∃ cs,cs = v0.cells (newSys kb d l x n log (w.heap.size + 1) w.heap.size):=⟨_,rfl⟩
 have hE:Ext (fun b=>b = x) w ((u.alloc (.map #[] 0)).alloc (.cells cs 111)):=(hE0.alloc _).alloc _
 rw [hcs] at hE
 have hE1:Ext No u ((u.alloc (.map #[] 0)).alloc (.cells cs 111)):=((Ext.refl No u).alloc _).alloc _
 rw [hcs] at hE1
 have hx:=HX.out
 have hb:Blk u x 131 (dbCells d l log 1 (some ⟨w.heap.size + 1,0,none⟩)):=by rw [hu];exact hx.db.set_ 10 _
 refine ⟨rfl,⟨?_,⟨?_,?_,?_,?_⟩,by decide,?_,Nat.le_refl _,by decide,[],⟨by simp,#[],0,?_,rfl,by simp [Stamps]⟩,by simp,?_⟩,hE⟩
 ·have:=Blk.new (u.alloc (.map #[] 0)) 111 (v0.cells (newSys kb d l x n log (w.heap.size + 1) w.heap.size))
  have e:(u.alloc (.map #[] 0)).heap.size = w.heap.size + 1:=by simp [hus]
  rw [e] at this
  exact this
 ·exact (hx.kept.ext hE (hx.kept.ne_ hx.db (by decide)))
 ·exact (hx.disk.ext hE (hx.disk.ne_ hx.db (by decide)))
 ·exact (hx.wal.ext hE (hx.wal.ne_ hx.db (by decide)))
 ·exact hb.ext hE1 (fun h=>h)
 ·show 1 ≤ (n - log) / 8;omega
 ·have h1:(u.alloc (.map #[] 0)).heap[w.heap.size]? = some (.map #[] 0):=by rw [← hus];exact heap_alloc_new u _
  exact (Below.heap_alloc _ _ _ (by show w.heap.size < _;simp [hus])).trans h1
 ·intro i h1 h2
  have h2':i < 1:=h2
  omega
structure Fresh (w:World) (s:Sys) (p:Nat):Prop where
 ok:s.Ok
 tx:TxAt w s v0
 cap:s.cap = p
 sys:∃ kb d l x t m,s = newSys kb d l x (400 + 8 * p) 400 t m ∧ t < w.heap.size ∧ m < w.heap.size ∧ t ≠ kb ∧ t ≠ d ∧ t ≠ l ∧ t ≠ x ∧ m ≠ kb ∧ m ≠ d ∧ m ≠ l ∧ m ≠ x
structure NewAt (w:World) (s:Sys) (p:Nat):Prop where
 ex:∃ kb d l x t m,s = newSys kb d l x (400 + 8 * p) 400 t m ∧ w.heap.size ≤ kb ∧ w.heap.size ≤ d ∧ w.heap.size ≤ l ∧ w.heap.size ≤ x ∧ w.heap.size ≤ t ∧ w.heap.size ≤ m ∧ t ≠ kb ∧ t ≠ d ∧ t ≠ l ∧ t ≠ x ∧ m ≠ kb ∧ m ≠ d ∧ m ≠ l ∧ m ≠ x ∧ kb < m ∧ d < m ∧ l < m ∧ x < m ∧ m < t
theorem begin_any (p:Nat) (h1:4 ≤ p) (h2:p ≤ 4000) (w:World) :
  Calls Tryz.prog 12 #[.int .i64 (p:Int)] w fun e w'=>∃ s,Fresh w' s p ∧ e = .returned (.tuple #[.pointer (some ⟨s.d,0,none⟩),.pointer (some ⟨s.x,0,none⟩),.pointer (some ⟨s.t,0,none⟩)]) ∧ Ext No w w' ∧
   w.heap.size ≤ s.t ∧ w.heap.size ≤ s.m ∧ w.heap.size ≤ s.x ∧ w.heap.size ≤ s.d ∧ NewAt w s p:=by
 have HN:=Lib.hid (disk_new (400 + 8 * p) (by omega) (by omega) w)
 have e1:((400 + 8 * p:Nat):Int) = 400 + 8 * (p:Int):=by omega
 rw [e1] at HN
 have g1:(p:Int) ≤ 4000:=by omega
 have g2:(0:Int) ≤ p:=by omega
 have H1:=Lib.hid h1;have H2:=Lib.hid h2
 clear e1 h1 h2
 go_enter Tryz.func12,Tryz.ntmps12
 go_wp2_with fail
 refine (HN.out).mono ?_
 rintro e w1 ⟨rfl,hd,hk,hsz,hx1⟩
 have HO:=Lib.hid (db_open (w.heap.size + 1) w.heap.size (400 + 8 * p) 400 w1 hd hk (by have:=H2.out;omega) (by omega) (by have:=H1.out;omega))
 have HX1:=Lib.hid hx1
 have HSZ:=Lib.hid hsz
 clear hd hk hsz hx1 g1 g2
 go_wp2_with fail
 refine (HO.out).mono ?_
 rintro e w2 ⟨l,x,rfl,hnew,hx2,hxl,hll⟩
 have HLL:=Lib.hid hll
 have HNW:=Lib.hid hnew;have HX2:=Lib.hid hx2;have HXL:=Lib.hid hxl
 have HB:=Lib.hid (db_begin w2 w.heap.size (w.heap.size + 1) l x (400 + 8 * p) 400 hnew (by omega) (by have:=H1.out;omega))
 clear hnew hx2 hxl hll
 go_wp2_with fail
 refine (HB.out).mono ?_
 rintro e w3 ⟨rfl,hT,hx3⟩
 have HT:=Lib.hid hT;have HX3:=Lib.hid hx3
 clear hT hx3
 go_wp2_with fail
 go_ret3
 have a1:=HNW.out.kept.lt
 have a2:=HNW.out.disk.lt
 have a3:=HNW.out.wal.lt
 have a4:=HNW.out.db.lt
 have a5:=HT.out.tx.lt
 have a6:w2.heap.size < w3.heap.size:=HT.out.old (.inr rfl)
 have a7:=HSZ.out
 have a8:=HXL.out
 have a9:=HX2.out.size
 have b1:=H1.out
 have b2:=H2.out
 refine ⟨newSys w.heap.size (w.heap.size + 1) l x (400 + 8 * p) 400 (w2.heap.size + 1) w2.heap.size,⟨?_,HT.out,?_,?_⟩,rfl,?_,?_,?_,?_,?_,⟨w.heap.size,w.heap.size + 1,l,x,w2.heap.size + 1,w2.heap.size,rfl,by have:=HLL.out;have:=HX1.out.size;omega⟩⟩
 ·exact newSys_ok (H:=w2.heap.size) (by omega) (by omega) (by omega) (by omega) (Nat.le_refl _) a1 a2 a3 a4
 ·show (400 + 8 * p - 400) / 8 = p;omega
 ·refine ⟨w.heap.size,w.heap.size + 1,l,x,w2.heap.size + 1,w2.heap.size,rfl,a5,a6,?_⟩
  omega
 ·exact (HX1.out.trans_ HX2.out).trans HX3.out (fun b hb e=>by
   have e':b = x:=e
   omega)
 ·show w.heap.size ≤ w2.heap.size + 1;omega
 ·show w.heap.size ≤ w2.heap.size;omega
 ·show w.heap.size ≤ x;omega
 ·show w.heap.size ≤ w.heap.size + 1;omega
def freshDb (n:Nat):Db:=⟨⟨n,fun _=>zs 64,[],false,false,0,0⟩,0,[],[],⟨fun _=>0,1,0,0⟩⟩
theorem NewDb.at_ {w:World} {kb d l x n log:Nat} {o:Option Addr} {T:Nat → Nat} (h:NewDb w kb d l x n log o) (hT:Half w T) (h1:1 ≤ n) (h2:n ≤ 65536) (h3:2 ≤ log) (h4:log ≤ n):DbAt w (fun g=>g = d ∨ g = kb) (fun g=>g = l) ⟨d,kb,x,l,log⟩ o false T (freshDb n):=by
 have e1:d ≠ kb:=h.disk.ne_ h.kept (by decide)
 have e2:l ≠ d:=h.wal.ne_ h.disk (by decide)
 have e3:l ≠ kb:=h.wal.ne_ h.kept (by decide)
 have e4:x ≠ d:=h.db.ne_ h.disk (by decide)
 have e5:x ≠ kb:=h.db.ne_ h.kept (by decide)
 have e6:x ≠ l:=h.db.ne_ h.wal (by decide)
 have c0:=hT.cell 0 (by decide)
 have z1:d ≠ 0:=fun e=>by
  have:=h.disk.cell 0
  rw [e,c0] at this
  simp [diskCells] at this
 have z2:kb ≠ 0:=fun e=>by
  have:=disk_zero h.kept (j:=0) (by omega)
  rw [e,c0] at this
  simp at this
 have z3:l ≠ 0:=fun e=>by
  have:=h.wal.cell 0
  rw [e,c0] at this
  simp [logCells] at this
 have z4:x ≠ 0:=fun e=>by
  have:=h.db.cell 0
  rw [e,c0] at this
  simp [dbCells] at this
 refine ⟨⟨⟨none,0,h.disk,World.ownsRow_nil _ _ _ _,fun g hg=>by cases hg⟩,⟨_,h.kept,by simp [madeCells,freshDb],fun i hi j hj=>?_⟩,fun i _=>zs_len 64,fun p hp=>(by cases hp),.inl rfl,.inr rfl,e1,fun b hb=>?_,h1,h2⟩,
  ⟨⟨none,0,none,0,none,0,h.wal,⟨World.ownsRow_nil _ _ _ _,fun g hg=>by cases hg⟩,⟨World.ownsRow_nil _ _ _ _,fun g hg=>by cases hg⟩,⟨World.ownsRow_nil _ _ _ _,fun g hg=>by cases hg⟩,fun g hg=>by cases hg⟩,rfl,fun b hb=>?_,h3,?_⟩,h.db,hT,⟨?_,?_,?_,?_,?_,z4⟩,h4⟩
 ·have hl:i * 64 + j < n * 64:=by
   have h5:i < n:=hi
   omega
  rw [← h.kept.cell (i * 64 + j),disk_zero h.kept hl]
  show _ = some (Value.int .u8 (((zs 64).getD j 0).toNat:Int))
  have hz:(zs 64)[j]? = some 0:=by unfold zs;rw [List.getElem?_replicate,if_pos hj]
  rw [List.getD_eq_getElem?_getD,hz];rfl
 ·have hb':b = d ∨ b = kb:=hb
  rcases hb' with rfl | rfl
  ·exact h.disk.lt
  ·exact h.kept.lt
 ·have hb':b = l:=hb
  subst hb';exact h.wal.lt
 ·show log ≤ 65536;omega
 ·intro g hg hd
  have hg':g = l:=hg
  subst hg'
  rcases hd with hd | hd
  ·exact e2 hd
  ·exact e3 hd
 ·intro hd
  rcases hd with hd | hd
  ·exact e4 hd
  ·exact e5 hd
 ·exact e6
 ·intro hd
  rcases hd with hd | hd
  ·exact z1 hd.symm
  ·exact z2 hd.symm
 ·intro hd
  have hd':0 = l:=hd
  exact z3 hd'.symm
theorem V.good_bd {v:V} (h:v.Good) {id:Nat} (he:v.err id = 0):(v.pg id).body.length ≤ 500:=by
 obtain ⟨l,h⟩:=h
 obtain ⟨h1,h2,_⟩:=V.err_ok he
 exact h.bd id h1 h2
theorem ret_l3 {a b:Int} {x y:Value} (h:a = b):Ending.returned (.tuple #[.int .i64 a,x,y]) = .returned (.tuple #[.int .i64 b,x,y]):=by rw [h]
def linkOut (o:Option (Nat × List UInt8)):Value:=match o with
 | none=>.tuple #[.int .i64 0,.string (str []),.int .i64 5]
 | some (n,b)=>.tuple #[.int .i64 (n:Int),.string (str b),.int .i64 0]
theorem link_any (s:Sys) (hs:s.Ok) (w:World) (v:V) (h:TxAt w s v) (gx i:Nat) (hx:Blk w gx 70 (treeCells s i)) (id:Nat) :
  Calls Tryz.prog 50 #[.pointer (some ⟨gx,0,none⟩),.int .i64 (id:Int)] w fun e w'=>e = .returned (linkOut (v.link id)) ∧ Ext No w w':=by
 have HR:=Lib.hid (read_any s hs w v h id)
 have c0:=hx.cell 0
 simp [treeCells] at c0
 unfold V.link
 by_cases he:v.err id = 0
 ·have hr:v.read id = ((v.pg id).kind,(v.pg id).body,0):=by simp [V.read,he]
  rw [if_pos he]
  rw [hr] at HR
  clear hr he
  generalize (v.pg id).kind = k at *
  generalize (v.pg id).body = b at *
  have hb:=str_size b
  have HB:=Lib.hid hb
  by_cases hk:k = 3
  ·subst hk
   by_cases hl:4 < b.length
   ·rw [if_pos ⟨rfl,hl⟩]
    have hl':4 < (str b).size:=by omega
    have i0:∀ w,(Instr.index 9 (.string (str b)) (.int .i64 0)).run Tryz.prog w = .ok (.int .u8 (bt (str b) 0:Int)) w:=fun w=>idx9 (str b) 0 (by omega) w
    have i1:∀ w,(Instr.index 9 (.string (str b)) (.int .i64 1)).run Tryz.prog w = .ok (.int .u8 (bt (str b) 1:Int)) w:=fun w=>idx9 (str b) 1 (by omega) w
    have i2:∀ w,(Instr.index 9 (.string (str b)) (.int .i64 2)).run Tryz.prog w = .ok (.int .u8 (bt (str b) 2:Int)) w:=fun w=>idx9 (str b) 2 (by omega) w
    have i3:∀ w,(Instr.index 9 (.string (str b)) (.int .i64 3)).run Tryz.prog w = .ok (.int .u8 (bt (str b) 3:Int)) w:=fun w=>idx9 (str b) 3 (by omega) w
    have hor:=Lib.hid (or4 (bt (str b) 0) (bt (str b) 1) (bt (str b) 2) (bt (str b) 3) (bt_lt _ 0) (bt_lt _ 1) (bt_lt _ 2) (bt_lt _ 3))
    have hg:¬ ((b.length:Int) ≤ 4):=by omega
    go_enter Tryz.func50,Tryz.ntmps50
    go_wp2_with fail
    refine (HR.out).mono ?_
    rintro e w1 ⟨rfl,hx1⟩
    go_wp2_with fail
    go_quiet (fail)
    go_wp2_with fail
    have hsl:(str b).extract 4 b.length = str (b.drop 4):=by
     apply ByteArray.ext
     simp [str,ByteArray.data_extract,← List.toArray_drop,List.extract_toArray]
     exact List.take_of_length_le (by simp)
    rw [hsl]
    go_ret3
    exact ⟨ret_l3 (by simp only [← wrapEq];exact hor.out),by (repeat' (first | exact Ext.refl _ _ | assumption | apply Ext.alloc | apply Ext.drewN | apply Ext.drew | refine Ext.setNew ?_ (by first | omega | (simp;omega) | simp) _ _ | refine Ext.setF ?_ (by first | exact Or.inl rfl | exact Or.inr rfl | rfl) _ _ | refine Ext.trans_ ?_ (by assumption) | refine Ext.trans_ ?_ (Ext.of_no (by assumption))))⟩
   ·rw [if_neg (by omega)]
    have hg:(b.length:Int) ≤ 4:=by omega
    go_enter Tryz.func50,Tryz.ntmps50
    go_wp2_with fail
    refine (HR.out).mono ?_
    rintro e w1 ⟨rfl,hx1⟩
    go_wp2_with fail
    go_ret3
    exact ⟨rfl,hx1⟩
  ·rw [if_neg (by omega)]
   have hk':((k:Int) != 3) = true:=by simpa using (by omega:¬ (k:Int) = 3)
   clear hk
   go_enter Tryz.func50,Tryz.ntmps50
   go_wp2_with fail
   refine (HR.out).mono ?_
   rintro e w1 ⟨rfl,hx1⟩
   go_wp2_with fail
   go_ret3
   exact ⟨rfl,hx1⟩
 ·have hr:v.read id = (0,[],v.err id):=by simp [V.read,he]
  rw [if_neg he]
  rw [hr] at HR
  have he':v.err id = 2 ∨ v.err id = 8:=by
   rcases V.err_cases he with ⟨h,_⟩ | ⟨h,_⟩
   ·exact .inl h
   ·exact .inr h
  clear hr he
  generalize v.err id = k at *
  rcases he' with rfl | rfl
  all_goals
   go_enter Tryz.func50,Tryz.ntmps50
   go_wp2_with fail
   refine (HR.out).mono ?_
   rintro e w1 ⟨rfl,hx1⟩
   go_wp2_with fail
   go_ret3
   exact ⟨rfl,hx1⟩
theorem drop_stop (k:Nat) (v:V):V.dropLoop k 0 v = (0,v):=by cases k <;> simp [V.dropLoop]
theorem letgo_any (s:Sys) (hs:s.Ok) (w:World) (v:V) (h:TxAt w s v) (hg:v.Good) (gx i:Nat) (hx:Blk w gx 70 (treeCells s i)) (c:Cell) :
  Calls Tryz.prog 99 #[.pointer (some ⟨gx,0,none⟩),c.agg] w fun e w'=>e = .returned (.int .i64 ((v.letGo c).1:Int)) ∧ TxAt w' s (v.letGo c).2 ∧ (v.letGo c).2.Good ∧ Ext s.F w w':=by
 have HL:=Lib.hid (fun w v (h:TxAt w s v) (hx:Blk w gx 70 (treeCells s i)) id=>link_any s hs w v h gx i hx id)
 have HF:=Lib.hid (fun w v (h:TxAt w s v) hg id=>free_any s hs w v h hg id)
 have hE0:Ext s.F w (w.alloc (.cells #[.string (str c.key),.string (str c.val),.int .i64 (c.over:Int),.int .i64 (c.len:Int)] 45)):=(Ext.refl _ w).alloc _
 have hT0:TxAt (w.alloc (.cells #[.string (str c.key),.string (str c.val),.int .i64 (c.over:Int),.int .i64 (c.len:Int)] 45)) s v:=h.no hs ((Ext.refl _ w).alloc _)
 have hX0:=hx.alloc (.cells #[.string (str c.key),.string (str c.val),.int .i64 (c.over:Int),.int .i64 (c.len:Int)] 45)
 obtain ⟨D,hD⟩:∃ D,D = v.letGo c:=⟨_,rfl⟩
 rw [← hD]
 unfold V.letGo at hD
 have HD:=Lib.hid hD
 have HG:=Lib.hid hg
 clear hD hg h hx
 simp only [Cell.agg]
 go_enter Tryz.func99,Tryz.ntmps99
 go_wp2_with fail
 go_loopg [5] (v.high + 1) (fun gk id wr=>∃ (ID:Nat) (v':V),id = .int .i64 (ID:Int) ∧ TxAt wr s v' ∧ v'.Good ∧ Blk wr gx 70 (treeCells s i) ∧ Hid (v'.high + 1 ≤ gk + v'.cnt) ∧ Hid (V.dropLoop gk ID v' = D) ∧ Ext s.F w wr)
 case atStart=>exact ⟨c.over,v,rfl,hT0,HG.out,hX0,Lib.hid (by omega),Lib.hid HD.out.symm,hE0⟩
 case round =>
  clear hT0 hX0 hE0 HG HD
  obtain ⟨ID,v',rfl,hT,hG,hX,hm,hd,hE⟩:=hrel
  have HT:=Lib.hid hT;have HG:=Lib.hid hG;have HX:=Lib.hid hX;have HE:=Lib.hid hE
  have c0:=hX.cell 0
  simp [treeCells] at c0
  obtain ⟨j,hj⟩:∃ j,gk = j + 1:=⟨gk - 1,by
   obtain ⟨l,hl⟩:=hG
   have:=hl.lt;have:=hl.cnt;have:=hm.out
   omega⟩
  clear hT hG hX hE
  have HJ:=Lib.hid hj
  by_cases h0:ID = 0
  ·subst h0
   have hdd:=hd.out
   rw [drop_stop] at hdd
   have HDD:=Lib.hid hdd
   clear hj hdd
   go_wp2_with fail
   go_ret
   exact ⟨by rw [← HDD.out];rfl,by rw [← HDD.out];exact HT.out,by rw [← HDD.out];exact HG.out,HE.out⟩
  ·have h0':((ID:Int) != 0) = true:=by simpa using (by omega:¬ (ID:Int) = 0)
   have hdd:=hd.out
   rw [hj] at hdd
   simp only [V.dropLoop,if_neg h0] at hdd
   have HLK:=Lib.hid (HL.out _ v' HT.out HX.out ID)
   have HFK:=Lib.hid (fun w h=>HF.out w v' h HG.out ID)
   have HGD:=Lib.hid (HG.out.drop ID)
   have HTR:=Lib.hid (fun (w':World) (h:Ext No wr w')=>HT.out.no hs h)
   cases hl:v'.link ID with
   | none =>
    rw [hl] at hdd HLK
    simp only [linkOut] at HLK
    have HDD:=Lib.hid hdd
    clear h0 hj hl hdd
    go_wp2_with fail
    refine HLK.out.mono ?_
    rintro e w1 ⟨rfl,hx1⟩
    go_wp2_with fail
    go_ret
    exact ⟨by rw [← HDD.out];rfl,by rw [← HDD.out];exact HT.out.no hs hx1,by rw [← HDD.out];exact HG.out,HE.out.trans_ hx1.of_no⟩
   | some r =>
    obtain ⟨n,b⟩:=r
    rw [hl] at hdd HLK
    simp only [linkOut] at HLK
    simp only at hdd
    by_cases hde:(v'.drop ID).1 = 0
    ·rw [if_pos hde] at hdd
     have HDD:=Lib.hid hdd
     have hcn:(v'.drop ID).2.high = v'.high ∧ (v'.drop ID).2.cnt = v'.cnt + 1:=by
      unfold V.drop at hde ⊢
      split
      ·exact ⟨rfl,rfl⟩
      ·rename_i hz;rw [if_neg hz] at hde;exact absurd hde hz
     rw [hde] at HFK
     have HCN:=Lib.hid hcn
     clear h0 hj hl hdd hde hcn
     go_wp2_with fail
     refine HLK.out.mono ?_
     rintro e w1 ⟨rfl,hx1⟩
     have c1:=cell_ext hx1 c0 (fun h=>h)
     have hX1:=HX.out.ext hx1 (fun h=>h)
     have HX1:=Lib.hid hX1
     have HE1:=Lib.hid hx1
     clear hX1
     go_wp2_with fail
     refine (HFK.out _ (HTR.out _ hx1)).mono ?_
     rintro e w2 ⟨rfl,hT2,hx2⟩
     have HT2:=Lib.hid hT2;have HX2:=Lib.hid hx2
     clear hT2 hx2
     go_wp2_with fail
     go_roundg j
     case rel =>
      have h1:=HTR.out _ HE1.out
      exact ⟨n,(v'.drop ID).2,rfl,HT2.out,HGD.out,tree_ext h1 HX1.out HX2.out,Lib.hid (by have:=hm.out;have:=HJ.out;have:=HCN.out;omega),Lib.hid HDD.out,(HE.out.trans_ HE1.out.of_no).trans_ HX2.out⟩
     case measure=>have:=HJ.out;omega
    ·rw [if_neg hde] at hdd
     have hde':(((v'.drop ID).1:Int) != 0) = true:=by simpa using (by omega:¬ ((v'.drop ID).1:Int) = 0)
     rw [hdd] at HFK HGD hde'
     generalize hdv:D.1 = d at HFK hde'
     have HDV:=Lib.hid hdv
     clear h0 hj hl hde hdd hdv
     go_wp2_with fail
     refine HLK.out.mono ?_
     rintro e w1 ⟨rfl,hx1⟩
     have c1:=cell_ext hx1 c0 (fun h=>h)
     go_wp2_with fail
     refine (HFK.out _ (HTR.out _ hx1)).mono ?_
     rintro e w2 ⟨rfl,hT2,hx2⟩
     go_wp2_with fail
     go_ret
     exact ⟨by rw [HDV.out];rfl,hT2,HGD.out,(HE.out.trans_ hx1.of_no).trans_ hx2⟩
theorem cell_back {Q:Ending → World → Prop} {a:Act} {w:World} (b:Nat) (cs:Array Value) (hb:Blk w b 45 cs) {v:Value} (hs:some 4 = some cs.size) (hp:a.tmps.getD 6 undef = .pointer (some ⟨b,0,none⟩)) (h3:a.tmps.getD 7 undef = v) (hd:a.defers = [])
  (h:Q (.returned (.tuple #[.agg cs,v])) w):bodyPost Tryz.prog Tryz.f97 Q Exit.ret a w:=by
 refine bodyPost_ret (v:=.tuple #[.agg cs,v]) (w:=w) ?_ hd h
 have hl:=run_loadVar_row w b 45 45 cs (0,0) _ hb Tryz.underlying45 rfl (by rw [← hs];kernel_rfl)
 rw [results_cell_tmp rfl,hp,h3]
 simp [asAddr,Result.andThen,hl]
theorem cell_small (key val:List UInt8) (gx:Value) (w:World) (hl:3 + key.length + val.length ≤ 160) :
  Calls Tryz.prog 97 #[gx,.string (str key),.string (str val)] w fun e w'=>e = .returned (.tuple #[(⟨key,val,0,0⟩:Cell).agg,.int .i64 0]) ∧ Ext No w w':=by
 have hk:=str_size key
 have hv:=str_size val
 have hi:((3:Int) + key.length + val.length ≤ 160):=by omega
 have hi1:IntKind.i64.wrap ((3:Int) + key.length) = (3:Int) + key.length:=IntWalk.i64_in _ (by omega)
 have hi2:IntKind.i64.wrap ((3:Int) + key.length + val.length) = (3:Int) + key.length + val.length:=IntWalk.i64_in _ (by omega)
 go_enter Tryz.func97,Tryz.ntmps97
 go_wp2_with fail
 exact cell_back w.heap.size _ (Blk.new w 45 _) rfl rfl rfl rfl ⟨rfl,(Ext.refl No w).alloc _⟩
theorem Cell.enc_len' (c:Cell):c.enc.length = c.size:=by
 unfold Cell.enc Cell.size txt
 split
 ·simp [n4];omega
 ·simp;omega
theorem encCells_len' (cs:List Cell):(encCells cs).length = sumC cs:=by
 induction cs with
 | nil=>rfl
 | cons c cs ih=>simp only [encCells,List.flatMap_cons,List.length_append,sumC,List.map_cons,List.sum_cons] at *;rw [ih,c.enc_len']
theorem encKeys_len' (ks:List Bs):∀ is:List Nat,is.length = ks.length → (encKeys ks is).length = sumK ks:=by
 induction ks with
 | nil=>intro is _;cases is <;> rfl
 | cons k ks ih =>
  intro is h
  match is,h with
  | i :: is,h =>
   have:=ih is (by simpa using h)
   simp only [encKeys,List.length_append,sumK,List.map_cons,List.sum_cons,txt,List.length_cons,n4] at *
   rw [this];simp;omega
theorem Nd.enc_len {n:Nd} (h:n.ok = true):n.enc.length = n.size:=by
 have hO:=Nd.Ok.of h
 unfold Nd.enc Nd.size
 cases hl:n.leaf
 ·obtain ⟨h1,h2⟩:=hO.br hl
  have h3:n.kids.tail.length = n.keys.length:=by simp;omega
  simp only [Bool.false_eq_true,if_false,List.length_cons,List.length_append,encKeys_len' _ _ h3,h1]
  simp [n4,sumC];omega
 ·obtain ⟨h1,h2⟩:=hO.lf hl
  simp [encCells_len',h1,sumK];omega
theorem Nd.out_len (n:Nd):n.out.1.length ≤ 500:=by
 unfold Nd.out
 split
 ·simp
 ·split
  ·simp
  ·rename_i h1 h2
   rw [Nd.enc_len (by simpa using h1)]
   omega
theorem V.Good.wr {v:V} (h:v.Good) (id:Nat) (n:Nd):(v.wr id n).2.Good:=by
 unfold V.wr
 split
 ·exact h.set _ _ _ (by decide) n.out_len
 ·exact h
theorem V.set_high (v:V) (id k:Nat) (b:List UInt8):(v.set id k b).2.high = v.high:=by unfold V.set;split <;> rfl
theorem V.wr_high (v:V) (id:Nat) (n:Nd):(v.wr id n).2.high = v.high:=by
 unfold V.wr;split
 ·exact v.set_high _ _ _
 ·rfl
theorem NodeAt.box {w:World} {F:Nat → Prop} {A1:Option Addr} {c1:Nat} {A2:Option Addr} {c2:Nat} {A3:Option Addr} {c3:Nat} {n:Nd} (h:NodeAt w F A1 c1 A2 c2 A3 c3 n) (o:Obj):NodeAt (w.alloc o) F A1 c1 A2 c2 A3 c3 n:=h.ext ((Ext.refl _ w).alloc o)
theorem wr_any (s:Sys) (hs:s.Ok) (w:World) (v:V) (h:TxAt w s v) (hg:v.Good) (gx i:Nat) (hx:Blk w gx 70 (treeCells s i)) (id:Nat)
  (n:Nd) (F:Nat → Prop) (A1:Option Addr) (c1:Nat) (A2:Option Addr) (c2:Nat) (A3:Option Addr) (c3:Nat) (hn:NodeAt w F A1 c1 A2 c2 A3 c3 n) (hf:n.fits) :
  Calls Tryz.prog 141 #[.pointer (some ⟨gx,0,none⟩),.int .i64 (id:Int),n.value A1 c1 A2 c2 A3 c3] w fun e w'=>e = .returned (.int .i64 ((v.wr id n).1:Int)) ∧ TxAt w' s (v.wr id n).2 ∧ (v.wr id n).2.Good ∧ Ext s.F w w':=by
 have HG:=Lib.hid (hg.wr id n)
 have HT:=Lib.hid (fun (w':World) (e:Ext No w w')=>h.no hs e)
 have HN:=Lib.hid (fun o=>encode_any n (w.alloc o) F A1 c1 A2 c2 A3 c3 (hn.box o) hf)
 have HW:=Lib.hid (fun w h=>write_any s hs w v h id 2 n.out.1 (by decide) (by decide) n.out_len)
 have c0:=hx.cell 0
 simp [treeCells] at c0
 have hgl:=hx.lt
 unfold V.wr at HG ⊢
 generalize hn1:n.out.1 = b at *
 generalize hn2:n.out.2 = k at *
 simp only [Nd.value] at HN ⊢
 generalize n.cells.length = nl at *
 generalize n.keys.length = kl at *
 generalize n.kids.length = il at *
 by_cases hk:k = 0
 ·subst hk
  rw [if_pos rfl] at HG ⊢
  clear hn1 hn2 hn hf hx hg h
  go_enter Tryz.func141,Tryz.ntmps141
  go_wp2_with fail
  refine (HN.out _).mono ?_
  rintro e w1 ⟨rfl,hx1⟩
  have hE:Ext No w w1:=((Ext.refl No w).alloc _).trans_ hx1
  have c1:=cell_ext hE c0 (fun h=>h)
  go_wp2_with fail
  refine (HW.out _ (HT.out _ hE)).mono ?_
  rintro e w2 ⟨rfl,hT,hx2⟩
  go_wp2_with fail
  go_ret
  exact ⟨rfl,hT,HG.out,hE.of_no.trans_ hx2⟩
 ·rw [if_neg hk] at HG ⊢
  have hk':((k:Int) != 0) = true:=by simpa using (by omega:¬ (k:Int) = 0)
  clear hn1 hn2 hn hf hx hg h hk
  go_enter Tryz.func141,Tryz.ntmps141
  go_wp2_with fail
  refine (HN.out _).mono ?_
  rintro e w1 ⟨rfl,hx1⟩
  have hE:Ext No w w1:=((Ext.refl No w).alloc _).trans_ hx1
  go_wp2_with fail
  go_ret
  exact ⟨rfl,HT.out _ hE,HG.out,hE.of_no⟩
theorem V.Good.fresh {v:V} (h:v.Good) {cap:Nat} (h1:v.high ≤ cap) (h2:cap ≤ 65536) (n:Nd):(v.fresh cap n).2.2.Good ∧ (v.fresh cap n).2.2.high ≤ cap:=by
 obtain ⟨g1,g2⟩:=h.alloc h1 h2
 unfold V.fresh
 split
 ·exact ⟨g1.wr _ _,by rw [V.wr_high];exact g2⟩
 ·exact ⟨g1,g2⟩
theorem Sys.cap_le {s:Sys} (hs:s.Ok):s.cap ≤ 65536:=by unfold Sys.cap;have:=hs.n2;omega
theorem fresh_any (s:Sys) (hs:s.Ok) (w:World) (v:V) (h:TxAt w s v) (hg:v.Good) (gx i:Nat) (hx:Blk w gx 70 (treeCells s i))
  (n:Nd) (F:Nat → Prop) (A1:Option Addr) (c1:Nat) (A2:Option Addr) (c2:Nat) (A3:Option Addr) (c3:Nat) (hn:NodeAt w F A1 c1 A2 c2 A3 c3 n) (hf:n.fits) (hF:∀ b,s.F b → F b) :
  Calls Tryz.prog 98 #[.pointer (some ⟨gx,0,none⟩),n.value A1 c1 A2 c2 A3 c3] w fun e w'=>e = .returned (.tuple #[.int .i64 ((v.fresh s.cap n).1:Int),.int .i64 ((v.fresh s.cap n).2.1:Int)]) ∧ TxAt w' s (v.fresh s.cap n).2.2 ∧ (v.fresh s.cap n).2.2.Good ∧ Ext s.F w w':=by
 have HG:=Lib.hid (hg.fresh h.h2 (Sys.cap_le hs) n).1
 have HA:=Lib.hid (fun o=>alloc_any s hs (w.alloc o) v (h.no hs ((Ext.refl No w).alloc o)) hg)
 have HW:=Lib.hid (fun w' h' hx hn=>wr_any s hs w' (v.alloc s.cap).2.2 h' (hg.alloc h.h2 (Sys.cap_le hs)).1 gx i hx (v.alloc s.cap).1 n F A1 c1 A2 c2 A3 c3 hn hf)
 have c0:=hx.cell 0
 simp [treeCells] at c0
 have hgl:=hx.lt
 have HN:=Lib.hid hn
 have HX:=Lib.hid (fun (w':World) (e:Ext s.F w w')=>tree_ext h hx e)
 have HO:=Lib.hid (fun b (hb:s.F b)=>h.old hb)
 unfold V.fresh at HG ⊢
 simp only [Nd.value] at HW ⊢
 generalize hnl:n.cells.length = nl at HW ⊢
 generalize hkl:n.keys.length = kl at HW ⊢
 generalize hil:n.kids.length = il at HW ⊢
 generalize hn1:(v.alloc s.cap).1 = id at *
 generalize hn2:(v.alloc s.cap).2.1 = k at *
 generalize hn3:(v.alloc s.cap).2.2 = v' at *
 generalize hwr:v'.wr id n = r at *
 by_cases hk:k = 0
 ·subst hk
  rw [if_pos rfl] at HG ⊢
  clear hn1 hn2 hn3 hwr hn hf hx hg h hnl hkl hil
  go_enter Tryz.func98,Tryz.ntmps98
  go_wp2_with fail
  refine (HA.out _).mono ?_
  rintro e w1 ⟨rfl,hT1,hx1⟩
  have hE:Ext s.F w w1:=((Ext.refl s.F w).alloc _).trans_ hx1
  have hb:=(Blk.new w 40 #[.bool n.leaf,.slice A1 nl c1,.slice A2 kl c2,.slice A3 il c3]).ext hx1 (fun h=>absurd (HO.out _ h) (by omega))
  obtain ⟨p0,p1,p2,p3,g0,g1,g2,g3,ln⟩:=hb.p4
  go_wp2_with fail
  refine (HW.out _ hT1 (HX.out _ hE) (HN.out.ext (hE.mono (fun b _=>hF b)))).mono ?_
  rintro e w2 ⟨rfl,hT2,hG2,hx2⟩
  go_wp2_with fail
  go_ret2
  exact ⟨rfl,hT2,hG2,hE.trans_ hx2⟩
 ·rw [if_neg hk] at HG ⊢
  have hk':((k:Int) != 0) = true:=by simpa using (by omega:¬ (k:Int) = 0)
  clear hn1 hn2 hn3 hwr hn hf hx hg h hnl hkl hil hk
  go_enter Tryz.func98,Tryz.ntmps98
  go_wp2_with fail
  refine (HA.out _).mono ?_
  rintro e w1 ⟨rfl,hT1,hx1⟩
  have hE:Ext s.F w w1:=((Ext.refl s.F w).alloc _).trans_ hx1
  go_wp2_with fail
  go_ret2
  exact ⟨rfl,hT1,HG.out,hE⟩
end Go.Proofs.YtccnemmlkcmceaaGreatDoor
