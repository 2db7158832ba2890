/- Proofs about the given program, joined out of the texts CM2, CM3, BG1, E0, V1. -/
import Derived.Test.YtccnemmlkcmceaaGreatDoorHE21
import Derived.Test.YtccnemmlkcmceaaGreatDoorHE22
set_option linter.unusedVariables false
set_option linter.unusedSimpArgs false
set_option maxRecDepth 100000
set_option maxHeartbeats 6400000
namespace Go.Proofs.YtccnemmlkcmceaaGreatDoor
open Go.RowKit
theorem Dk.write_code (k:Dk) (i:Nat) (s:Bs):(k.write i s).1 = 0 ∨ (k.write i s).1 = 10:=by
 unfold Dk.write
 split
 ·exact .inr rfl
 ·split
  ·exact k.does_code
  ·exact .inl rfl
theorem Dk.flush_code (k:Dk):k.flush.1 = 0 ∨ k.flush.1 = 10:=by
 unfold Dk.flush
 split
 ·exact .inr rfl
 ·split
  ·exact k.does_code
  ·exact .inl rfl
theorem Dk.writes_code:∀ (l:List (Nat × Bs)) (k:Dk),(k.writes l).1 = 0 ∨ (k.writes l).1 = 10
 | [],k=>.inl rfl
 | p :: l,k=>by
  rw [Dk.writes]
  split
  ·exact k.write_code p.1 p.2
  ·exact Dk.writes_code l _
theorem Dk.logHead_code (cr:Bs → Nat) (k:Dk) (e len:Nat):(k.logHead cr e len).1 = 0 ∨ (k.logHead cr e len).1 = 10:=by
 unfold Dk.logHead
 split
 ·exact k.write_code _ _
 ·exact Dk.flush_code _
theorem syncOf_code (cr:Bs → Nat) (k:Dk) (l:Lg) (rec:Bs):(syncOf cr k l rec).1 = 0 ∨ (syncOf cr k l rec).1 = 10:=by
 have hlay:∀ (k:Dk) (a b:Bs),(k.logLay a b).1 = 0 ∨ (k.logLay a b).1 = 10:=fun k a b=>by
  unfold Dk.logLay
  split
  ·exact Dk.writes_code _ _
  ·exact Dk.flush_code _
 unfold syncOf
 split
 ·exact hlay _ _ _
 ·exact Dk.logHead_code _ _ _ _
theorem Db.settle_code (cr:Bs → Nat) (s:Db):(s.settle cr).1 = 0 ∨ (s.settle cr).1 = 10:=by
 unfold Db.settle
 split
 ·exact .inl rfl
 ·split
  ·exact Dk.flush_code _
  ·split
   ·exact Dk.logHead_code _ _ _ _
   ·exact .inl rfl
structure Committed (w:World) (Dd Dl:Nat → Prop) (a:Dbp) (T:Nat → Nat) (R:Nat × Db) (e:Ending) (w':World):Prop where
 e:e = .returned (.int .i64 (R.1:Int))
 at_:∃ Dd' Dl',DiskAt w' Dd' a.d a.kb R.2.k ∧ (R.1 ≠ 10 → DbAt w' Dd' Dl' a none false T R.2) ∧ Newer w Dd Dd' ∧ Newer w Dl Dl'
 x:Ext (fun g=>Dd g ∨ Dl g ∨ g = a.x) w w'
structure Over (s:Sys) (v:V) (ov:List (Nat × Leaf)):Prop where
 nodup:(ov.map (·.1)).Nodup
 inn:∀ i p,(i,p) ∈ ov → 1 ≤ i ∧ i < v.high
 pg:∀ i,1 ≤ i → i < v.high → (i ∈ ov.map (·.1) ∨ i < s.bh) ∧ v.pg i = (ov.lookup i).getD (s.base i)
theorem over_look {ov:List (Nat × Leaf)} (hn:(ov.map (·.1)).Nodup) {p:Nat × Leaf} (h:p ∈ ov):ov.lookup p.1 = some p.2:=by
 induction ov with
 | nil=>cases h
 | cons q l ih =>
  obtain ⟨a,b⟩:=q
  have h1:=List.nodup_cons.1 hn
  rw [List.lookup_cons]
  rcases List.mem_cons.1 h with rfl | h
  ·simp
  ·have hne:(p.1 == a) = false:=by
    simp only [beq_eq_false_iff_ne]
    intro e
    exact h1.1 (by rw [← e];exact List.mem_map.2 ⟨p,h,rfl⟩)
   rw [hne]
   exact ih h1.2 h
theorem Over.leaf {s:Sys} {v:V} {ov:List (Nat × Leaf)} (h:Over s v ov) {p:Nat × Leaf} (hp:p ∈ ov):v.pg p.1 = p.2:=by
 obtain ⟨h1,h2⟩:=h.inn p.1 p.2 hp
 rw [(h.pg p.1 h1 h2).2,over_look h.nodup hp];rfl
theorem Over.len {s:Sys} {v:V} {ov:List (Nat × Leaf)} (h:Over s v ov) (hv:v.high ≤ 9000):ov.length ≤ 9000:=by
 have h1:=sub_len h.nodup (m:=List.range 9000) (fun a ha=>by
  obtain ⟨p,hp,rfl⟩:=List.mem_map.1 ha
  have:=h.inn p.1 p.2 hp
  exact List.mem_range.2 (by omega))
 rw [List.length_map,List.length_range] at h1
 exact h1
structure Ready (w:World) (s:Sys) (v:V) (Dd Dl:Nat → Prop) (a:Dbp) (T:Nat → Nat) (b:Db):Prop where
 ok:s.Ok
 tx:TxAt w s v
 sx:s.x = a.x
 db:DbAt w Dd Dl a (some ⟨s.t,0,none⟩) false T b
 tD:¬ Dd s.t
 tL:¬ Dl s.t
 mD:¬ Dd s.m
 mL:¬ Dl s.m
 mx:s.m ≠ a.x
 good:v.Good
 kd:v.Kd
 mt:v.mt.Ok
 near:b.k.Near (2^24)
 ep:b.epoch < 2^58
 rl:b.recs.length < 2^15
 bf:b.bytes.length ≤ 64 * (a.log - 1)
 rb:b.recs = [] → b.bytes = []
 cap:a.log + v.high * 8 ≤ b.k.n
structure Images (s:Sys) (v:V) (T:Nat → Nat) (ov:List (Nat × Leaf)) (l:List (Nat × Bs)):Prop where
 over:Over s v ov
 perm:l.Perm (imgList (crc T) v ov)
theorem Images.mem {s:Sys} {v:V} {T:Nat → Nat} {ov:List (Nat × Leaf)} {l:List (Nat × Bs)} (h:Images s v T ov l) (hg:v.Good) (hh:1 ≤ v.high) {p:Nat × Bs} (hp:p ∈ l):p.1 < v.high ∧ p.2.length = 512:=by
 have h1:=h.perm.mem_iff.1 hp
 unfold imgList at h1
 rcases List.mem_append.1 h1 with h1 | h1
 ·obtain ⟨q,hq,rfl⟩:=List.mem_map.1 h1
  obtain ⟨h2,h3⟩:=h.over.inn q.1 q.2 hq
  obtain ⟨fr,hfr⟩:=hg
  have h4:=hfr.bd q.1 h2 h3
  rw [h.over.leaf hq] at h4
  exact ⟨h3,sealed_len h4⟩
 ·split at h1
  ·rw [List.mem_singleton.1 h1]
   exact ⟨hh,sealed_len (by rw [v.mt.body_len];decide)⟩
  ·cases h1
theorem Images.len {s:Sys} {v:V} {T:Nat → Nat} {ov:List (Nat × Leaf)} {l:List (Nat × Bs)} (h:Images s v T ov l) (hv:v.high ≤ 9000):l.length ≤ 9001:=by
 rw [h.perm.length_eq]
 unfold imgList
 rw [List.length_append,List.length_map]
 have:=h.over.len hv
 split <;> simp <;> omega
structure Mid (w wx:World) (Dd Dl Dd1 Dl1:Nat → Prop) (a:Dbp) (T:Nat → Nat) (b b1:Db) (R:Nat × Db) (l:List (Nat × Bs)) (m:Mt):Prop where
 db:DbAt wx Dd1 Dl1 a none false T b1
 nd:Newer w Dd Dd1
 nl:Newer w Dl Dl1
 x:Ext (fun g=>Dd g ∨ Dl g ∨ g = a.x) w wx
 r:R = b1.keep (crc T) a.log l m
 room:(encRec l).length + 8 ≤ b1.room a.log
 near:b1.k.Near (2^25)
 ep:b1.epoch < 2^59
 rl:b1.recs.length < 2^16
 bf:b1.bytes.length ≤ 64 * (a.log - 1)
 n:b1.k.n = b.k.n
 big:(encRec l).length ≤ 65536
theorem commit_any {w:World} {s:Sys} {v:V} {Dd Dl:Nat → Prop} {a:Dbp} {T:Nat → Nat} {b:Db} (h:Ready w s v Dd Dl a T b) :
  Calls Tryz.prog 32 #[.pointer (some ⟨s.t,0,none⟩)] w fun e w'=>∃ ov l,Images s v T ov l ∧ Committed w Dd Dl a T (b.commit (crc T) a.log v.spoilt l v.mt) e w':=by
 obtain ⟨Q,hQ⟩:∃ Q,Q = fun (e:Ending) (w':World)=>∃ ov l,Images s v T ov l ∧ Committed w Dd Dl a T (b.commit (crc T) a.log v.spoilt l v.mt) e w':=⟨_,rfl⟩
 rw [← hQ]
 have HQ:=Lib.hid hQ
 have H:=Lib.hid h
 obtain ⟨ov,hm,hov1,hov2⟩:=h.tx.mp
 have HOV:Hid (Over s v ov):=Lib.hid ⟨hm.nodup,hov1,hov2⟩
 have t0:w.cell? ⟨s.t,0,none⟩ = some (.pointer (some ⟨s.x,0,none⟩)):=h.tx.c0
 have HUP:=Lib.hid (txup s h.ok w h.tx.db t0)
 have x10f:w.frozen? ⟨s.x,10,none⟩ = false:=by rw [h.sx];exact h.db.db.frozen 10
 have HEND:=Lib.hid (end_any s h.ok w v h.tx x10f)
 obtain ⟨W1,hW1⟩:∃ W1,W1 = w.setCell ⟨s.x,10,none⟩ (.pointer none):=⟨_,rfl⟩
 rw [← hW1] at HEND
 have hE1:Ext (On a.x) w W1:=by rw [hW1,h.sx];exact (Ext.refl _ _).setF (F:=On a.x) rfl 10 _
 have htx:s.t ≠ a.x:=by rw [← h.sx];exact h.ok.tx
 have HDB1:Hid (DbAt W1 Dd Dl a none false T b):=Lib.hid (by
  have hb:Blk W1 a.x 131 (dbVals a b.m none false):=by rw [hW1,h.sx];exact h.db.db.set_ 10 (.pointer none)
  have hP:=h.db.parts
  exact ⟨h.db.disk.ext hE1 (fun g hg e=>hP.xd (by have e':g = a.x:=e;rw [← e'];exact hg)),h.db.wal.ext hE1 (fun g hg e=>hP.xl (by have e':g = a.x:=e;rw [← e'];exact hg)),hb,h.db.half.ext hE1 (fun e=>hP.zx (by have e':0 = a.x:=e;exact e'.symm)),hP,h.db.ll⟩)
 have htx1:Blk W1 s.t 111 (v.cells s):=h.tx.tx.ext hE1 htx
 have hm1:MapAt W1 s.m ov:=hm.ext hE1 h.mx
 have hcap:v.high ≤ 8192:=by have h1:=h.tx.h2;have h2:=h.ok.n2;unfold Sys.cap at h1;omega
 have hovl:∀ p ∈ ov,1 ≤ p.1 ∧ p.1 < 10000 ∧ 1 ≤ p.2.kind ∧ p.2.kind ≤ 255 ∧ p.2.body.length ≤ 500:=fun p hp=>by
  obtain ⟨h1,h2⟩:=hov1 p.1 p.2 hp
  have h3:=HOV.out.leaf hp
  obtain ⟨fr,hfr⟩:=h.good
  have h4:=hfr.bd p.1 h1 h2
  have h5:=h.kd p.1 h1 h2
  rw [h3] at h4 h5
  exact ⟨h1,by omega,h5.1,h5.2,h4⟩
 have HRC:=Lib.hid (record_any s W1 v T ov htx1 hm1 HDB1.out.half hovl h.mt)
 have HTX1:=Lib.hid htx1
 have HE1:=Lib.hid hE1
 have HCAP:=Lib.hid hcap
 have htl1:=htx1.lt
 have tx0:w.cell? ⟨s.t,0,none⟩ = some (.pointer (some ⟨a.x,0,none⟩)):=by rw [t0,h.sx]
 have htl:=h.tx.tx.lt
 clear h hm hov1 hov2 t0 x10f hW1 hE1 htx htx1 hm1 hcap hovl hQ
 obtain ⟨x,hx⟩:∃ x,x = a.x:=⟨_,rfl⟩
 rw [← hx] at tx0
 have HXE:=Lib.hid hx
 clear hx
 go_enter Tryz.func32,Tryz.ntmps32
 go_wp2_with fail
 refine (HUP.out).mono ?_
 rintro e w1 ⟨rfl,rfl⟩
 go_wp2_with fail
 refine (HEND.out).mono ?_
 rintro e w1 ⟨rfl,rfl⟩
 clear HUP HEND tx0
 go_wp2_with fail
 refine (HRC.out).mono ?_
 rintro e w2 ⟨⟨l,g,rfl,hlp,l',hg',hl'⟩,hx2⟩
 have HIM:Hid (Images s v T ov l):=Lib.hid ⟨HOV.out,hlp⟩
 have HX2:=Lib.hid hx2
 have HDB2:=Lib.hid (HDB1.out.no hx2)
 have HTX2:=Lib.hid (HTX1.out.ext hx2 (fun h=>h))
 have HG2:=Lib.hid hg'
 have HL2:=Lib.hid hl'
 obtain ⟨R,hR⟩:∃ R,R = b.commit (crc T) a.log v.spoilt l v.mt:=⟨_,rfl⟩
 have HR:=Lib.hid hR
 have HQ2:Hid (∀ e w',Committed w Dd Dl a T R e w' → Q e w'):=Lib.hid (fun e w' hc=>by rw [HQ.out];exact ⟨ov,l,HIM.out,by rw [← HR.out];exact hc⟩)
 have HE2:Hid (Ext (fun g=>Dd g ∨ Dl g ∨ g = a.x) w w2):=Lib.hid ((HE1.out.mono (fun g _ hg=>.inr (.inr hg))).trans_ hx2.of_no)
 obtain ⟨rec,hrec⟩:∃ rec,rec = encRec l:=⟨_,rfl⟩
 rw [← hrec]
 have HREC:=Lib.hid hrec
 obtain ⟨N,hN⟩:∃ N,N = rec.length:=⟨_,rfl⟩
 have HN:=Lib.hid hN
 have t10:w2.cell? ⟨s.t,10,none⟩ = some (.bool v.spoilt):=HTX2.out.cell 10
 have htl2:=HTX2.out.lt
 clear hx2 hlp hg' hl' hR hrec hN
 go_upto_block 0 with fail
 have HSP:Hid (R = b.commit (crc T) a.log v.spoilt l v.mt):=HR
 go_cut [] (fun wx=>∃ (Dd1 Dl1:Nat → Prop) (b1:Db),Hid (Mid w wx Dd Dl Dd1 Dl1 a T b b1 R l v.mt))
 case first =>
  cases hsp:v.spoilt
  ·rw [hsp] at t10 HSP
   have hlen:=fun ty=>run_imglen HG2.out ty
   rw [HL2.out] at hlen
   obtain ⟨n1,hn1⟩:∃ n1,n1 = l.length:=⟨_,rfl⟩
   rw [← hn1] at hlen
   have HN1:=Lib.hid hn1
   clear hsp hn1
   by_cases hn0:n1 = 0
   ·subst hn0
    have HD:Hid (Q (.returned (.int .i64 0)) w2):=Lib.hid (by
     have e:R = (0,b):=by
      have hl0:l = []:=List.eq_nil_of_length_eq_zero HN1.out.symm
      rw [HSP.out];unfold Db.commit
      rw [if_neg (by simp),if_pos hl0]
     exact HQ2.out _ _ (by rw [e];exact ⟨rfl,⟨Dd,Dl,HDB2.out.disk,fun _=>HDB2.out,fun g hg=>.inl hg,fun g hg=>.inl hg⟩,HE2.out⟩))
    go_wp2_with fail
    exact HD.out
   ·have hne:((n1:Int) == 0) = false:=by simpa using hn0
    have HLN:Hid (l ≠ []):=Lib.hid (fun e=>hn0 (by rw [HN1.out,e];rfl))
    have hm1:=HDB2.out.wal.m1
    have hm2:=HDB2.out.wal.m2
    have c2:w2.cell? ⟨x,2,none⟩ = some (.int .i64 (a.log:Int)):=by rw [HXE.out];exact HDB2.out.db.cell 2
    have c1:w2.cell? ⟨x,1,none⟩ = some (.pointer (some ⟨a.l,0,none⟩)):=by rw [HXE.out];exact HDB2.out.db.cell 1
    have hxl:x < w2.heap.size:=by rw [HXE.out];exact HDB2.out.db.lt
    have HRM:=Lib.hid (lg_room HDB2.out.wal rfl H.out.bf)
    obtain ⟨B,hB⟩:∃ B,B = 64 * (a.log - 1):=⟨_,rfl⟩
    obtain ⟨rm,hrm⟩:∃ rm,rm = B - b.bytes.length:=⟨_,rfl⟩
    simp only [← hB,← hrm] at HRM
    have HB:=Lib.hid hB;have HRMV:=Lib.hid hrm
    obtain ⟨lg,hlg⟩:∃ lg,lg = a.log:=⟨_,rfl⟩
    rw [← hlg] at c2 hm1 hm2
    have hrl:rec.length < 9000000:=by
     rw [HREC.out,encRec_len (fun p hp=>(HIM.out.mem H.out.good H.out.tx.h1 hp).2)]
     have:=HIM.out.len (by have:=HCAP.out;omega)
     omega
    have hsz:(str rec).size = N:=by rw [str_size,HN.out]
    obtain ⟨E8,hE8⟩:∃ E8,E8 = N + 8:=⟨_,rfl⟩
    have hN9:N < 9000000:=by rw [HN.out];exact hrl
    have hw1:IntKind.i64.wrap ((N:Int) + 8) = (E8:Int):=by rw [show (N:Int) + 8 = (E8:Int) by omega];exact wrap_tiny _ (by omega) (by omega)
    have hw2:IntKind.i64.wrap ((lg:Int) - 1) = (lg:Int) - 1:=wrap_tiny _ (by omega) (by omega)
    have hw3:IntKind.i64.wrap (64 * ((lg:Int) - 1)) = (B:Int):=by rw [show 64 * ((lg:Int) - 1) = (B:Int) by omega];exact wrap_tiny _ (by omega) (by omega)
    have HE8:=Lib.hid hE8
    rw [str_size] at hsz
    clear hn0 hm1 hm2 hB hrm hlg hrl hE8 hN9
    by_cases hbig:N > 65536 ∨ E8 > B
    ·have HD:Hid (Q (.returned (.int .i64 7)) w2):=Lib.hid (by
      have e:R = (7,b):=by
       rw [HSP.out];unfold Db.commit
       rw [if_neg (by simp),if_neg HLN.out,← HREC.out,← HB.out,← HN.out,if_pos (by rw [HE8.out] at hbig;exact hbig)]
      exact HQ2.out _ _ (by rw [e];exact ⟨rfl,⟨Dd,Dl,HDB2.out.disk,fun _=>HDB2.out,fun g hg=>.inl hg,fun g hg=>.inl hg⟩,HE2.out⟩))
     by_cases hb1:N > 65536
     ·have q1:(65536:Int) < (N:Int):=by omega
      clear hbig hb1
      go_wp2_with fail
      exact HD.out
     ·have q1:¬ ((65536:Int) < (N:Int)):=by omega
      have q2:(B:Int) < (E8:Int):=by omega
      clear hbig hb1
      go_wp2_with fail
      exact HD.out
    ·have q1:¬ ((65536:Int) < (N:Int)):=by omega
     have q2:¬ ((B:Int) < (E8:Int)):=by omega
     have HBIG:=Lib.hid hbig
     clear hbig
     go_wp2_with fail
     refine (HRM.out).mono ?_
     rintro e3 w3 ⟨rfl,hx3⟩
     have HDB3:=Lib.hid (HDB2.out.no hx3)
     have HE3:=Lib.hid (HE2.out.trans_ hx3.of_no)
     clear hx3 c1 c2 q1 q2 hlen hw2 hw3
     by_cases hset:E8 > rm
     ·have q3:(rm:Int) < (E8:Int):=by omega
      have HST:=Lib.hid (dbsettle_any HDB3.out (H.out.near.mono (by decide)) (by have:=H.out.ep;omega) (by have:=H.out.rl;omega))
      obtain ⟨S,hS⟩:∃ S,S = b.settle (crc T):=⟨_,rfl⟩
      rw [← hS,← HXE.out] at HST
      have HS:=Lib.hid hS
      have HRS:Hid (R = if S.1 ≠ 0 then S else S.2.keep (crc T) a.log l v.mt):=Lib.hid (by
       rw [HSP.out];unfold Db.commit
       rw [if_neg (by simp),if_neg HLN.out,← HREC.out,← HB.out,← HN.out,if_neg (by have:=HBIG.out;rw [HE8.out] at this;exact this),if_pos (by unfold Db.room;rw [← HB.out,← HRMV.out];have:=HE8.out;omega),← HS.out])
      clear hset hS
      go_wp2_with fail
      refine (HST.out).mono ?_
      rintro e4 w4 ⟨rfl,⟨Dd4,hd4,hdb4,hp4,hn4⟩,hbx4,hx4⟩
      have HD4:=Lib.hid hd4;have HDB4:=Lib.hid hdb4;have HP4:=Lib.hid hp4;have HN4:=Lib.hid hn4
      have HNW4:Hid (Newer w Dd Dd4):=Lib.hid (fun g hg=>by
       rcases hn4 g hg with h1 | h1
       ·exact .inl h1
       ·exact .inr (by have:=HE3.out.size;omega))
      have HE4:Hid (Ext (fun g=>Dd g ∨ Dl g ∨ g = a.x) w w4):=Lib.hid (HE3.out.trans_ (hx4.mono (fun g _ hg=>by
       rcases hg with hg | hg
       ·exact .inl hg
       ·exact .inr (.inl hg))))
      have HLO:=Lib.hid (lose_any hbx4 S.1)
      rw [← HXE.out] at HLO
      clear hd4 hdb4 hp4 hn4 hbx4 hx4
      go_wp2_with fail
      refine (HLO.out).mono ?_
      rintro e5 w5 ⟨rfl,hb5,hx5⟩
      have HE5:Hid (Ext (fun g=>Dd g ∨ Dl g ∨ g = a.x) w w5):=Lib.hid (HE4.out.trans_ (hx5.mono (fun g _ hg=>.inr (.inr (by have e':g = x:=hg;rw [e',HXE.out])))))
      rw [HXE.out] at hb5 hx5
      have HB5:=Lib.hid hb5;have HX5:=Lib.hid hx5
      clear hb5 hx5
      by_cases hc:S.1 = 0
      ·have hc0:(S.1:Int) = 0:=by omega
       have HMID:Hid (Mid w w5 Dd Dl Dd4 Dl a T b S.2 R l v.mt):=Lib.hid (by
        have h1:=HDB4.out hc
        have hb5:=HB5.out
        rw [hc] at hb5
        obtain ⟨g1,g2,g3⟩:=Db.settle_log (crc T) b
        rw [← HS.out] at g1 g2 g3
        have hbb:S.2.bytes = []:=by
         rcases g1 with ⟨a1,a2,_⟩ | ⟨a1,_,_⟩
         ·rw [a1];exact H.out.rb (by rw [← a2];exact g3 hc)
         ·exact a1
        refine ⟨h1.lose hb5 HX5.out,HNW4.out,fun g hg=>.inl hg,HE5.out,by rw [HRS.out,if_neg (by omega)],?_,?_,?_,?_,?_,?_,?_⟩
        ·unfold Db.room
         rw [hbb,List.length_nil,← HREC.out,← HN.out,← HB.out]
         have:=HBIG.out;have:=HE8.out;omega
        ·rw [HS.out];exact (Db.settle_near H.out.near).mono (by decide)
        ·have:=H.out.ep
         rcases g1 with ⟨_,_,a3⟩ | ⟨_,_,a3⟩ <;> rw [a3] <;> omega
        ·rw [g3 hc];decide
        ·rw [hbb,List.length_nil];omega
        ·rw [HS.out];exact Db.settle_n _ _
        ·rw [← HREC.out,← HN.out];have:=HBIG.out;omega)
       rw [hc0]
       clear hc hc0
       go_wp2_with fail
       go_meet
       exact ⟨Dd4,Dl,S.2,HMID⟩
      ·have hc1:((S.1:Int) != 0) = true:=by simp;omega
       have HD:Hid (Q (.returned (.int .i64 (S.1:Int))) w5):=Lib.hid (by
        have e:R = S:=by rw [HRS.out,if_pos hc]
        have h10:S.1 = 10:=by
         rcases Db.settle_code (crc T) b with h1 | h1
         ·rw [HS.out] at hc;exact absurd h1 hc
         ·rw [HS.out];exact h1
        exact HQ2.out _ _ (by
         rw [e]
         exact ⟨rfl,⟨Dd4,Dl,HD4.out.ext HX5.out (fun g hg e=>HP4.out.xd (by have e':g = a.x:=e;rw [← e'];exact hg)),fun hne=>absurd h10 hne,HNW4.out,fun g hg=>.inl hg⟩,HE5.out⟩))
       clear hc
       go_wp2_with fail
       exact HD.out
     ·have q3:¬ ((rm:Int) < (E8:Int)):=by omega
      have HMID:Hid (Mid w w3 Dd Dl Dd Dl a T b b R l v.mt):=Lib.hid (by
       refine ⟨HDB3.out,fun g hg=>.inl hg,fun g hg=>.inl hg,HE3.out,?_,?_,H.out.near.mono (by decide),by have:=H.out.ep;omega,by have:=H.out.rl;omega,H.out.bf,rfl,by rw [← HREC.out,← HN.out];have:=HBIG.out;omega⟩
       ·rw [HSP.out];unfold Db.commit
        rw [if_neg (by simp),if_neg HLN.out,← HREC.out,← HB.out,← HN.out,if_neg (by have:=HBIG.out;rw [HE8.out] at this;exact this),if_neg (by unfold Db.room;rw [← HB.out,← HRMV.out];have:=HE8.out;omega)]
       ·unfold Db.room
        rw [← HREC.out,← HN.out,← HB.out,← HRMV.out]
        have:=HE8.out;omega)
      clear hset
      go_wp2_with fail
      go_meet
      exact ⟨Dd,Dl,b,HMID⟩
  ·rw [hsp] at t10 HSP
   have HD:Hid (Q (.returned (.int .i64 9)) w2):=Lib.hid (by
    have e:R = (9,b):=by rw [HSP.out];unfold Db.commit;rw [if_pos rfl]
    exact HQ2.out _ _ (by rw [e];exact ⟨rfl,⟨Dd,Dl,HDB2.out.disk,fun _=>HDB2.out,fun g hg=>.inl hg,fun g hg=>.inl hg⟩,HE2.out⟩))
   clear hsp
   go_wp2_with fail
   exact HD.out
 case rest =>
  obtain ⟨Dd1,Dl1,b1,HMID⟩:=hcut
  have M:=HMID.out
  have hzz:rec.length ≤ 65536:=by rw [HREC.out];exact M.big
  have hroom:b1.bytes.length + (rec.length + 8) ≤ 64 * (a.log - 1):=by have h1:=M.room;have h2:=M.bf;unfold Db.room at h1;rw [HREC.out];omega
  have HADD:=Lib.hid (lg_add M.db.wal rfl rfl M.bf rec hzz (by show rec.length + 8 ≤ 64 * (a.log - 1) - b1.bytes.length;omega))
  simp only at HADD
  have c1:wc.cell? ⟨x,1,none⟩ = some (.pointer (some ⟨a.l,0,none⟩)):=by rw [HXE.out];exact M.db.db.cell 1
  have hxl:x < wc.heap.size:=by rw [HXE.out];exact M.db.db.lt
  have HROOM:=Lib.hid (And.intro hzz hroom)
  clear M hzz hroom t10 HSP
  go_wp2_with fail
  refine (HADD.out).mono ?_
  rintro e3 w3 ⟨rfl,hl3,hx3⟩
  have HL3:=Lib.hid hl3;have HX3:=Lib.hid hx3
  have hP:=HMID.out.db.parts
  have HB3:=Lib.hid (HMID.out.db.db.ext hx3 hP.xl)
  have HD3:=Lib.hid (HMID.out.db.disk.ext hx3 (fun g h1 h2=>hP.ap g h2 h1))
  have HT3:=Lib.hid (HMID.out.db.half.ext hx3 hP.zl)
  have HZ3:Hid (¬ Grow Dl1 wc w3 0 ∧ ¬ Grow Dl1 wc w3 a.x):=Lib.hid ⟨fun hg=>by
   rcases hg with hg | hg
   ·exact hP.zl hg
   ·have:=HXE.out;omega,fun hg=>by
   rcases hg with hg | hg
   ·exact hP.xl hg
   ·have:=HXE.out;omega⟩
  have HAP3:Hid (∀ g,Grow Dl1 wc w3 g → ¬ Dd1 g):=Lib.hid (fun g hg hd=>by
   rcases hg with hg | hg
   ·exact hP.ap g hg hd
   ·have:=HMID.out.db.disk.old g hd;omega)
  have c13:w3.cell? ⟨x,1,none⟩ = some (.pointer (some ⟨a.l,0,none⟩)):=by rw [HXE.out];exact HB3.out.cell 1
  have hxl3:x < w3.heap.size:=by rw [HXE.out];exact HB3.out.lt
  have HSY:=Lib.hid (lg_sync HL3.out HD3.out HT3.out hP.zd HZ3.out.1 HAP3.out (HMID.out.near.mono (by decide)) (by exact HMID.out.ep) rfl rec rfl HROOM.out.1 HROOM.out.2 HMID.out.db.ll (by show b1.recs.length < 2^20;have:=HMID.out.rl;omega) ((Dk.logLay_near (m:=a.log) HMID.out.near (by rw [List.length_append,frame_len];exact HROOM.out.2)).mono (by have:=HMID.out.db.wal.m2;omega)))
  simp only at HSY
  obtain ⟨S,hS⟩:∃ S,S = syncOf (crc T) b1.k ⟨b1.epoch,b1.bytes,b1.recs,[rec],false⟩ rec:=⟨_,rfl⟩
  have hSY2:Calls Tryz.prog 72 #[.pointer (some ⟨a.l,0,none⟩)] w3 (Synced w3 (Grow Dl1 wc w3) Dd1 a.l a.d a.log a.kb ⟨b1.epoch,b1.bytes,b1.recs,[rec],false⟩ S ⟨b1.epoch,b1.bytes ++ frameOf (crc T) rec,b1.recs ++ [rec],[],false⟩):=by rw [hS];exact HSY.out
  have HSY2:=Lib.hid hSY2
  have HS:=Lib.hid hS
  have HPP:=Lib.hid hP
  clear hl3 hx3 hP c1 hxl hSY2 hS HSY
  go_wp2_with fail
  refine (HSY2.out).mono ?_
  rintro e4 w4 ⟨rfl,⟨Dd4,Dl4,hd4,hl4,hap4,n1,n2⟩,hx4⟩
  have HD4:=Lib.hid hd4;have HL4:=Lib.hid hl4;have HAP4:=Lib.hid hap4;have HN1:=Lib.hid n1;have HN2:=Lib.hid n2
  have HX4:=Lib.hid hx4
  have HB4:=Lib.hid (HB3.out.ext hx4 (fun hg=>by
   rcases hg with hg | hg
   ·exact HPP.out.xd hg
   ·exact HZ3.out.2 hg))
  have HT4:=Lib.hid (HT3.out.ext hx4 (fun hg=>by
   rcases hg with hg | hg
   ·exact HPP.out.zd hg
   ·exact HZ3.out.1 hg))
  have HP4:Hid (Parts a Dd4 Dl4):=Lib.hid (HPP.out.newer (w:=wc) (fun g hg=>by
   rcases n1 g hg with h1 | h1
   ·exact .inl h1
   ·exact .inr (by have:=HX3.out.size;omega)) (fun g hg=>by
   rcases n2 g hg with (h1 | h1) | h1
   ·exact .inl h1
   ·exact .inr h1.1
   ·exact .inr (by have:=HX3.out.size;omega)) hap4 (by rw [← HXE.out];have:=HMID.out.db.db.lt;rw [← HXE.out] at this;exact this))
  have HNW4:Hid (Newer w Dd Dd4 ∧ Newer w Dl Dl4):=Lib.hid ⟨fun g hg=>by
   have hs:=HMID.out.x.size;have hs3:=HX3.out.size
   rcases n1 g hg with h1 | h1
   ·exact HMID.out.nd g h1
   ·exact .inr (by omega),fun g hg=>by
   have hs:=HMID.out.x.size;have hs3:=HX3.out.size
   rcases n2 g hg with (h1 | h1) | h1
   ·exact HMID.out.nl g h1
   ·exact .inr (by omega)
   ·exact .inr (by omega)⟩
  have HE4:Hid (Ext (fun g=>Dd g ∨ Dl g ∨ g = a.x) w w4):=Lib.hid ((HMID.out.x.trans HX3.out (fun g hg h1=>by
   rcases HMID.out.nl g h1 with h2 | h2
   ·exact .inr (.inl h2)
   ·omega)).trans hx4 (fun g hg h1=>by
   have hs:=HMID.out.x.size
   rcases h1 with h1 | h1 | h1
   ·rcases HMID.out.nd g h1 with h2 | h2
    ·exact .inl h2
    ·omega
   ·rcases HMID.out.nl g h1 with h2 | h2
    ·exact .inr (.inl h2)
    ·omega
   ·omega))
  have HLO:=Lib.hid (lose_any HB4.out S.1)
  rw [← HXE.out] at HLO
  clear hd4 hl4 hap4 n1 n2 hx4 c13 hxl3
  go_wp2_with fail
  refine (HLO.out).mono ?_
  rintro e5 w5 ⟨rfl,hb5,hx5⟩
  have HE5:Hid (Ext (fun g=>Dd g ∨ Dl g ∨ g = a.x) w w5):=Lib.hid (HE4.out.trans_ (hx5.mono (fun g _ hg=>.inr (.inr (by have e':g = x:=hg;rw [e',HXE.out])))))
  rw [HXE.out] at hb5 hx5
  have HX5:=Lib.hid hx5
  have HD5:=Lib.hid (HD4.out.ext hx5 (fun g hg e=>HP4.out.xd (by have e':g = a.x:=e;rw [← e'];exact hg)))
  by_cases hc:S.1 = 0
  ·have HSC:=Lib.hid hc
   have hc0:(S.1:Int) = 0:=by omega
   rw [hc] at hb5
   have HB5:Hid (Blk w5 a.x 131 (dbVals a b1.m none false)):=Lib.hid hb5
   have hnt:¬ (fun g=>Dd g ∨ Dl g ∨ g = a.x) s.t:=fun hg=>by
    rcases hg with hg | hg | hg
    ·exact H.out.tD hg
    ·exact H.out.tL hg
    ·exact H.out.ok.tx (by rw [H.out.sx];exact hg)
   have HTX5:=Lib.hid (H.out.tx.tx.ext HE5.out hnt)
   have y1:w5.cell? ⟨s.t,1,none⟩ = some (.int .i64 (v.r 0:Int)):=HTX5.out.cell 1
   have y2:w5.cell? ⟨s.t,2,none⟩ = some (.int .i64 (v.r 1:Int)):=HTX5.out.cell 2
   have y3:w5.cell? ⟨s.t,3,none⟩ = some (.int .i64 (v.r 2:Int)):=HTX5.out.cell 3
   have y4:w5.cell? ⟨s.t,4,none⟩ = some (.int .i64 (v.r 3:Int)):=HTX5.out.cell 4
   have y5:w5.cell? ⟨s.t,5,none⟩ = some (.int .i64 (v.high:Int)):=HTX5.out.cell 5
   have y6:w5.cell? ⟨s.t,6,none⟩ = some (.int .i64 (v.free:Int)):=HTX5.out.cell 6
   have y7:w5.cell? ⟨s.t,7,none⟩ = some (.int .i64 (v.cnt:Int)):=HTX5.out.cell 7
   have hb6:Blk w5 x 131 (dbVals a b1.m none false):=by rw [HXE.out];exact hb5
   have z3:=hb6.cell 3
   have z4:=hb6.cell 4
   have z5:=hb6.cell 5
   have z6:=hb6.cell 6
   have z7:=hb6.cell 7
   have z8:=hb6.cell 8
   have z9:=hb6.cell 9
   simp [dbVals] at z3 z4 z5 z6 z7 z8 z9
   have fz:=hb6.frozen
   have hxl5:=hb6.lt
   have htl5:=HTX5.out.lt
   rw [hc0]
   clear hc hc0 hnt hb5 hx5 hb6
   go_upto_region 22 with fail
   obtain ⟨W6,hW6⟩:∃ W6,W6 = (((((((w5.setCell ⟨x,3,none⟩ (.int .i64 (v.r 0:Int))).setCell ⟨x,4,none⟩ (.int .i64 (v.r 1:Int))).setCell ⟨x,5,none⟩ (.int .i64 (v.r 2:Int))).setCell ⟨x,6,none⟩ (.int .i64 (v.r 3:Int))).setCell ⟨x,7,none⟩ (.int .i64 (v.high:Int))).setCell ⟨x,8,none⟩ (.int .i64 (v.free:Int))).setCell ⟨x,9,none⟩ (.int .i64 (v.cnt:Int))):=⟨_,rfl⟩
   rw [← hW6]
   have hE6:Ext (On a.x) w5 W6:=by
    rw [hW6,HXE.out]
    exact (((((((Ext.refl _ _).setF (F:=On a.x) rfl 3 _).setF (F:=On a.x) rfl 4 _).setF (F:=On a.x) rfl 5 _).setF (F:=On a.x) rfl 6 _).setF (F:=On a.x) rfl 7 _).setF (F:=On a.x) rfl 8 _).setF (F:=On a.x) rfl 9 _
   have HB6:Hid (Blk W6 a.x 131 (dbVals a v.mt none false)):=Lib.hid (by
    rw [hW6,HXE.out]
    exact ((((((HB5.out.set_ 3 (.int .i64 (v.r 0:Int))).set_ 4 (.int .i64 (v.r 1:Int))).set_ 5 (.int .i64 (v.r 2:Int))).set_ 6 (.int .i64 (v.r 3:Int))).set_ 7 (.int .i64 (v.high:Int))).set_ 8 (.int .i64 (v.free:Int))).set_ 9 (.int .i64 (v.cnt:Int)))
   have hxd:∀ g,Dd4 g → ¬ On a.x g:=fun g hg e=>HP4.out.xd (by have e':g = a.x:=e;rw [← e'];exact hg)
   have hxl':∀ g,Dl4 g → ¬ On a.x g:=fun g hg e=>HP4.out.xl (by have e':g = a.x:=e;rw [← e'];exact hg)
   have hx0:¬ On a.x 0:=fun e=>HP4.out.zx (by have e':0 = a.x:=e;exact e'.symm)
   have HD6:=Lib.hid (HD5.out.ext hE6 hxd)
   have HL6:=Lib.hid (((HL4.out HSC.out).ext HX5.out hxl').ext hE6 hxl')
   have HT6:=Lib.hid ((HT4.out.ext HX5.out hx0).ext hE6 hx0)
   have HE6:Hid (Ext (fun g=>Dd g ∨ Dl g ∨ g = a.x) w W6):=Lib.hid (HE5.out.trans_ (hE6.mono (fun g _ hg=>.inr (.inr hg))))
   have hl6:∀ p ∈ l,a.log + p.1 * 8 + 8 ≤ S.2.n ∧ p.2.length = 512:=fun p hp=>by
    obtain ⟨h1,h2⟩:=HIM.out.mem H.out.good H.out.tx.h1 hp
    refine ⟨?_,h2⟩
    rw [HS.out,syncOf_n,HMID.out.n]
    have:=H.out.cap
    omega
   have HRE:=Lib.hid (redo_any HD6.out (by have:=HB6.out.cell 0;exact this) (by have:=HB6.out.cell 2;exact this) HP4.out.xd (N:=2^25 + a.log + 3) (by rw [HS.out];exact syncOf_near HMID.out.near (by exact HROOM.out.2)) (by have:=HMID.out.db.wal.m2;omega) l hl6 HMID.out.big)
   obtain ⟨K,hK⟩:∃ K,K = S.2.writes (layAll a.log l):=⟨_,rfl⟩
   rw [← hK,← HREC.out,← HXE.out] at HRE
   have HK:=Lib.hid hK
   have hxl6:x < W6.heap.size:=by rw [HXE.out];exact HB6.out.lt
   clear y1 y2 y3 y4 y5 y6 y7 z3 z4 z5 z6 z7 z8 z9 fz hxl5 hW6 hE6 hxd hxl' hx0 hl6 hK
   go_wp2_with fail
   refine (HRE.out).mono ?_
   rintro e7 w7 ⟨rfl,hd7,hx7⟩
   have HD7:=Lib.hid hd7;have HX7:=Lib.hid hx7
   have HB7:=Lib.hid (HB6.out.ext hx7 HP4.out.xd)
   have HL7:=Lib.hid (HL6.out.ext hx7 HAP4.out)
   have HT7:=Lib.hid (HT6.out.ext hx7 HP4.out.zd)
   have HLO7:=Lib.hid (lose_any HB7.out K.1)
   rw [← HXE.out] at HLO7
   clear hd7 hx7
   go_wp2_with fail
   refine (HLO7.out).mono ?_
   rintro e8 w8 ⟨rfl,hb8,hx8⟩
   have HD:Hid (Q (.returned (.int .i64 (K.1:Int))) w8):=Lib.hid (by
    rw [HXE.out] at hb8 hx8
    have e:R = (K.1,{ b1 with k:=K.2,bytes:=b1.bytes ++ frameOf (crc T) rec,recs:=b1.recs ++ [rec],m:=v.mt }):=by
     rw [HMID.out.r];unfold Db.keep
     have hn:¬ (S.1 ≠ 0):=fun h=>h HSC.out
     rw [Db.sync_eq,← HREC.out,← HS.out,if_neg hn]
     rw [if_neg (by simp),← HK.out]
    have hap7:∀ g,Dl4 g → ¬ Grow Dd4 W6 w7 g:=fun g hg hd=>by
     rcases hd with hd | hd
     ·exact HAP4.out g hg hd
     ·have:=HL6.out.old g hg;omega
    have hP7:Parts a (Grow Dd4 W6 w7) Dl4:=HP4.out.newer (w:=W6) (fun g hg=>by
     rcases hg with hg | hg
     ·exact .inl hg
     ·exact .inr hg.1) (fun g hg=>.inl hg) hap7 HB6.out.lt
    have hx8':∀ g,Grow Dd4 W6 w7 g → ¬ On a.x g:=fun g hg e=>hP7.xd (by have e':g = a.x:=e;rw [← e'];exact hg)
    have hd8:=HD7.out.ext hx8 hx8'
    have hE8:Ext (fun g=>Dd g ∨ Dl g ∨ g = a.x) w w8:=(HE6.out.trans HX7.out (fun g hg h1=>by
     rcases HNW4.out.1 g h1 with h2 | h2
     ·exact .inl h2
     ·omega)).trans_ (hx8.mono (fun g _ hg=>.inr (.inr hg)))
    exact HQ2.out _ _ (by
     rw [e]
     refine ⟨rfl,⟨Grow Dd4 W6 w7,Dl4,hd8,fun hne=>?_,fun g hg=>?_,HNW4.out.2⟩,hE8⟩
     ·have h0:K.1 = 0:=by
       rcases Dk.writes_code (layAll a.log l) S.2 with h1 | h1
       ·rw [HK.out];exact h1
       ·rw [← HK.out] at h1;exact absurd h1 hne
      rw [h0] at hb8
      refine ⟨hd8,HL7.out.ext hx8 (fun g hg e=>hP7.xl (by have e':g = a.x:=e;rw [← e'];exact hg)),hb8,HT7.out.ext hx8 (fun e=>hP7.zx (by have e':0 = a.x:=e;exact e'.symm)),hP7,?_⟩
      show a.log ≤ K.2.n
      rw [HK.out,Dk.writes_n,HS.out,syncOf_n]
      exact HMID.out.db.ll
     ·rcases hg with hg | hg
      ·exact HNW4.out.1 g hg
      ·exact .inr (by have:=HE6.out.size;omega)))
   clear hb8 hx8
   go_wp2_with fail
   exact HD.out
  ·have hc1:((S.1:Int) != 0) = true:=by simp;omega
   have HD:Hid (Q (.returned (.int .i64 (S.1:Int))) w5):=Lib.hid (by
    have e:R = (S.1,{ b1 with k:=S.2 }):=by
     rw [HMID.out.r];unfold Db.keep
     rw [Db.sync_eq,← HREC.out,← HS.out,if_pos hc,if_pos hc]
    have h10:S.1 = 10:=by
     rcases syncOf_code (crc T) b1.k ⟨b1.epoch,b1.bytes,b1.recs,[rec],false⟩ rec with h1 | h1
     ·rw [HS.out] at hc;exact absurd h1 hc
     ·rw [HS.out];exact h1
    exact HQ2.out _ _ (by
     rw [e]
     exact ⟨rfl,⟨Dd4,Dl4,HD5.out,fun hne=>absurd h10 hne,HNW4.out.1,HNW4.out.2⟩,HE5.out⟩))
   clear hc hb5 hx5
   go_wp2_with fail
   exact HD.out
def freshDb (n:Nat):Db:=⟨⟨n,fun _=>zs 64,[],false,false,0,0⟩,0,[],[],⟨fun _=>0,1,0,0⟩⟩
theorem NewDb.at_ {w:World} {kb d l x n log:Nat} {o:Option Addr} {T:Nat → Nat} (h:NewDb w kb d l x n log o) (hT:Half w T) (h1:1 ≤ n) (h2:n ≤ 65536) (h3:2 ≤ log) (h4:log ≤ n):DbAt w (fun g=>g = d ∨ g = kb) (fun g=>g = l) ⟨d,kb,x,l,log⟩ o false T (freshDb n):=by
 have e1:d ≠ kb:=h.disk.ne_ h.kept (by decide)
 have e2:l ≠ d:=h.wal.ne_ h.disk (by decide)
 have e3:l ≠ kb:=h.wal.ne_ h.kept (by decide)
 have e4:x ≠ d:=h.db.ne_ h.disk (by decide)
 have e5:x ≠ kb:=h.db.ne_ h.kept (by decide)
 have e6:x ≠ l:=h.db.ne_ h.wal (by decide)
 have c0:=hT.cell 0 (by decide)
 have z1:d ≠ 0:=fun e=>by
  have:=h.disk.cell 0
  rw [e,c0] at this
  simp [diskCells] at this
 have z2:kb ≠ 0:=fun e=>by
  have:=disk_zero h.kept (j:=0) (by omega)
  rw [e,c0] at this
  simp at this
 have z3:l ≠ 0:=fun e=>by
  have:=h.wal.cell 0
  rw [e,c0] at this
  simp [logCells] at this
 have z4:x ≠ 0:=fun e=>by
  have:=h.db.cell 0
  rw [e,c0] at this
  simp [dbCells] at this
 refine ⟨⟨⟨none,0,h.disk,World.ownsRow_nil _ _ _ _,fun g hg=>by cases hg⟩,⟨_,h.kept,by simp [madeCells,freshDb],fun i hi j hj=>?_⟩,fun i _=>zs_len 64,fun p hp=>(by cases hp),.inl rfl,.inr rfl,e1,fun b hb=>?_,h1,h2⟩,
  ⟨⟨none,0,none,0,none,0,h.wal,⟨World.ownsRow_nil _ _ _ _,fun g hg=>by cases hg⟩,⟨World.ownsRow_nil _ _ _ _,fun g hg=>by cases hg⟩,⟨World.ownsRow_nil _ _ _ _,fun g hg=>by cases hg⟩,fun g hg=>by cases hg⟩,rfl,fun b hb=>?_,h3,?_⟩,h.db,hT,⟨?_,?_,?_,?_,?_,z4⟩,h4⟩
 ·have hl:i * 64 + j < n * 64:=by
   have h5:i < n:=hi
   omega
  rw [← h.kept.cell (i * 64 + j),disk_zero h.kept hl]
  show _ = some (Value.int .u8 (((zs 64).getD j 0).toNat:Int))
  have hz:(zs 64)[j]? = some 0:=by unfold zs;rw [List.getElem?_replicate,if_pos hj]
  rw [List.getD_eq_getElem?_getD,hz];rfl
 ·have hb':b = d ∨ b = kb:=hb
  rcases hb' with rfl | rfl
  ·exact h.disk.lt
  ·exact h.kept.lt
 ·have hb':b = l:=hb
  subst hb';exact h.wal.lt
 ·show log ≤ 65536;omega
 ·intro g hg hd
  have hg':g = l:=hg
  subst hg'
  rcases hd with hd | hd
  ·exact e2 hd
  ·exact e3 hd
 ·intro hd
  rcases hd with hd | hd
  ·exact e4 hd
  ·exact e5 hd
 ·exact e6
 ·intro hd
  rcases hd with hd | hd
  ·exact z1 hd.symm
  ·exact z2 hd.symm
 ·intro hd
  have hd':0 = l:=hd
  exact z3 hd'.symm
theorem Rst.take_ok {r:Rst} {n:Nat} (h:(r.take n).2.bad = false):r.bad = false ∧ r.s.length = (r.take n).2.s.length + n:=by
 unfold Rst.take at h ⊢
 split
 ·rename_i h1;rw [if_pos h1] at h;cases h
 ·rename_i h1;rw [if_neg h1] at h
  refine ⟨h,?_⟩
  show r.s.length = (r.s.drop n).length + n
  rw [List.length_drop];omega
theorem Rst.byte_ok {r:Rst} (h:r.byte.2.bad = false):r.bad = false ∧ r.s.length = r.byte.2.s.length + 1:=Rst.take_ok (n:=1) h
theorem Rst.four_ok {r:Rst} (h:r.four.2.bad = false):r.bad = false ∧ r.s.length = r.four.2.s.length + 4:=Rst.take_ok (n:=4) h
theorem Rst.text_ok {r:Rst} (h:r.text.2.bad = false):r.bad = false ∧ r.s.length = r.text.2.s.length + (1 + r.text.1.length):=by
 obtain ⟨h1,h2⟩:=Rst.take_ok (r:=r.byte.2) (n:=r.byte.1) h
 obtain ⟨h3,h4⟩:=r.byte_ok h1
 refine ⟨h3,?_⟩
 have h5:r.text.1.length = r.byte.1:=Rst.take_len _ _
 have h6:r.text.2 = (r.byte.2.take r.byte.1).2:=rfl
 rw [h6];omega
theorem Rst.cell_ok {r:Rst} (h:r.cell.2.bad = false):r.bad = false ∧ r.s.length = r.cell.2.s.length + r.cell.1.size:=by
 unfold Rst.cell at h ⊢
 split
 ·rename_i h1
  rw [if_pos h1] at h
  obtain ⟨a1,a2⟩:=Rst.text_ok h
  obtain ⟨b1,b2⟩:=Rst.byte_ok a1
  obtain ⟨c1,c2⟩:=Rst.text_ok b1
  refine ⟨c1,?_⟩
  simp only [Cell.size,Nat.lt_irrefl,if_false]
  omega
 ·rename_i h1
  rw [if_neg h1] at h
  split
  ·rename_i h2
   rw [if_pos h2] at h
   simp only [Bool.or_eq_false_iff,decide_eq_false_iff_not] at h
   obtain ⟨a1,a2⟩:=Rst.four_ok h.1
   obtain ⟨b1,b2⟩:=Rst.four_ok a1
   obtain ⟨c1,c2⟩:=Rst.byte_ok b1
   obtain ⟨d1,d2⟩:=Rst.text_ok c1
   refine ⟨d1,?_⟩
   have h3:0 < r.text.2.byte.2.four.2.four.1:=Nat.pos_of_ne_zero h.2
   simp only [Cell.size,if_pos h3]
   omega
  ·rename_i h2
   rw [if_neg h2] at h
   cases h
theorem decLoop_size:∀ (k:Nat) (n:Nd) (r:Rst),(decLoop k n r).2.bad = false → r.bad = false ∧ (decLoop k n r).1.leaf = n.leaf ∧
  sumC (decLoop k n r).1.cells + sumK (decLoop k n r).1.keys + (decLoop k n r).2.s.length = sumC n.cells + sumK n.keys + r.s.length
 | 0,n,r,h=>⟨h,rfl,rfl⟩
 | k + 1,n,r,h=>by
  rw [decLoop] at h ⊢
  split
  ·rename_i h1;rw [if_pos h1] at h;rw [h] at h1;cases h1
  ·rename_i h1
   rw [if_neg h1] at h
   obtain ⟨i1,i2,i3⟩:=decLoop_size k _ _ h
   refine ⟨by simpa using h1,i2.trans ?_,i3.trans ?_⟩
   ·unfold Nd.one;split <;> rfl
   ·unfold Nd.one at i1 ⊢
    split
    ·rename_i hl
     rw [if_pos hl] at i1
     obtain ⟨j1,j2⟩:=Rst.cell_ok i1
     simp only [sumC,List.map_append,List.sum_append,List.map_cons,List.map_nil,List.sum_cons,List.sum_nil] at *
     omega
    ·rename_i hl
     rw [if_neg hl] at i1
     obtain ⟨j1,j2⟩:=Rst.four_ok i1
     obtain ⟨j3,j4⟩:=Rst.text_ok j1
     simp only [sumK,List.map_append,List.sum_append,List.map_cons,List.map_nil,List.sum_cons,List.sum_nil] at *
     omega
theorem dec_size (s:Bs) (n:Nd) (h:dec s = some n):n.size ≤ 500:=by
 unfold dec at h
 split at h
 ·cases h
 rename_i h0
 split at h
 ·cases h
 rename_i h1
 split at h
 ·cases h
 rename_i h2
 split at h
 ·cases h
 split at h
 ·injection h with h
  subst h
  have h1':(⟨s,false⟩:Rst).loop.2.bad = false:=by simpa using h1
  obtain ⟨i1,i2,i3⟩:=decLoop_size _ _ _ h1'
  have e3:(decLoop (⟨s,false⟩:Rst).byte.2.byte.1 (⟨s,false⟩:Rst).head.1 (⟨s,false⟩:Rst).head.2) = (⟨s,false⟩:Rst).loop:=rfl
  rw [e3] at i2 i3
  have h2':(⟨s,false⟩:Rst).loop.2.s.length = 0:=by omega
  unfold Nd.size
  rw [i2]
  unfold Rst.head at i1 i3 ⊢
  split
  ·rename_i hb
   rw [if_pos hb] at i1 i3
   obtain ⟨j1,j2⟩:=Rst.byte_ok i1
   obtain ⟨j3,j4⟩:=Rst.byte_ok j1
   simp only [sumC,sumK,List.map_nil,List.sum_nil] at i3 ⊢
   simp only at j4
   simp
   omega
  ·rename_i hb
   rw [if_neg hb] at i1 i3
   obtain ⟨k1,k2⟩:=Rst.four_ok i1
   obtain ⟨j1,j2⟩:=Rst.byte_ok k1
   obtain ⟨j3,j4⟩:=Rst.byte_ok j1
   simp only [sumC,sumK,List.map_nil,List.sum_nil] at i3 ⊢
   simp only at j4
   simp
   omega
 ·cases h
def Tryz.lays166_ren:Go.Shelf.Ren:=⟨fun | 166=>51 | 240=>92 | 276=>133 | n=>n,fun | 0=>0 | 3=>3 | 4=>4 | 9=>9 | 20=>20 | 37=>98 | 5=>5 | 70=>97 | 72=>100 | 75=>102 | 80=>105 | 164=>197 | n=>n,fun | n=>n⟩
theorem Tryz.lays166:Go.Proofs.Lays.n166 Tryz.prog Tryz.lays166_ren:={
 mixed:=by kernel_rfl
 f166:=Tryz.func51.trans (congrArg some (by kernel_rfl))
 f240:=Tryz.func92.trans (congrArg some (by kernel_rfl))
 f276:=Tryz.func133.trans (congrArg some (by kernel_rfl))
 t0:=Tryz.underlying0
 a0:=Tryz.isAgg0
 z0:=Tryz.sizeOf0
 v0:=Tryz.zeroValue0
 t3:=Tryz.underlying3
 a3:=Tryz.isAgg3
 z3:=Tryz.sizeOf3
 v3:=Tryz.zeroValue3
 t4:=Tryz.underlying4
 a4:=Tryz.isAgg4
 z4:=Tryz.sizeOf4
 v4:=Tryz.zeroValue4
 t9:=Tryz.underlying9
 a9:=Tryz.isAgg9
 z9:=Tryz.sizeOf9
 v9:=Tryz.zeroValue9
 t20:=Tryz.underlying20
 a20:=Tryz.isAgg20
 z20:=Tryz.sizeOf20
 v20:=Tryz.zeroValue20
 t37:=Tryz.underlying98
 a37:=Tryz.isAgg98
 z37:=Tryz.sizeOf98
 v37:=Tryz.zeroValue98
 t70:=Tryz.underlying97
 a70:=Tryz.isAgg97
 z70:=Tryz.sizeOf97
 v70:=Tryz.zeroValue97
 t72:=Tryz.underlying100
 a72:=Tryz.isAgg100
 z72:=Tryz.sizeOf100
 v72:=Tryz.zeroValue100
 t75:=Tryz.underlying102
 a75:=Tryz.isAgg102
 z75:=Tryz.sizeOf102
 v75:=Tryz.zeroValue102
 t164:=Tryz.underlying197
 a164:=Tryz.isAgg197
 z164:=Tryz.sizeOf197
 v164:=Tryz.zeroValue197 }
theorem Tryz.Builder_Extra_166:Go.Proofs.Builder.Extra Tryz.prog Tryz.lays166_ren:={
 sizeBuilder:=by kernel_rfl
 liesBuilder:=by kernel_rfl
 t5:=Tryz.underlying5
 a5:=Tryz.isAgg5
 z5:=Tryz.sizeOf5
 v5:=Tryz.zeroValue5
 infoByte:=by kernel_rfl
 cellsByte:=by kernel_rfl
 sizeByte:=by kernel_rfl
 neB5:=by decide }
theorem Tryz.Builder_WriteString (B b:Nat) (bs:List Value) (s:ByteArray) (w:World) (h:Lib.IsBuilder 100 5 B b bs w) (hlen:bs.length + s.size ≤ 140737488355328) (hBw:B ≤ w.heap.size) :
  Calls Tryz.prog 51 #[.pointer (some ⟨b,0,none⟩),.string s] w fun e w'=>e = .returned (.tuple #[.int .i64 s.size,.nilIface]) ∧ (Lib.BuilderAt 100 5 B b (.pointer (some ⟨b,0,none⟩)) (bs ++ Lib.strCells s) w' ∧ Below B w w') :=
 Go.Proofs.Any.Builder_WriteString Tryz.lays166 Tryz.Builder_Extra_166 B b bs s w h hlen hBw
end Go.Proofs.YtccnemmlkcmceaaGreatDoor
