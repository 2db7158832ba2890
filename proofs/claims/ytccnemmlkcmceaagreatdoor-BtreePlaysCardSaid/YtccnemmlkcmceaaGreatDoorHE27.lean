/- Proofs about the given program, joined out of the texts V2. -/
import Derived.Test.YtccnemmlkcmceaaGreatDoorHE23
set_option linter.unusedVariables false
set_option linter.unusedSimpArgs false
set_option maxRecDepth 100000
set_option maxHeartbeats 6400000
namespace Go.Proofs.YtccnemmlkcmceaaGreatDoor
open Go.RowKit
theorem isb_ext {B b:Nat} {bs:List Value} {w w':World} (h:Lib.IsBuilder 100 5 B b bs w) (hx:Ext No w w'):Lib.IsBuilder 100 5 B b bs w':=by
 have key:∀ p,Lib.BuilderAt 100 5 B b p bs w → Lib.BuilderAt 100 5 B b p bs w':=fun p ⟨hB,v,hb,ho,hn⟩=>by
  have hlt:b < w.heap.size:=by
   rcases Nat.lt_or_ge b w.heap.size with h' | h'
   ·exact h'
   ·simp [Array.getElem?_eq_none h'] at hb
  exact ⟨hB,v,(hx.block b hlt (fun h=>h)).trans hb,own_ext ho hx (fun _ _ h=>h),hn⟩
 exact h.imp (key _) (key _)
theorem ext_below {w0 w w':World} {B:Nat} (h:Ext No w0 w) (hb:Below B w w') (hB:w0.heap.size ≤ B):Ext No w0 w' :=
 ⟨hb.os.trans h.os,hb.tape.trans h.tape,hb.output.trans h.output,Nat.le_trans h.size hb.size,fun i hi hn=>(hb.block i (Nat.lt_of_lt_of_le hi hB)).trans (h.block i hi hn)⟩
theorem V.link_len {v:V} (hg:v.Good) {id n:Nat} {b:Bs} (h:v.link id = some (n,b)):1 ≤ b.length ∧ b.length ≤ 500:=by
 unfold V.link at h
 split at h
 ·rename_i he
  have:=V.good_bd hg he
  split at h
  ·rename_i hk
   injection h with h;injection h with h1 h2
   rw [← h2,List.length_drop]
   omega
  ·cases h
 ·cases h
theorem value_any' (s:Sys) (hs:s.Ok) (v:V) (hg:v.Good) (c:Cell) (hcf:c.fits):ValueOk s v c:=by
 by_cases hc:c.over = 0
 ·exact value_small s v c hc
 intro w gx i h hx
 have HN:=Lib.hid (fun o=>none_no ⟨s.t,0,none⟩ (.int .i64 (i:Int)) gx (w.alloc o) (hx.alloc o))
 have HL:=Lib.hid (fun w' (e:Ext No w w') id=>link_any s hs w' v (h.no hs e) gx i (hx.ext e (fun h=>h)) id)
 have HG:=Lib.hid (fun id n b (h:v.link id = some (n,b))=>V.link_len hg h)
 have hlen:c.len < 4294967296:=hcf.2.2.2
 obtain ⟨D,hD⟩:∃ D,D = v.value c:=⟨_,rfl⟩
 rw [← hD]
 unfold V.value at hD
 rw [if_neg hc] at hD
 have HD:=Lib.hid hD
 have hov:¬ ((c.over:Int) ≤ 0):=by omega
 clear h hg hx hD hcf
 simp only [Cell.agg]
 go_enter Tryz.func17,Tryz.ntmps17
 go_wp2_with fail
 refine (HN.out _).mono ?_
 rintro e' w1 ⟨rfl,rfl⟩
 go_wp2_with fail
 obtain ⟨W0,hW0⟩:∃ W0,W0 = ((w.alloc (.cells #[.string (str c.key),.string (str c.val),.int .i64 (c.over:Int),.int .i64 (c.len:Int)] 45)).alloc (.cells #[.pointer none,.slice none 0 0] 100)):=⟨_,rfl⟩
 have hE0:Ext No w W0:=by rw [hW0];exact ((Ext.refl No w).alloc _).alloc _
 have hbc:Blk W0 w.heap.size 45 #[.string (str c.key),.string (str c.val),.int .i64 (c.over:Int),.int .i64 (c.len:Int)]:=by rw [hW0];exact (Blk.new w 45 _).alloc _
 have hib:Lib.IsBuilder 100 5 (w.heap.size + 1) (w.heap.size + 1) (Lib.byteCells []) W0:=by
  refine .inl ⟨Nat.le_refl _,.slice none 0 0,?_,World.ownsRow_nil _ _ _ _,by simp [Value.ownBlock]⟩
  rw [hW0]
  exact Blk.new_at (b:=w.heap.size + 1) (w.alloc _) 100 _ (by simp)
 rw [← hW0]
 have HBC:=Lib.hid hbc
 clear hW0 hbc
 go_loopg [7] (c.len + 2) (fun gk id wr=>∃ (ID:Nat) (b:Bs),id = .int .i64 (ID:Int) ∧ Lib.IsBuilder 100 5 (w.heap.size + 1) (w.heap.size + 1) (Lib.byteCells b) wr ∧ Blk wr w.heap.size 45 #[.string (str c.key),.string (str c.val),.int .i64 (c.over:Int),.int .i64 (c.len:Int)] ∧
  Hid (c.len + 2 ≤ gk + b.length) ∧ Hid (b.length ≤ c.len + 500) ∧ Hid (v.valLoop c.len gk ID b = v.valLoop c.len (c.len + 2) c.over []) ∧ Ext No w wr)
 case atStart=>exact ⟨c.over,[],rfl,hib,HBC.out,Lib.hid (by simp),Lib.hid (by simp),Lib.hid rfl,hE0⟩
 case round =>
  clear hib hE0 HBC
  obtain ⟨ID,b,rfl,hib,hbc,hm,hbl,hd,hE⟩:=hrel
  have HIB:=Lib.hid hib;have HBC:=Lib.hid hbc;have HE:=Lib.hid hE
  have hlb:∀ w',Ext No wr w' → Calls Tryz.prog 49 #[.pointer (some ⟨w.heap.size + 1,0,none⟩)] w' fun e w''=>e = .returned (.int .i64 (b.length:Int)) ∧ w'' = w':=fun w' e=>by
   have:=Tryz.Builder_Len _ _ _ w' (isb_ext HIB.out e)
   rw [Lib.byteCells_length] at this
   exact this
  have HLB:=Lib.hid hlb
  have y3:=hbc.cell 3
  have yl:=hbc.lt
  simp at y3
  have HBL:=Lib.hid hbl.out
  clear hlb hib hbc hE
  by_cases hex:ID = 0 ∨ c.len < b.length
  ·have hd':v.valLoop c.len gk ID b = some b:=by
    cases gk with
    | zero=>rfl
    | succ j=>rw [V.valLoop,if_pos hex]
   have hDD:=HD.out
   rw [← hd.out,hd'] at hDD
   simp only at hDD
   have HDD:=Lib.hid hDD
   clear hd hd' HD hDD
   by_cases hz:ID = 0
   ·subst hz
    clear hex
    go_wp2_with fail
    go_quiet (fail)
    go_wp2_with fail
    have hq:Ext No wr (wr.drewN nq):=(Ext.refl No wr).drewN nq
    generalize wr.drewN nq = wq at hq ⊢
    have y3q:=cell_ext hq y3 (fun h=>h)
    have ylq:w.heap.size < wq.heap.size:=Nat.lt_of_lt_of_le yl hq.size
    have HQ:=Lib.hid hq
    clear hq
    by_cases hbe:b.length = c.len
    ·have HST:=Lib.hid (fun w' (e:Ext No wr w')=>Tryz.Builder_String_any (w.heap.size + 1) (w.heap.size + 1) b w' (isb_ext HIB.out e) (Nat.le_trans (Nat.succ_le_of_lt yl) e.size))
     have hDD:=HDD.out
     rw [if_pos hbe] at hDD
     have HD2:=Lib.hid hDD
     have HBE:=Lib.hid hbe
     have hne:((b.length:Int) != (c.len:Int)) = false:=by simp [hbe]
     clear hbe hDD
     go_quiet ((go_at_call 49;exact Calls.quiet_of_same ((HLB.out _ (by exact HQ.out.drewN _)).mono fun _ _ ⟨h1,h2⟩=>⟨h1,h2⟩)))
     go_wp2_with fail
     refine (HST.out _ (HQ.out.drewN _)).mono ?_
     rintro e w5 ⟨rfl,hb5⟩
     have HB5:=Lib.hid hb5
     clear hb5
     go_wp2_with fail
     go_ret2
     rw [HD2.out]
     exact ⟨rfl,ext_below ((HE.out.trans_ HQ.out).drewN _) HB5.out (Nat.le_succ _)⟩
    ·have hDD:=HDD.out
     rw [if_neg hbe] at hDD
     have HD2:=Lib.hid hDD
     have hne:((b.length:Int) != (c.len:Int)) = true:=by simpa using (by omega:¬ (b.length:Int) = c.len)
     have hne':¬ ((b.length:Int) = (c.len:Int)):=by omega
     clear hbe hDD
     go_quiet ((go_at_call 49;exact Calls.quiet_of_same ((HLB.out _ (by exact HQ.out.drewN _)).mono fun _ _ ⟨h1,h2⟩=>⟨h1,h2⟩)))
     go_wp2_with fail
     go_ret2
     rw [HD2.out]
     exact ⟨rfl,(HE.out.trans_ HQ.out).drewN _⟩
   ·have hlt:¬ ((b.length:Int) ≤ (c.len:Int)):=by rcases hex with h | h;exact absurd h hz;omega
    have hlt2:decide ((b.length:Int) ≤ (c.len:Int)) = false:=by simpa using hlt
    have hi0:((ID:Int) != 0) = true:=by simpa using (by omega:¬ (ID:Int) = 0)
    clear hex hz
    go_wp2_with fail
    go_quiet ((go_at_call 49;exact Calls.quiet_of_same ((HLB.out _ (by exact (Ext.refl No wr).drewN _)).mono fun _ _ ⟨h1,h2⟩=>⟨h1,h2⟩)))
    go_wp2_with fail
    have hq:Ext No wr (wr.drewN nq):=(Ext.refl No wr).drewN nq
    generalize wr.drewN nq = wq at hq ⊢
    have y3q:=cell_ext hq y3 (fun h=>h)
    have ylq:w.heap.size < wq.heap.size:=Nat.lt_of_lt_of_le yl hq.size
    have HQ:=Lib.hid hq
    clear hq
    by_cases hbe:b.length = c.len
    ·have HST:=Lib.hid (fun w' (e:Ext No wr w')=>Tryz.Builder_String_any (w.heap.size + 1) (w.heap.size + 1) b w' (isb_ext HIB.out e) (Nat.le_trans (Nat.succ_le_of_lt yl) e.size))
     have hDD:=HDD.out
     rw [if_pos hbe] at hDD
     have HD2:=Lib.hid hDD
     have HBE:=Lib.hid hbe
     have hne:((b.length:Int) != (c.len:Int)) = false:=by simp [hbe]
     clear hbe hDD
     go_quiet ((go_at_call 49;exact Calls.quiet_of_same ((HLB.out _ (by exact HQ.out.drewN _)).mono fun _ _ ⟨h1,h2⟩=>⟨h1,h2⟩)))
     go_wp2_with fail
     refine (HST.out _ (HQ.out.drewN _)).mono ?_
     rintro e w5 ⟨rfl,hb5⟩
     have HB5:=Lib.hid hb5
     clear hb5
     go_wp2_with fail
     go_ret2
     rw [HD2.out]
     exact ⟨rfl,ext_below ((HE.out.trans_ HQ.out).drewN _) HB5.out (Nat.le_succ _)⟩
    ·have hDD:=HDD.out
     rw [if_neg hbe] at hDD
     have HD2:=Lib.hid hDD
     have hne:((b.length:Int) != (c.len:Int)) = true:=by simpa using (by omega:¬ (b.length:Int) = c.len)
     have hne':¬ ((b.length:Int) = (c.len:Int)):=by omega
     clear hbe hDD
     go_quiet ((go_at_call 49;exact Calls.quiet_of_same ((HLB.out _ (by exact HQ.out.drewN _)).mono fun _ _ ⟨h1,h2⟩=>⟨h1,h2⟩)))
     go_wp2_with fail
     go_ret2
     rw [HD2.out]
     exact ⟨rfl,(HE.out.trans_ HQ.out).drewN _⟩
  ·obtain ⟨j,hj⟩:∃ j,gk = j + 1:=⟨gk - 1,by have:=hm.out;omega⟩
   have hi0:((ID:Int) != 0) = true:=by simpa using (by omega:¬ (ID:Int) = 0)
   have hle:decide ((b.length:Int) ≤ (c.len:Int)) = true:=by simp;omega
   have hle':(b.length:Int) ≤ (c.len:Int):=by omega
   have HEX:=Lib.hid hex
   have hdd:=hd.out
   rw [hj,V.valLoop,if_neg hex] at hdd
   have HJ:=Lib.hid hj
   have HLK:=Lib.hid (fun w' (e:Ext No w w')=>HL.out w' e ID)
   cases hl:v.link ID with
   | none =>
    rw [hl] at HLK hdd
    simp only [linkOut] at HLK
    have hDD:=HD.out
    rw [← hdd] at hDD
    have HDD:=Lib.hid hDD
    clear hd hdd hDD HD hex hj hl
    go_wp2_with fail
    go_quiet ((go_at_call 49;exact Calls.quiet_of_same ((HLB.out _ (by exact (Ext.refl No wr).drewN _)).mono fun _ _ ⟨h1,h2⟩=>⟨h1,h2⟩)))
    go_wp2_with fail
    refine (HLK.out _ (HE.out.drewN _)).mono ?_
    rintro e w5 ⟨rfl,hx5⟩
    go_wp2_with fail
    go_ret2
    rw [HDD.out]
    exact ⟨rfl,(HE.out.drewN _).trans_ hx5⟩
   | some r =>
    obtain ⟨nx,sb⟩:=r
    rw [hl] at HLK hdd
    simp only [linkOut] at HLK
    simp only at hdd
    obtain ⟨hs1,hs5⟩:=HG.out ID nx sb hl
    have HDD:=Lib.hid hdd
    have HS1:=Lib.hid hs1;have HS5:=Lib.hid hs5
    have HWS:=Lib.hid (fun w' (e:Ext No wr w')=>Tryz.Builder_WriteString (w.heap.size + 1) (w.heap.size + 1) (Lib.byteCells b) (str sb) w' (isb_ext HIB.out e) (by rw [Lib.byteCells_length,str_size];have:=HBL.out;omega) (Nat.le_trans (Nat.succ_le_of_lt yl) e.size))
    have HM:=Lib.hid hm.out
    clear hd hdd hex hj hl hs1 hs5 hm hbl
    go_wp2_with fail
    go_quiet ((go_at_call 49;exact Calls.quiet_of_same ((HLB.out _ (by exact (Ext.refl No wr).drewN _)).mono fun _ _ ⟨h1,h2⟩=>⟨h1,h2⟩)))
    go_wp2_with fail
    refine (HLK.out _ (HE.out.drewN _)).mono ?_
    rintro e w5 ⟨rfl,hx5⟩
    have HX5:=Lib.hid (((Ext.refl No wr).drewN _).trans_ hx5)
    clear hx5
    go_wp2_with fail
    refine (HWS.out _ HX5.out).mono ?_
    rintro e w6 ⟨rfl,hba,hb6⟩
    have HBA:=Lib.hid hba;have HB6:=Lib.hid hb6
    clear hba hb6
    go_wp2_with fail
    go_roundg j
    case rel =>
     refine ⟨nx,b ++ sb,rfl,.inr ?_,?_,Lib.hid ?_,Lib.hid ?_,Lib.hid ?_,?_⟩
     ·have h1:=HBA.out
      have e1:Lib.byteCells (b ++ sb) = Lib.byteCells b ++ Lib.strCells (str sb):=by simp [Lib.byteCells,Lib.strCells]
      rw [e1]
      exact h1
     ·have h1:=HBC.out.ext HX5.out (fun h=>h)
      exact (HB6.out.block w.heap.size (Nat.lt_succ_self _)).trans h1
     ·have:=HM.out;have:=HJ.out;have:=HS1.out;rw [List.length_append];omega
     ·have:=HS5.out;have h3:=HEX.out;rw [List.length_append];omega
     ·exact HDD.out
     ·exact ext_below (HE.out.trans_ HX5.out) HB6.out (Nat.le_succ _)
    case measure=>have:=HJ.out;omega
end Go.Proofs.YtccnemmlkcmceaaGreatDoor
