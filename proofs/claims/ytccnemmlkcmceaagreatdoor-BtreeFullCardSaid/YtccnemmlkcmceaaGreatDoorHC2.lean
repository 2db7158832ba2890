/- Proofs about the given program, joined out of the texts S2, S3, S4, MG, T2, T3, T4. -/
import Derived.Test.YtccnemmlkcmceaaGreatDoorHC1
import Derived.Deep.RegionHeld3
import Derived.Deep.DeepCutAuto
import Derived.Deep.LoopGhost
import Derived.Deep.CutBlock
import Derived.Deep.AppendLies
import Derived.Lib.AppendStr
import Derived.Maps.RangeWalk
set_option linter.unusedVariables false
set_option linter.unusedSimpArgs false
set_option maxRecDepth 100000
set_option maxHeartbeats 6400000
namespace Go.Proofs.YtccnemmlkcmceaaGreatDoor
open Go.RowKit Go.BigFrame
abbrev klt (a b:Bs):Bool:=Op.bytesLess a b
def okC (cs:List Cell):Nat → Bool
 | 0=>true
 | k + 1=>okC cs k && (match cs[k]? with
  | some c=>c.ok && (match k with
   | 0=>true
   | j + 1=>(match cs[j]? with | some d=>klt d.key c.key | none=>false))
  | none=>false)
def okK (cs:List Bs):Nat → Bool
 | 0=>true
 | k + 1=>okK cs k && (match cs[k]? with
  | some c=>keyOk c && (match k with
   | 0=>true
   | j + 1=>(match cs[j]? with | some d=>klt d c | none=>false))
  | none=>false)
def Nd.shape (n:Nd):Bool:=decide (n.cells.length ≤ 255) && decide (n.keys.length ≤ 255) &&
 (if n.leaf then decide (n.keys.length = 0) && decide (n.kids.length = 0) else decide (n.cells.length = 0) && decide (n.kids.length = n.keys.length + 1))
def Nd.ok (n:Nd):Bool:=n.shape && okC n.cells n.cells.length && okK n.keys n.keys.length && n.kids.all idOk
def Nd.chk (n:Nd):Int:=if n.ok then 0 else 2
theorem check_any (n:Nd) (w:World) (F:Nat → Prop) (A1:Option Addr) (c1:Nat) (A2:Option Addr) (c2:Nat) (A3:Option Addr) (c3:Nat) (hn:NodeAt w F A1 c1 A2 c2 A3 c3 n) (hf:n.fits) :
  Calls Tryz.prog 91 #[n.value A1 c1 A2 c2 A3 c3] w fun e w'=>e = .returned (.int .i64 n.chk) ∧ Ext No w w':=by
 have HC:=Lib.hid (fun c w h=>cell_any c w h)
 have hb1:=hn.b1
 have hb2:=hn.b2
 have hb3:=hn.b3
 simp only [Nd.value]
 generalize hlf:n.leaf = lf
 have HLF:=Lib.hid hlf
 clear hlf
 go_enter Tryz.func91,Tryz.ntmps91
 go_upto_region 1 with fail
 go_cut [3] (fun s3 wx=>s3 = .bool (decide (n.cells.length ≤ 255) && decide (n.keys.length ≤ 255)) ∧ wx = (w.alloc (.cells #[.bool lf,.slice A1 n.cells.length c1,.slice A2 n.keys.length c2,.slice A3 n.kids.length c3] 40)))
 case first =>
  by_cases h1:(n.cells.length:Int) ≤ 255
  ·have h1':n.cells.length ≤ 255:=by omega
   go_wp2_with fail
   go_meet
   exact ⟨by simp [h1'];omega,rfl⟩
  ·have h1':¬ n.cells.length ≤ 255:=by omega
   go_wp2_with fail
   go_meet
   exact ⟨by simp [h1'],rfl⟩
 case rest =>
  obtain ⟨rfl,rfl⟩:=hcut
  generalize hk1:(decide (n.cells.length ≤ 255) && decide (n.keys.length ≤ 255)) = k1
  go_upto_if 21 with fail
  go_cut [3] (fun s3 wx=>s3 = .bool n.shape ∧ wx = (w.alloc (.cells #[.bool lf,.slice A1 n.cells.length c1,.slice A2 n.keys.length c2,.slice A3 n.kids.length c3] 40)))
  case first =>
   have hs:n.shape = (k1 && (if n.leaf then decide (n.keys.length = 0) && decide (n.kids.length = 0) else decide (n.cells.length = 0) && decide (n.kids.length = n.keys.length + 1))):=by unfold Nd.shape;rw [hk1]
   have HS:=Lib.hid hs
   clear hs hk1
   rw [HLF.out] at HS
   cases k1
   ·cases lf
    all_goals
     go_wp2_with fail
     go_meet
     exact ⟨by rw [HS.out];rfl,rfl⟩
   ·cases lf
    ·by_cases hkz:n.cells.length = 0
     ·have hkz':((n.cells.length:Int) == 0) = true:=by simp [hkz]
      have HZ:=Lib.hid hkz
      clear hkz
      go_wp2_with fail
      go_meet
      exact ⟨by rw [HS.out];simp [HZ.out];try (rw [Bool.eq_iff_iff];simp;omega),by simp⟩
     ·have hkz':((n.cells.length:Int) == 0) = false:=by simp [hkz]
      have HZ:=Lib.hid hkz
      clear hkz
      go_wp2_with fail
      go_meet
      exact ⟨by rw [HS.out];simp [HZ.out],by simp⟩
    ·by_cases hkz:n.keys.length = 0
     ·have hkz':((n.keys.length:Int) == 0) = true:=by simp [hkz]
      have HZ:=Lib.hid hkz
      clear hkz
      go_wp2_with fail
      go_meet
      exact ⟨by rw [HS.out];simp [HZ.out];try (rw [Bool.eq_iff_iff];simp),by simp⟩
     ·have hkz':((n.keys.length:Int) == 0) = false:=by simp [hkz]
      have HZ:=Lib.hid hkz
      clear hkz
      go_wp2_with fail
      go_meet
      exact ⟨by rw [HS.out];simp [HZ.out],by simp⟩
  case rest =>
   obtain ⟨rfl,rfl⟩:=hcut
   clear hk1
   generalize hsh:n.shape = sh
   go_wp2_with fail
   go_loopg [3,55] n.cells.length (fun g s i wr=>∃ k:Nat,k + g = n.cells.length ∧ i = .int .i64 (k:Int) ∧ s = .bool (sh && okC n.cells k) ∧ Ext No (w.alloc (.cells #[.bool lf,.slice A1 n.cells.length c1,.slice A2 n.keys.length c2,.slice A3 n.kids.length c3] 40)) wr)
   case atStart=>exact ⟨0,by omega,rfl,by simp [okC],Ext.refl _ _⟩
   case round =>
    obtain ⟨k,hk0,rfl,rfl,hE⟩:=hrel
    have hk:k ≤ n.cells.length:=by omega
    have HK0:=Lib.hid hk0
    clear hk0
    have bb:=(Blk.new w 40 #[.bool lf,.slice A1 n.cells.length c1,.slice A2 n.keys.length c2,.slice A3 n.kids.length c3]).ext hE (fun h=>h)
    have q0:=bb.cell 0
    have q1:=bb.cell 1
    have q2:=bb.cell 2
    have q3:=bb.cell 3
    have bl:=bb.lt
    simp at q0 q1 q2 q3
    by_cases hlt:k < n.cells.length
    ·obtain ⟨c,hc⟩:∃ c,n.cells[k]? = some c:=⟨_,List.getElem?_eq_getElem hlt⟩
     have hcf:=hf.c c (List.mem_of_getElem? hc)
     obtain ⟨b,o,hA,_,e0,e1,e2,e3⟩:=(hn.cells.ext (((Ext.refl _ w).alloc _).trans_ hE.of_no)).cellAt hc
     subst hA
     have lt0:b < wr.heap.size:=World.block_lt_of_cell? wr _ e0
     have HE:=Lib.hid hE
     cases hok:(sh && okC n.cells k)
     ·have hn1:(sh && okC n.cells (k + 1)) = false:=by
       cases sh
       ·rfl
       ·simp at hok;simp [okC,hok]
      have HN:=Lib.hid hn1
      clear hn1 hok
      go_wp2_with fail
      go_quiet (fail)
      go_wp2_with fail
      go_roundg (gk - 1)
      case rel=>exact ⟨k + 1,by have:=HK0.out;omega,by go_num,by rw [HN.out],by have:=HE.out;(repeat' (first | exact Ext.refl _ _ | assumption | apply Ext.alloc | apply Ext.drewN | apply Ext.drew | refine Ext.setNew ?_ (by first | omega | (simp;omega) | simp) _ _ | refine Ext.setF ?_ (by first | exact Or.inl rfl | exact Or.inr rfl | rfl) _ _ | refine Ext.trans_ ?_ (by assumption) | refine Ext.trans_ ?_ (Ext.of_no (by assumption))))⟩
      case measure=>have:=HK0.out;omega
     ·cases hco:c.ok
      ·have hn1:(sh && okC n.cells (k + 1)) = false:=by simp [okC,hc,hco]
       have HN:=Lib.hid hn1
       have HC1:=Lib.hid (fun w=>HC.out c w hcf)
       simp only [Cell.agg,hco] at HC1
       clear hn1 hok hco
       go_wp2_with fail
       have lt1:b < wr.heap.size + 1:=by omega
       have bl1:w.heap.size < wr.heap.size + 1:=by omega
       refine wp_region_up (by kernel_rfl) (by kernel_rfl) ?_;(repeat (go_big_quiet_step ((go_at_call 130;exact Calls.up_of (HC1.out _)))));refine wpQuiet_nil ?_;intro _ hw';obtain ⟨⟨wq,hq⟩,hw''⟩:=hw';change _ = wq at hw'';subst hw''
       go_wp2_with fail
       go_roundg (gk - 1)
       case rel=>exact ⟨k + 1,by have:=HK0.out;omega,by go_num,by rw [HN.out],by have:=HE.out;(repeat' (first | exact Ext.refl _ _ | assumption | apply Ext.alloc | apply Ext.drewN | apply Ext.drew | refine Ext.setNew ?_ (by first | omega | (simp;omega) | simp) _ _ | refine Ext.setF ?_ (by first | exact Or.inl rfl | exact Or.inr rfl | rfl) _ _ | refine Ext.trans_ ?_ (by assumption) | refine Ext.trans_ ?_ (Ext.of_no (by assumption))))⟩
       case measure=>have:=HK0.out;omega
      ·have HC1:=Lib.hid (fun w=>HC.out c w hcf)
       simp only [Cell.agg,hco] at HC1
       match k with
       | 0 =>
        have hn1:(sh && okC n.cells (0 + 1)) = true:=by
         cases sh
         ·simp at hok
         ·simp [okC,hc,hco]
        have HN:=Lib.hid hn1
        clear hn1 hok hco
        simp only [Nat.zero_mul,Nat.add_zero] at e0 e1 e2 e3
        have lt1:b < wr.heap.size + 1:=by omega
        have bl1:w.heap.size < wr.heap.size + 1:=by omega
        go_wp2_with fail
        refine wp_region_up (by kernel_rfl) (by kernel_rfl) ?_;(repeat (go_big_quiet_step ((go_at_call 130;exact Calls.up_of (HC1.out _)))));refine wpQuiet_nil ?_;intro _ hw';obtain ⟨⟨wq,hq⟩,hw''⟩:=hw';change _ = wq at hw'';subst hw''
        go_wp2_with fail
        go_roundg (gk - 1)
        case rel=>exact ⟨0 + 1,by have:=HK0.out;omega,by go_num,by rw [HN.out],by have:=HE.out;(repeat' (first | exact Ext.refl _ _ | assumption | apply Ext.alloc | apply Ext.drewN | apply Ext.drew | refine Ext.setNew ?_ (by first | omega | (simp;omega) | simp) _ _ | refine Ext.setF ?_ (by first | exact Or.inl rfl | exact Or.inr rfl | rfl) _ _ | refine Ext.trans_ ?_ (by assumption) | refine Ext.trans_ ?_ (Ext.of_no (by assumption))))⟩
        case measure=>have:=HK0.out;omega
       | j + 1 =>
        obtain ⟨d,hd⟩:∃ d,n.cells[j]? = some d:=⟨_,List.getElem?_eq_getElem (by omega)⟩
        have hn1:(sh && okC n.cells (j + 1 + 1)) = klt d.key c.key:=by
         cases sh
         ·simp at hok
         ·simp only [Bool.true_and] at hok
          rw [okC,hok];simp [hc,hco,hd]
        have HN:=Lib.hid hn1
        obtain ⟨b',o',hA',_,p0,_⟩:=(hn.cells.ext (((Ext.refl _ w).alloc _).trans_ hE.of_no)).cellAt hd
        injection hA' with hA'
        injection hA' with hA1 hA2
        subst hA1;subst hA2
        clear hn1 hok hco
        have hz:(((j:Int) + 1) == 0) = false:=by simp;omega
        have hji:(j:Int) < n.cells.length:=by omega
        have hjn:j < n.cells.length:=by omega
        have lt1:b < wr.heap.size + 1:=by omega
        have bl1:w.heap.size < wr.heap.size + 1:=by omega
        go_wp2_with fail
        refine wp_region_up (by kernel_rfl) (by kernel_rfl) ?_;(repeat (go_big_quiet_step ((go_at_call 130;exact Calls.up_of (HC1.out _)))));refine wpQuiet_nil ?_;intro _ hw';obtain ⟨⟨wq,hq⟩,hw''⟩:=hw';change _ = wq at hw'';subst hw''
        go_wp2_with fail
        go_roundg (gk - 1)
        case rel=>exact ⟨j + 1 + 1,by have:=HK0.out;omega,by go_num,by rw [HN.out],by have:=HE.out;(repeat' (first | exact Ext.refl _ _ | assumption | apply Ext.alloc | apply Ext.drewN | apply Ext.drew | refine Ext.setNew ?_ (by first | omega | (simp;omega) | simp) _ _ | refine Ext.setF ?_ (by first | exact Or.inl rfl | exact Or.inr rfl | rfl) _ _ | refine Ext.trans_ ?_ (by assumption) | refine Ext.trans_ ?_ (Ext.of_no (by assumption))))⟩
        case measure=>have:=HK0.out;omega
    ·have hke:k = n.cells.length:=by omega
     subst hke
     generalize hs1:(sh && okC n.cells n.cells.length) = s1
     have HS1:=Lib.hid hs1
     clear hs1
     have HKK:=Lib.hid (fun k w hk=>key_any k w hk)
     have HII:=Lib.hid (fun n w=>id_any n w)
     have HE:=Lib.hid (((Ext.refl No w).alloc _).trans_ hE)
     have hnk:=hn.keys.ext (((Ext.refl _ w).alloc _).trans_ hE.of_no)
     have hni:=hn.kids.ext (((Ext.refl _ w).alloc _).trans_ hE.of_no)
     clear hn hE bb hlt hk HK0
     obtain ⟨wo,rfl⟩:∃ wo:World,wo = wr:=⟨_,rfl⟩
     go_wp2_with fail
     go_loopg [3,85] n.keys.length (fun g s i wr=>∃ k:Nat,k + g = n.keys.length ∧ i = .int .i64 (k:Int) ∧ s = .bool (s1 && okK n.keys k) ∧ ∃ q,wr = wo.drewN q)
     case atStart=>exact ⟨0,by omega,rfl,by simp [okK],0,rfl⟩
     case round =>
      obtain ⟨k,hk0,rfl,rfl,q,rfl⟩:=hrel
      have hk:k ≤ n.keys.length:=by omega
      have HK0:=Lib.hid hk0
      clear hk0
      by_cases hlt:k < n.keys.length
      ·obtain ⟨c,hc⟩:∃ c,n.keys[k]? = some c:=⟨_,List.getElem?_eq_getElem hlt⟩
       have hcf:=hf.k c (List.mem_of_getElem? hc)
       obtain ⟨b,o,hA,_,e0⟩:=hnk.keyAt hc
       subst hA
       cases hok:(s1 && okK n.keys k)
       ·have hn1:(s1 && okK n.keys (k + 1)) = false:=by
         cases s1
         ·rfl
         ·simp at hok;simp [okK,hok]
        have HN:=Lib.hid hn1
        clear hn1 hok
        go_wp2_with fail
        go_roundg (gk - 1)
        case rel=>exact ⟨k + 1,by have:=HK0.out;omega,by go_num,by rw [HN.out],q,rfl⟩
        case measure=>have:=HK0.out;omega
       ·have HC1:=Lib.hid (fun w=>HKK.out c w (by omega))
        cases hco:keyOk c
        ·have hn1:(s1 && okK n.keys (k + 1)) = false:=by simp [okK,hc,hco]
         have HN:=Lib.hid hn1
         simp only [hco] at HC1
         clear hn1 hok hco
         go_wp2_with (go_at_call 131;refine (HC1.out _).mono ?_;rintro e w' ⟨rfl,rfl⟩)
         go_roundg (gk - 1)
         case rel=>exact ⟨k + 1,by have:=HK0.out;omega,by go_num,by rw [HN.out],q,rfl⟩
         case measure=>have:=HK0.out;omega
        ·simp only [hco] at HC1
         match k with
         | 0 =>
          have hn1:(s1 && okK n.keys (0 + 1)) = true:=by
           cases s1
           ·simp at hok
           ·simp [okK,hc,hco]
          have HN:=Lib.hid hn1
          clear hn1 hok hco
          simp only [Nat.add_zero] at e0
          go_wp2_with (go_at_call 131;refine (HC1.out _).mono ?_;rintro e w' ⟨rfl,rfl⟩)
          go_roundg (gk - 1)
          case rel=>exact ⟨0 + 1,by have:=HK0.out;omega,by go_num,by rw [HN.out],q,rfl⟩
          case measure=>have:=HK0.out;omega
         | j + 1 =>
          obtain ⟨d,hd⟩:∃ d,n.keys[j]? = some d:=⟨_,List.getElem?_eq_getElem (by omega)⟩
          have hn1:(s1 && okK n.keys (j + 1 + 1)) = klt d c:=by
           cases s1
           ·simp at hok
           ·simp only [Bool.true_and] at hok
            rw [okK,hok];simp [hc,hco,hd]
          have HN:=Lib.hid hn1
          obtain ⟨b',o',hA',_,p0⟩:=hnk.keyAt hd
          injection hA' with hA'
          injection hA' with hA1 hA2
          subst hA1;subst hA2
          clear hn1 hok hco
          have hz:(((j:Int) + 1) == 0) = false:=by simp;omega
          have hji:(j:Int) < n.keys.length:=by omega
          have hjn:j < n.keys.length:=by omega
          go_wp2_with (go_at_call 131;refine (HC1.out _).mono ?_;rintro e w' ⟨rfl,rfl⟩)
          go_roundg (gk - 1)
          case rel=>exact ⟨j + 1 + 1,by have:=HK0.out;omega,by go_num,by rw [HN.out],q,rfl⟩
          case measure=>have:=HK0.out;omega
      ·have hke:k = n.keys.length:=by omega
       subst hke
       generalize hs2:(s1 && okK n.keys n.keys.length) = s2
       have HS2:=Lib.hid hs2
       clear hs2 hk HK0 hlt
       go_wp2_with fail
       go_loopg [3,113] n.kids.length (fun g s i wr=>∃ k:Nat,k + g = n.kids.length ∧ i = .int .i64 (k:Int) ∧ s = .bool (s2 && (n.kids.take k).all idOk) ∧ ∃ q,wr = wo.drewN q)
       case atStart=>exact ⟨0,by omega,rfl,by simp,q,rfl⟩
       case round =>
        obtain ⟨k,hk0,rfl,rfl,q,rfl⟩:=hrel
        have hk:k ≤ n.kids.length:=by omega
        have HK0:=Lib.hid hk0
        clear hk0
        by_cases hlt:k < n.kids.length
        ·obtain ⟨c,hc⟩:∃ c,n.kids[k]? = some c:=⟨_,List.getElem?_eq_getElem hlt⟩
         obtain ⟨b,o,hA,_,e0⟩:=hni.kidAt hc
         subst hA
         have hstep:(n.kids.take (k + 1)).all idOk = ((n.kids.take k).all idOk && idOk c):=by rw [List.take_add_one,hc];simp
         cases hok:(s2 && (n.kids.take k).all idOk)
         ·have hn1:(s2 && (n.kids.take (k + 1)).all idOk) = false:=by rw [hstep,← Bool.and_assoc,hok];rfl
          have HN:=Lib.hid hn1
          clear hn1 hok hstep
          go_wp2_with fail
          go_roundg (gk - 1)
          case rel=>exact ⟨k + 1,by have:=HK0.out;omega,by go_num,by rw [HN.out],q,rfl⟩
          case measure=>have:=HK0.out;omega
         ·have hn1:(s2 && (n.kids.take (k + 1)).all idOk) = idOk c:=by rw [hstep,← Bool.and_assoc,hok];rfl
          have HN:=Lib.hid hn1
          clear hn1 hok hstep
          have HC1:=Lib.hid (fun w=>HII.out c w)
          generalize idOk c = ic at *
          go_wp2_with (go_at_call 132;refine (HC1.out _).mono ?_;rintro e w' ⟨rfl,rfl⟩)
          go_roundg (gk - 1)
          case rel=>exact ⟨k + 1,by have:=HK0.out;omega,by go_num,by rw [HN.out],q,rfl⟩
          case measure=>have:=HK0.out;omega
        ·have hke:k = n.kids.length:=by omega
         subst hke
         have hfin:(s2 && (n.kids.take n.kids.length).all idOk) = n.ok:=by
          rw [List.take_length,← HS2.out,← HS1.out,← hsh];rfl
         rw [hfin]
         have HQ:=Lib.hid (((Ext.refl No w).trans_ HE.out).drewN q)
         clear hfin
         cases hno:n.ok
         all_goals
          go_wp2_with fail
          go_ret
          exact ⟨ret_int (by unfold Nd.chk;rw [hno];rfl),HQ.out⟩
end Go.Proofs.YtccnemmlkcmceaaGreatDoor
namespace Go.Proofs.YtccnemmlkcmceaaGreatDoor
open Go.RowKit
theorem Nd.chk_ok {n:Nd} (h:n.ok = true):n.chk = 0:=by simp [Nd.chk,h]
theorem Nd.chk_bad {n:Nd} (h:n.ok = false):n.chk = 2:=by simp [Nd.chk,h]
def bcs (l:Bs):List Value:=l.map fun b=>.int .u8 (b.toNat:Int)
theorem bcs_append (a b:Bs):bcs (a ++ b) = bcs a ++ bcs b:=by simp [bcs]
theorem bcs_len (a:Bs):(bcs a).length = a.length:=by simp [bcs]
theorem Ext.grown {F:Nat → Prop} {w0 w w':World} {row:Option Nat} (h:Ext F w0 w) (hg:w.grownBy w' row) (hr:∀ g,row = some g → F g ∨ w0.heap.size ≤ g):Ext F w0 w' :=
 ⟨hg.os.trans h.os,hg.tape.trans h.tape,hg.output.trans h.output,Nat.le_trans h.size hg.size,fun i hi hn=>(hg.block i (Nat.lt_of_lt_of_le hi h.size) (by
  rintro e
  rcases hr i e.symm with h' | h'
  ·exact hn h'
  ·omega)).trans (h.block i hi hn)⟩
theorem Tryz.info5:(Tryz.prog.info? 5).map (fun i=>(i.zero,i.size,i.bytes)) = some (some (.int .u8 0),1,1):=by kernel_rfl
theorem bcs_n4 (n:Nat) (hn:n < 4294967296):bcs (n4 n) = [.int .u8 ((n:Int) % 256),.int .u8 ((n:Int) / 256 % 256),.int .u8 ((n:Int) / 65536 % 256),.int .u8 ((n:Int) / 16777216)]:=by
 have e0:=ofNat_lt (n % 256) (by omega)
 have e1:=ofNat_lt (n / 256 % 256) (by omega)
 have e2:=ofNat_lt (n / 65536 % 256) (by omega)
 have e3:=ofNat_lt (n / 16777216 % 256) (by omega)
 have e4:((n / 16777216 % 256:Nat):Int) = (n:Int) / 16777216:=by omega
 unfold bcs n4
 simp only [List.map_cons,List.map_nil,e0,e1,e2,e3,e4]
 simp
def Grew (base:Nat) (v:Value) (l:Bs) (w:World) (e:Ending) (w':World):Prop :=
 ∃ g cap,e = .returned (.slice (some ⟨g,0,none⟩) l.length cap) ∧ w'.ownsRow base 5 1 (.slice (some ⟨g,0,none⟩) l.length cap) l.length (bcs l) ∧ w.grownBy w' v.ownBlock ∧ (v.ownBlock = some g ∨ w.heap.size ≤ g)
theorem four_any (base:Nat) (v:Value) (l:Bs) (n:Nat) (hn:n < 4294967296) (w:World) (hown:w.ownsRow base 5 1 v l.length (bcs l)) (hb:base ≤ w.heap.size) (hl:l.length < 1000000) :
  Calls Tryz.prog 202 #[v,.int .i64 (n:Int)] w (Grew base v (l ++ n4 n) w):=by
 obtain ⟨i0,hi,hz0,hz1,hz2⟩:=info_parts Tryz.info5
 have HO:=Lib.hid hown
 clear hown
 have hn4:=bcs_n4 n hn
 have HN:=Lib.hid hn4
 clear hn4
 go_enter Tryz.func202,Tryz.ntmps202
 go_wp2_with (at_builtin;refine wpList_append_lies _ rfl (.tmp 5) (.tmp 17) 98 rfl base 5 i0 (.int .u8 0) 1 1 Tryz.underlying98 hi hz0 hz1 hz2 rfl (by decide) v l.length (bcs l) rfl (HO.out.alloc _) ⟨w.heap.size,0,none⟩ 4 4 [.int .u8 ((n:Int) % 256),.int .u8 ((n:Int) / 256 % 256),.int .u8 ((n:Int) / 65536 % 256),.int .u8 ((n:Int) / 16777216)] rfl rfl ?c1 ?c2 ?c3 ?c4 ?c5 ?c6 _ rfl ?_)
 case c1=>exact World.news_of_block (cs:=#[.int .u8 ((n:Int) % 256),.int .u8 ((n:Int) / 256 % 256),.int .u8 ((n:Int) / 65536 % 256),.int .u8 ((n:Int) / 16777216)]) (t:=5) (fr:=(0,0)) (heap_alloc_new w _)
 case c2=>simp [Value.oneCell']
 case c3=>decide
 case c4=>unfold maxLen;omega
 case c5=>omega
 case c6=>simp;omega
 intro g cap w1 hown1 hgrow hat hlt
 go_wp2_with fail
 go_ret
 refine ⟨g,cap,by simp [n4],?_,?_,?_⟩
 ·rw [List.length_append,n4_len,bcs_append,HN.out];exact hown1
 ·exact ⟨hgrow.os,hgrow.tape,hgrow.output,Nat.le_trans (by simp) hgrow.size,fun k hk hne=>(hgrow.block k (by simp;omega) hne).trans (Below.heap_alloc w _ k hk)⟩
 ·rcases hat with h | h
  ·exact .inl h
  ·right;rw [h];simp
theorem run_append_str {P:Program} (w:World) (base:Nat) (t u ty e:TypeId) (i:TypeInfo) (ht:P.underlying t = some (.slice e)) (hu:P.underlying u = some .string) (hi:P.info? e = some i) (hz:i.zero = some (.int .u8 0))
  (hsize:i.size = 1) (hby:i.bytes = 1) (g cap n:Nat) (xs:List Value) (hown:w.ownsRow base e 1 (.slice (some ⟨g,0,none⟩) n cap) n xs) (s:ByteArray)
  (h63:n + s.size ≤ maxLen) (hbytes:n + s.size ≤ 140737488355328) (hbase:base ≤ w.heap.size) :
  ∃ g' cap' w',(Builtin.append_ #[t,u] ty #[.slice (some ⟨g,0,none⟩) n cap,.string s]).run P w = .ok (.slice (some ⟨g',0,none⟩) (n + s.size) cap') w' ∧
   w'.ownsRow base e 1 (.slice (some ⟨g',0,none⟩) (n + s.size) cap') (n + s.size) (xs ++ Lib.strCells s) ∧ w.grownBy w' (some g) ∧ (g' = g ∨ g' = w.heap.size):=by
 obtain ⟨v',w',hr,h2,h3,_⟩:=Lib.run_append_own_string (P:=P) w base t u ty e i ht hu hi hz hsize hby _ n xs hown s h63 hbytes hbase
 have hxl:xs.length = n:=by simpa using hown.1
 have hsmall:n + s.size ≤ 9223372036854775807:=by simp only [maxLen] at h63;omega
 rcases hown.2 with ⟨h,_⟩ | ⟨g0,cap0,cur,hv,hbg,hg,hnc,hcm,hcs,htake⟩
 ·cases h
 ·injection hv with e1 _ e2
  injection e1 with e1
  injection e1 with e1
  subst e1;subst e2
  by_cases hroom:n + s.size ≤ cap
  ·have hr2:=Lib.run_append_room_string (P:=P) w t u ty e i ht hu hi hsize g n cap cur hg s hroom (by omega)
   rw [hr] at hr2
   injection hr2 with e1 e2
   subst e1;subst e2
   exact ⟨g,cap,_,hr,h2,h3,.inl rfl⟩
  ·have hr2:=Lib.run_append_grow_string (P:=P) w t u ty e i (.int .u8 0) ht hu hi hz ⟨g,0,none⟩ n cap xs (by rw [hsize];simpa using hxl) (hown.cells (g:=g) rfl) s (by omega) (by omega) (by rw [hby];exact growslice_fits (by omega) (by omega))
   rw [hr] at hr2
   injection hr2 with e1 e2
   subst e1;subst e2
   exact ⟨_,_,_,hr,h2,h3,.inr rfl⟩
theorem wpList_append_str {P:Program} (w:World) {ops:Array Oper} {rest:List Oper} {o:Oper} {a:Act} {Q:Exit → Act → World → Prop} (hgd:o.guard = none) (sl x:Operand) (t u:TypeId)
  (ho:o.op = .call { callee:=.builtin .append,args:=#[sl,x],argTypes:=#[t,u] })
  (base:Nat) (e:TypeId) (i:TypeInfo) (ht:P.underlying t = some (.slice e)) (hu:P.underlying u = some .string) (hi:P.info? e = some i) (hz:i.zero = some (.int .u8 0))
  (hsize:i.size = 1) (hby:i.bytes = 1) (g cap n:Nat) (xs:List Value) (hs:a.eval sl = .slice (some ⟨g,0,none⟩) n cap) (hown:w.ownsRow base e 1 (.slice (some ⟨g,0,none⟩) n cap) n xs) (s:ByteArray) (hx:a.eval x = .string s)
  (h63:n + s.size ≤ maxLen) (hbytes:n + s.size ≤ 140737488355328) (hbase:base ≤ w.heap.size)
  (h:∀ g' cap' w',w'.ownsRow base e 1 (.slice (some ⟨g',0,none⟩) (n + s.size) cap') (n + s.size) (xs ++ Lib.strCells s) → w.grownBy w' (some g) → (g' = g ∨ g' = w.heap.size) → wpList P ops Q rest (a.put o.dst (.slice (some ⟨g',0,none⟩) (n + s.size) cap')) w'):wpList P ops Q (o :: rest) a w:=by
 refine wpList_plain hgd fun K hK=>?_
 obtain ⟨g',cap',w',hr,h2,h3,h4⟩:=run_append_str (P:=P) w base t u o.type e i ht hu hi hz hsize hby g cap n xs hown s h63 hbytes hbase
 unfold Oper.wp execOp
 simp only [ho,resolve,invoke,builtin,Sem.run_bind,Sem.run_pure,Result.andThen_ok,List.map_toArray,List.map_cons,List.map_nil,hs,hx,hr]
 exact hK _ _ (h g' cap' w' h2 h3 h4)
theorem strCells_str (l:Bs):Lib.strCells (str l) = bcs l:=by simp [Lib.strCells,bcs]
theorem text_any (base:Nat) (v:Value) (l:Bs) (s:Bs) (hs:s.length < 256) (w:World) (hown:w.ownsRow base 5 1 v l.length (bcs l)) (hb:base ≤ w.heap.size) (hl:l.length < 1000000) :
  Calls Tryz.prog 203 #[v,.string (str s)] w (Grew base v (l ++ UInt8.ofNat s.length :: s) w):=by
 obtain ⟨i0,hi,hz0,hz1,hz2⟩:=info_parts Tryz.info5
 have HO:=Lib.hid hown
 clear hown
 have hsz:=str_size s
 have e0:=Lib.hid (ofNat_lt s.length hs)
 have hmod:(s.length:Int) % 256 = s.length:=by omega
 go_enter Tryz.func203,Tryz.ntmps203
 go_wp2_with (at_builtin;refine wpList_append_lies _ rfl (.tmp 5) (.tmp 9) 98 rfl base 5 i0 (.int .u8 0) 1 1 Tryz.underlying98 hi hz0 hz1 hz2 rfl (by decide) v l.length (bcs l) rfl (HO.out.alloc _) ⟨w.heap.size,0,none⟩ 1 1 [.int .u8 (s.length:Int)] rfl rfl ?c1 ?c2 ?c3 ?c4 ?c5 ?c6 _ rfl ?_)
 case c1=>exact World.news_of_block (cs:=#[.int .u8 (s.length:Int)]) (t:=5) (fr:=(0,0)) (heap_alloc_new w _)
 case c2=>simp [Value.oneCell']
 case c3=>decide
 case c4=>unfold maxLen;omega
 case c5=>omega
 case c6=>simp;omega
 intro g cap w1 hown1 hgrow hat hlt
 have HO1:=Lib.hid hown1
 clear hown1
 have hw1:=hgrow.size
 simp at hw1
 go_wp2_with (refine wpList_append_str _ rfl (.tmp 10) (.tmp 11) 98 9 rfl base 5 i0 Tryz.underlying98 Tryz.underlying9 hi hz0 hz1 hz2 g cap (l.length + 1) _ rfl HO1.out (str s) rfl ?d1 ?d2 ?d3 ?_)
 case d1=>unfold maxLen;omega
 case d2=>omega
 case d3=>omega
 intro g' cap' w2 hown2 hgrow2 hat2
 go_wp2_with fail
 go_ret
 refine ⟨g',cap',by simp;omega,?_,?_,?_⟩
 ·have e1:(l ++ UInt8.ofNat s.length :: s).length = l.length + 1 + (str s).size:=by rw [str_size];simp;omega
  have e2:bcs (l ++ UInt8.ofNat s.length :: s) = bcs l ++ [.int .u8 (s.length:Int)] ++ Lib.strCells (str s):=by rw [strCells_str];simp [bcs_append];simp [bcs,e0.out];omega
  rw [e1,e2,str_size,List.append_assoc]
  exact hown2
 ·refine ⟨hgrow2.os.trans hgrow.os,hgrow2.tape.trans hgrow.tape,hgrow2.output.trans hgrow.output,by have:=hgrow2.size;omega,fun k hk hne=>?_⟩
  rcases hat with h | h
  ·exact (hgrow2.block k (by omega) (fun e=>hne (e.trans h.symm))).trans ((hgrow.block k (by simp;omega) hne).trans (Below.heap_alloc w _ k hk))
  ·have:g = w.heap.size + 1:=by rw [h]
   exact (hgrow2.block k (by omega) (fun e=>by injection e with e;omega)).trans ((hgrow.block k (by simp;omega) hne).trans (Below.heap_alloc w _ k hk))
 ·rcases hat2 with h2 | h2
  ·rcases hat with h | h
   ·exact .inl (h.trans (by rw [h2]))
   ·right;rw [h2,h];simp
  ·right;omega
section
variable {α:Type} {val:α → Value}
def entG (val:α → Value) (es:Array MapEntry) (ov:List (Nat × α)):Prop:=es.toList.map (fun e=>(e.key,e.val)) = ov.map (fun p=>(Value.int .i64 (p.1:Int),val p.2))
structure MapG (val:α → Value) (w:World) (m:Nat) (ov:List (Nat × α)):Prop where
 nodup:(ov.map (·.1)).Nodup
 obj:∃ es c,w.heap[m]? = some (.map es c) ∧ entG val es ov ∧ Stamps es c
theorem MapG.lt {w:World} {m:Nat} {ov:List (Nat × α)} (h:MapG val w m ov):m < w.heap.size:=by
 obtain ⟨_,es,c,ho,_⟩:=h
 rcases Nat.lt_or_ge m w.heap.size with hlt | hge
 ·exact hlt
 ·rw [Array.getElem?_eq_none hge] at ho;cases ho
theorem MapG.ext {F:Nat → Prop} {w w':World} {m:Nat} {ov:List (Nat × α)} (h:MapG val w m ov) (he:Ext F w w') (hm:¬ F m):MapG val w' m ov:=by
 have hlt:=h.lt
 obtain ⟨hn,es,c,ho,hr⟩:=h
 exact ⟨hn,es,c,(he.block m hlt hm).trans ho,hr⟩
theorem MapG.made (w:World):MapG val (w.alloc (.map #[] 0)) w.heap.size []:=⟨by simp,#[],0,heap_alloc_new w _,rfl,by simp [Stamps]⟩
theorem findG_none (q:IntKind) (id:Nat):∀ (ov:List (Nat × α)) (es:List MapEntry) (i:Nat),es.map (fun e=>(e.key,e.val)) = ov.map (fun p=>(Value.int .i64 (p.1:Int),val p.2)) → id ∉ ov.map (·.1) → Instr.findNow (.int q) (.int .i64 (id:Int)) es i = some none
 | [],es,i,h,_=>by
  have:es = []:=by simpa using h
  subst this;rfl
 | (a,b) :: ov,[],i,h,_=>by simp at h
 | (a,b) :: ov,e :: es,i,h,hn=>by
  simp only [List.map_cons,List.cons.injEq,Prod.mk.injEq] at h
  obtain ⟨⟨hk,hv⟩,ht⟩:=h
  simp only [List.map_cons,List.mem_cons,not_or] at hn
  have hne:((id:Int) == (a:Int)) = false:=by simpa using (by omega:¬ (id:Int) = (a:Int))
  simp [Instr.findNow,hk,Instr.sameNow,hne,findG_none q id ov es (i + 1) ht hn.2]
theorem findG_some (q:IntKind) (id:Nat) (x:α):∀ (ov:List (Nat × α)) (es:List MapEntry) (i:Nat),es.map (fun e=>(e.key,e.val)) = ov.map (fun p=>(Value.int .i64 (p.1:Int),val p.2)) → ov.lookup id = some x → ∃ j,Instr.findNow (.int q) (.int .i64 (id:Int)) es i = some (some (j,val x))
 | [],es,i,h,hl=>by cases hl
 | (a,b) :: ov,[],i,h,_=>by simp at h
 | (a,b) :: ov,e :: es,i,h,hl=>by
  simp only [List.map_cons,List.cons.injEq,Prod.mk.injEq] at h
  obtain ⟨⟨hk,hv⟩,ht⟩:=h
  by_cases hid:id = a
  ·subst hid
   have:b = x:=by simpa using hl
   subst this
   exact ⟨i,by simp [Instr.findNow,hk,Instr.sameNow,hv]⟩
  ·have hne:((id:Int) == (a:Int)) = false:=by simpa using (by omega:¬ (id:Int) = (a:Int))
   have hne':(id == a) = false:=by simpa using hid
   rw [List.lookup_cons,hne'] at hl
   obtain ⟨j,hj⟩:=findG_some q id x ov es (i + 1) ht hl
   exact ⟨j,by simp [Instr.findNow,hk,Instr.sameNow,hne,hj]⟩
end
theorem run_imgpush {w:World} {m:Nat} {ov:List (Nat × Bs)} (h:MapG (fun b=>.string (str b)) w m ov) {id:Nat} (x:Bs) (hid:id ∉ ov.map (·.1)) :
  ∃ w',(Instr.mapUpdate 132 (.map (some m)) (.int .i64 (id:Int)) (.string (str x))).run Tryz.prog w = .ok () w' ∧ MapG (fun b=>.string (str b)) w' m (ov ++ [(id,x)]) ∧ Ext (fun b=>b = m) w w' ∧ w'.heap.size = w.heap.size:=by
 have hm:=h.lt
 obtain ⟨hnd,es,c,ho,he,hst⟩:=h
 have ext:∀ o,Ext (fun b=>b = m) w { w with heap:=w.heap.setIfInBounds m o }:=fun o=>⟨rfl,rfl,rfl,by simp,fun i hi hne=>by
  simp only [Array.getElem?_setIfInBounds]
  rw [if_neg (fun e=>hne e.symm)]⟩
 have h1:=findG_none (val:=fun b=>.string (str b)) .i64 id ov es.toList 0 he hid
 refine ⟨{ w with heap:=w.heap.setIfInBounds m (.map (es.push { key:=.int .i64 (id:Int),val:=.string (str x),born:=c }) (c + 1)) },?_,?_,ext _,by simp⟩
 ·simp [Instr.mapUpdate,run_underlying Tryz.underlying132,MapKept.run_getObj_map ho,MapKept.run_setObj_map _ ho,chk_int,MapKept.run_findKey Tryz.underlying3 h1,Result.andThen]
 ·refine ⟨?_,_,c + 1,by simp only [Array.getElem?_setIfInBounds,if_pos rfl,hm,if_true];rfl,?_,stamps_push hst _ _⟩
  ·rw [List.map_append]
   refine List.nodup_append.2 ⟨hnd,by simp,?_⟩
   intro a ha b hb e
   have:b = id:=by simpa using hb
   subst this;subst e
   exact hid ha
  ·unfold entG at he ⊢
   simp [he]
theorem run_imglook {w:World} {m:Nat} {ov:List (Nat × Bs)} (h:MapG (fun b=>.string (str b)) w m ov) {id:Nat} {x:Bs} (hl:ov.lookup id = some x) :
  (Instr.lookup 132 (.map (some m)) (.int .i64 (id:Int)) false).run Tryz.prog w = .ok (.string (str x)) w:=by
 obtain ⟨_,es,c,ho,he,_⟩:=h
 obtain ⟨j,h1⟩:=findG_some (val:=fun b=>.string (str b)) .i64 id x ov es.toList 0 he hl
 simp [Instr.lookup,run_underlying Tryz.underlying132,MapKept.run_getObj_map ho,chk_int,MapKept.run_findKey Tryz.underlying3 h1,Result.andThen]
theorem run_imglen {w:World} {m:Nat} {ov:List (Nat × Bs)} (h:MapG (fun b=>.string (str b)) w m ov) (ty:TypeId):(Builtin.len_ #[132] ty #[.map (some m)]).run Tryz.prog w = .ok (.int .i64 (ov.length:Int)) w:=by
 obtain ⟨_,es,c,ho,he,_⟩:=h
 have hl:es.size = ov.length:=by
  have:=congrArg List.length he
  simpa using this
 simp [Builtin.len_,run_underlying Tryz.underlying132,MapKept.run_getObj_map ho,hl,goInt]
theorem wf_small {n:Nat} (h:n < 65536):(Lit.int .i64 (n:Int)).wf = true:=by
 have h1:IntKind.i64.min = -9223372036854775808:=by decide
 have h2:IntKind.i64.max = 9223372036854775807:=by decide
 simp only [Lit.wf,h1,h2,Bool.and_eq_true,decide_eq_true_eq]
 omega
open Go.Maps Go.WideElems in
theorem MapG.owns {α:Type} {val:α → Value} {w:World} {m:Nat} {ov:List (Nat × α)} (h:MapG val w m ov) (hk:∀ p ∈ ov,p.1 < 65536) (hn:ov.length < 65536) :
  ∃ D:DataW Unit,w.ownsMap Tryz.prog 3 (fun _=>some (.nil,[])) m ov.length D ∧ (intKeys D).Perm (ov.map fun p=>(p.1:Int)) ∧ size D = ov.length:=by
 obtain ⟨hnd,es,c,ho,he,hst⟩:=h
 have hl:es.size = ov.length:=by
  have:=congrArg List.length he
  simpa using this
 have hkey:es.toList.map (·.key) = ov.map (fun p=>Value.int .i64 (p.1:Int)):=by
  have:=congrArg (List.map Prod.fst) he
  rw [List.map_map,List.map_map] at this
  exact this
 have hrd:∀ x ∈ es.toList,∃ p ∈ ov,rd Tryz.prog 3 (fun _=>some ((.nil:DataW Unit),([]:List MemPlace))) x = some (.int .i64 (p.1:Int),.nil) ∧ x.key = .int .i64 (p.1:Int):=fun x hx=>by
  have h1:x.key ∈ es.toList.map (·.key):=List.mem_map.2 ⟨x,hx,rfl⟩
  rw [hkey] at h1
  obtain ⟨p,hp,e⟩:=List.mem_map.1 h1
  refine ⟨p,hp,?_,e.symm⟩
  unfold rd
  rw [← e,keyOf_int_mk Tryz.underlying3 (wf_small (hk p hp))]
  rfl
 have hrg:(es.toList.map (rg Tryz.prog 3 (fun _=>some ((.nil:DataW Unit),([]:List MemPlace))))).map (fun p=>Go.intOf p.1) = ov.map fun p=>(p.1:Int):=by
  have h2:es.toList.map (fun x=>Go.intOf (rg Tryz.prog 3 (fun _=>some ((.nil:DataW Unit),([]:List MemPlace))) x).1) = (es.toList.map (·.key)).map (fun v=>match v with | .int _ a=>a | _=>0):=by
   rw [List.map_map]
   apply List.map_congr_left
   intro x hx
   obtain ⟨p,_,h1,h3⟩:=hrd x hx
   unfold rg
   rw [h1]
   show _ = (match x.key with | .int _ a=>a | _=>0)
   rw [h3]
   rfl
  rw [List.map_map]
  simp only [Function.comp_def]
  refine h2.trans ?_
  rw [hkey,List.map_map]
  simp only [Function.comp_def]
 refine ⟨_,⟨es,c,ho,⟨by rw [hl];unfold maxLen;omega,⟨hst.1,hst.2,?_⟩,fun x hx=>?_⟩,by omega,rfl⟩,?_,?_⟩
 ·rw [hkey]
  have e:ov.map (fun p=>Value.int .i64 (p.1:Int)) = (ov.map (fun p=>p.1)).map (fun i:Nat=>Value.int .i64 (i:Int)):=by rw [List.map_map];rfl
  rw [e]
  exact List.Pairwise.map (fun i:Nat=>Value.int .i64 (i:Int)) (fun a b hab e=>hab (by injection e with _ e;omega)) hnd
 ·obtain ⟨p,_,h1,_⟩:=hrd x hx
  exact ⟨_,h1⟩
 ·show (((es.toList.map _).foldr DataW.insert []).map fun p=>Go.intOf p.1).Perm _
  rw [← hrg]
  exact (Go.WideShapes.sorted_perm _).map _
 ·show ((es.toList.map _).foldr DataW.insert []).length = _
  rw [(Go.WideShapes.sorted_perm _).length_eq,List.length_map,Array.length_toList,hl]
theorem sysKeepNo {s:Sys} (hs:s.Ok) {w w':World} (he:Ext No w w') (h:s.db w):s.db w':=hs.keep _ _ he.of_no h
section
variable {w:World} {s:Sys} {v:V}
theorem TxAt.c0 (h:TxAt w s v):w.cell? ⟨s.t,0,none⟩ = some (.pointer (some ⟨s.x,0,none⟩)):=h.tx.cell 0
theorem TxAt.c1 (h:TxAt w s v):w.cell? ⟨s.t,1,none⟩ = some (.int .i64 (v.r 0:Int)):=h.tx.cell 1
theorem TxAt.c2 (h:TxAt w s v):w.cell? ⟨s.t,2,none⟩ = some (.int .i64 (v.r 1:Int)):=h.tx.cell 2
theorem TxAt.c3 (h:TxAt w s v):w.cell? ⟨s.t,3,none⟩ = some (.int .i64 (v.r 2:Int)):=h.tx.cell 3
theorem TxAt.c4 (h:TxAt w s v):w.cell? ⟨s.t,4,none⟩ = some (.int .i64 (v.r 3:Int)):=h.tx.cell 4
theorem TxAt.c5 (h:TxAt w s v):w.cell? ⟨s.t,5,none⟩ = some (.int .i64 (v.high:Int)):=h.tx.cell 5
theorem TxAt.c6 (h:TxAt w s v):w.cell? ⟨s.t,6,none⟩ = some (.int .i64 (v.free:Int)):=h.tx.cell 6
theorem TxAt.c7 (h:TxAt w s v):w.cell? ⟨s.t,7,none⟩ = some (.int .i64 (v.cnt:Int)):=h.tx.cell 7
theorem TxAt.c8 (h:TxAt w s v):w.cell? ⟨s.t,8,none⟩ = some (.map (some s.m)):=h.tx.cell 8
theorem TxAt.c9 (h:TxAt w s v):w.cell? ⟨s.t,9,none⟩ = some (.bool v.marked):=h.tx.cell 9
theorem TxAt.c10 (h:TxAt w s v):w.cell? ⟨s.t,10,none⟩ = some (.bool v.spoilt):=h.tx.cell 10
theorem TxAt.fz (h:TxAt w s v) (i:Nat):w.frozen? ⟨s.t,i,none⟩ = false:=h.tx.frozen i
end
theorem get_any (s:Sys) (hs:s.Ok) (w:World) (v:V) (h:TxAt w s v) (id:Nat) (h1:1 ≤ id) (h2:id < v.high) :
  Calls Tryz.prog 54 #[.pointer (some ⟨s.t,0,none⟩),.int .i64 (id:Int)] w fun e w'=>e = .returned (.tuple #[(v.pg id).val,.int .i64 0]) ∧ Ext No w w':=by
 obtain ⟨ov,hm,_,hv⟩:=h.mp
 obtain ⟨hin,hpg⟩:=hv id h1 h2
 clear hv
 have t5:=h.c5
 have t8:=h.c8
 have t0:=h.c0
 have lt:=h.tx.lt
 have g1:¬ ((id:Int) < 1):=by omega
 have g2:¬ ((v.high:Int) ≤ (id:Int)):=by omega
 cases hl:ov.lookup id with
 | some p =>
  have hpp:v.pg id = p:=by rw [hpg,hl];rfl
  have lk:∀ o,(Instr.lookup 109 (.map (some s.m)) (.int .i64 (id:Int)) true).run Tryz.prog (w.alloc o) = .ok (.tuple #[p.val,.bool true]) (w.alloc o):=fun o=>run_look_hit (hm.ext ((Ext.refl No w).alloc o) (fun h=>h)) hl
  simp only [Leaf.val] at lk
  rw [hpp]
  clear hl hpp hpg
  go_enter Tryz.func54,Tryz.ntmps54
  go_wp2
  refine bodyPost_ret (v:=.tuple #[p.val,.int .i64 0]) (by simp [results,Tryz.results54,go_sem,Leaf.val]) rfl ⟨rfl,?_⟩
  exact (((Ext.refl No w).alloc _).alloc _)
 | none =>
  have hlt:id < s.bh:=hin.resolve_left ((lookup_none_iff ov id).1 hl)
  have hpp:v.pg id = s.base id:=by rw [hpg,hl];rfl
  have lk:∀ o,(Instr.lookup 109 (.map (some s.m)) (.int .i64 (id:Int)) true).run Tryz.prog (w.alloc o) = .ok (.tuple #[.agg #[.int .i64 0,.string (str [])],.bool false]) (w.alloc o):=fun o=>run_look_miss (hm.ext ((Ext.refl No w).alloc o) (fun h=>h)) hl
  rw [hpp]
  generalize hp:s.base id = p
  have HO:=Lib.hid (fun w hd=>hs.opn w id hd h1 hlt)
  simp only [hp] at HO
  clear hl hpp hpg hin hp
  have lx:=World.block_lt_of_cell? w _ (hs.x0 w h.db)
  go_enter Tryz.func54,Tryz.ntmps54
  go_wp2_with fail
  refine (hs.img _ id (sysKeepNo hs (((Ext.refl No w).alloc _).alloc _) h.db) h1 hlt).mono ?_
  rintro e w1 ⟨rfl,hb1⟩
  have lt1:s.t < w1.heap.size:=Nat.lt_of_lt_of_le (by simp;omega) hb1.size
  have l41:w.heap.size < w1.heap.size:=Nat.lt_of_lt_of_le (by simp;omega) hb1.size
  have b4:=(((Blk.new w 113 #[.int .i64 0,.string (str [])]).alloc (.cells #[.int .i64 0,.string (str [])] 113))).ext hb1 (fun h=>h)
  have k0:=b4.cell 0
  have k1:=b4.cell 1
  have f0:=b4.frozen 0
  have f1:=b4.frozen 1
  simp at k0 k1
  go_wp2_with fail
  refine (HO.out _ (sysKeepNo hs hb1 (sysKeepNo hs (((Ext.refl No w).alloc _).alloc _) h.db))).mono ?_
  rintro e w2 ⟨rfl,hb2⟩
  have l42:w.heap.size < w2.heap.size:=Nat.lt_of_lt_of_le l41 hb2.size
  have b5:=b4.ext hb2 (fun h=>h)
  have k0:=b5.cell 0
  have k1:=b5.cell 1
  have f0:=b5.frozen 0
  have f1:=b5.frozen 1
  simp at k0 k1
  go_wp2_with fail
  refine bodyPost_ret (v:=.tuple #[p.val,.int .i64 0]) (by simp [results,Tryz.results54,go_sem,Leaf.val,k0,k1,l42]) rfl ⟨rfl,?_⟩
  exact (((((Ext.refl No w).alloc _).alloc _).trans_ hb1).trans_ hb2).setCell (.inr (by simp)) _ |>.setCell (.inr (by simp)) _
def V.err (v:V) (id:Nat):Nat:=if id < 1 ∨ v.high ≤ id then 2 else if (v.pg id).kind = 255 then 8 else 0
theorem V.err_ok {v:V} {id:Nat} (h:v.err id = 0):1 ≤ id ∧ id < v.high ∧ (v.pg id).kind ≠ 255:=by
 unfold V.err at h
 split at h
 ·omega
 ·split at h
  ·omega
  ·exact ⟨by omega,by omega,by assumption⟩
theorem V.err_cases {v:V} {id:Nat} (h:v.err id ≠ 0):(v.err id = 2 ∧ (id < 1 ∨ v.high ≤ id)) ∨ (v.err id = 8 ∧ 1 ≤ id ∧ id < v.high ∧ (v.pg id).kind = 255):=by
 unfold V.err at h ⊢
 split
 ·exact .inl ⟨rfl,by assumption⟩
 ·split
  ·exact .inr ⟨rfl,by omega,by omega,by assumption⟩
  ·rename_i h1 h2;rw [if_neg h1,if_neg h2] at h;exact absurd rfl h
theorem get_out (s:Sys) (hs:s.Ok) (w:World) (v:V) (h:TxAt w s v) (id:Nat) (h1:id < 1 ∨ v.high ≤ id) :
  Calls Tryz.prog 54 #[.pointer (some ⟨s.t,0,none⟩),.int .i64 (id:Int)] w fun e w'=>e = .returned (.tuple #[.agg #[.int .i64 0,.string (str [])],.int .i64 2]) ∧ Ext No w w':=by
 have t5:=h.c5
 have t0:=h.c0
 have lt:=h.tx.lt
 by_cases g1:(id:Int) < 1
 ·go_enter Tryz.func54,Tryz.ntmps54
  go_wp2_with fail
  refine bodyPost_ret (v:=.tuple #[.agg #[.int .i64 0,.string (str [])],.int .i64 2]) (by simp [results,Tryz.results54,go_sem,str]) rfl ⟨rfl,?_⟩
  exact (((Ext.refl No w).alloc _))
 ·have g2:((v.high:Int) ≤ (id:Int)):=by omega
  go_enter Tryz.func54,Tryz.ntmps54
  go_wp2_with fail
  refine bodyPost_ret (v:=.tuple #[.agg #[.int .i64 0,.string (str [])],.int .i64 2]) (by simp [results,Tryz.results54,go_sem,str]) rfl ⟨rfl,?_⟩
  exact (((Ext.refl No w).alloc _))
theorem there_ok (s:Sys) (hs:s.Ok) (w:World) (v:V) (h:TxAt w s v) (id:Nat) (he:v.err id = 0) :
  Calls Tryz.prog 57 #[.pointer (some ⟨s.t,0,none⟩),.int .i64 (id:Int)] w fun e w'=>e = .returned (.tuple #[(v.pg id).val,.int .i64 0]) ∧ Ext No w w':=by
 obtain ⟨h1,h2,h3⟩:=V.err_ok he
 clear he
 have HG:=Lib.hid (get_any s hs (w.alloc (.cells #[.int .i64 0,.string (str [])] 113)) v (h.no hs ((Ext.refl No w).alloc _)) id h1 h2)
 generalize v.pg id = p at *
 have h3':((p.kind:Int) == 255) = false:=by simpa using (by omega:¬ (p.kind:Int) = 255)
 clear h3
 have t0:=h.c0
 have lt:=h.tx.lt
 go_enter Tryz.func57,Tryz.ntmps57
 go_wp2_with fail
 refine (txup s hs _ (sysKeepNo hs (((Ext.refl No w).alloc _)) h.db) (by simpa [World.cell?_alloc_lt,lt] using h.c0)).mono ?_
 rintro e w1 ⟨rfl,rfl⟩
 go_wp2_with fail
 refine (HG.out).mono ?_
 rintro e w2 ⟨rfl,hb2⟩
 have b4:=((Blk.new w 113 #[.int .i64 0,.string (str [])])).ext hb2 (fun h=>h)
 have k0:=b4.cell 0
 have k1:=b4.cell 1
 have f0:=b4.frozen 0
 have f1:=b4.frozen 1
 have l4:=b4.lt
 simp at k0 k1
 simp only [Leaf.val]
 go_wp2_with fail
 refine bodyPost_ret (v:=.tuple #[p.val,.int .i64 0]) (by simp [results,Tryz.results57,go_sem,Leaf.val,k0,k1,l4]) rfl ⟨rfl,?_⟩
 (repeat' (first | exact Ext.refl _ _ | assumption | apply Ext.alloc | apply Ext.drewN | apply Ext.drew | refine Ext.setNew ?_ (by first | omega | (simp;omega) | simp) _ _ | refine Ext.setF ?_ (by first | exact Or.inl rfl | exact Or.inr rfl | rfl) _ _ | refine Ext.trans_ ?_ (by assumption) | refine Ext.trans_ ?_ (Ext.of_no (by assumption))))
theorem there_bad (s:Sys) (hs:s.Ok) (w:World) (v:V) (h:TxAt w s v) (id:Nat) (he:v.err id ≠ 0) :
  Calls Tryz.prog 57 #[.pointer (some ⟨s.t,0,none⟩),.int .i64 (id:Int)] w fun e w'=>e = .returned (.tuple #[.agg #[.int .i64 0,.string (str [])],.int .i64 (v.err id:Int)]) ∧ Ext No w w':=by
 have t0:=h.c0
 have lt:=h.tx.lt
 rcases V.err_cases he with ⟨e2,h1⟩ | ⟨e8,h1,h2,h3⟩
 ·rw [e2]
  clear he
  have HG:=Lib.hid (get_out s hs (w.alloc (.cells #[.int .i64 0,.string (str [])] 113)) v (h.no hs ((Ext.refl No w).alloc _)) id h1)
  clear e2 h1
  go_enter Tryz.func57,Tryz.ntmps57
  go_wp2_with fail
  refine (txup s hs _ (sysKeepNo hs (((Ext.refl No w).alloc _)) h.db) (by simpa [World.cell?_alloc_lt,lt] using h.c0)).mono ?_
  rintro e w1 ⟨rfl,rfl⟩
  go_wp2_with fail
  refine (HG.out).mono ?_
  rintro e w2 ⟨rfl,hb2⟩
  have b4:=((Blk.new w 113 #[.int .i64 0,.string (str [])])).ext hb2 (fun h=>h)
  have k0:=b4.cell 0
  have k1:=b4.cell 1
  have f0:=b4.frozen 0
  have f1:=b4.frozen 1
  have l4:=b4.lt
  simp at k0 k1
  go_wp2_with fail
  refine bodyPost_ret (v:=.tuple #[.agg #[.int .i64 0,.string (str [])],.int .i64 2]) (by simp [results,Tryz.results57,go_sem,Leaf.val,k0,k1,l4]) rfl ⟨rfl,?_⟩
  (repeat' (first | exact Ext.refl _ _ | assumption | apply Ext.alloc | apply Ext.drewN | apply Ext.drew | refine Ext.setNew ?_ (by first | omega | (simp;omega) | simp) _ _ | refine Ext.setF ?_ (by first | exact Or.inl rfl | exact Or.inr rfl | rfl) _ _ | refine Ext.trans_ ?_ (by assumption) | refine Ext.trans_ ?_ (Ext.of_no (by assumption))))
 ·rw [e8]
  clear he
  have HG:=Lib.hid (get_any s hs (w.alloc (.cells #[.int .i64 0,.string (str [])] 113)) v (h.no hs ((Ext.refl No w).alloc _)) id h1 h2)
  clear e8
  generalize v.pg id = p at *
  obtain ⟨pk,pb⟩:=p
  simp only at h3
  subst h3
  go_enter Tryz.func57,Tryz.ntmps57
  go_wp2_with fail
  refine (txup s hs _ (sysKeepNo hs (((Ext.refl No w).alloc _)) h.db) (by simpa [World.cell?_alloc_lt,lt] using h.c0)).mono ?_
  rintro e w1 ⟨rfl,rfl⟩
  go_wp2_with fail
  refine (HG.out).mono ?_
  rintro e w2 ⟨rfl,hb2⟩
  have b4:=((Blk.new w 113 #[.int .i64 0,.string (str [])])).ext hb2 (fun h=>h)
  have k0:=b4.cell 0
  have k1:=b4.cell 1
  have f0:=b4.frozen 0
  have f1:=b4.frozen 1
  have l4:=b4.lt
  simp at k0 k1
  simp only [Leaf.val]
  go_wp2_with fail
  refine bodyPost_ret (v:=.tuple #[.agg #[.int .i64 0,.string (str [])],.int .i64 8]) (by simp [results,Tryz.results57,go_sem,Leaf.val,k0,k1,l4,str]) rfl ⟨rfl,?_⟩
  (repeat' (first | exact Ext.refl _ _ | assumption | apply Ext.alloc | apply Ext.drewN | apply Ext.drew | refine Ext.setNew ?_ (by first | omega | (simp;omega) | simp) _ _ | refine Ext.setF ?_ (by first | exact Or.inl rfl | exact Or.inr rfl | rfl) _ _ | refine Ext.trans_ ?_ (by assumption) | refine Ext.trans_ ?_ (Ext.of_no (by assumption))))
theorem read_ok (s:Sys) (hs:s.Ok) (w:World) (v:V) (h:TxAt w s v) (id:Nat) (he:v.err id = 0) :
  Calls Tryz.prog 47 #[.pointer (some ⟨s.t,0,none⟩),.int .i64 (id:Int)] w fun e w'=>e = .returned (.tuple #[.int .i64 ((v.pg id).kind:Int),.string (str (v.pg id).body),.int .i64 0]) ∧ Ext No w w':=by
 have HG:=Lib.hid (there_ok s hs w v h id he)
 clear he
 generalize v.pg id = p at *
 go_enter Tryz.func47,Tryz.ntmps47
 go_wp2_with fail
 refine (HG.out).mono ?_
 rintro e w2 ⟨rfl,hb2⟩
 simp only [Leaf.val]
 go_wp2_with fail
 go_quiet (fail)
 go_wp2_with fail
 go_ret3
 exact ⟨rfl,(hb2.alloc _).drewN _⟩
theorem read_bad (s:Sys) (hs:s.Ok) (w:World) (v:V) (h:TxAt w s v) (id:Nat) (he:v.err id ≠ 0) :
  Calls Tryz.prog 47 #[.pointer (some ⟨s.t,0,none⟩),.int .i64 (id:Int)] w fun e w'=>e = .returned (.tuple #[.int .i64 0,.string (str []),.int .i64 (v.err id:Int)]) ∧ Ext No w w':=by
 have HG:=Lib.hid (there_bad s hs w v h id he)
 have hb:((v.err id:Int) == 0) = false:=by simpa using (by omega:¬ (v.err id:Int) = 0)
 clear he
 generalize v.err id = p at *
 go_enter Tryz.func47,Tryz.ntmps47
 go_wp2_with fail
 refine (HG.out).mono ?_
 rintro e w2 ⟨rfl,hb2⟩
 go_wp2_with fail
 go_ret3
 exact ⟨rfl,(hb2.alloc _)⟩
def V.put (v:V) (id:Nat) (p:Leaf):V:={ v with pg:=fun j=>if j = id then p else v.pg j }
theorem TxAt.step {w w':World} {s:Sys} {v:V} (hs:s.Ok) (h:TxAt w s v) {ov:List (Nat × Leaf)} {id:Nat} {p:Leaf} {v':V}
  (hk:∀ i q,(i,q) ∈ ov → 1 ≤ i ∧ i < v.high) (hv:∀ i,1 ≤ i → i < v.high → (i ∈ ov.map (·.1) ∨ i < s.bh) ∧ v.pg i = (ov.lookup i).getD (s.base i))
  (hm:MapAt w' s.m (setOv ov id p)) (he:Ext s.F w w') (ht:Blk w' s.t 111 (v'.cells s)) (h1:1 ≤ id) (h2:id < v'.high) (h3:v'.high = v.high ∨ v'.high = v.high + 1 ∧ id = v.high)
  (h4:v'.high ≤ s.cap) (h5:v'.cnt ≤ v'.high) (hp:v'.pg = (v.put id p).pg):TxAt w' s v':=by
 have hh:=h.h1
 have hb:=h.hb
 refine ⟨ht,hs.keep _ _ he h.db,by omega,h4,by omega,h5,_,hm,?_,?_⟩
 ·intro i q hq
  rcases setOv_mem hq with e | hq
  ·simp only at e;omega
  ·have:=hk i q hq;omega
 ·intro i hi1 hi2
  rw [setOv_lookup,hp]
  simp only [V.put]
  by_cases hi:i = id
  ·subst hi
   refine ⟨.inl ?_,by simp⟩
   rw [setOv_keys]
   split
   ·assumption
   ·simp
  ·obtain ⟨k1,k2⟩:=hv i hi1 (by omega)
   refine ⟨k1.imp (fun hm=>?_) (fun h=>h),by simp [hi,k2]⟩
   rw [setOv_keys]
   split
   ·exact hm
   ·exact List.mem_append.2 (.inl hm)
theorem V.cells_put (v:V) (s:Sys) (id:Nat) (p:Leaf):(v.put id p).cells s = v.cells s:=rfl
theorem Ext.of_m {s:Sys} {w w':World} (h:Ext (fun b=>b = s.m) w w'):Ext s.F w w':=h.mono fun _ _ e=>.inr e
theorem write_ok (s:Sys) (hs:s.Ok) (w:World) (v:V) (h:TxAt w s v) (id kind:Nat) (body:List UInt8) (he:v.err id = 0) (hk1:1 ≤ kind) (hk2:kind < 255) (hb:body.length ≤ 500) :
  Calls Tryz.prog 20 #[.pointer (some ⟨s.t,0,none⟩),.int .i64 (id:Int),.int .i64 (kind:Int),.string (str body)] w fun e w'=>e = .returned (.int .i64 0) ∧ TxAt w' s (v.put id ⟨kind,body⟩) ∧ Ext s.F w w':=by
 have HG:=Lib.hid (there_ok s hs w v h id he)
 obtain ⟨h1,h2,_⟩:=V.err_ok he
 clear he
 have g1:¬ ((kind:Int) < 1):=by omega
 have g2:¬ ((255:Int) ≤ kind):=by omega
 have g3:¬ (500 < body.length):=by omega
 have g4:(str body).size = body.length:=str_size body
 go_enter Tryz.func20,Tryz.ntmps20
 go_wp2_with fail
 refine (HG.out).mono ?_
 rintro e w2 ⟨rfl,hb2⟩
 have h':=h.no hs hb2
 obtain ⟨ov,hm,hk,hv⟩:=h'.mp
 have hmt:s.t ≠ s.m:=hm.ne h'.tx
 have ms:∀ o,(Instr.mapUpdate 109 (.map (some s.m)) (.int .i64 (id:Int)) (.agg #[.int .i64 (kind:Int),.string (str body)])).run Tryz.prog (w2.alloc o) = .ok () (mset (w2.alloc o) s.m id ⟨kind,body⟩):=fun o=>(mset_run (hm.ext ((Ext.refl No w2).alloc o) (fun h=>h)) id ⟨kind,body⟩).1
 have ms2:=fun o=>(mset_run (hm.ext ((Ext.refl No w2).alloc o) (fun h=>h)) id ⟨kind,body⟩).2
 have t8:=h'.c8
 have lt:=h'.tx.lt
 have HK:=Lib.hid hk;have HV:=Lib.hid hv;have HM:=Lib.hid ms2
 clear hk hv ms2
 simp only [Leaf.val]
 go_wp2_with fail
 go_ret
 have hE:Ext s.F w2 (mset (w2.alloc (.cells #[.int .i64 ((v.pg id).kind:Int),.string (str (v.pg id).body)] 113)) s.m id ⟨kind,body⟩):=((Ext.refl _ _).alloc _).trans_ (mset_ext _ _ _ _).of_m
 refine ⟨rfl,?_,hb2.of_no.trans_ hE⟩
 refine TxAt.step hs h' HK.out HV.out (HM.out _) hE ?_ h1 h2 (.inl rfl) h'.h2 h'.hc rfl
 rw [V.cells_put]
 exact (mset_heap _ _ _ _ _ hmt).trans (h'.tx.alloc _)
theorem write_bad (s:Sys) (hs:s.Ok) (w:World) (v:V) (h:TxAt w s v) (id kind:Nat) (body:ByteArray) (he:v.err id ≠ 0) :
  Calls Tryz.prog 20 #[.pointer (some ⟨s.t,0,none⟩),.int .i64 (id:Int),.int .i64 (kind:Int),.string body] w fun e w'=>e = .returned (.int .i64 (v.err id:Int)) ∧ Ext No w w':=by
 have HG:=Lib.hid (there_bad s hs w v h id he)
 have hb:((v.err id:Int) == 0) = false:=by simpa using (by omega:¬ (v.err id:Int) = 0)
 clear he
 generalize v.err id = p at *
 go_enter Tryz.func20,Tryz.ntmps20
 go_wp2_with fail
 refine (HG.out).mono ?_
 rintro e w2 ⟨rfl,hb2⟩
 go_wp2_with fail
 go_ret
 exact ⟨rfl,by (repeat' (first | exact Ext.refl _ _ | assumption | apply Ext.alloc | apply Ext.drewN | apply Ext.drew | refine Ext.setNew ?_ (by first | omega | (simp;omega) | simp) _ _ | refine Ext.setF ?_ (by first | exact Or.inl rfl | exact Or.inr rfl | rfl) _ _ | refine Ext.trans_ ?_ (by assumption) | refine Ext.trans_ ?_ (Ext.of_no (by assumption))))⟩
theorem root_any (s:Sys) (hs:s.Ok) (w:World) (v:V) (h:TxAt w s v) (i:Nat) (hi:i < 4) :
  Calls Tryz.prog 46 #[.pointer (some ⟨s.t,0,none⟩),.int .i64 (i:Int)] w fun e w'=>e = .returned (.int .i64 (v.r i:Int)) ∧ w = w':=by
 have t0:=h.c0
 have t1:=h.c1
 have t2:=h.c2
 have t3:=h.c3
 have t4:=h.c4
 have HU:=Lib.hid (txup s hs w h.db t0)
 match i,hi with
 | 0,_ | 1,_ | 2,_ | 3,_ =>
  go_enter Tryz.func46,Tryz.ntmps46
  go_wp2_with fail
  refine (HU.out).mono ?_
  rintro e w2 ⟨rfl,rfl⟩
  go_wp2_with fail
  go_ret
  exact ⟨rfl,rfl⟩
theorem TxAt.re {w w':World} {s:Sys} {v:V} (hs:s.Ok) (h:TxAt w s v) (v':V) (he:Ext s.F w w') (ht:Blk w' s.t 111 (v'.cells s)) (hm:w'.heap[s.m]? = w.heap[s.m]?)
  (hp:v'.pg = v.pg) (hh:v'.high = v.high) (hc:v'.cnt ≤ v'.high):TxAt w' s v':=by
 obtain ⟨ov,⟨hn,es,c,ho,hes⟩,hk,hv⟩:=h.mp
 exact ⟨ht,hs.keep _ _ he h.db,hh ▸ h.h1,hh ▸ h.h2,hh ▸ h.hb,hc,ov,⟨hn,es,c,hm.trans ho,hes⟩,hh ▸ hk,by rw [hh,hp];exact hv⟩
theorem TxAt.tm {w:World} {s:Sys} {v:V} (h:TxAt w s v):s.t ≠ s.m:=by
 obtain ⟨ov,hm,_⟩:=h.mp
 exact hm.ne h.tx
theorem heap_set2 (w:World) (t m i j:Nat) (u u':Value) (h:t ≠ m):(((w.setCell ⟨t,i,none⟩ u).setCell ⟨t,j,none⟩ u').heap[m]?) = w.heap[m]? :=
 (Below.heap_setCell _ ⟨t,j,none⟩ u' m (Ne.symm h)).trans (Below.heap_setCell _ ⟨t,i,none⟩ u m (Ne.symm h))
def V.setR (v:V) (i n:Nat):V:={ v with r:=fun j=>if j = i then n else v.r j,marked:=true }
theorem setroot_any (s:Sys) (hs:s.Ok) (w:World) (v:V) (h:TxAt w s v) (i n:Nat) (hi:i < 4) (hn:n < 2147483648) :
  Calls Tryz.prog 21 #[.pointer (some ⟨s.t,0,none⟩),.int .i64 (i:Int),.int .i64 (n:Int)] w fun e w'=>e = .returned (.int .i64 0) ∧ TxAt w' s (v.setR i n) ∧ Ext s.F w w':=by
 have t0:=h.c0
 have t1:=h.c1
 have t2:=h.c2
 have t3:=h.c3
 have t4:=h.c4
 have t9:=h.c9
 have f0:=h.fz
 have HU:=Lib.hid (txup s hs w h.db t0)
 have g2:decide ((n:Int) ≥ 2147483648) = false:=by simp;omega
 have g3:decide ((n:Int) < 0) = false:=by simp
 clear hn
 match i,hi with
 | 0,_ | 1,_ | 2,_ | 3,_ =>
  go_enter Tryz.func21,Tryz.ntmps21
  go_wp2_with fail
  refine (HU.out).mono ?_
  rintro e w2 ⟨rfl,rfl⟩
  go_wp2_with fail
  go_ret
  refine ⟨rfl,?_,by (repeat' (first | exact Ext.refl _ _ | assumption | apply Ext.alloc | apply Ext.drewN | apply Ext.drew | refine Ext.setNew ?_ (by first | omega | (simp;omega) | simp) _ _ | refine Ext.setF ?_ (by first | exact Or.inl rfl | exact Or.inr rfl | rfl) _ _ | refine Ext.trans_ ?_ (by assumption) | refine Ext.trans_ ?_ (Ext.of_no (by assumption))))⟩
  exact h.re hs _ (by (repeat' (first | exact Ext.refl _ _ | assumption | apply Ext.alloc | apply Ext.drewN | apply Ext.drew | refine Ext.setNew ?_ (by first | omega | (simp;omega) | simp) _ _ | refine Ext.setF ?_ (by first | exact Or.inl rfl | exact Or.inr rfl | rfl) _ _ | refine Ext.trans_ ?_ (by assumption) | refine Ext.trans_ ?_ (Ext.of_no (by assumption))))) ((h.tx.set_ _ _).set_ _ _) (heap_set2 _ _ _ _ _ _ _ h.tm) rfl rfl h.hc
theorem spoil_any (s:Sys) (hs:s.Ok) (w:World) (v:V) (h:TxAt w s v) :
  Calls Tryz.prog 96 #[.pointer (some ⟨s.t,0,none⟩)] w fun e w'=>e = .returned (.tuple #[]) ∧ TxAt w' s { v with spoilt:=true } ∧ Ext s.F w w':=by
 have t10:=h.c10
 have f0:=h.fz
 go_enter Tryz.func96,Tryz.ntmps96
 go_wp2_with fail
 go_end0
 refine ⟨rfl,?_,by (repeat' (first | exact Ext.refl _ _ | assumption | apply Ext.alloc | apply Ext.drewN | apply Ext.drew | refine Ext.setNew ?_ (by first | omega | (simp;omega) | simp) _ _ | refine Ext.setF ?_ (by first | exact Or.inl rfl | exact Or.inr rfl | rfl) _ _ | refine Ext.trans_ ?_ (by assumption) | refine Ext.trans_ ?_ (Ext.of_no (by assumption))))⟩
 exact h.re hs _ (by (repeat' (first | exact Ext.refl _ _ | assumption | apply Ext.alloc | apply Ext.drewN | apply Ext.drew | refine Ext.setNew ?_ (by first | omega | (simp;omega) | simp) _ _ | refine Ext.setF ?_ (by first | exact Or.inl rfl | exact Or.inr rfl | rfl) _ _ | refine Ext.trans_ ?_ (by assumption) | refine Ext.trans_ ?_ (Ext.of_no (by assumption))))) (h.tx.set_ _ _) (Below.heap_setCell _ ⟨_,_,none⟩ _ _ (Ne.symm h.tm)) rfl rfl h.hc
end Go.Proofs.YtccnemmlkcmceaaGreatDoor
