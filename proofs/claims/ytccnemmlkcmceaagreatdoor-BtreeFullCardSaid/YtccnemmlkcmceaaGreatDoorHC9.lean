/- Proofs about the given program, joined out of the texts LG8, PG1, PG2, Z4, PX, PY, PB1, PB3. -/
import Derived.Test.YtccnemmlkcmceaaGreatDoorHC1
import Derived.Test.YtccnemmlkcmceaaGreatDoorHC2
import Derived.Test.YtccnemmlkcmceaaGreatDoorHC3
import Derived.Test.YtccnemmlkcmceaaGreatDoorHC5
import Derived.Test.YtccnemmlkcmceaaGreatDoorHC6
import Derived.Test.YtccnemmlkcmceaaGreatDoorHC8
import Derived.Lib.AppendStr
import Derived.Deep.RegionLaw
import Derived.BigQuiet
import Derived.Laws.BitsAllLaws
import Derived.Lib.BufferWrite
import Derived.Deep.RegionHeld3
import Derived.Lib.AtoiErrMem
import Derived.Deep.LoopGhost
set_option linter.unusedVariables false
set_option linter.unusedSimpArgs false
set_option maxRecDepth 100000
set_option maxHeartbeats 6400000
namespace Go.Proofs.YtccnemmlkcmceaaGreatDoor
open Go.RowKit
theorem Own.part {w:World} {D:Nat → Prop} {x n c:Nat} {e:TypeId} {A:Option Addr} {xs:List Value} (h:Own w D x e (.slice A n c) n xs) (h1:∀ u ∈ xs,u.oneCell' = true):Part.Ok w 1 ⟨A,n,c,xs⟩ :=
 ⟨(Rd.own_lo h.row (by decide)).mono (by decide) (fun b _ hb=>hb.elim),own_nilcap h.row,h1,own_cap h.row⟩
theorem own_at {w:World} {base n c:Nat} {e:TypeId} {A:Option Addr} {xs:List Value} (h:w.ownsRow base e 1 (.slice A n c) n xs) (hn:0 < n):∃ g,A = some ⟨g,0,none⟩ ∧ base ≤ g ∧ g < w.heap.size ∧ n ≤ c ∧ ∀ j u,xs[j]? = some u → w.cell? ⟨g,j,none⟩ = some u:=by
 rcases h.2 with ⟨h0,_⟩ | ⟨g,cap,cur,e1,hb,hg,hnc,_⟩
 ·cases h0;omega
 ·injection e1 with e1 e2 e3
  subst e1
  refine ⟨g,rfl,hb,?_,by omega,fun j u hu=>?_⟩
  ·rcases Nat.lt_or_ge g w.heap.size with h1 | h1
   ·exact h1
   ·rw [Array.getElem?_eq_none h1] at hg;cases hg
  ·have:=h.cells (g:=g) rfl j u hu
   rw [Addr.add_none,Nat.zero_add] at this
   exact this
theorem own_base0 {w:World} {base n:Nat} {e:TypeId} {v:Value} {xs:List Value} (h:w.ownsRow base e 1 v n xs):w.ownsRow 0 e 1 v n xs:=by
 refine ⟨h.1,?_⟩
 rcases h.2 with h0 | ⟨g,cap,cur,e1,hb,r⟩
 ·exact .inl h0
 ·exact .inr ⟨g,cap,cur,e1,Nat.zero_le _,r⟩
def Newer (w:World) (D D':Nat → Prop):Prop:=∀ b,D' b → D b ∨ w.heap.size ≤ b
def syncOf (cr:Bs → Nat) (k:Dk) (l:Lg) (rec:Bs):Nat × Dk :=
 if (k.logLay l.bytes (l.bytes ++ frameOf cr rec)).1 ≠ 0 then k.logLay l.bytes (l.bytes ++ frameOf cr rec) else (k.logLay l.bytes (l.bytes ++ frameOf cr rec)).2.logHead cr l.epoch (l.bytes ++ frameOf cr rec).length
structure Synced (w:World) (D Dd:Nat → Prop) (x d m kb:Nat) (l:Lg) (R:Nat × Dk) (l9:Lg) (e:Ending) (w':World):Prop where
 e:e = .returned (.int .i64 (R.1:Int))
 at_:∃ Dd' D',DiskAt w' Dd' d kb R.2 ∧ (R.1 = 0 → LogAt w' D' x d m l9) ∧ (∀ b,D' b → ¬ Dd' b) ∧ Newer w Dd Dd' ∧ Newer w D D'
 x:Ext (fun b=>Dd b ∨ D b) w w'
theorem lg_sync {w:World} {D Dd:Nat → Prop} {x d m kb:Nat} {l:Lg} {k:Dk} {T:Nat → Nat} (h:LogAt w D x d m l) (hd:DiskAt w Dd d kb k) (hT:Half w T) (h0:¬ Dd 0) (h0':¬ D 0) (hap:∀ b,D b → ¬ Dd b) (hk:k.Near (2^27)) (he:l.epoch < 2^59) (hl:l.lost = false) (rec:Bs) (hp:l.pend = [rec])
  (hrl:rec.length ≤ 65536) (hfit:l.bytes.length + (rec.length + 8) ≤ 64 * (m - 1)) (hmn:m ≤ k.n) (hnr:l.recs.length < 2^20) (hnear:(k.logLay l.bytes (l.bytes ++ frameOf (crc T) rec)).2.Near (2^29)) :
  Calls Tryz.prog 72 #[.pointer (some ⟨x,0,none⟩)] w (Synced w D Dd x d m kb l (syncOf (crc T) k l rec) { l with bytes:=l.bytes ++ frameOf (crc T) rec,recs:=l.recs ++ [rec],pend:=[] }):=by
 obtain ⟨F,hF⟩:∃ F,F = frameOf (crc T) rec:=⟨_,rfl⟩
 have hFl:F.length = rec.length + 8:=by rw [hF];simp only [frameOf,List.length_append,n4_len];omega
 have HFR:=Lib.hid (fun w hT=>lg_frame T w hT rec (by omega))
 rw [← hF] at HFR
 obtain ⟨all,hall⟩:∃ all,all = l.bytes ++ F:=⟨_,rfl⟩
 have hal:all.length = l.bytes.length + F.length:=by rw [hall,List.length_append]
 obtain ⟨S,hS⟩:∃ S,S = k.logLay l.bytes all:=⟨_,rfl⟩
 obtain ⟨R,hR⟩:∃ R,R = syncOf (crc T) k l rec:=⟨_,rfl⟩
 have hR2:R = if S.1 ≠ 0 then S else S.2.logHead (crc T) l.epoch all.length:=by rw [hR];unfold syncOf;rw [← hF,← hall,← hS]
 rw [← hF,← hall,← hS] at hnear
 rw [← hR]
 obtain ⟨l9,h9⟩:∃ l9:Lg,l9 = { l with bytes:=l.bytes ++ frameOf (crc T) rec,recs:=l.recs ++ [rec],pend:=[] }:=⟨_,rfl⟩
 rw [← h9]
 rw [← hF,← hall] at h9
 have H9:=Lib.hid h9
 obtain ⟨Q,hQ⟩:∃ Q,Q = Synced w D Dd x d m kb l R l9:=⟨_,rfl⟩
 rw [← hQ]
 have HQ:=Lib.hid hQ
 have HU:=Lib.hid (lg_up h)
 rw [hl] at HU
 obtain ⟨Ab,cb,Ar,cr,Ap,cp,hb,ob,or_,op,hdj⟩:=h.cells
 have hblt:l.bytes.length < 5000000:=by have:=h.m2;omega
 have HCL:=Lib.hid (clone_bytes ⟨Ab,l.bytes.length,cb,bcs l.bytes⟩ w (ob.part (fun u hu=>bcs_one u hu)) hblt)
 simp only [Part.v] at HCL
 rw [hp] at op
 obtain ⟨gp,hAp,_,hgpl,_,hgpc⟩:=own_at op.row (by simp)
 subst hAp
 have HPC:Hid (w.cell? ⟨gp,0,none⟩ = some (.string (str rec))):=Lib.hid (hgpc 0 _ rfl)
 have c4:w.cell? ⟨x,4,none⟩ = some (.slice Ab l.bytes.length cb):=hb.cell 4
 have c6:w.cell? ⟨x,6,none⟩ = some (.slice (some ⟨gp,0,none⟩) l.pend.length cp):=hb.cell 6
 rw [hp] at c6
 have hxl:=hb.lt
 have HC6:=Lib.hid c6
 have HL:=Lib.hid h;have HD:=Lib.hid hd;have HT:=Lib.hid hT;have H0:=Lib.hid h0;have H0':=Lib.hid h0';have HAP:=Lib.hid hap;have HK:=Lib.hid hk;have HE:=Lib.hid he;have HLL:=Lib.hid hl;have HP:=Lib.hid hp
 have HN:=Lib.hid hnear;have HR2:=Lib.hid hR2;have HSS:=Lib.hid hS;have HALL:=Lib.hid hall
 have HFIT:Hid (all.length ≤ 64 * (m - 1) ∧ all.length = l.bytes.length + F.length ∧ F.length = rec.length + 8 ∧ rec.length ≤ 65536 ∧ m ≤ k.n ∧ m ≤ 65536 ∧ l.recs.length < 2^20 ∧ 2 ≤ m):=Lib.hid ⟨by omega,hal,hFl,hrl,hmn,h.m2,hnr,h.m1⟩
 have hcp:1 ≤ cp:=own_cap op.row
 obtain ⟨i0,hti,htz0,htz1,htz2⟩:=info_parts Tryz.info5b
 obtain ⟨L,hL⟩:∃ L,L = l.bytes.length:=⟨_,rfl⟩
 have HLEN:=Lib.hid hL
 rw [← hL] at HCL c4 hblt
 clear h hd hT h0 h0' hap hk he hl hp hrl hfit hmn hnr hnear hR hR2 hS hall hal hFl hF h9 hQ hb ob or_ op hdj hgpc hL
 go_enter Tryz.func72,Tryz.ntmps72
 go_wp2_with fail
 refine (HU.out).mono ?_
 rintro e w1 ⟨rfl,rfl⟩
 go_wp2_with fail
 refine (HCL.out).mono ?_
 rintro e w1 ⟨A1,c1,rfl,hown1,hx1⟩
 have HO1:=Lib.hid hown1;have HX1:=Lib.hid hx1
 have c61:=cell_ext hx1 HC6.out (fun h=>h)
 have hxl1:x < w1.heap.size:=by have:=hx1.size;omega
 clear hown1 hx1 c4 c6 HCL HU
 go_wp2_with fail
 go_loopg [4,30] 1 (fun gk q4 q30 wr=>∃ (j n c:Nat) (A:Option Addr) (bs:Bs),j + gk = 1 ∧ q30 = .int .i64 (j:Int) ∧ q4 = .slice A n c ∧ Hid (n = bs.length) ∧ Hid (wr.ownsRow w.heap.size 5 1 (.slice A n c) n (bcs bs)) ∧ Hid (Ext No w wr) ∧ Hid (bs = if j = 0 then l.bytes else all))
 case atStart=>exact ⟨0,L,c1,A1,l.bytes,by omega,rfl,rfl,HLEN,HO1,HX1,Lib.hid rfl⟩
 case round =>
  obtain ⟨j,n,c,A,bs,hj,rfl,rfl,HNN,HOW,HX,HBS⟩:=hrel
  by_cases hj0:j = 0
  ·subst hj0
   have hg:gk = 1:=by omega
   subst hg
   have k0:=cell_ext HX.out HPC.out (fun h=>h)
   have hgl:=World.block_lt_of_cell? wr _ k0
   simp only at hgl
   have HFR1:=Lib.hid (HFR.out wr (HT.out.ext HX.out (fun h=>h)))
   have hbl:n < 5000000:=by rw [HNN.out,HBS.out,if_pos rfl];have:=HLEN.out;omega
   have hfl:F.length < 100000:=by have:=HFIT.out;omega
   clear hj
   go_wp2_with fail
   refine (HFR1.out).mono ?_
   rintro e w2 ⟨rfl,hx2⟩
   have HX2:=Lib.hid (HX.out.trans_ hx2)
   have HOW2:=Lib.hid (own_ext HOW.out hx2 (fun _ _ h=>h))
   have hsz2:=HX2.out.size
   clear hx2 k0
   go_wp2_with (at_builtin;refine Lib.wpList_append_own_string _ (by rfl) _ _ 98 9 (by rfl) w.heap.size 5 i0 Tryz.underlying98 Tryz.underlying9 hti htz0 htz1 htz2 (.slice A n c) n (bcs bs) (by rfl) HOW2.out (str F) (by rfl) (by rw [str_size];unfold maxLen;omega) (by rw [str_size];omega) hsz2 ?_)
   intro v' w3 hown3 hg3 _
   obtain ⟨A3,c3,hv⟩:=own_form hown3
   subst hv
   have HX3:=Lib.hid (HX2.out.grown hg3 (own_bounds HOW2.out (Nat.le_refl _)))
   rw [strCells_str] at hown3
   obtain ⟨n3,hn3⟩:∃ n3,n3 = n + F.length:=⟨_,rfl⟩
   have HN3:Hid (n3 = all.length):=Lib.hid (by have h1:=HBS.out;simp only [if_true] at h1;rw [hn3,HNN.out,h1];exact HFIT.out.2.1.symm)
   rw [← hn3] at hown3 ⊢
   have HO3:Hid (w3.ownsRow w.heap.size 5 1 (.slice A3 n3 c3) n3 (bcs all)):=Lib.hid (by
    have e:bcs bs ++ bcs F = bcs all:=by have h1:=HBS.out;simp only [if_true] at h1;rw [← bcs_append,h1,HALL.out]
    rw [← e];exact hown3)
   clear hown3 hg3 hn3
   go_wp2_with fail
   go_roundg 0
   case rel=>exact ⟨1,n3,c3,A3,all,by omega,by go_num,rfl,HN3,HO3,HX3,Lib.hid rfl⟩
   case measure=>omega
  ·have hj1:j = 1:=by omega
   subst hj1
   have hn:n = all.length:=by rw [HNN.out,HBS.out,if_neg (by omega)]
   have hba:bs = all:=by rw [HBS.out,if_neg (by omega)]
   subst hba
   obtain ⟨f1,f2,f3,f4,f5,f6,f7,f8⟩:=HFIT.out
   have hnp:0 < n:=by omega
   obtain ⟨g,hA,hgb,hgl,hgc,hcells⟩:=own_at HOW.out hnp
   subst hA
   subst hn
   have HL1:=Lib.hid (HL.out.ext HX.out (fun _ _ h=>h))
   have HD1:=Lib.hid (HD.out.ext HX.out (fun _ _ h=>h))
   have hxs:=HX.out.size
   have HLAY:=Lib.hid (lg_lay HL1.out HD1.out HAP.out (HK.out.mono (by decide)) bs hcells (fun hg=>by have:=HD.out.old g hg;omega) hgl hgc f1 (by omega) f5)
   rw [← HSS.out] at HLAY
   have HGB:=Lib.hid (And.intro hgb (And.intro hgl hgc))
   have hbl:(bs.length:Int) < 4294967296:=by omega
   clear hj hj0 hnp hcells hgb hgl hgc f1 f2 f3 f4 f5 f6 f7 f8
   go_wp2_with fail
   refine (HLAY.out).mono ?_
   rintro e w3 ⟨rfl,hd3,hx3⟩
   have HD3:=Lib.hid hd3;have HX3:=Lib.hid hx3
   have HL3:=Lib.hid (HL1.out.ext hx3 HAP.out)
   have HLO:=Lib.hid (lg_lose HL3.out S.1 HLL.out)
   clear hd3 hx3
   go_wp2_with fail
   refine (HLO.out).mono ?_
   rintro e w4 ⟨rfl,hl4,hx4⟩
   have HL4:=Lib.hid hl4
   have HXL:=Lib.hid (HL.out.old x HL.out.xx)
   have hnd4:∀ b,Grow Dd wr w3 b → ¬ On x b:=fun b hb e=>by
    have e':b = x:=e
    subst e'
    rcases hb with hb | hb
    ·exact HAP.out b HL.out.xx hb
    ·have:=HXL.out;omega
   have HD4:=Lib.hid (HD3.out.ext hx4 hnd4)
   have HXR4:Hid (Ext (fun b=>Dd b ∨ D b) wr w4):=Lib.hid ((HX3.out.mono (fun b _ hb=>.inl hb)).trans_ (hx4.mono (fun b _ hb=>.inr (by have e':b = x:=hb;rw [e'];exact HL.out.xx))))
   have HX4:Hid (Ext (fun b=>Dd b ∨ D b) w w4):=Lib.hid ((HX.out.of_no).trans_ HXR4.out)
   have hs3:=HX3.out.size
   have hs4:=hx4.size
   have HSZ:=Lib.hid (And.intro hs3 hs4)
   have HND4:=Lib.hid hnd4
   clear hl4 hx4 hnd4 hs3 hs4
   by_cases hc:S.1 = 0
   ·have hc0:(S.1:Int) = 0:=by omega
    have HCC:=Lib.hid hc
    have HR3:Hid (R = S.2.logHead (crc T) l.epoch bs.length):=Lib.hid (by rw [HR2.out,if_neg (by have:=HCC.out;omega)])
    have HL5:Hid (LogAt w4 D x d m l):=Lib.hid (by
     have:=HL4.out
     rw [hc] at this
     have e:({ l with lost:=decide ((0:Nat) ≠ 0) }:Lg) = l:=by
      have:=HLL.out
      cases l;simp_all
     rw [e] at this
     exact this)
    obtain ⟨_,_,_,_,_,_,_,_,_,_,y3,_,_,_,_,ylt,_⟩:=HL5.out.c
    have hHT4:Half w4 T:=HT.out.ext HX4.out (fun h=>by rcases h with h | h;exact H0.out h;exact H0'.out h)
    have HAP4:=Lib.hid (show ∀ b,D b → ¬ Grow Dd wr w3 b from fun b hb hg=>by
     rcases hg with hg | hg
     ·exact HAP.out b hb hg
     ·have:=HL.out.old b hb;have:=HX.out.size;omega)
    have HWR:=Lib.hid (lg_write HL5.out HD4.out hHT4 HAP4.out HN.out l.epoch bs.length (by have:=HE.out;omega) (by have:=HFIT.out;omega))
    rw [← HR3.out] at HWR
    rw [hc0]
    clear hc hc0 hHT4
    go_wp2_with fail
    refine (HWR.out).mono ?_
    rintro e w5 ⟨rfl,hd5,hx5⟩
    have HD5:=Lib.hid hd5;have HX5:=Lib.hid hx5
    have HL6:=Lib.hid (HL5.out.ext hx5 HAP4.out)
    have HLO6:=Lib.hid (lg_lose HL6.out R.1 HLL.out)
    clear hd5 hx5 y3 ylt
    go_wp2_with fail
    refine (HLO6.out).mono ?_
    rintro e w6 ⟨rfl,hl6,hx6⟩
    have HL7:=Lib.hid hl6
    have hnd6:∀ b,Grow (Grow Dd wr w3) w4 w5 b → ¬ On x b:=fun b hb e=>by
     have e':b = x:=e
     subst e'
     rcases hb with hb | hb
     ·exact HAP4.out b HL.out.xx hb
     ·have:=HL5.out.old b HL.out.xx;omega
    have HD6:=Lib.hid (HD5.out.ext hx6 hnd6)
    have HXR6:Hid (Ext (fun b=>Dd b ∨ D b) wr w6):=Lib.hid ((HXR4.out.trans HX5.out (fun b hb hg=>by
     rcases hg with hg | hg
     ·exact .inl hg
     ·omega)).trans_ (hx6.mono (fun b _ hb=>.inr (by have e':b = x:=hb;rw [e'];exact HL.out.xx))))
    have HX6:Hid (Ext (fun b=>Dd b ∨ D b) w w6):=Lib.hid ((HX.out.of_no).trans_ HXR6.out)
    have HNW:Hid (Newer w Dd (Grow (Grow Dd wr w3) w4 w5)):=Lib.hid (fun b hb=>by
     have h1:=HX.out.size
     have h2:=HX4.out.size
     rcases hb with (hb | hb) | hb
     ·exact .inl hb
     ·exact .inr (by omega)
     ·exact .inr (by omega))
    have HSZ6:=Lib.hid (And.intro HX5.out.size hx6.size)
    clear hl6 hx6 hnd6
    by_cases hc:R.1 = 0
    ·have hc0:(R.1:Int) = 0:=by omega
     have HCC:=Lib.hid hc
     have HL8:Hid (LogAt w6 D x d m l):=Lib.hid (by
      have:=HL7.out
      rw [hc] at this
      have e:({ l with lost:=decide ((0:Nat) ≠ 0) }:Lg) = l:=by
       have:=HLL.out
       cases l;simp_all
      rw [e] at this
      exact this)
     obtain ⟨Ab6,cb6,Ar6,cr6,Ap6,cp6,hb6,ob6,or6,op6,hdj6⟩:=HL8.out.cells
     rw [HP.out] at op6
     obtain ⟨gq,hAq,_,hgql,hgqc,hgq⟩:=own_at op6.row (by simp)
     subst hAq
     have q4:=hb6.cell 4
     have q5:=hb6.cell 5
     have q6:=hb6.cell 6
     simp only [Lg.cells,HP.out] at q4 q5 q6
     simp at q4 q5 q6
     have f4:=hb6.frozen 4
     have f5:=hb6.frozen 5
     have f6:=hb6.frozen 6
     have lx6:=hb6.lt
     obtain ⟨i9,hti9,htz09,htz19,htz29⟩:=info_parts Tryz.info9
     have HOR:=Lib.hid or6.row
     have HNEW:=Lib.hid hgq
     have hne6:(Value.slice Ar6 l.recs.length cr6).ownBlock ≠ some x:=fun e=>(or6.at_ x e).2 rfl
     have hnr1:l.recs.length + 1 ≤ maxLen:=by have:=HFIT.out;unfold maxLen;omega
     have hnr2:(l.recs.length + 1) * 16 ≤ 140737488355328:=by have:=HFIT.out;omega
     have HDONE:Hid (∀ (w7:World) (g2 cap2:Nat),w7.ownsRow 0 9 1 (.slice (some ⟨g2,0,none⟩) (l.recs.length + 1) cap2) (l.recs.length + 1) (strs l.recs ++ [.string (str rec)]) → w6.grownBy w7 (Value.slice Ar6 l.recs.length cr6).ownBlock →
       ((Value.slice Ar6 l.recs.length cr6).ownBlock = some g2 ∨ g2 = w6.heap.size) → g2 < w7.heap.size → w7.frozen? ⟨x,4,none⟩ = false ∧ w7.frozen? ⟨x,5,none⟩ = false ∧ w7.frozen? ⟨x,6,none⟩ = false ∧ (w7.cell? ⟨x,4,none⟩).isSome = true ∧ (w7.cell? ⟨x,5,none⟩).isSome = true ∧ (w7.cell? ⟨x,6,none⟩).isSome = true ∧ x < w7.heap.size ∧
       Q (.returned (.int .i64 0)) (((w7.setCell ⟨x,4,none⟩ (.slice (some ⟨g,0,none⟩) bs.length c)).setCell ⟨x,5,none⟩ (.slice (some ⟨g2,0,none⟩) (l.recs.length + 1) cap2)).setCell ⟨x,6,none⟩ (.slice none 0 0))):=Lib.hid (by
      intro w7 g2 cap2 hown7 hg7 ha7 hlt7
      have hb7:Blk w7 x 179 (l.cells d m Ab6 cb6 Ar6 cr6 (some ⟨gq,0,none⟩) cp6):=(hg7.block x lx6 (fun e=>hne6 e.symm)).trans hb6
      have hx7:Ext (fun b=>(Value.slice Ar6 l.recs.length cr6).ownBlock = some b) w6 w7:=⟨hg7.os,hg7.tape,hg7.output,hg7.size,fun b hbl hne=>hg7.block b hbl (fun e=>hne e.symm)⟩
      have hz6:=HSZ6.out
      have hz4:=HSZ.out
      have hzx:=HX.out.size
      have hzr:=HXR4.out.size
      have hgg:=HGB.out
      have hg2x:g2 ≠ x:=by
       rcases ha7 with ha | ha
       ·exact (or6.at_ g2 ha).2
       ·omega
      have hg2D:D g2 ∨ g2 = w6.heap.size:=by
       rcases ha7 with ha | ha
       ·exact .inl (or6.at_ g2 ha).1
       ·exact .inr ha
      have hxw:=HXL.out
      have hDw:∀ b,D b → b < w.heap.size:=HL.out.old
      have hs7:=hg7.size
      obtain ⟨wf,hwf⟩:∃ wf,wf = (((w7.setCell ⟨x,4,none⟩ (.slice (some ⟨g,0,none⟩) bs.length c)).setCell ⟨x,5,none⟩ (.slice (some ⟨g2,0,none⟩) (l.recs.length + 1) cap2)).setCell ⟨x,6,none⟩ (.slice none 0 0)):=⟨_,rfl⟩
      have hxf:Ext (On x) w7 wf:=by rw [hwf];exact (((Ext.refl _ _).setF (F:=On x) rfl 4 _).setF (F:=On x) rfl 5 _).setF (F:=On x) rfl 6 _
      have hbf:Blk wf x 179 ((((l.cells d m Ab6 cb6 Ar6 cr6 (some ⟨gq,0,none⟩) cp6).setIfInBounds 4 (.slice (some ⟨g,0,none⟩) bs.length c)).setIfInBounds 5 (.slice (some ⟨g2,0,none⟩) (l.recs.length + 1) cap2)).setIfInBounds 6 (.slice none 0 0)):=by rw [hwf];exact ((hb7.set_ 4 _).set_ 5 _).set_ 6 _
      have hE:Ext D w6 wf:=(hx7.mono (fun b _ hb=>(or6.at_ b hb).1)).trans_ (hxf.mono (fun b _ hb=>by have e':b = x:=hb;rw [e'];exact HL.out.xx))
      have hsf:=hxf.size
      refine ⟨hb7.frozen 4,hb7.frozen 5,hb7.frozen 6,by rw [hb7.cell 4];rfl,by rw [hb7.cell 5];rfl,by rw [hb7.cell 6];rfl,by omega,?_⟩
      rw [← hwf,HQ.out]
      refine ⟨by rw [HCC.out];rfl,⟨Grow (Grow Dd wr w3) w4 w5,fun b=>D b ∨ b = g ∨ b = g2,?_,fun _=>?_,?_,HNW.out,?_⟩,?_⟩
      ·refine HD6.out.ext hE (fun b hb hd=>?_)
       rcases hb with hb | hb
       ·exact HAP4.out b hd hb
       ·have:=hDw b hd;omega
      ·rw [H9.out]
       refine ⟨⟨some ⟨g,0,none⟩,c,some ⟨g2,0,none⟩,cap2,none,0,?_,?_,?_,?_,?_⟩,.inl HL.out.xx,?_,HL.out.m1,HL.out.m2⟩
       ·have e:({ l with bytes:=bs,recs:=l.recs ++ [rec],pend:=[] }:Lg).cells d m (some ⟨g,0,none⟩) c (some ⟨g2,0,none⟩) cap2 none 0 = ((((l.cells d m Ab6 cb6 Ar6 cr6 (some ⟨gq,0,none⟩) cp6).setIfInBounds 4 (.slice (some ⟨g,0,none⟩) bs.length c)).setIfInBounds 5 (.slice (some ⟨g2,0,none⟩) (l.recs.length + 1) cap2)).setIfInBounds 6 (.slice none 0 0)):=by
         have e1:(l.recs ++ [rec]).length = l.recs.length + 1:=by simp
         unfold Lg.cells
         simp only [e1]
         rfl
        rw [e];exact hbf
       ·refine ⟨?_,fun b hb=>?_⟩
        ·have h1:=owns_ext (own_base0 HOW.out) (HXR6.out.trans (hE.mono (fun b _ hb=>.inr hb)) (fun b _ h=>h)) (fun b hb hF=>by
          have hb':g = b:=by simpa [Value.ownBlock] using hb
          subst hb'
          rcases hF with hF | hF
          ·have:=HD.out.old _ hF;omega
          ·have:=hDw _ hF;omega)
         exact h1
        ·have hb':g = b:=by simpa [Value.ownBlock] using hb
         subst hb'
         exact ⟨.inr (.inl rfl),by omega⟩
       ·refine ⟨?_,fun b hb=>?_⟩
        ·have h1:=owns_ext hown7 hxf (fun b hb hF=>by
          have hb':g2 = b:=by simpa [Value.ownBlock] using hb
          have e':b = x:=hF
          omega)
         have e1:(l.recs ++ [rec]).length = l.recs.length + 1:=by simp
         have e2:strs (l.recs ++ [rec]) = strs l.recs ++ [.string (str rec)]:=by simp [strs]
         show wf.ownsRow 0 9 1 (.slice (some ⟨g2,0,none⟩) (l.recs ++ [rec]).length cap2) (l.recs ++ [rec]).length (strs (l.recs ++ [rec]))
         rw [e1,e2]
         exact h1
        ·have hb':g2 = b:=by simpa [Value.ownBlock] using hb
         subst hb'
         exact ⟨.inr (.inr rfl),hg2x⟩
       ·exact ⟨⟨rfl,.inl ⟨rfl,rfl⟩⟩,fun b hb=>by cases hb⟩
       ·intro b _ hb;cases hb
       ·intro b hb
        rcases hb with hb | hb | hb
        ·have:=hDw b hb;omega
        ·omega
        ·omega
      ·intro b hb hg
       rcases hb with hb | hb | hb
       ·rcases hg with hg | hg
        ·exact HAP4.out b hb hg
        ·have:=hDw b hb;omega
       ·subst hb
        rcases hg with (hg | hg) | hg
        ·have:=HD.out.old _ hg;omega
        ·omega
        ·omega
       ·subst hb
        rcases hg2D with h1 | h1
        ·rcases hg with hg | hg
         ·exact HAP4.out _ h1 hg
         ·have:=hDw _ h1;omega
        ·rcases hg with (hg | hg) | hg
         ·have:=HD.out.old _ hg;omega
         ·omega
         ·omega
      ·intro b hb
       rcases hb with hb | hb | hb
       ·exact .inl hb
       ·exact .inr (by omega)
       ·rcases hg2D with h1 | h1
        ·rw [hb];exact .inl h1
        ·exact .inr (by omega)
      ·exact HX6.out.trans_ (hE.mono (fun b _ hb=>.inr hb)))
     clear op6 or6 ob6 hb6 hdj6 hgq
     rw [hc0]
     clear hc hc0
     go_wp2_with fail
     go_region_law (refine step_append_lies _ (by rfl) _ _ 38 (by rfl) 0 9 i9 (.string ⟨#[]⟩) 1 16 Tryz.underlying38 hti9 htz09 htz19 htz29 (by rfl) (by decide) (.slice Ar6 l.recs.length cr6) l.recs.length (strs l.recs) (by rfl) (by exact HOR.out) ⟨gq,0,none⟩ 1 cp6 [.string (str rec)] (by rfl) (by rfl) (by intro j u hu;rw [Addr.add_none,Nat.zero_add];exact HNEW.out j u hu) (fun u hu=>by rw [List.mem_singleton.1 hu];rfl) (by decide) hnr1 hnr2 (Nat.zero_le _) w6.heap.size (by rfl) ?_;intro g2 cap2 w7 hown7 hg7 ha7 hlt7;obtain ⟨a4,a5,a6,b4,b5,b6,lx7,hqq⟩:=HDONE.out w7 g2 cap2 hown7 ⟨hg7.os,hg7.tape,hg7.output,hg7.size,hg7.block⟩ ha7 hlt7;have HQQ:=Lib.hid hqq;obtain ⟨z4,y4⟩:=Option.isSome_iff_exists.1 b4;obtain ⟨z5,y5⟩:=Option.isSome_iff_exists.1 b5;obtain ⟨z6,y6⟩:=Option.isSome_iff_exists.1 b6;clear hqq hown7 hg7 ha7 hlt7 b4 b5 b6)
     all_goals (go_wp2_with fail;exact HQQ.out)
    ·have hc1:((R.1:Int) != 0) = true:=by simp;omega
     have HRC:=Lib.hid hc
     clear hc
     go_wp2_with fail
     rw [HQ.out]
     exact ⟨rfl,⟨_,D,HD6.out,fun h=>absurd h HRC.out,fun b hb hg=>by
      rcases hg with hg | hg
      ·exact HAP4.out b hb hg
      ·have:=HL5.out.old b hb;omega,HNW.out,fun b hb=>.inl hb⟩,HX6.out⟩
   ·have hc1:((S.1:Int) != 0) = true:=by simp;omega
    have HRS:Hid (R = S):=Lib.hid (by rw [HR2.out,if_pos hc])
    have HSC:=Lib.hid hc
    clear hc
    go_wp2_with fail
    rw [HQ.out,HRS.out]
    refine ⟨rfl,⟨_,D,HD4.out,fun h=>absurd h HSC.out,fun b hb hg=>?_,fun b hb=>?_,fun b hb=>.inl hb⟩,HX4.out⟩
    ·rcases hg with hg | hg
     ·exact HAP.out b hb hg
     ·have:=HL.out.old b hb;have:=HX.out.size;omega
    ·rcases hb with hb | hb
     ·exact .inl hb
     ·exact .inr (by have:=HX.out.size;omega)
def patch (L:Bs) (o:Nat) (s:Bs):Bs:=L.take o ++ (s ++ L.drop (o + s.length))
theorem patch_len {L:Bs} {o:Nat} {s:Bs} (h:o + s.length ≤ L.length):(patch L o s).length = L.length:=by
 unfold patch
 rw [List.length_append,List.length_append,List.length_take,List.length_drop];omega
theorem patch_get {L:Bs} {o:Nat} {s:Bs} (h:o + s.length ≤ L.length) (i:Nat):(patch L o s)[i]? = if o ≤ i ∧ i < o + s.length then s[i - o]? else L[i]?:=by
 unfold patch
 by_cases h1:i < o
 ·rw [if_neg (by omega),List.getElem?_append_left (by rw [List.length_take];omega),List.getElem?_take,if_pos h1]
 ·rw [List.getElem?_append_right (by rw [List.length_take];omega),List.length_take,Nat.min_eq_left (by omega)]
  by_cases h2:i < o + s.length
  ·rw [if_pos (by omega),List.getElem?_append_left (by omega)]
  ·rw [if_neg (by omega),List.getElem?_append_right (by omega),List.getElem?_drop]
   congr 1;omega
theorem bcs_get (L:Bs) (i:Nat):(bcs L).toArray[i]? = (L[i]?).map fun b=>.int .u8 (b.toNat:Int):=by simp [bcs]
theorem bcs_set (L:Bs) (i:Nat) (b:UInt8):(bcs L).toArray.setIfInBounds i (.int .u8 (b.toNat:Int)) = (bcs (L.set i b)).toArray:=by
 apply Array.ext_getElem?
 intro j
 rw [Array.getElem?_setIfInBounds,bcs_get,bcs_get,List.getElem?_set]
 have hs:(bcs L).toArray.size = L.length:=by simp [bcs]
 by_cases h:i = j
 ·subst h
  rw [if_pos rfl,if_pos rfl,hs]
  by_cases hl:i < L.length
  ·rw [if_pos hl,if_pos hl];rfl
  ·rw [if_neg hl,if_neg hl];rfl
 ·rw [if_neg h,if_neg h]
theorem set4_patch {L:Bs} {o:Nat} (h:o + 4 ≤ L.length) (a b c d:UInt8):(((L.set o a).set (o + 1) b).set (o + 2) c).set (o + 3) d = patch L o [a,b,c,d]:=by
 apply List.ext_getElem?
 intro i
 rw [patch_get (by simpa using h)]
 simp only [List.getElem?_set,List.length_set,List.length_cons,List.length_nil]
 by_cases h0:i = o
 ·subst h0
  simp [show i < L.length by omega]
 ·by_cases h1:i = o + 1
  ·subst h1;simp [show o + 1 < L.length by omega]
  ·by_cases h2:i = o + 2
   ·subst h2;simp [show o + 2 < L.length by omega]
   ·by_cases h3:i = o + 3
    ·subst h3;simp [show o + 3 < L.length by omega]
    ·rw [if_neg (by omega),if_neg (by omega),if_neg (by omega),if_neg (by omega),if_neg (by omega)]
theorem pis_any (id:Nat) (h:id < 2147483648) (w:World):Calls Tryz.prog 128 #[.int .i64 (id:Int)] w fun e w'=>e = .returned (.bool true) ∧ w = w':=by
 have h1:(0:Int) ≤ id:=by omega
 have h2:(id:Int) < 2147483648:=by omega
 go_enter Tryz.func128,Tryz.ntmps128
 go_wp2_with fail
 go_ret
 exact ⟨rfl,rfl⟩
theorem byte_div (x k:Nat):((UInt8.ofNat (x / k % 256)).toNat:Int) = (x:Int) / k % 256:=by
 rw [UInt8.toNat_ofNat',Int.natCast_emod,Int.natCast_emod,Int.natCast_ediv];omega
theorem pput_any (x:Nat) (hx:x < 4294967296) (w:World) (g o n c:Nat) (L:Bs) (h:Blk w g 218 (bcs L).toArray) (ho:o + 4 ≤ L.length) (hn:4 ≤ n) (hc:n ≤ c) (hoL:L.length < 100000) :
  Calls Tryz.prog 154 #[.slice (some ⟨g,o,none⟩) n c,.int .u32 (x:Int)] w fun e w'=>e = .returned (.tuple #[]) ∧ Blk w' g 218 (bcs (patch L o (n4 x))).toArray ∧ Ext (fun b=>b = g) w w':=by
 obtain ⟨L4,hL4⟩:∃ L4,L4 = patch L o (n4 x):=⟨_,rfl⟩
 rw [← hL4]
 have H4:=Lib.hid hL4
 have lg:=h.lt
 have f:=h.frozen
 have HB:=Lib.hid h
 have hc0:(4:Int) ≤ n:=by omega
 have s0:(w.cell? ⟨g,o,none⟩).isSome = true:=by rw [h.cell,bcs_get];simp;omega
 have s1:(w.cell? ⟨g,o + 1,none⟩).isSome = true:=by rw [h.cell,bcs_get];simp;omega
 have s2:(w.cell? ⟨g,o + 2,none⟩).isSome = true:=by rw [h.cell,bcs_get];simp;omega
 have s3:(w.cell? ⟨g,o + 3,none⟩).isSome = true:=by rw [h.cell,bcs_get];simp;omega
 obtain ⟨v0,k0⟩:=Option.isSome_iff_exists.1 s0
 obtain ⟨v1,k1⟩:=Option.isSome_iff_exists.1 s1
 obtain ⟨v2,k2⟩:=Option.isSome_iff_exists.1 s2
 obtain ⟨v3,k3⟩:=Option.isSome_iff_exists.1 s3
 clear h hL4 s0 s1 s2 s3
 go_enter Tryz.func154,Tryz.ntmps154
 go_wp2_with fail
 go_end0
 refine ⟨rfl,?_,((((Ext.refl (fun b=>b = g) w).setF (b:=g) rfl _ _).setF (b:=g) rfl _ _).setF (b:=g) rfl _ _).setF (b:=g) rfl _ _⟩
 have e0:((x:Int) % 256) = ((UInt8.ofNat (x % 256)).toNat:Int):=by rw [UInt8.toNat_ofNat'];omega
 have e3:((x:Int) / 16777216) = ((UInt8.ofNat (x / 16777216 % 256)).toNat:Int):=by rw [UInt8.toNat_ofNat'];omega
 have e1:((x:Int) / 256 % 256) = ((UInt8.ofNat (x / 256 % 256)).toNat:Int):=(byte_div x 256).symm
 have e2:((x:Int) / 65536 % 256) = ((UInt8.ofNat (x / 65536 % 256)).toNat:Int):=(byte_div x 65536).symm
 rw [e0,e1,e2,e3]
 have:=(((HB.out.set_ o (.int .u8 ((UInt8.ofNat (x % 256)).toNat:Int))).set_ (o + 1) (.int .u8 ((UInt8.ofNat (x / 256 % 256)).toNat:Int))).set_ (o + 2) (.int .u8 ((UInt8.ofNat (x / 65536 % 256)).toNat:Int))).set_ (o + 3) (.int .u8 ((UInt8.ofNat (x / 16777216 % 256)).toNat:Int))
 rw [bcs_set,bcs_set,bcs_set,bcs_set,set4_patch ho] at this
 rw [H4.out]
 exact this
theorem wrap_small32 (a:Nat) (h:a < 4294967296):IntKind.u32.wrap (a:Int) = (a:Int):=by
 rw [IntKind.wrap_u32'];omega
theorem zero218_eq:Tryz.zeroCells218 = (bcs (zs 512)).toArray:=by kernel_rfl
theorem copy_body {W:World} {g:Nat} {L body:Bs} (h:Blk W g 218 (bcs L).toArray) (hL:L.length = 512) (hb:body.length ≤ 500) (ty:TypeId) :
  (Builtin.copy_ #[98,9] ty #[.slice (some ⟨g,8,none⟩) 504 504,.string (str body)]).run Tryz.prog W = .ok (goInt body.length) (W.setRow g (bcs (patch L 8 body)).toArray):=by
 have h5:(Tryz.prog.info? 5).map (·.size) = some 1:=by kernel_rfl
 have hs:(bcs L).toArray.size = 512:=by simp [bcs,hL]
 have h:=Lib.run_copy_row_string (P:=Tryz.prog) W 98 9 ty 5 g 8 504 504 (str body) (bcs L).toArray 218 Tryz.underlying98 h5 h (by rw [str_size];omega) (by rw [str_size,hs];omega)
 rw [str_size,str_toList] at h
 have e:bcs (patch L 8 body) = (bcs L).take 8 ++ bcs body ++ (bcs L).drop (8 + body.length):=by
  unfold patch
  rw [bcs_append,bcs_append,List.append_assoc]
  simp [bcs,List.map_take,List.map_drop]
 rw [e]
 exact h
theorem zs_split (a b:Nat):zs (a + b) = zs a ++ zs b:=by simp [zs]
theorem zs_drop (a b:Nat):(zs a).drop b = zs (a - b):=by simp [zs]
theorem seal_bytes {id kind:Nat} {body:Bs} (hb:body.length ≤ 500) :
  patch ((((patch (zs 512) 0 (n4 id)).set 4 (UInt8.ofNat kind)).set 6 (UInt8.ofNat (body.length % 256))).set 7 (UInt8.ofNat (body.length / 256))) 8 body = seal0 id kind body ++ zs 4:=by
 have h1:patch (zs 512) 0 (n4 id) = n4 id ++ ([0,0,0,0] ++ zs 504):=by
  unfold patch
  rw [List.take_zero,List.nil_append,zs_drop,n4_len,show 512 - (0 + 4) = 4 + 504 from rfl,zs_split]
  rfl
 have h2:(((patch (zs 512) 0 (n4 id)).set 4 (UInt8.ofNat kind)).set 6 (UInt8.ofNat (body.length % 256))).set 7 (UInt8.ofNat (body.length / 256)) = (n4 id ++ [UInt8.ofNat kind,0,UInt8.ofNat (body.length % 256),UInt8.ofNat (body.length / 256)]) ++ zs 504:=by
  rw [h1]
  generalize zs 504 = Z
  rfl
 rw [h2]
 have hl:(n4 id ++ [UInt8.ofNat kind,0,UInt8.ofNat (body.length % 256),UInt8.ofNat (body.length / 256)]).length = 8:=rfl
 unfold patch seal0
 rw [List.take_left' hl,← List.drop_drop,List.drop_left' hl,zs_drop,show 504 - body.length = (500 - body.length) + 4 by omega,zs_split]
 simp only [List.append_assoc]
theorem seal_any (T:Nat → Nat) (id kind:Nat) (body:Bs) (hid:id < 2147483648) (hk:1 ≤ kind ∧ kind ≤ 255) (hb:body.length ≤ 500) (w:World) (h:Half w T) :
  Calls Tryz.prog 104 #[.int .i64 (id:Int),.int .i64 (kind:Int),.string (str body)] w fun e w'=>e = .returned (.tuple #[.string (str (sealed (crc T) id kind body)),.int .i64 0]) ∧ Ext No w w':=by
 have HIS:=Lib.hid (fun w=>pis_any id hid w)
 obtain ⟨C,hC⟩:∃ C,C = sealed (crc T) id kind body:=⟨_,rfl⟩
 rw [← hC]
 have HC:=Lib.hid hC
 have k1:¬ ((kind:Int) < 1):=by omega
 have k2:¬ (255 < (kind:Int)):=by omega
 have b1:¬ (500 < (body.length:Int)):=by omega
 have HB:=Lib.hid hb;have HK:=Lib.hid hk;have HID:=Lib.hid hid
 have HT:=Lib.hid h
 have u1:IntKind.u32.wrap (id:Int) = (id:Int):=wrap_small32 id (by omega)
 clear h hC hid hk hb
 go_enter Tryz.func104,Tryz.ntmps104
 go_upto_region 5 with (go_at_call 128;refine (HIS.out _).mono ?_;rintro e w1 ⟨rfl,rfl⟩)
 go_upto_region 6 with fail
 rw [zero218_eq]
 have HB1:=Lib.hid (Blk.new w 218 (bcs (zs 512)).toArray)
 have HX1:=Lib.hid ((Ext.refl No w).alloc (.cells (bcs (zs 512)).toArray 218))
 obtain ⟨L0,hL0⟩:∃ L0,L0 = zs 512:=⟨_,rfl⟩
 rw [← hL0] at HB1 HX1 ⊢
 have hl0:L0.length = 512:=by rw [hL0,zs_len]
 have HL0:=Lib.hid hL0
 have hsz:(w.alloc (.cells (bcs L0).toArray 218)).heap.size = w.heap.size + 1:=by simp
 have HSZ:=Lib.hid hsz
 generalize w.alloc (.cells (bcs L0).toArray 218) = W at *
 have hgl:w.heap.size < W.heap.size:=by omega
 have HP1:=Lib.hid (pput_any id (by have:=HID.out;omega) W w.heap.size 0 512 512 L0 HB1.out (by omega) (by omega) (by omega) (by omega))
 have HLEN0:=Lib.hid hl0
 clear hL0 hl0 hsz
 go_wp2_with fail
 refine (HP1.out).mono ?_
 rintro e w2 ⟨rfl,hb2,hx2⟩
 obtain ⟨L1,hL1⟩:∃ L1,L1 = patch L0 0 (n4 id):=⟨_,rfl⟩
 rw [← hL1] at hb2
 have HB2:=Lib.hid hb2
 have HX2:=Lib.hid (HX1.out.trans hx2 (fun b hb e=>by have e':b = w.heap.size:=e;omega))
 have HL1:=Lib.hid hL1
 have hl1:L1.length = 512:=by rw [hL1,patch_len (by rw [HLEN0.out,n4_len];omega)];exact HLEN0.out
 have HLEN1:=Lib.hid hl1
 have s4:(w2.cell? ⟨w.heap.size,4,none⟩).isSome = true:=by rw [hb2.cell,bcs_get];simp;omega
 have s6:(w2.cell? ⟨w.heap.size,6,none⟩).isSome = true:=by rw [hb2.cell,bcs_get];simp;omega
 have s7:(w2.cell? ⟨w.heap.size,7,none⟩).isSome = true:=by rw [hb2.cell,bcs_get];simp;omega
 obtain ⟨v4,k4⟩:=Option.isSome_iff_exists.1 s4
 obtain ⟨v6,k6⟩:=Option.isSome_iff_exists.1 s6
 obtain ⟨v7,k7⟩:=Option.isSome_iff_exists.1 s7
 have f:=hb2.frozen
 have lg:=hb2.lt
 clear hL1 hl1 hb2 hx2 s4 s6 s7 HP1
 go_upto_region 8 with fail
 obtain ⟨L2,hL2⟩:∃ L2,L2 = ((L1.set 4 (UInt8.ofNat kind)).set 6 (UInt8.ofNat (body.length % 256))).set 7 (UInt8.ofNat (body.length / 256)):=⟨_,rfl⟩
 have HL2:=Lib.hid hL2
 have e4:(kind:Int) = ((UInt8.ofNat kind).toNat:Int):=by rw [UInt8.toNat_ofNat'];have:=HK.out;omega
 have e6:((body.length:Int) % 256) = ((UInt8.ofNat (body.length % 256)).toNat:Int):=by rw [UInt8.toNat_ofNat'];omega
 have e7:((body.length:Int) / 256) = ((UInt8.ofNat (body.length / 256)).toNat:Int):=by rw [UInt8.toNat_ofNat'];have:=HB.out;omega
 have HB3:Hid (Blk (((w2.setCell ⟨w.heap.size,4,none⟩ (.int .u8 (kind:Int))).setCell ⟨w.heap.size,6,none⟩ (.int .u8 ((body.length:Int) % 256))).setCell ⟨w.heap.size,7,none⟩ (.int .u8 ((body.length:Int) / 256))) w.heap.size 218 (bcs L2).toArray):=Lib.hid (by
  rw [e4,e6,e7,HL2.out,← bcs_set,← bcs_set,← bcs_set]
  exact (((HB2.out.set_ _ _).set_ _ _).set_ _ _))
 have HX3:Hid (Ext No w (((w2.setCell ⟨w.heap.size,4,none⟩ (.int .u8 (kind:Int))).setCell ⟨w.heap.size,6,none⟩ (.int .u8 ((body.length:Int) % 256))).setCell ⟨w.heap.size,7,none⟩ (.int .u8 ((body.length:Int) / 256)))):=Lib.hid (((HX2.out.setNew (Nat.le_refl _) _ _).setNew (Nat.le_refl _) _ _).setNew (Nat.le_refl _) _ _)
 have hl2:L2.length = 512:=by rw [hL2];simp only [List.length_set];exact HLEN1.out
 have HLEN2:=Lib.hid hl2
 clear e4 e6 e7 hL2 k4 k6 k7 f lg
 generalize (((w2.setCell ⟨w.heap.size,4,none⟩ (.int .u8 (kind:Int))).setCell ⟨w.heap.size,6,none⟩ (.int .u8 ((body.length:Int) % 256))).setCell ⟨w.heap.size,7,none⟩ (.int .u8 ((body.length:Int) / 256))) = W3 at *
 have hcp:=copy_body HB3.out hl2 HB.out 3
 obtain ⟨L3,hL3⟩:∃ L3,L3 = patch L2 8 body:=⟨_,rfl⟩
 rw [← hL3] at hcp
 have HL3:=Lib.hid hL3
 have hl3:L3.length = 512:=by rw [hL3,patch_len (by have:=HB.out;omega)];exact hl2
 have HLEN3:=Lib.hid hl3
 have lg3:=HB3.out.lt
 clear hL3 hl2 hl3
 go_upto_region 9 with fail
 have HB4:Hid (Blk (W3.setRow w.heap.size (bcs L3).toArray) w.heap.size 218 (bcs L3).toArray):=Lib.hid (setRow_heap W3 w.heap.size _ _ _ _ HB3.out)
 have HX4:Hid (Ext No w (W3.setRow w.heap.size (bcs L3).toArray)):=Lib.hid (HX3.out.trans (G:=fun b=>b = w.heap.size) ⟨rfl,rfl,rfl,by simp,fun b _ hb=>setRow_other W3 w.heap.size b _ hb⟩ (fun b hb e=>by have e':b = w.heap.size:=e;omega))
 clear hcp lg3
 generalize W3.setRow w.heap.size (bcs L3).toArray = W4 at *
 obtain ⟨S,hS⟩:∃ S,S = seal0 id kind body:=⟨_,rfl⟩
 have HS:=Lib.hid hS
 have hSl:S.length = 508:=by rw [hS];exact seal0_len HB.out
 have HL3S:Hid (L3 = S ++ zs 4):=Lib.hid (by rw [HL3.out,HL2.out,HL1.out,HL0.out,HS.out];exact seal_bytes HB.out)
 obtain ⟨CS,hCS⟩:∃ CS,CS = crc T S:=⟨_,rfl⟩
 have HCS:=Lib.hid hCS
 have hlt4:w.heap.size < W4.heap.size:=HB4.out.lt
 have HSUM:Hid (∀ c w',Ext No W4 w' → Calls Tryz.prog 126 #[.slice (some ⟨w.heap.size,0,none⟩) 508 c] w' fun e w''=>e = .returned (.int .u32 (CS:Int)) ∧ w' = w''):=Lib.hid (fun c w' hx=>by
  have hHT:=HT.out.ext (HX4.out.trans_ hx) (fun h=>h)
  have h1:=sum_any T w' hHT (some ⟨w.heap.size,0,none⟩) S c ⟨by rw [bcs_len];omega,fun _=>⟨w.heap.size,0,rfl,fun h=>h,fun j u hu=>by
   rw [Nat.zero_add,(HB4.out.ext hx (fun h=>h)).cell j]
   have hj:=(List.getElem?_eq_some_iff.1 hu).1
   rw [bcs_len] at hj
   rw [bcs_get,HL3S.out,List.getElem?_append_left hj]
   rw [← hu];simp [bcs]⟩⟩ (by omega)
  rw [hSl,← hCS] at h1
  exact h1)
 have hCSl:CS < 4294967296:=by rw [hCS];exact crc_lt HT.out.lt S
 have HPUT:Hid (∀ w',Ext No W4 w' → Calls Tryz.prog 154 #[.slice (some ⟨w.heap.size,508,none⟩) 4 4,.int .u32 (CS:Int)] w' fun e w''=>e = .returned (.tuple #[]) ∧ Blk w'' w.heap.size 218 (bcs (patch L3 508 (n4 CS))).toArray ∧ Ext (fun b=>b = w.heap.size) w' w''):=Lib.hid (fun w' hx=>pput_any CS hCSl w' w.heap.size 508 4 4 L3 (HB4.out.ext hx (fun h=>h)) (by rw [HLEN3.out];omega) (by omega) (by omega) (by rw [HLEN3.out];omega))
 clear hS hSl hCS hCSl
 go_region_with (first | (go_at_call 126;refine (HSUM.out _ _ (by first | exact (Ext.refl No _).drew | exact Ext.refl _ _)).mono ?_;rintro e w5 ⟨rfl,rfl⟩) | (go_at_call 154;refine (HPUT.out _ (by first | exact (Ext.refl No _).drew | exact Ext.refl _ _)).mono ?_;rintro e w6 ⟨rfl,hb6,hx6⟩))
 have HB6:Hid (Blk w6 w.heap.size 218 (bcs C).toArray):=Lib.hid (by
  have e:patch L3 508 (n4 CS) = C:=by
   rw [HL3S.out,HC.out,HCS.out,HS.out]
   have hl:(seal0 id kind body).length = 508:=seal0_len HB.out
   unfold patch sealed
   rw [List.take_left' hl,n4_len,List.drop_eq_nil_of_le (by rw [List.length_append,hl,zs_len];omega),List.append_nil]
  rw [← e];exact hb6)
 have hCl:C.length = 512:=by rw [HC.out];exact sealed_len HB.out
 have HX6:Hid (Ext No w w6):=Lib.hid ((HX4.out.drew).trans hx6 (fun b hb e=>by have e':b = w.heap.size:=e;omega))
 have hcv:(convert 98 9 (.slice (some ⟨w.heap.size,0,none⟩) 512 512)).run Tryz.prog w6 = .ok (.string (str C)) w6:=by
  have h1:=run_convert_bytes_back (P:=Tryz.prog) w6 98 9 5 ⟨w.heap.size,0,none⟩ 512 C Tryz.underlying98 Tryz.underlying5 Tryz.underlying9 (fun j hj=>by
   rw [Addr.add_none,Nat.zero_add,HB6.out.cell j,bcs_get,List.getElem?_eq_getElem hj];rfl)
  rw [hCl] at h1
  exact h1
 have lg6:=HB6.out.lt
 clear hb6 hx6 hCl
 go_wp2_with fail
 go_ret2
 exact ⟨rfl,HX6.out⟩
theorem log_none (l d m:Nat) (w:World) (h:Blk w l 179 (logCells d m)) :
  Calls Tryz.prog 109 #[.pointer (some ⟨l,0,none⟩)] w fun e w'=>e = .returned (.bool false) ∧ w = w':=by
 have c0:=h.cell 0
 simp [logCells] at c0
 go_enter Tryz.func109,Tryz.ntmps109
 go_wp2
 go_ret
 exact ⟨rfl,rfl⟩
theorem log_records (l d m:Nat) (w:World) (h:Blk w l 179 (logCells d m)) :
  Calls Tryz.prog 81 #[.pointer (some ⟨l,0,none⟩)] w fun e w'=>e = .returned (.slice none 0 0) ∧ Ext No w w':=by
 have HN:=Lib.hid (log_none l d m w h)
 have HC:=Lib.hid (fun w=>Tryz.slices_Clone_nil_f124 0 0 w)
 have c5:=h.cell 5
 simp [logCells] at c5
 clear h
 go_enter Tryz.func81,Tryz.ntmps81
 go_wp2_with fail
 refine (HN.out).mono ?_
 rintro e w1 ⟨rfl,rfl⟩
 go_wp2_with fail
 refine (HC.out _).mono ?_
 rintro e w2 ⟨rfl,rfl⟩
 go_wp2_with fail
 go_ret
 exact ⟨rfl,Ext.refl _ _⟩
def dbCells (d l log high:Nat) (o:Option Addr):Array Value :=
 #[.pointer (some ⟨d,0,none⟩),.pointer (some ⟨l,0,none⟩),.int .i64 (log:Int),.int .i64 0,.int .i64 0,.int .i64 0,.int .i64 0,.int .i64 (high:Int),.int .i64 0,.int .i64 0,.pointer o,.bool false]
theorem db_settle (x d l m log high:Nat) (o:Option Addr) (w:World) (h:Blk w l 179 (logCells d m)) (hx:Blk w x 131 (dbCells d l log high o)) :
  Calls Tryz.prog 70 #[.pointer (some ⟨x,0,none⟩)] w fun e w'=>e = .returned (.int .i64 0) ∧ Ext No w w':=by
 have HR:=Lib.hid (log_records l d m w h)
 have c1:=hx.cell 1
 simp [dbCells] at c1
 clear h hx
 go_enter Tryz.func70,Tryz.ntmps70
 go_wp2_with fail
 refine (HR.out).mono ?_
 rintro e w1 ⟨rfl,hx1⟩
 go_wp2_with fail
 go_ret
 exact ⟨rfl,hx1⟩
theorem trim_zs (n:Nat):Lib.trimB (zs n) 0 = []:=by simp [Lib.trimB,Lib.trimLeftB,Lib.trimRightB,zs]
theorem blank_zs (w:World) :
  Calls Tryz.prog 84 #[.string (str (zs 512))] w fun e w'=>e = .returned (.bool true) ∧ Ext No w w':=by
 have hsz:(str (zs 512)).size = 512:=by rw [str_size,zs_len]
 have HT:=Lib.hid (fun w=>Tryz.strings_Trim_one (str (zs 512)) 0 (by decide) w (by omega))
 have ht:(⟨(Lib.trimB (str (zs 512)).data.toList 0).toArray⟩:ByteArray) = str []:=by rw [str_toList,trim_zs];rfl
 rw [ht] at HT
 obtain ⟨z,hz⟩:∃ z,z = str (zs 512):=⟨_,rfl⟩
 rw [← hz] at HT hsz ⊢
 clear hz ht
 go_enter Tryz.func84,Tryz.ntmps84
 go_wp2_with fail
 refine (HT.out _).mono ?_
 rintro e w1 ⟨rfl,hw⟩
 have hE:Ext No w w1:=by
  rcases hw with rfl | rfl
  ·exact Ext.refl _ _
  ·exact (Ext.refl _ _).drew
 simp only [str]
 go_wp2_with fail
 go_ret
 exact ⟨rfl,hE⟩
theorem db_count (x d kb n log:Nat) (w:World) (x0:w.cell? ⟨x,0,none⟩ = some (.pointer (some ⟨d,0,none⟩))) (x2:w.cell? ⟨x,2,none⟩ = some (.int .i64 (log:Int)))
  (h:Blk w d 140 (diskCells kb n)) (h1:1 ≤ n) (hn:n ≤ 65536) (hl:log ≤ n) :
  Calls Tryz.prog 56 #[.pointer (some ⟨x,0,none⟩)] w fun e w'=>e = .returned (.int .i64 (((n - log) / 8:Nat):Int)) ∧ ∃ k,w' = w.drewN k:=by
 have HD:=Lib.hid h
 have g1:(0:Int) ≤ (n:Int) - log:=by omega
 go_enter Tryz.func56,Tryz.ntmps56
 go_wp2_with (go_at_call 76;refine (xnone_no x d _ x0).mono ?_;rintro e w' ⟨rfl,rfl⟩)
 go_quiet ((go_at_call 93;exact Calls.quiet_of_same ((dsize_any d n ⟨kb,0,none⟩ _ (by exact HD.out.cell 0) h1).mono fun _ _ ⟨h1,h2⟩=>⟨h1,h2.symm⟩)))
 go_wp2
 go_ret
 exact ⟨ret_int (by omega),_,rfl⟩
def BytesAt (c:Nat → Bs) (bytes:Bs):Prop:=∀ i,i < bytes.length → (c (1 + i / 64))[i % 64]? = bytes[i]?
structure LogOn (cr:Bs → Nat) (c:Nat → Bs) (epoch:Nat) (bytes:Bs) (ls:List (List (Nat × Bs))):Prop where
 hd:c 0 = headOf cr epoch bytes.length ∨ (c 0 = zs 64 ∧ epoch = 0 ∧ bytes = [] ∧ ls = [])
 by_:BytesAt c bytes
 en:bytes = ls.flatMap fun l=>frameOf cr (encRec l)
def RecOk (cap:Nat) (l:List (Nat × Bs)):Prop:=l ≠ [] ∧ (encRec l).length ≤ 65536 ∧ ∀ p ∈ l,p.1 < cap ∧ p.2.length = 512
def ids (ls:List (List (Nat × Bs))):List Nat:=ls.flatten.map (·.1)
structure Rest (cr:Bs → Nat) (log cap:Nat) (k:Dk) (epoch:Nat) (bytes:Bs) (ls:List (List (Nat × Bs))) (f:Nat → Bs):Prop where
 lg:LogOn cr k.K epoch bytes ls
 fits:bytes.length ≤ 64 * (log - 1)
 ok:∀ l ∈ ls,RecOk cap l
 pd:∀ p ∈ k.pd,∃ id j,p.1 = log + id * 8 + j ∧ j < 8 ∧ id ∈ ids ls
 pg:∀ id,id ∉ ids ls → pageOf k.K log id = f id
 pl:∀ id,id ∈ ids ls → ∀ g,pages ls.flatten g id = f id
section
variable {cr:Bs → Nat} {log cap E epoch:Nat} {k:Dk} {bytes all:Bs} {ls:List (List (Nat × Bs))} {f:Nat → Bs} {c:Nat → Bs}
theorem cutS_get:∀ (n:Nat) (s:Bs) (t:Nat),t < n → (cutS n s)[t]? = some ((s.drop (t * 64)).take 64)
 | 0,s,t,h=>by omega
 | n + 1,s,0,h=>by simp [cutS]
 | n + 1,s,t + 1,h=>by
  rw [cutS,List.getElem?_cons_succ,cutS_get n (s.drop 64) t (by omega),List.drop_drop,show 64 + t * 64 = (t + 1) * 64 by omega]
structure Laid (cr:Bs → Nat) (log cap:Nat) (k:Dk) (epoch:Nat) (bytes all:Bs) (ls:List (List (Nat × Bs))) (f:Nat → Bs):Prop where
 rest:Rest cr log cap k epoch bytes ls f
 pd:k.pd = []
 all:BytesAt k.K all
 pg:∀ id,pageOf k.K log id = f id
theorem frame_len (cr:Bs → Nat) (rec:Bs):(frameOf cr rec).length = rec.length + 8:=by
 simp only [frameOf,List.length_append,n4_len];omega
end
end Go.Proofs.YtccnemmlkcmceaaGreatDoor
namespace Go.Proofs.YtccnemmlkcmceaaGreatDoor
open Go.RowKit Go.BigFrame
structure Dbp where
 d:Nat
 kb:Nat
 x:Nat
 l:Nat
 log:Nat
def dbVals (a:Dbp) (m:Mt) (o:Option Addr) (lost:Bool):Array Value :=
 #[.pointer (some ⟨a.d,0,none⟩),.pointer (some ⟨a.l,0,none⟩),.int .i64 (a.log:Int),.int .i64 (m.r 0:Int),.int .i64 (m.r 1:Int),.int .i64 (m.r 2:Int),.int .i64 (m.r 3:Int),.int .i64 (m.high:Int),.int .i64 (m.free:Int),.int .i64 (m.cnt:Int),.pointer o,.bool lost]
structure Parts (a:Dbp) (Dd Dl:Nat → Prop):Prop where
 ap:∀ g,Dl g → ¬ Dd g
 xd:¬ Dd a.x
 xl:¬ Dl a.x
 zd:¬ Dd 0
 zl:¬ Dl 0
 zx:a.x ≠ 0
structure DbAt (w:World) (Dd Dl:Nat → Prop) (a:Dbp) (o:Option Addr) (lost:Bool) (T:Nat → Nat) (b:Db):Prop where
 disk:DiskAt w Dd a.d a.kb b.k
 wal:LogAt w Dl a.l a.d a.log ⟨b.epoch,b.bytes,b.recs,[],false⟩
 db:Blk w a.x 131 (dbVals a b.m o lost)
 half:Half w T
 parts:Parts a Dd Dl
 ll:a.log ≤ b.k.n
theorem DbAt.ext {F:Nat → Prop} {w w':World} {Dd Dl:Nat → Prop} {a:Dbp} {o:Option Addr} {lost:Bool} {T:Nat → Nat} {b:Db} (h:DbAt w Dd Dl a o lost T b) (hx:Ext F w w') (h1:∀ g,Dd g → ¬ F g) (h2:∀ g,Dl g → ¬ F g) (h3:¬ F a.x) (h4:¬ F 0):DbAt w' Dd Dl a o lost T b :=
 ⟨h.disk.ext hx h1,h.wal.ext hx h2,h.db.ext hx h3,h.half.ext hx h4,h.parts,h.ll⟩
theorem DbAt.no {w w':World} {Dd Dl:Nat → Prop} {a:Dbp} {o:Option Addr} {lost:Bool} {T:Nat → Nat} {b:Db} (h:DbAt w Dd Dl a o lost T b) (hx:Ext No w w'):DbAt w' Dd Dl a o lost T b :=
 h.ext hx (fun _ _ h=>h) (fun _ _ h=>h) (fun h=>h) (fun h=>h)
theorem own_pushS {w:World} {base g cap n:Nat} {ks:List Bs} {x:Bs} (h:w.ownsRow base 9 1 (.slice (some ⟨g,0,none⟩) (n + 1) cap) (n + 1) (strs ks ++ [.string (str x)])):w.ownsRow base 9 1 (.slice (some ⟨g,0,none⟩) (n + 1) cap) (n + 1) (strs (ks ++ [x])):=by
 have e:strs (ks ++ [x]) = strs ks ++ [.string (str x)]:=by simp [strs]
 rw [e];exact h
theorem sectors_any (image:Bs) (hi:image.length = 512) (w:World) :
  Calls Tryz.prog 162 #[.string (str image)] w fun e w'=>∃ A c,e = .returned (.slice A 8 c) ∧ w'.ownsRow w.heap.size 9 1 (.slice A 8 c) 8 (strs (cutS 8 image)) ∧ Ext No w w':=by
 obtain ⟨i0,hti,htz0,htz1,htz2⟩:=info_parts Tryz.info9
 have HI:=Lib.hid hi
 obtain ⟨Q,hQ⟩:∃ Q,Q = fun (e:Ending) (w':World)=>∃ A c,e = .returned (.slice A 8 c) ∧ w'.ownsRow w.heap.size 9 1 (.slice A 8 c) 8 (strs (cutS 8 image)) ∧ Ext No w w':=⟨_,rfl⟩
 rw [← hQ]
 have HQ:=Lib.hid hQ
 have h0:image = image.drop (0 * 64):=by simp
 have H0:=Lib.hid h0
 clear hi hQ h0
 go_enter Tryz.func162,Tryz.ntmps162
 go_wp2_with fail
 go_loopg [0,3] 8 (fun gk q0 q3 wr=>∃ (K c:Nat) (A:Option Addr) (L:Bs),K + gk = 8 ∧ q0 = .string (str L) ∧ q3 = .slice A K c ∧ Hid (L = image.drop (K * 64)) ∧ Hid (wr.ownsRow w.heap.size 9 1 (.slice A K c) K (strs ((cutS 8 image).take K))) ∧ Hid (Ext No w wr))
 case atStart=>exact ⟨0,0,none,image,rfl,rfl,rfl,H0,Lib.hid (World.ownsRow_nil _ _ _ _),Lib.hid (Ext.refl _ _)⟩
 case round =>
  obtain ⟨K,c,A,L,hK,rfl,rfl,HL,HO,HX⟩:=hrel
  have HK:=Lib.hid hK
  have hLl:L.length = 512 - K * 64:=by rw [HL.out,List.length_drop,HI.out]
  have HLL:=Lib.hid hLl
  by_cases h8:K < 8
  ·obtain ⟨n,hn⟩:∃ n,n = L.length:=⟨_,rfl⟩
   have g1:(0:Int) < (n:Int):=by omega
   have g2:min (64:Int) (n:Int) = 64:=by omega
   have g3:(64:Int) ≤ n:=by omega
   have hsz:(str L).size = n:=by rw [str_size,hn]
   have x1:(str L).extract 0 64 = str (L.take 64):=str_take L 64
   have x2:(str L).extract 64 n = str (L.drop 64):=by rw [hn];exact str_drop L 64
   have HL2:Hid (L.drop 64 = image.drop ((K + 1) * 64)):=Lib.hid (by rw [HL.out,List.drop_drop];congr 1;omega)
   have HT1:Hid ((cutS 8 image).take (K + 1) = (cutS 8 image).take K ++ [L.take 64]):=Lib.hid (by rw [List.take_add_one,cutS_get 8 image K h8,HL.out];rfl)
   have H8:=Lib.hid h8
   obtain ⟨P,hP⟩:∃ P,P = L.take 64:=⟨_,rfl⟩
   rw [← hP] at x1 HT1
   obtain ⟨L2,hL2⟩:∃ L2,L2 = L.drop 64:=⟨_,rfl⟩
   rw [← hL2] at x2 HL2
   have hxs:=HX.out.size
   have m1:K + 1 ≤ maxLen:=by unfold maxLen;omega
   have m2:(K + 1) * 16 ≤ 140737488355328:=by omega
   have HX1:=Lib.hid (HX.out.alloc (.cells #[.string (str P)] 9))
   have HO1:=Lib.hid (HO.out.alloc (.cells #[.string (str P)] 9))
   have hx1s:w.heap.size ≤ (wr.alloc (.cells #[.string (str P)] 9)).heap.size:=HX1.out.size
   clear hK hLl hn h8 hP hL2
   rw [str_size] at hsz
   go_wp2_with (at_builtin;refine wpList_append_lies _ (by rfl) _ _ 38 (by rfl) w.heap.size 9 i0 (.string ⟨#[]⟩) 1 16 Tryz.underlying38 hti htz0 htz1 htz2 (by rfl) (by decide) (.slice A K c) K (strs ((cutS 8 image).take K)) (by rfl) HO1.out ⟨wr.heap.size,0,none⟩ 1 1 [.string (str P)] (by rfl) (by rfl) (by exact World.news_of_block (cs:=#[.string (str P)]) (t:=9) (fr:=(0,0)) (heap_alloc_new wr _)) (fun u hu=>by rw [List.mem_singleton.1 hu];rfl) (by decide) m1 m2 hx1s _ rfl ?_)
   intro g cap w7 hown7 hg7 ha7 hlt7
   have HO7:=Lib.hid (own_pushS hown7)
   rw [← HT1.out] at HO7
   have HX7:=Lib.hid (HX1.out.grown hg7 (own_bounds HO1.out (Nat.le_refl _)))
   clear hown7 hg7 ha7 hlt7 hxs hx1s m1 m2
   go_wp2_with fail
   go_roundg (gk - 1)
   case rel=>exact ⟨K + 1,cap,some ⟨g,0,none⟩,L2,by have:=HK.out;have:=H8.out;omega,rfl,rfl,HL2,HO7,HX7⟩
   case measure=>have:=HK.out;have:=H8.out;omega
  ·have hK8:K = 8:=by omega
   subst hK8
   have hL0:L = []:=List.eq_nil_of_length_eq_zero (by omega)
   subst hL0
   have HD:Hid (Q (.returned (.slice A 8 c)) wr):=Lib.hid (by
    rw [HQ.out]
    have:=HO.out
    rw [List.take_of_length_le (by rw [cutS_len];omega)] at this
    exact ⟨A,c,rfl,this,HX.out⟩)
   have e0:(str []).size = 0:=rfl
   clear hK hLl h8
   go_wp2_with fail
   exact HD.out
end Go.Proofs.YtccnemmlkcmceaaGreatDoor
namespace Go.Proofs.YtccnemmlkcmceaaGreatDoor
open Go.RowKit
def layRest (log id K:Nat) (image:Bs):List (Nat × Bs):=rowOf (log + id * 8 + K) ((cutS 8 image).drop K)
theorem layRest_next {log id K:Nat} {image:Bs} (h:K < 8):layRest log id K image = (log + id * 8 + K,(image.drop (K * 64)).take 64) :: layRest log id (K + 1) image:=by
 unfold layRest
 have hg:=cutS_get 8 image K h
 have e:(cutS 8 image).drop K = ((image.drop (K * 64)).take 64) :: (cutS 8 image).drop (K + 1):=by
  rw [List.drop_eq_getElem_cons (by rw [cutS_len];exact h)]
  congr 1
  exact (List.getElem?_eq_some_iff.1 hg).2
 rw [e];rfl
theorem layRest_end {log id:Nat} {image:Bs}:layRest log id 8 image = []:=by
 unfold layRest
 rw [List.drop_of_length_le (by rw [cutS_len];omega)];rfl
theorem dlay_any {w:World} {Dd:Nat → Prop} {d kb x log:Nat} {k:Dk} (hd:DiskAt w Dd d kb k) (x0:w.cell? ⟨x,0,none⟩ = some (.pointer (some ⟨d,0,none⟩))) (x2:w.cell? ⟨x,2,none⟩ = some (.int .i64 (log:Int))) (hx:¬ Dd x) {N:Nat} (hk:k.Near N) (hN:N ≤ 2^29) (id:Nat) (hid:log + id * 8 + 8 ≤ k.n) (image:Bs) (hi:image.length = 512) :
  Calls Tryz.prog 118 #[.pointer (some ⟨x,0,none⟩),.int .i64 (id:Int),.string (str image)] w fun e w'=>e = .returned (.int .i64 ((k.writes (layPage log id image)).1:Int)) ∧ DiskAt w' (Grow Dd w w') d kb (k.writes (layPage log id image)).2 ∧ Ext Dd w w':=by
 obtain ⟨R,hR⟩:∃ R,R = k.writes (layPage log id image):=⟨_,rfl⟩
 rw [← hR]
 have HR:=Lib.hid hR
 have HSEC:=Lib.hid (sectors_any image hi w)
 have HD:=Lib.hid hd;have HNX:=Lib.hid hx;have HK:=Lib.hid hk;have HNN:=Lib.hid hN;have HID:=Lib.hid hid;have HI:=Lib.hid hi
 have HSO:=Lib.hid hd.old
 have hn2:=hd.n2
 have hb2:(log:Int) + (id:Int) * 8 + 8 ≤ 65536:=by omega
 have HB2:=Lib.hid hb2
 have HC0:=Lib.hid x0;have HC2:=Lib.hid x2
 have hxl:x < w.heap.size:=World.block_lt_of_cell? w _ x0
 have HXL:=Lib.hid hxl
 clear hd hx hk hN hid hi hR hb2 hn2 x0 x2 hxl
 go_enter Tryz.func118,Tryz.ntmps118
 go_wp2_with fail
 refine (HSEC.out).mono ?_
 rintro e w1 ⟨A,c,rfl,hown,hx1⟩
 obtain ⟨g,hA,hgb,hgl,hgc,hcells⟩:=own_at hown (by decide)
 subst hA
 have HX1:=Lib.hid hx1;have HCE:=Lib.hid hcells
 have HG:=Lib.hid (And.intro hgb hgl)
 have HD1:=Lib.hid (HD.out.ext hx1 (fun _ _ h=>h))
 clear hown hx1 hcells hgb hgl
 go_wp2_with fail
 go_loopg [13] 8 (fun gk q13 wr=>∃ (K:Nat) (k':Dk),K + gk = 8 ∧ q13 = .int .i64 (K:Int) ∧ Hid (R = k'.writes (layRest log id K image)) ∧ Hid (DiskAt wr (Grow Dd w1 wr) d kb k') ∧ Hid (Ext Dd w1 wr) ∧ Hid (k'.Near (N + K)) ∧ Hid (k'.n = k.n))
 case atStart=>exact ⟨0,k,by omega,rfl,HR,Lib.hid (HD1.out.mono (fun _ hb=>.inl hb) (Grow.old (fun b hb=>Nat.lt_of_lt_of_le (HSO.out b hb) HX1.out.size) (Nat.le_refl _))),Lib.hid (Ext.refl _ _),HK,Lib.hid rfl⟩
 case round =>
  obtain ⟨K,k',hK,rfl,HWL,HDK,HX,HNR,HKN⟩:=hrel
  have HKK:=Lib.hid hK
  by_cases h8:K < 8
  ·have H8:=Lib.hid h8
   obtain ⟨P,hP⟩:∃ P,P = (image.drop (K * 64)).take 64:=⟨_,rfl⟩
   have hpl:P.length ≤ 64:=by rw [hP,List.length_take];omega
   have hng:¬ Dd g:=fun h=>by have:=HSO.out g h;have:=HG.out;omega
   have k0:wr.cell? ⟨g,K,none⟩ = some (.string (str P)):=cell_ext HX.out (HCE.out K _ (by
    unfold strs
    rw [List.getElem?_map,cutS_get 8 image K h8,hP];rfl)) hng
   have lg:=World.block_lt_of_cell? wr _ k0
   simp only at lg
   obtain ⟨i1,hi1⟩:∃ i1,i1 = log + id * 8 + K:=⟨_,rfl⟩
   have hw1:IntKind.i64.wrap ((id:Int) * 8) = (id:Int) * 8:=wrap_tiny _ (by omega) (by have:=HB2.out;omega)
   have hw2:IntKind.i64.wrap ((log:Int) + (id:Int) * 8) = (log:Int) + (id:Int) * 8:=wrap_tiny _ (by omega) (by have:=HB2.out;omega)
   have hw3:IntKind.i64.wrap ((log:Int) + (id:Int) * 8 + (K:Int)) = (i1:Int):=by
    rw [show (log:Int) + (id:Int) * 8 + (K:Int) = (i1:Int) by omega];exact wrap_tiny _ (by omega) (by have:=HB2.out;omega)
   have HW:=Lib.hid (dk_write (HDK.out.ext ((Ext.refl No wr).drew) (fun _ _ h=>h)) i1 (by have:=HID.out;have:=HKN.out;omega) P hpl (by have:=HNR.out.1;have:=HNN.out;omega) (by have:=HNR.out.2.1;have:=HNN.out;omega) (by have:=HNR.out.2.2;have:=HNN.out;omega))
   have hk1:=Lib.hid (Dk.write_near HNR.out i1 P)
   have hkn1:=Lib.hid ((Dk.write_n k' i1 P).trans HKN.out)
   have HNXT:Hid (R = if (k'.write i1 P).1 ≠ 0 then k'.write i1 P else (k'.write i1 P).2.writes (layRest log id (K + 1) image)):=Lib.hid (by
    rw [HWL.out,layRest_next h8,← hP,← hi1];rfl)
   generalize k'.write i1 P = kw at *
   have hs1:wr.drew.cell? ⟨x,0,none⟩ = some (.pointer (some ⟨d,0,none⟩)):=cell_ext (HX1.out.of_no.trans_ HX.out).drew HC0.out HNX.out
   have hs2:wr.drew.cell? ⟨x,2,none⟩ = some (.int .i64 (log:Int)):=cell_ext (HX1.out.of_no.trans_ HX.out).drew HC2.out HNX.out
   have HS1:=Lib.hid hs1;have HS2:=Lib.hid hs2
   have HNX2:Hid (¬ Grow Dd w1 wr x):=Lib.hid (fun hg=>by
    rcases hg with hg | hg
    ·exact HNX.out hg
    ·have:=HXL.out;have:=HX1.out.size;omega)
   have hxr:x < wr.heap.size:=by have:=HX.out.size;have:=HX1.out.size;have:=HXL.out;omega
   have h8':(K:Int) < 8:=by omega
   clear hi1 hP hK h8 hng hpl hgc
   go_upto_region 4 with fail
   go_region_held3 (fun w'=>w'.cell? ⟨x,0,none⟩ = some (.pointer (some ⟨d,0,none⟩)) ∧ w'.cell? ⟨x,2,none⟩ = some (.int .i64 (log:Int))) (first | exact ⟨hs1,hs2⟩ | exact ⟨cell_ext hx3 HS1.out HNX2.out,cell_ext hx3 HS2.out HNX2.out⟩) (first
    | (go_at_call 161;refine (HW.out).mono ?_;rintro e w3 ⟨rfl,hd3,hx3⟩))
   have HXX:=Lib.hid (HX.out.trans ((Ext.refl (Grow Dd w1 wr) wr).drew.trans_ hx3) (fun b hb hg=>Grow.back (Nat.le_refl _) hb hg))
   have hsz:=hx3.size
   have hszd:wr.drew.heap.size = wr.heap.size:=rfl
   have HD3:=Lib.hid (hd3.mono (D':=Grow Dd w1 w3) (fun b hb=>Grow.trans (w1:=wr) HX.out.size (by omega) (by rcases hb with hb | hb;exact .inl hb;exact .inr ⟨by omega,hb.2⟩)) (Grow.old (fun b hb=>Nat.lt_of_lt_of_le (HSO.out b hb) HX1.out.size) HXX.out.size))
   clear hd3 hx3 hs1 hs2 hw1 hw2 hw3 k0 lg
   by_cases hc:kw.1 = 0
   ·have hW2:Hid (R = kw.2.writes (layRest log id (K + 1) image)):=Lib.hid (by rw [HNXT.out,if_neg (by omega)])
    have hc0:(kw.1:Int) = 0:=by omega
    rw [hc0]
    clear hc hc0 HWL HNXT
    go_wp2_with fail
    go_roundg (gk - 1)
    case rel=>exact ⟨K + 1,kw.2,by have:=HKK.out;have:=H8.out;omega,by go_num,hW2,HD3,HXX,hk1,hkn1⟩
    case measure=>have:=HKK.out;have:=H8.out;omega
   ·have hRk:R = kw:=by rw [HNXT.out,if_pos hc]
    have HRK:=Lib.hid hRk
    have hc0:((kw.1:Int) != 0) = true:=by simp;omega
    clear hc hRk
    go_wp2_with fail
    go_ret
    rw [HRK.out]
    exact ⟨rfl,HD3.out.mono (fun b hb=>Grow.of HX1.out.size (Nat.le_refl _) hb) (Grow.old HSO.out (Nat.le_trans HX1.out.size HXX.out.size)),HX1.out.of_no.trans_ HXX.out⟩
  ·have hK8:K = 8:=by omega
   subst hK8
   have HR8:Hid (R = (0,k')):=Lib.hid (by rw [HWL.out,layRest_end];rfl)
   clear hK h8
   go_wp2_with fail
   go_ret
   rw [HR8.out]
   exact ⟨rfl,HDK.out.mono (fun b hb=>Grow.of HX1.out.size (Nat.le_refl _) hb) (Grow.old HSO.out (Nat.le_trans HX1.out.size HX.out.size)),HX1.out.of_no.trans_ HX.out⟩
end Go.Proofs.YtccnemmlkcmceaaGreatDoor
