/- Proofs about the given program, joined out of the texts VA, Y5. -/
import Derived.Test.YtccnemmlkcmceaaGreatDoorHE22
set_option linter.unusedVariables false
set_option linter.unusedSimpArgs false
set_option maxRecDepth 100000
set_option maxHeartbeats 6400000
namespace Go.Proofs.YtccnemmlkcmceaaGreatDoor
open Go.RowKit
theorem n4_conv (n:Nat) (hn:n < 4294967296) (w:World):(convert 98 9 (.slice (some ⟨w.heap.size,0,none⟩) 4 4)).run Tryz.prog (w.alloc (.cells #[.int .u8 ((n:Int) % 256),.int .u8 ((n:Int) / 256 % 256),.int .u8 ((n:Int) / 65536 % 256),.int .u8 ((n:Int) / 16777216 % 256)] 5)) =
   .ok (.string (str (n4 n))) (w.alloc (.cells #[.int .u8 ((n:Int) % 256),.int .u8 ((n:Int) / 256 % 256),.int .u8 ((n:Int) / 65536 % 256),.int .u8 ((n:Int) / 16777216 % 256)] 5)):=by
 have:=run_convert_bytes_back (P:=Tryz.prog) (w.alloc (.cells #[.int .u8 ((n:Int) % 256),.int .u8 ((n:Int) / 256 % 256),.int .u8 ((n:Int) / 65536 % 256),.int .u8 ((n:Int) / 16777216 % 256)] 5)) 98 9 5 ⟨w.heap.size,0,none⟩ 4 (n4 n) Tryz.underlying98 Tryz.underlying5 Tryz.underlying9 (by
  intro j hj
  have hj4:j < 4:=hj
  have e0:=ofNat_lt (n % 256) (by omega)
  have e1:=ofNat_lt (n / 256 % 256) (by omega)
  have e2:=ofNat_lt (n / 65536 % 256) (by omega)
  have e3:=ofNat_lt (n / 16777216 % 256) (by omega)
  match j,hj4 with
  | 0,_=>simp only [n4,List.getElem_cons_zero,e0];simp [Addr.add]
  | 1,_=>simp only [n4,List.getElem_cons_succ,List.getElem_cons_zero,e1];simp [Addr.add]
  | 2,_=>simp only [n4,List.getElem_cons_succ,List.getElem_cons_zero,e2];simp [Addr.add]
  | 3,_=>simp only [n4,List.getElem_cons_succ,List.getElem_cons_zero,e3];simp [Addr.add])
 exact this
theorem chain_any (s:Sys) (hs:s.Ok) (w:World) (v:V) (h:TxAt w s v) (hg:v.Good) (gx i:Nat) (hx:Blk w gx 70 (treeCells s i)) (val:Bs) (hv1:1 ≤ val.length) (hv2:val.length ≤ 16384) :
  Calls Tryz.prog 140 #[.pointer (some ⟨gx,0,none⟩),.string (str val)] w fun e w'=>e = .returned (.tuple #[.int .i64 ((v.chain s.cap val).1:Int),.int .i64 ((v.chain s.cap val).2.1:Int)]) ∧ TxAt w' s (v.chain s.cap val).2.2 ∧ (v.chain s.cap val).2.2.Good ∧ Ext s.F w w':=by
 have HX:=Lib.hid (fun (w':World) (e:Ext s.F w w')=>tree_ext h hx e)
 obtain ⟨D,hD⟩:∃ D,D = v.chain s.cap val:=⟨_,rfl⟩
 rw [← hD]
 unfold V.chain at hD
 obtain ⟨k0,hk0⟩:∃ k0,k0 = (val.length - 1) / 496:=⟨_,rfl⟩
 rw [← hk0] at hD
 have HD0:=Lib.hid hD.symm
 have HT0:=Lib.hid h
 have HG0:=Lib.hid hg
 have HK:=Lib.hid hk0
 have hl1:(((val.length:Int) - 1)).tdiv 496 = (k0:Int):=by rw [hk0,Int.tdiv_eq_ediv_of_nonneg (by omega)];omega
 have hkb:k0 ≤ 40:=by omega
 have HKB:=Lib.hid hkb
 have HV:=Lib.hid hv1
 have HV2:=Lib.hid hv2
 clear hD hk0 h hg hx hkb
 go_enter Tryz.func140,Tryz.ntmps140
 go_wp2_with fail
 go_loopg [6,8] (k0 + 1) (fun gk nx at_ wr=>∃ (next:Nat) (v':V),nx = .int .i64 (next:Int) ∧ at_ = .int .i64 (496 * (gk:Int) - 496) ∧ Hid (gk ≤ k0 + 1) ∧ Hid (next ≤ 65536) ∧ Hid (TxAt wr s v') ∧ Hid v'.Good ∧ Hid (Ext s.F w wr) ∧ Hid (chainLoop s.cap val gk next v' = D))
 case atStart =>
  refine ⟨0,v,rfl,?_,Lib.hid (Nat.le_refl _),Lib.hid (by omega),HT0,HG0,Lib.hid (Ext.refl _ _),HD0⟩
  have hkb:=HKB.out
  have e1:wrap64 (wrap64 (k0:Int) * 496) = 496 * ((k0 + 1:Nat):Int) - 496:=by unfold wrap64;omega
  rw [e1]
 case round =>
  obtain ⟨next,v',rfl,rfl,HGK,HNX,HT,HG,HE,HD⟩:=hrel
  clear HT0 HG0 HD0
  cases gk with
  | zero =>
   have e1:(496 * ((0:Nat):Int) - 496) = -496:=by omega
   rw [e1]
   have hD:=HD.out
   rw [chainLoop] at hD
   subst hD
   go_wp2_with fail
   go_ret2
   exact ⟨rfl,HT.out,HG.out,HE.out⟩
  | succ k =>
   obtain ⟨at0,hat⟩:∃ a,a = k * 496:=⟨_,rfl⟩
   have e1:(496 * ((k + 1:Nat):Int) - 496) = (at0:Int):=by omega
   rw [e1]
   have hkk:=HGK.out
   have hk0:=HK.out
   have hv1:=HV.out
   have hv2:=HV2.out
   have hlt:at0 < val.length:=by omega
   have hX:=HX.out _ HE.out
   have d0:=hX.cell 0
   simp [treeCells] at d0
   have ld:=hX.lt
   have HA:=Lib.hid (alloc_any s hs wr v' HT.out HG.out)
   have hGA:=HG.out.alloc HT.out.h2 (Sys.cap_le hs)
   have hid:=V.alloc_id HG.out HT.out.h2 (Sys.cap_le hs)
   have hD:=HD.out
   rw [chainLoop,← hat] at hD
   obtain ⟨r,hr⟩:∃ r,r = v'.alloc s.cap:=⟨_,rfl⟩
   rw [← hr] at HA hD hGA hid
   obtain ⟨id,ca,v1⟩:=r
   simp only at HA hD hGA hid
   have HGA:=Lib.hid hGA.1
   have HID:=Lib.hid hid
   have HLT:=Lib.hid hlt
   have HAT:=Lib.hid hat
   have HD1:=Lib.hid hD
   clear hX hr hD hGA hid hkk hk0 hv1 hv2 e1 hat HD
   by_cases hca:ca = 0
   ·subst hca
    go_wp2_with fail
    refine HA.out.mono ?_
    rintro e w1 ⟨rfl,hT1,hx1⟩
    have HT1:=Lib.hid hT1;have HX1:=Lib.hid hx1
    clear hT1 hx1
    have hX:=HX.out _ (HE.out.trans_ HX1.out)
    clear d0 ld
    have d0:=hX.cell 0
    simp [treeCells] at d0
    have ld:=hX.lt
    clear hX
    have kc:=n4_conv next (by have:=HNX.out;omega) w1
    go_wp2_with fail
    obtain ⟨mt,hmt⟩:∃ mt,mt = min (at0 + 496) val.length:=⟨_,rfl⟩
    have hm0:=HLT.out
    have hm5:=HV2.out
    have hm1:min ((at0:Int) + 496) (val.length:Int) = (mt:Int):=by omega
    have hm2:IntKind.i64.wrap ((at0:Int) + 496) = (at0:Int) + 496:=IntWalk.i64_in _ (by omega)
    have hm3:(mt:Int) ≤ (val.length:Int):=by omega
    have hm4:(at0:Int) ≤ (mt:Int):=by omega
    have hm6:at0 ≤ mt:=by omega
    have hm7:mt ≤ val.length:=by omega
    have hex:(str val).extract at0 mt = str ((val.drop at0).take 496):=by
     refine bytes_eq _ _ ?_
     simp only [str,ByteArray.data_extract,Array.toList_extract,List.extract_eq_drop_take']
     by_cases hq:at0 + 496 ≤ val.length
     ·rw [show mt = at0 + 496 from by omega,List.take_drop]
     ·rw [show mt = val.length from by omega,List.take_of_length_le (Nat.le_refl _),List.take_of_length_le (by simp;omega)]
    clear hmt hm0 hm5
    have hD:=HD1.out
    rw [if_pos (by first | rfl | trivial)] at hD
    have hPl:((val.drop at0).take 496).length ≤ 496:=by rw [List.length_take];omega
    generalize (val.drop at0).take 496 = P at hex hD hPl
    have hcat:str (n4 next) ++ str P = str (n4 next ++ P):=bytes_eq _ _ (by simp [str])
    have hsz:¬ (9223372036854775807 < (n4 next).length + P.length):=by rw [n4_len];omega
    have hbl:(n4 next ++ P).length ≤ 500:=by rw [List.length_append,n4_len];omega
    have HWR:=Lib.hid (write_any s hs _ v1 (HT1.out.no hs (((Ext.refl No w1).alloc (.cells #[.int .u8 ((next:Int) % 256),.int .u8 ((next:Int) / 256 % 256),.int .u8 ((next:Int) / 65536 % 256),.int .u8 ((next:Int) / 16777216 % 256)] 5)).drew)) id 3 (n4 next ++ P) (by decide) (by decide) hbl)
    have hgs:=HGA.out.set id 3 (n4 next ++ P) (by decide) hbl
    obtain ⟨r,hr⟩:∃ r,r = v1.set id 3 (n4 next ++ P):=⟨_,rfl⟩
    rw [← hr] at HWR hD hgs
    have HGS:=Lib.hid hgs
    have HD2:=Lib.hid hD
    clear hD hr hgs hbl hPl
    go_cut [12] (fun k12 wx=>k12 = .int .i64 (r.1:Int) ∧ Hid (TxAt wx s r.2) ∧ Hid (Ext s.F w1 wx))
    case first =>
     go_region_law ((go_simp;go_at_call 20;refine HWR.out.mono ?_;rintro e w2 ⟨rfl,hT,hx2⟩;have HT2:=Lib.hid hT;have HX2:=Lib.hid hx2;clear hT hx2))
     all_goals (
      go_wp2_with fail
      go_meet
      exact ⟨rfl,HT2,Lib.hid (((Ext.refl s.F w1).alloc _).drew.trans_ HX2.out)⟩)
    case rest =>
     obtain ⟨rfl,HT2,HX2⟩:=hcut
     obtain ⟨c2,v2⟩:=r
     simp only at HT2 HGS HD2 ⊢
     have HE2:=Lib.hid ((HE.out.trans_ HX1.out).trans_ HX2.out)
     by_cases hc2:c2 = 0
     ·subst hc2
      have hD:=HD2.out
      rw [if_pos (by first | rfl | trivial)] at hD
      have HD3:=Lib.hid hD
      clear hD
      go_wp2_with fail
      go_roundg k
      case rel =>
       refine ⟨id,v2,rfl,?_,Lib.hid (by have:=HGK.out;omega),HID,HT2,HGS,HE2,HD3⟩
       have h1:=HLT.out;have h2:=HV2.out;have h3:=HAT.out
       rw [show (at0:Int) - 496 = 496 * (k:Int) - 496 from by omega]
      case measure=>omega
     ·have hc2':((c2:Int) != 0) = true:=by simpa using (by omega:¬ (c2:Int) = 0)
      have hD:=HD2.out
      rw [if_neg hc2] at hD
      subst hD
      clear hc2
      go_wp2_with fail
      go_ret2
      exact ⟨rfl,HT2.out,HGS.out,HE2.out⟩
   ·have hca':((ca:Int) != 0) = true:=by simpa using (by omega:¬ (ca:Int) = 0)
    have hD:=HD1.out
    rw [if_neg hca] at hD
    subst hD
    clear hca
    go_wp2_with fail
    refine HA.out.mono ?_
    rintro e w1 ⟨rfl,hT1,hx1⟩
    go_wp2_with fail
    go_ret2
    exact ⟨rfl,hT1,HGA.out,HE.out.trans_ hx1⟩
section
variable {s:Sys} {w:World} {gx:Nat}
theorem ex1 (hs:s.Ok) (hc:s.cap = 20) (h:TxAt w s v0) (hx:Blk w gx 70 (treeCells s 0)) :
  Calls Tryz.prog 25 #[.pointer (some ⟨gx,0,none⟩),.string ⟨#[97]⟩,.string ⟨#[120]⟩] w (Did s w (0,e1)):=by
 have:=Put_room s hs w v0 h v0_good gx 0 hx (by decide) ka vx (by decide) (by decide) [] f1 rfl (fun st h=>by cases h)
 rw [hc] at this
 exact (show v0.Put 20 0 ka vx = (0,e1) from Prod.ext f1e rfl) ▸ this
theorem ex2 (hs:s.Ok) (hc:s.cap = 20) (h:TxAt w s e1) (hg:e1.Good) (hx:Blk w gx 70 (treeCells s 0)) :
  Calls Tryz.prog 25 #[.pointer (some ⟨gx,0,none⟩),.string ⟨#[98]⟩,.string ⟨#[121]⟩] w (Did s w (0,e2)):=by
 have:=Put_room s hs w e1 h hg gx 0 hx (by decide) kb vy (by decide) (by decide) _ f2 (by kernel_rfl) (fun st h=>by
  simp at h
  subst h
  have:=f2w
  intro e
  rw [show (⟨kb,vy,0,0⟩:Cell) = cB from rfl,f2w] at e
  cases e)
 rw [hc] at this
 exact (show e1.Put 20 0 kb vy = (0,e2) from Prod.ext f2e rfl) ▸ this
theorem ex3 (hs:s.Ok) (h:TxAt w s e2) (hg:e2.Good) (hx:Blk w gx 70 (treeCells s 0)) :
  Calls Tryz.prog 28 #[.pointer (some ⟨gx,0,none⟩)] w fun e w'=>e = .returned (.tuple #[.int .i64 1,.int .i64 0]) ∧ Ext No w w':=by
 have:=height_any s hs w e2 h hg gx 0 hx (by decide)
 rw [f2h] at this
 exact this
theorem ex4 (hs:s.Ok) (h:TxAt w s e2) (hg:e2.Good) (hx:Blk w gx 70 (treeCells s 0)) :
  Calls Tryz.prog 24 #[.pointer (some ⟨gx,0,none⟩)] w fun e w'=>e = .returned (.tuple #[.int .i64 1,.int .i64 0]) ∧ Ext No w w':=by
 refine pages_of _ w 1 0 (survey_leaf s hs w e2 h hg gx 0 hx (by decide) (by rw [f2r];decide) ⟨true,[cA,cB],[],[]⟩ (by rw [f2r];exact f2n) rfl (by simp) (fun c hc=>?_))
 simp at hc
 rcases hc with rfl | rfl <;> rfl
theorem ex5 (hs:s.Ok) (h:TxAt w s e2) (hg:e2.Good) (hx:Blk w gx 70 (treeCells s 0)) :
  Calls Tryz.prog 23 #[.pointer (some ⟨gx,0,none⟩),.string ⟨#[98]⟩] w fun e w'=>e = .returned (.tuple #[.string (str vy),.bool true,.int .i64 0]) ∧ Ext No w w':=by
 have:=get_any' s hs w e2 h hg gx 0 hx (by decide) kb (fun ws c h1 h2=>value_small s e2 c (by
  rw [f2y] at h1
  injection h1 with h1
  subst h1
  have:hit [⟨1,⟨true,[cA,cB],[],[]⟩,1⟩] kb = some cB:=by kernel_rfl
  rw [this] at h2
  injection h2 with h2
  subst h2
  rfl))
 rw [f2g] at this
 exact this
theorem ex6 (hs:s.Ok) (hc:s.cap = 20) (h:TxAt w s e2) (hg:e2.Good) (hx:Blk w gx 70 (treeCells s 0)) :
  Calls Tryz.prog 27 #[.pointer (some ⟨gx,0,none⟩),.string ⟨#[97]⟩] w (DidB s w (true,0,e3)):=by
 have:=Del_room s hs w e2 h hg gx 0 hx (by decide) ka (by decide) _ f3 cA (by kernel_rfl) rfl rfl rfl
 rw [hc] at this
 exact (show e2.Del 20 0 ka = (true,0,e3) from Prod.ext f3e.1 (Prod.ext f3e.2 rfl)) ▸ this
theorem ex7 (hs:s.Ok) (hc:s.cap = 20) (h:TxAt w s e3) (hg:e3.Good) (hx:Blk w gx 70 (treeCells s 0)) :
  Calls Tryz.prog 27 #[.pointer (some ⟨gx,0,none⟩),.string ⟨#[98]⟩] w (DidB s w (true,0,e4)):=by
 have:=Del_room s hs w e3 h hg gx 0 hx (by decide) kb (by decide) _ f4 cB (by kernel_rfl) rfl rfl rfl
 rw [hc] at this
 exact (show e3.Del 20 0 kb = (true,0,e4) from Prod.ext f4e.1 (Prod.ext f4e.2 rfl)) ▸ this
theorem ex8 (hs:s.Ok) (h:TxAt w s e4) (hg:e4.Good) (hx:Blk w gx 70 (treeCells s 0)) :
  Calls Tryz.prog 28 #[.pointer (some ⟨gx,0,none⟩)] w fun e w'=>e = .returned (.tuple #[.int .i64 0,.int .i64 0]) ∧ Ext No w w':=by
 have:=height_any s hs w e4 h hg gx 0 hx (by decide)
 rw [f5h] at this
 exact this
theorem ex9 (hs:s.Ok) (h:TxAt w s e4) (hx:Blk w gx 70 (treeCells s 0)) :
  Calls Tryz.prog 24 #[.pointer (some ⟨gx,0,none⟩)] w fun e w'=>e = .returned (.tuple #[.int .i64 0,.int .i64 0]) ∧ Ext No w w' :=
 pages_of _ w 0 (-1) (survey_zero s hs w e4 h gx 0 hx (by decide) f5r)
end
theorem Ext.more {s:Sys} {w w1 w2:World} (h:Ext No w w1) (hx:Ext s.F w1 w2) (hF:∀ b,s.F b → w.heap.size ≤ b):Ext No w w2 :=
 h.trans hx fun i hi hf=>absurd (hF i hf) (by omega)
theorem works_any (w:World):Calls Tryz.prog 18 #[] w fun e w'=>e = .returned (.bool true) ∧ Ext No w w':=by
 have HB:=Lib.hid (begin_any 20 (by decide) (by decide) w)
 go_enter Tryz.func18,Tryz.ntmps18
 go_wp2_with fail
 refine HB.out.mono ?_
 rintro e w1 ⟨s,hF,rfl,hx1,ht,hm,_,_⟩
 have hs:=hF.ok
 have hc:=hF.cap
 have HS:=Lib.hid hs;have HC:=Lib.hid hc
 have HT1:=Lib.hid hF.tx
 have HE1:=Lib.hid hx1
 have HFF:Hid (∀ b,s.F b → w.heap.size ≤ b):=Lib.hid (fun b hb=>by
  rcases hb with rfl | rfl
  ·exact ht
  ·exact hm)
 have HOF:=Lib.hid (of_any (some ⟨s.t,0,none⟩) 0 (by decide) w1)
 have hTa:TxAt (w1.alloc (.cells (treeCells s 0) 70)) s v0:=hF.tx.no hs ((Ext.refl No w1).alloc _)
 have hXa:Blk (w1.alloc (.cells (treeCells s 0) 70)) w1.heap.size 70 (treeCells s 0):=Blk.new w1 70 _
 have HXa:=Lib.hid hXa
 have H1:=Lib.hid (ex1 hs hc hTa hXa)
 have HEa:=Lib.hid (hx1.alloc (.cells (treeCells s 0) 70))
 have HTa:=Lib.hid hTa
 clear hF hs hc hx1 ht hm hTa hXa
 go_wp2_with fail
 refine HOF.out.mono ?_
 rintro e w2 ⟨rfl,rfl⟩
 go_wp2_with fail
 refine H1.out.mono ?_
 rintro e w3 ⟨rfl,hT3,hG3,hx3⟩
 have hX3:=tree_ext HTa.out HXa.out hx3
 have HX3:=Lib.hid hX3;have HT3:=Lib.hid hT3
 have HE3:=Lib.hid (HEa.out.more hx3 HFF.out)
 have H2:=Lib.hid (ex2 HS.out HC.out hT3 hG3 hX3)
 clear hT3 hG3 hx3 hX3
 go_wp2_with fail
 refine H2.out.mono ?_
 rintro e w4 ⟨rfl,hT4,hG4,hx4⟩
 have hX4:=tree_ext HT3.out HX3.out hx4
 have HX4:=Lib.hid hX4;have HT4:=Lib.hid hT4;have HG4:=Lib.hid hG4
 have HE4:=Lib.hid (HE3.out.more hx4 HFF.out)
 have H3:=Lib.hid (ex3 HS.out hT4 hG4 hX4)
 clear hT4 hG4 hx4 hX4
 go_wp2_with fail
 refine H3.out.mono ?_
 rintro e w5 ⟨rfl,hx5⟩
 have HX5:=Lib.hid (HX4.out.ext hx5 (fun h=>h));have HT5:=Lib.hid (HT4.out.no HS.out hx5)
 have HE5:=Lib.hid (HE4.out.trans_ hx5)
 have H4:=Lib.hid (ex4 HS.out HT5.out HG4.out HX5.out)
 clear hx5
 go_wp2_with fail
 refine H4.out.mono ?_
 rintro e w6 ⟨rfl,hx6⟩
 have HX6:=Lib.hid (HX5.out.ext hx6 (fun h=>h));have HT6:=Lib.hid (HT5.out.no HS.out hx6)
 have HE6:=Lib.hid (HE5.out.trans_ hx6)
 have H5:=Lib.hid (ex5 HS.out HT6.out HG4.out HX6.out)
 clear hx6
 go_wp2_with fail
 refine H5.out.mono ?_
 rintro e w7 ⟨rfl,hx7⟩
 have HX7:=Lib.hid (HX6.out.ext hx7 (fun h=>h));have HT7:=Lib.hid (HT6.out.no HS.out hx7)
 have HE7:=Lib.hid (HE6.out.trans_ hx7)
 have H6:=Lib.hid (ex6 HS.out HC.out HT7.out HG4.out HX7.out)
 clear hx7
 simp only [vy]
 go_wp2_with fail
 refine H6.out.mono ?_
 rintro e w8 ⟨rfl,hT8,hG8,hx8⟩
 have hX8:=tree_ext HT7.out HX7.out hx8
 have HX8:=Lib.hid hX8;have HT8:=Lib.hid hT8
 have HE8:=Lib.hid (HE7.out.more hx8 HFF.out)
 have H7:=Lib.hid (ex7 HS.out HC.out hT8 hG8 hX8)
 clear hT8 hG8 hx8 hX8
 go_wp2_with fail
 refine H7.out.mono ?_
 rintro e w9 ⟨rfl,hT9,hG9,hx9⟩
 have hX9:=tree_ext HT8.out HX8.out hx9
 have HX9:=Lib.hid hX9;have HT9:=Lib.hid hT9
 have HE9:=Lib.hid (HE8.out.more hx9 HFF.out)
 have H8:=Lib.hid (ex8 HS.out hT9 hG9 hX9)
 clear hT9 hG9 hx9 hX9
 go_wp2_with fail
 refine H8.out.mono ?_
 rintro e w10 ⟨rfl,hx10⟩
 have HX10:=Lib.hid (HX9.out.ext hx10 (fun h=>h));have HT10:=Lib.hid (HT9.out.no HS.out hx10)
 have HE10:=Lib.hid (HE9.out.trans_ hx10)
 have H9:=Lib.hid (ex9 HS.out HT10.out HX10.out)
 clear hx10
 go_wp2_with fail
 refine H9.out.mono ?_
 rintro e w11 ⟨rfl,hx11⟩
 go_wp2_with fail
 go_ret
 exact ⟨rfl,HE10.out.trans_ hx11⟩
end Go.Proofs.YtccnemmlkcmceaaGreatDoor
