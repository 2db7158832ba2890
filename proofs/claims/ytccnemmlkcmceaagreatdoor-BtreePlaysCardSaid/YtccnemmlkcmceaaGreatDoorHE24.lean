/- Proofs about the given program, joined out of the texts P5. -/
import Derived.Test.YtccnemmlkcmceaaGreatDoorHE18
import Derived.Test.YtccnemmlkcmceaaGreatDoorHE22
set_option linter.unusedVariables false
set_option linter.unusedSimpArgs false
set_option maxRecDepth 100000
set_option maxHeartbeats 6400000
namespace Go.Proofs.YtccnemmlkcmceaaGreatDoor
open Go.RowKit
theorem results_cc {fn:Func} {p q u x:Tmp} {ty ty':TypeId} (h:fn.results = #[.cell p ty,.cell q ty',.tmp u,.tmp x]) (tmps:Array Value) (P:Program) (w:World) :
  (results fn tmps).run P w = ((asAddr (tmps.getD p undef)).run P w).andThen fun a w1=>((loadVar ty a).run P w1).andThen fun v w2=>((asAddr (tmps.getD q undef)).run P w2).andThen fun b w3=>((loadVar ty' b).run P w3).andThen fun v' w4 =>
   .ok (.tuple #[v,v',tmps.getD u undef,tmps.getD x undef]) w4:=by
 simp only [results,h]
 simp [Sem.run_bind,Result.andThen]
theorem split_back {Q:Ending → World → Prop} {a:Act} {w:World} (b b':Nat) (cs cs':Array Value) (hb:Blk w b 40 cs) (hb':Blk w b' 40 cs') {v v':Value} (hs:some 4 = some cs.size) (hs':some 4 = some cs'.size)
  (hp:a.tmps.getD 2 undef = .pointer (some ⟨b,0,none⟩)) (hp':a.tmps.getD 3 undef = .pointer (some ⟨b',0,none⟩)) (h4:a.tmps.getD 4 undef = v) (h5:a.tmps.getD 5 undef = v') (hd:a.defers = [])
  (h:Q (.returned (.tuple #[.agg cs,.agg cs',v,v'])) w):bodyPost Tryz.prog Tryz.f143 Q Exit.ret a w:=by
 refine bodyPost_ret (v:=.tuple #[.agg cs,.agg cs',v,v']) (w:=w) ?_ hd h
 have hl:=run_loadVar_row w b 40 40 cs (0,0) _ hb Tryz.underlying40 rfl (by rw [← hs];kernel_rfl)
 have hl':=run_loadVar_row w b' 40 40 cs' (0,0) _ hb' Tryz.underlying40 rfl (by rw [← hs'];kernel_rfl)
 rw [results_cc rfl,hp,hp',h4,h5]
 simp [asAddr,Result.andThen,hl,hl']
theorem Nd.part_fits {n:Nd} (h:n.fits) (f t:Nat):(n.part f t).fits:=by
 unfold Nd.part
 split
 ·exact ⟨fun c hc=>h.c c (List.mem_of_mem_drop (List.mem_of_mem_take hc)),by simp,by simp⟩
 ·exact ⟨by simp,fun c hc=>h.k c (List.mem_of_mem_drop (List.mem_of_mem_take hc)),fun c hc=>h.i c (List.mem_of_mem_drop (List.mem_of_mem_take hc))⟩
theorem part_any (n:Nd) (f t:Nat) (w:World) (F:Nat → Prop) (A1:Option Addr) (c1:Nat) (A2:Option Addr) (c2:Nat) (A3:Option Addr) (c3:Nat) (hn:NodeAt w F A1 c1 A2 c2 A3 c3 n)
  (hok:n.ok = true) (hf:f < t) (ht:t ≤ n.all) :
  Calls Tryz.prog 182 #[n.value A1 c1 A2 c2 A3 c3,.int .i64 (f:Int),.int .i64 (t:Int)] w (Made w (n.part f t)):=by
 unfold Nd.all at ht
 cases hl:n.leaf
 ·rw [hl] at ht
  exact part_branch n f t w F A1 c1 A2 c2 A3 c3 hn hl hf (by simpa using ht) ((Nd.Ok.of hok).br hl).2
 ·rw [hl] at ht
  simp only [if_true] at ht
  exact part_leaf n f t w F A1 c1 A2 c2 A3 c3 hn hl (by omega) hf ht
theorem bestLoop_in (n:Nd) (hi:Nat):∀ (f i:Nat) (r:Nat × Nat),1 ≤ i → i + f ≤ hi → 1 ≤ r.1 → r.1 < hi → 1 ≤ (n.bestLoop f i r).1 ∧ (n.bestLoop f i r).1 < hi
 | 0,_,r,_,_,h1,h2=>⟨h1,h2⟩
 | f + 1,i,r,h0,h,h1,h2=>by
  rw [Nd.bestLoop]
  refine bestLoop_in n hi f (i + 1) _ (by omega) (by omega) ?_ ?_
  ·split
   ·exact h0
   ·exact h1
  ·split
   ·simp only;omega
   ·exact h2
theorem best_in {n:Nd} (h:2 + n.gap ≤ n.all):1 ≤ n.best ∧ n.best < n.all - n.gap:=by
 unfold Nd.best
 exact bestLoop_in n (n.all - n.gap) _ 1 _ (by omega) (by omega) (by omega) (by simp only;omega)
def SplitTold (w:World) (o:Option (Nd × Nd × Bs)) (e:Ending) (w':World):Prop :=
 Ext No w w' ∧ match o with
  | none=>e = .returned (.tuple #[Nd.zero,Nd.zero,.string (str []),.int .i64 2])
  | some (l,r,key)=>∃ a b:Adr,e = .returned (.tuple #[l.value a.A1 a.c1 a.A2 a.c2 a.A3 a.c3,r.value b.A1 b.c1 b.A2 b.c2 b.A3 b.c3,.string (str key),.int .i64 0]) ∧ NodeIn w' (Old w) a l ∧ NodeIn w' (Old w) b r
theorem split_leaf (n:Nd) (w:World) (F:Nat → Prop) (A1:Option Addr) (c1:Nat) (A2:Option Addr) (c2:Nat) (A3:Option Addr) (c3:Nat) (hn:NodeAt w F A1 c1 A2 c2 A3 c3 n) (hok:n.ok = true) (hlf:n.leaf = true) (h2:2 + 0 ≤ n.cells.length) :
  Calls Tryz.prog 143 #[n.value A1 c1 A2 c2 A3 c3] w (SplitTold w (some (n.part 0 n.best,n.part (n.best + 0) n.cells.length,n.mid n.best))):=by
 have hOk:=Nd.Ok.of hok
 have hfit:=Nd.Ok.fits hOk
 have hall:n.all = n.cells.length:=by simp [Nd.all,hlf]
 have hgap:n.gap = 0:=by simp [Nd.gap,hlf]
 have HC:=Lib.hid (fun w hn=>check_any n w F A1 c1 A2 c2 A3 c3 hn hfit)
 rw [Nd.chk_ok hok] at HC
 have HP:=Lib.hid (fun f t w (hn:NodeAt w F A1 c1 A2 c2 A3 c3 n) (hf:f < t) (ht:t ≤ n.cells.length)=>part_any n f t w F A1 c1 A2 c2 A3 c3 hn hok hf (by rw [hall];exact ht))
 have HS:=Lib.hid (fun f t w F A1 c1 A2 c2 A3 c3 (hn:NodeAt w F A1 c1 A2 c2 A3 c3 (n.part f t))=>size_any (n.part f t) w F A1 c1 A2 c2 A3 c3 hn (Nd.part_fits hfit f t))
 have HBI:=Lib.hid (best_in (n:=n) (by rw [hall,hgap];exact h2))
 have HBL:Hid (n.best = (n.bestLoop (n.cells.length - 0 - 1) 1 (1,1073741824)).1):=Lib.hid (by unfold Nd.best;rw [hall,hgap])
 have HWO:Hid (∀ i,n.worse i = max (n.part 0 i).size (n.part (i + 0) n.cells.length).size):=Lib.hid (fun i=>by unfold Nd.worse;rw [hall,hgap])
 have hb1:=hn.b1
 have hb2:=hn.b2
 have HN:=Lib.hid hn
 have H2:=Lib.hid h2
 have hg1:¬ ((n.cells.length:Int) < 2 + 0):=by omega
 have hsb1:n.cells.length ≤ 255:=hOk.a1
 have hsb2:n.keys.length ≤ 255:=hOk.a2
 have HSZ:Hid (∀ f t,(n.part f t).size < 1000000000):=Lib.hid (fun f t=>by
  have h:=sumC_bound (n.part f t).cells (Nd.part_fits hfit f t).c
  have h':=sumK_bound (n.part f t).keys (Nd.part_fits hfit f t).k
  have e1:(n.part f t).cells.length ≤ 255:=by unfold Nd.part;split <;> simp <;> omega
  have e2:(n.part f t).keys.length ≤ 255:=by unfold Nd.part;split <;> simp <;> omega
  unfold Nd.size
  split <;> omega)
 simp only [Nd.value,hlf] at HC HP ⊢
 clear hn hok hOk hfit hall hgap h2
 go_enter Tryz.func143,Tryz.ntmps143
 go_wp2_with fail
 have hE0:Ext No w (((w.alloc (.cells #[.bool true,.slice A1 n.cells.length c1,.slice A2 n.keys.length c2,.slice A3 n.kids.length c3] 40)).alloc (.cells #[.bool false,.slice none 0 0,.slice none 0 0,.slice none 0 0] 40)).alloc (.cells #[.bool false,.slice none 0 0,.slice none 0 0,.slice none 0 0] 40)):=(((Ext.refl No w).alloc _).alloc _).alloc _
 refine (HC.out _ (HN.out.ext hE0.of_no)).mono ?_
 rintro e w1 ⟨rfl,hx1⟩
 have bn1:=(((Blk.new w 40 #[.bool true,.slice A1 n.cells.length c1,.slice A2 n.keys.length c2,.slice A3 n.kids.length c3]).alloc (.cells #[.bool false,.slice none 0 0,.slice none 0 0,.slice none 0 0] 40)).alloc (.cells #[.bool false,.slice none 0 0,.slice none 0 0,.slice none 0 0] 40)).ext hx1 (fun h=>h)
 have br1:=((Blk.new_at (b:=w.heap.size + 1) (w.alloc (.cells #[.bool true,.slice A1 n.cells.length c1,.slice A2 n.keys.length c2,.slice A3 n.kids.length c3] 40)) 40 #[.bool false,.slice none 0 0,.slice none 0 0,.slice none 0 0] (by simp)).alloc (.cells #[.bool false,.slice none 0 0,.slice none 0 0,.slice none 0 0] 40)).ext hx1 (fun h=>h)
 have bs1:=(Blk.new_at (b:=w.heap.size + 2) ((w.alloc (.cells #[.bool true,.slice A1 n.cells.length c1,.slice A2 n.keys.length c2,.slice A3 n.kids.length c3] 40)).alloc (.cells #[.bool false,.slice none 0 0,.slice none 0 0,.slice none 0 0] 40)) 40 #[.bool false,.slice none 0 0,.slice none 0 0,.slice none 0 0] (by simp)).ext hx1 (fun h=>h)
 have HE1:=Lib.hid (hE0.trans_ hx1)
 have HBN1:=Lib.hid bn1;have HBR1:=Lib.hid br1;have HBS1:=Lib.hid bs1
 clear hE0 hx1 bn1 br1 bs1
 go_wp2_with fail
 go_loopg [8,9,10] (n.cells.length - 0 - 1) (fun gk k b IV wr=>∃ (K B i:Nat),k = .int .i64 (K:Int) ∧ b = .int .i64 (B:Int) ∧ IV = .int .i64 (i:Int) ∧ i + gk = n.cells.length - 0 ∧ 1 ≤ i ∧ Hid (n.bestLoop gk i (K,B) = n.bestLoop (n.cells.length - 0 - 1) 1 (1,1073741824)) ∧ B ≤ 1073741824 ∧ Ext No w1 wr)
 case atStart=>exact ⟨1,1073741824,1,rfl,rfl,rfl,by have:=H2.out;omega,by omega,Lib.hid rfl,by omega,Ext.refl _ _⟩
 case round =>
  obtain ⟨K,B,i,rfl,rfl,rfl,hI,h1,hb,hB,hE⟩:=hrel
  have HI:=Lib.hid hI;have HE:=Lib.hid hE;have HH1:=Lib.hid h1;have HHB:=Lib.hid hB
  have bnr:=HBN1.out.ext hE (fun h=>h)
  have bndr:Blk wr.drew w.heap.size 40 #[.bool true,.slice A1 n.cells.length c1,.slice A2 n.keys.length c2,.slice A3 n.kids.length c3]:=bnr
  obtain ⟨p0,p1,p2,p3,g0,g1,g2,g3,ln⟩:=bndr.p4
  have HBN:=Lib.hid bndr
  have HNR:=Lib.hid (HN.out.ext ((HE1.out.trans_ hE).drew.of_no))
  by_cases hlt:i < n.cells.length - 0
  ·have HLT:=Lib.hid hlt
   have hlt':(i:Int) < (n.cells.length:Int) - 0:=by omega
   have hib:(i:Int) < 1000:=by omega
   have hwr:IntKind.i64.wrap (i:Int) = (i:Int):=IntWalk.i64_in _ (by omega)
   have HP1:Hid (∀ w,NodeAt w F A1 c1 A2 c2 A3 c3 n → Calls Tryz.prog 182 #[.agg #[.bool true,.slice A1 n.cells.length c1,.slice A2 n.keys.length c2,.slice A3 n.kids.length c3],.int .i64 0,.int .i64 (i:Int)] w (Made w (n.part 0 i))):=Lib.hid (fun w hn=>HP.out 0 i w hn (by omega) (by omega))
   have HP2:Hid (∀ w,NodeAt w F A1 c1 A2 c2 A3 c3 n → Calls Tryz.prog 182 #[.agg #[.bool true,.slice A1 n.cells.length c1,.slice A2 n.keys.length c2,.slice A3 n.kids.length c3],.int .i64 (i:Int),.int .i64 (n.cells.length:Int)] w (Made w (n.part (i + 0) n.cells.length))):=Lib.hid (fun w hn=>HP.out (i + 0) n.cells.length w hn (by omega) (Nat.le_refl _))
   clear hI hE bnr bndr hlt h1 hB
   go_wp2_with fail
   go_region_held3 (fun w'=>w'.cell? ⟨w.heap.size,0,none⟩ = some (.bool true) ∧ w'.cell? ⟨w.heap.size,1,none⟩ = some (.slice A1 n.cells.length c1) ∧ w'.cell? ⟨w.heap.size,2,none⟩ = some (.slice A2 n.keys.length c2) ∧ w'.cell? ⟨w.heap.size,3,none⟩ = some (.slice A3 n.kids.length c3)) (go_keep)
    (first
     | (have _g:=HX7.out;clear _g;go_at_call 181;refine (HS.out (i + 0) n.cells.length _ _ _ _ _ _ _ _ HN7.out).mono ?_;rintro e w8 ⟨rfl,hx8⟩;have HX8:=Lib.hid hx8;have b8:=Blk.of_ext hx8 HB7.out (fun h=>h);have HB8:=Lib.hid b8;obtain ⟨p0,p1,p2,p3,g0,g1,g2,g3,ln⟩:=b8.p4;clear hx8)
     | (have _g:=HX6.out;clear _g;go_at_call 182;refine (HP2.out _ (HNR.out.ext (HX5.out.trans_ HX6.out).of_no)).mono ?_;rintro e w7 ⟨hx7,C1,f1,C2,f2,C3,f3,rfl,hn7⟩;have HX7:=Lib.hid hx7;have HN7:=Lib.hid hn7;have b7:=Blk.of_ext hx7 HB6.out (fun h=>h);have HB7:=Lib.hid b7;obtain ⟨p0,p1,p2,p3,g0,g1,g2,g3,ln⟩:=b7.p4;clear hx7 hn7)
     | (go_at_call 181;refine (HS.out 0 i _ _ _ _ _ _ _ _ HN5.out).mono ?_;rintro e w6 ⟨rfl,hx6⟩;have HX6:=Lib.hid hx6;have b6:=Blk.of_ext hx6 HB5.out (fun h=>h);have HB6:=Lib.hid b6;obtain ⟨p0,p1,p2,p3,g0,g1,g2,g3,ln⟩:=b6.p4;clear hx6)
     | (go_at_call 182;refine (HP1.out _ HNR.out).mono ?_;rintro e w5 ⟨hx5,B1,d1,B2,d2,B3,d3,rfl,hn5⟩;have HX5:=Lib.hid hx5;have HN5:=Lib.hid hn5;have b5:=Blk.of_ext hx5 HBN.out (fun h=>h);have HB5:=Lib.hid b5;obtain ⟨p0,p1,p2,p3,g0,g1,g2,g3,ln⟩:=b5.p4;clear hx5 hn5))
   all_goals (
    have HE8:=Lib.hid ((((HE.out.drew.trans_ HX5.out).trans_ HX6.out).trans_ HX7.out).trans_ HX8.out)
    have hz1:=HSZ.out 0 i
    have hz2:=HSZ.out (i + 0) n.cells.length
    obtain ⟨j,hj⟩:∃ j,gk = j + 1:=⟨gk - 1,by have:=HI.out;have:=HLT.out;omega⟩
    have HJ:=Lib.hid hj
    have hbb:=hb.out
    rw [hj,Nd.bestLoop,HWO.out i] at hbb
    obtain ⟨sa,hsa⟩:∃ sa,sa = (n.part 0 i).size:=⟨_,rfl⟩
    obtain ⟨sb,hsb⟩:∃ sb,sb = (n.part (i + 0) n.cells.length).size:=⟨_,rfl⟩
    have hsb':(n.part (i + 0) n.cells.length).size = sb:=hsb.symm
    try simp only [Nat.add_zero] at hsb' hbb hz2
    rw [← hsa] at hbb hz1 ⊢
    rw [hsb'] at hbb hz2 ⊢
    have hmx:max (sa:Int) (sb:Int) = ((max sa sb:Nat):Int):=by
     rcases Nat.le_total sa sb with h | h
     ·rw [Nat.max_eq_right h,Int.max_eq_right (by omega)]
     ·rw [Nat.max_eq_left h,Int.max_eq_left (by omega)]
    rw [hmx]
    obtain ⟨T,hT⟩:∃ T,T = max sa sb:=⟨_,rfl⟩
    rw [← hT] at hbb ⊢
    have HBB:=Lib.hid hbb
    have hTb:T < 1000000000:=by omega
    clear hbb hz1 hz2 hsa hsb hsb' hmx hT hj
    by_cases hlt2:T < B
    ·have h3:(T:Int) < (B:Int):=by omega
     go_wp2_with fail
     go_roundg j
     case rel =>
      have h5:=HBB.out
      rw [if_pos hlt2] at h5
      exact ⟨i,T,i + 1,rfl,rfl,by go_num,by have:=HI.out;have:=HJ.out;omega,by omega,Lib.hid h5,by omega,HE8.out⟩
     case measure=>have:=HJ.out;omega
    ·have h3:¬ ((T:Int) < (B:Int)):=by omega
     go_wp2_with fail
     go_roundg j
     case rel =>
      have h5:=HBB.out
      rw [if_neg hlt2] at h5
      exact ⟨K,B,i + 1,rfl,rfl,by go_num,by have:=HI.out;have:=HJ.out;omega,by omega,Lib.hid h5,HHB.out,HE8.out⟩
     case measure=>have:=HJ.out;omega)
  ·have hie:i = n.cells.length - 0:=by omega
   have hg0:gk = 0:=by omega
   subst hg0
   have hbK:n.best = K:=by rw [HBL.out,← hb.out];rfl
   obtain ⟨hk1,hk2⟩:=HBI.out
   rw [hbK] at hk1 hk2 ⊢
   have hkA:K + 0 < n.cells.length:=by
    have h1:n.all = n.cells.length:=by simp [Nd.all,hlf]
    have h2:n.gap = 0:=by simp [Nd.gap,hlf]
    rw [h1,h2] at hk2
    omega
   have HKA:=Lib.hid hkA;have HK1:=Lib.hid hk1
   have HP1:Hid (∀ w,NodeAt w F A1 c1 A2 c2 A3 c3 n → Calls Tryz.prog 182 #[.agg #[.bool true,.slice A1 n.cells.length c1,.slice A2 n.keys.length c2,.slice A3 n.kids.length c3],.int .i64 0,.int .i64 (K:Int)] w (Made w (n.part 0 K))):=Lib.hid (fun w hn=>HP.out 0 K w hn (by omega) (by omega))
   have HP2:Hid (∀ w,NodeAt w F A1 c1 A2 c2 A3 c3 n → Calls Tryz.prog 182 #[.agg #[.bool true,.slice A1 n.cells.length c1,.slice A2 n.keys.length c2,.slice A3 n.kids.length c3],.int .i64 (K:Int),.int .i64 (n.cells.length:Int)] w (Made w (n.part (K + 0) n.cells.length))):=Lib.hid (fun w hn=>HP.out (K + 0) n.cells.length w hn (by omega) (Nat.le_refl _))
   have hwr:IntKind.i64.wrap (K:Int) = (K:Int):=IntWalk.i64_in _ (by omega)
   have hnl:¬ ((i:Int) < (n.cells.length:Int) - 0):=by omega
   have hkI:(K:Int) < (n.cells.length:Int):=by omega
   have hbr:=HBR1.out.ext hE (fun h=>h)
   have hbs:=HBS1.out.ext hE (fun h=>h)
   have HBR:Hid (Blk wr.drew (w.heap.size + 1) 40 #[.bool false,.slice none 0 0,.slice none 0 0,.slice none 0 0]):=Lib.hid hbr
   have HBS:Hid (Blk wr.drew (w.heap.size + 1 + 1) 40 #[.bool false,.slice none 0 0,.slice none 0 0,.slice none 0 0]):=Lib.hid hbs
   clear hbr hbs
   have ne1:¬ (w.heap.size = w.heap.size + 1 + 1):=by omega
   have ne2:¬ (w.heap.size + 1 + 1 = w.heap.size):=by omega
   have HBK:=Lib.hid hbK
   clear hI hE bnr bndr hlt h1 hB hk1 hk2 hkA hbK hie
   go_wp2_with fail
   go_region_held3 (fun w'=>w'.cell? ⟨w.heap.size,0,none⟩ = some (.bool true) ∧ w'.cell? ⟨w.heap.size,1,none⟩ = some (.slice A1 n.cells.length c1) ∧ w'.cell? ⟨w.heap.size,2,none⟩ = some (.slice A2 n.keys.length c2) ∧ w'.cell? ⟨w.heap.size,3,none⟩ = some (.slice A3 n.kids.length c3)) (go_keep)
    (first
     | (have _g:=HX5.out;clear _g;go_at_call 182;refine (HP2.out _ (HNR.out.ext HX5.out.of_no)).mono ?_;rintro e w7 ⟨hx7,C1,f1,C2,f2,C3,f3,rfl,hn7⟩;have HX7:=Lib.hid hx7;have HN7:=Lib.hid hn7;have b7:=Blk.of_ext hx7 HB5.out (fun h=>h);obtain ⟨p0,p1,p2,p3,g0,g1,g2,g3,ln⟩:=b7.p4;have br7:=Blk.of_ext hx7 HR5.out (fun h=>h);have HR7:=Lib.hid br7;obtain ⟨r0,r1,r2,r3,s0,s1,s2,s3,lr⟩:=br7.p4;have bs7:=Blk.of_ext hx7 HS5.out (fun h=>h);have HS7:=Lib.hid bs7;obtain ⟨y0,y1,y2,y3,z0,z1,z2,z3,lz⟩:=bs7.p4;clear hx7 hn7 b7 br7 bs7;simp only [Nd.value])
     | (go_at_call 182;refine (HP1.out _ HNR.out).mono ?_;rintro e w5 ⟨hx5,B1,d1,B2,d2,B3,d3,rfl,hn5⟩;have HX5:=Lib.hid hx5;have HN5:=Lib.hid hn5;have b5:=Blk.of_ext hx5 HBN.out (fun h=>h);have HB5:=Lib.hid b5;obtain ⟨p0,p1,p2,p3,g0,g1,g2,g3,ln⟩:=b5.p4;have br5:=Blk.of_ext hx5 HBR.out (fun h=>h);have HR5:=Lib.hid br5;obtain ⟨r0,r1,r2,r3,s0,s1,s2,s3,lr⟩:=br5.p4;have bs5:=Blk.of_ext hx5 HBS.out (fun h=>h);have HS5:=Lib.hid bs5;obtain ⟨y0,y1,y2,y3,z0,z1,z2,z3,lz⟩:=bs5.p4;clear hx5 hn5 b5 br5 bs5;simp only [Nd.value]))
   all_goals (
    obtain ⟨L,hL⟩:∃ L,L = n.part 0 K:=⟨_,rfl⟩
    obtain ⟨R,hR⟩:∃ R,R = n.part (K + 0) n.cells.length:=⟨_,rfl⟩
    have HL:=Lib.hid hL;have HR:=Lib.hid hR
    have hR':n.part (K + 0) n.cells.length = R:=hR.symm
    try simp only [Nat.add_zero] at hR'
    rw [← hL,hR']
    clear hL hR hR'
    obtain ⟨W,hW⟩:∃ W,W = (((((((w7.setCell ⟨w.heap.size + 1,0,none⟩ (.bool L.leaf)).setCell ⟨w.heap.size + 1,1,none⟩ (.slice B1 L.cells.length d1)).setCell ⟨w.heap.size + 1,2,none⟩ (.slice B2 L.keys.length d2)).setCell ⟨w.heap.size + 1,3,none⟩ (.slice B3 L.kids.length d3)).setCell ⟨w.heap.size + 1 + 1,0,none⟩ (.bool R.leaf)).setCell ⟨w.heap.size + 1 + 1,1,none⟩ (.slice C1 R.cells.length f1)).setCell ⟨w.heap.size + 1 + 1,2,none⟩ (.slice C2 R.keys.length f2)).setCell ⟨w.heap.size + 1 + 1,3,none⟩ (.slice C3 R.kids.length f3):=⟨_,rfl⟩
    have hwo:w.heap.size + 1 + 1 < wr.drew.heap.size:=HBS.out.lt
    have hinR:Old wr.drew (w.heap.size + 1):=by show w.heap.size + 1 < wr.drew.heap.size;omega
    have hinS:Old wr.drew (w.heap.size + 1 + 1):=hwo
    have hz:Ext (Old wr.drew) w7 W:=by
     rw [hW]
     exact ((((((((Ext.refl _ w7).setF hinR 0 _).setF hinR 1 _).setF hinR 2 _).setF hinR 3 _).setF hinS 0 _).setF hinS 1 _).setF hinS 2 _).setF hinS 3 _
    have bR:Blk W (w.heap.size + 1) 40 #[.bool L.leaf,.slice B1 L.cells.length d1,.slice B2 L.keys.length d2,.slice B3 L.kids.length d3]:=by
     rw [hW]
     exact (((((HR7.out.put4 (.bool L.leaf) (.slice B1 L.cells.length d1) (.slice B2 L.keys.length d2) (.slice B3 L.kids.length d3)).far (show w.heap.size + 1 ≠ w.heap.size + 1 + 1 by omega) _).far (show w.heap.size + 1 ≠ w.heap.size + 1 + 1 by omega) _).far (show w.heap.size + 1 ≠ w.heap.size + 1 + 1 by omega) _).far (show w.heap.size + 1 ≠ w.heap.size + 1 + 1 by omega) _)
    have bS:Blk W (w.heap.size + 1 + 1) 40 #[.bool R.leaf,.slice C1 R.cells.length f1,.slice C2 R.keys.length f2,.slice C3 R.kids.length f3]:=by
     rw [hW]
     exact ((((HS7.out.far (show w.heap.size + 1 + 1 ≠ w.heap.size + 1 by omega) _).far (show w.heap.size + 1 + 1 ≠ w.heap.size + 1 by omega) _).far (show w.heap.size + 1 + 1 ≠ w.heap.size + 1 by omega) _).far (show w.heap.size + 1 + 1 ≠ w.heap.size + 1 by omega) _).put4 (.bool R.leaf) (.slice C1 R.cells.length f1) (.slice C2 R.keys.length f2) (.slice C3 R.kids.length f3)
    have HE7:=Lib.hid ((((HE1.out.trans_ HE.out).drew).trans_ HX5.out).trans_ HX7.out)
    have hEW:Ext No w W:=by
     rw [hW]
     exact ((((((((HE7.out.setNew (by omega) 0 _).setNew (by omega) 1 _).setNew (by omega) 2 _).setNew (by omega) 3 _).setNew (by omega) 0 _).setNew (by omega) 1 _).setNew (by omega) 2 _).setNew (by omega) 3 _)
    have hold:∀ b,b < w.heap.size → Old wr.drew b:=fun b hb=>by show b < wr.drew.heap.size;omega
    have hnL:NodeAt W (Old wr.drew) B1 d1 B2 d2 B3 d3 L:=by rw [HL.out];exact (HN5.out.ext HX7.out.of_no).ext hz
    have hnR:NodeAt W (Old wr.drew) C1 f1 C2 f2 C3 f3 R:=by rw [HR.out];exact (HN7.out.mono (fun b _ hb=>Nat.lt_of_lt_of_le hb HX5.out.size)).ext hz
    have bN:Blk W w.heap.size 40 #[.bool true,.slice A1 n.cells.length c1,.slice A2 n.keys.length c2,.slice A3 n.kids.length c3] 
    :=(Blk.of_ext HX7.out (Blk.of_ext HX5.out HBN.out (fun h=>h)) (fun h=>h)).ext (F:=fun b=>b = w.heap.size + 1 ∨ b = w.heap.size + 1 + 1) (by
     rw [hW]
     exact ((((((((Ext.refl _ w7).setF (.inl rfl) 0 _).setF (.inl rfl) 1 _).setF (.inl rfl) 2 _).setF (.inl rfl) 3 _).setF (.inr rfl) 0 _).setF (.inr rfl) 1 _).setF (.inr rfl) 2 _).setF (.inr rfl) 3 _) (by omega)
    rw [← hW]
    have HNL:=Lib.hid hnL;have HNR2:=Lib.hid hnR;have HEW:=Lib.hid hEW;have BR:=Lib.hid bR;have BS:=Lib.hid bS
    have HOLD:=Lib.hid hold
    clear hz hwo hinR hinS hold hnL hnR hEW hW
    obtain ⟨c,hc⟩:∃ c,n.cells[K]? = some c:=⟨_,List.getElem?_eq_getElem (by have:=HKA.out;omega)⟩
    obtain ⟨kb,ko,hA,_,k0,_,_,_⟩:=HN.out.cells.cellAt hc
    have hlb:=World.block_lt_of_cell? w _ k0
    simp only at hlb
    have k0W:=cell_ext HEW.out k0 (fun h=>h)
    have hmid:n.mid K = c.key:=by simp [Nd.mid,hlf,List.getD,hc]
    subst hA
    obtain ⟨ky,hky⟩:∃ ky,ky = c.key:=⟨_,rfl⟩
    rw [← hky] at k0W hmid
    clear hc k0 hky
    have HMID:=Lib.hid hmid
    obtain ⟨r0,r1,r2,r3,s0,s1,s2,s3,lr⟩:=bR.p4
    obtain ⟨y0,y1,y2,y3,z0,z1,z2,z3,lz⟩:=bS.p4
    obtain ⟨q0,q1,q2,q3,_,_,_,_,lq⟩:=bN.p4
    have e1:¬ (kb = w.heap.size + 1):=by omega
    have e2:¬ (kb = w.heap.size + 1 + 1):=by omega
    have e3:¬ (w.heap.size + 1 = kb):=by omega
    have e4:¬ (w.heap.size + 1 + 1 = kb):=by omega
    have e5:¬ (w.heap.size + 1 = w.heap.size + 1 + 1):=by omega
    have e6:¬ (w.heap.size + 1 + 1 = w.heap.size + 1):=by omega
    obtain ⟨X1,hX1⟩:∃ X1,X1 = ((((W.setCell ⟨w.heap.size + 1,0,none⟩ (.bool L.leaf)).setCell ⟨w.heap.size + 1,1,none⟩ (.slice B1 L.cells.length d1)).setCell ⟨w.heap.size + 1,2,none⟩ (.slice B2 L.keys.length d2)).setCell ⟨w.heap.size + 1,3,none⟩ (.slice B3 L.kids.length d3)):=⟨_,rfl⟩
    have bR1:Blk X1 (w.heap.size + 1) 40 #[.bool L.leaf,.slice B1 L.cells.length d1,.slice B2 L.keys.length d2,.slice B3 L.kids.length d3]:=by rw [hX1];exact bR.put4 _ _ _ _
    have bS1:Blk X1 (w.heap.size + 1 + 1) 40 #[.bool R.leaf,.slice C1 R.cells.length f1,.slice C2 R.keys.length f2,.slice C3 R.kids.length f3]:=by rw [hX1];exact (((bS.far (show w.heap.size + 1 + 1 ≠ w.heap.size + 1 by omega) _).far (show w.heap.size + 1 + 1 ≠ w.heap.size + 1 by omega) _).far (show w.heap.size + 1 + 1 ≠ w.heap.size + 1 by omega) _).far (show w.heap.size + 1 + 1 ≠ w.heap.size + 1 by omega) _
    obtain ⟨X2,hX2⟩:∃ X2,X2 = ((((X1.setCell ⟨w.heap.size + 1 + 1,0,none⟩ (.bool R.leaf)).setCell ⟨w.heap.size + 1 + 1,1,none⟩ (.slice C1 R.cells.length f1)).setCell ⟨w.heap.size + 1 + 1,2,none⟩ (.slice C2 R.keys.length f2)).setCell ⟨w.heap.size + 1 + 1,3,none⟩ (.slice C3 R.kids.length f3)):=⟨_,rfl⟩
    have bS2:Blk X2 (w.heap.size + 1 + 1) 40 #[.bool R.leaf,.slice C1 R.cells.length f1,.slice C2 R.keys.length f2,.slice C3 R.kids.length f3]:=by rw [hX2];exact bS1.put4 _ _ _ _
    have bR2:Blk X2 (w.heap.size + 1) 40 #[.bool L.leaf,.slice B1 L.cells.length d1,.slice B2 L.keys.length d2,.slice B3 L.kids.length d3]:=by rw [hX2];exact (((bR1.far (show w.heap.size + 1 ≠ w.heap.size + 1 + 1 by omega) _).far (show w.heap.size + 1 ≠ w.heap.size + 1 + 1 by omega) _).far (show w.heap.size + 1 ≠ w.heap.size + 1 + 1 by omega) _).far (show w.heap.size + 1 ≠ w.heap.size + 1 + 1 by omega) _
    have bR1d:Blk X1.drew (w.heap.size + 1) 40 #[.bool L.leaf,.slice B1 L.cells.length d1,.slice B2 L.keys.length d2,.slice B3 L.kids.length d3]:=bR1
    have bS2d:Blk X2.drew (w.heap.size + 1 + 1) 40 #[.bool R.leaf,.slice C1 R.cells.length f1,.slice C2 R.keys.length f2,.slice C3 R.kids.length f3]:=bS2
    have bR2d:Blk X2.drew (w.heap.size + 1) 40 #[.bool L.leaf,.slice B1 L.cells.length d1,.slice B2 L.keys.length d2,.slice B3 L.kids.length d3]:=bR2
    have BR2:=Lib.hid bR2;have BS2:=Lib.hid bS2
    obtain ⟨t0,t1,t2,t3,_,_,_,_,_⟩:=bR1d.p4
    obtain ⟨u0,u1,u2,u3,_,_,_,_,_⟩:=bR2d.p4
    obtain ⟨x0,x1,x2,x3,_,_,_,_,_⟩:=bS2d.p4
    have HX1:=Lib.hid hX1;have HX2:=Lib.hid hX2
    rw [hX2] at u0 u1 u2 u3 x0 x1 x2 x3
    rw [hX1] at t0 t1 t2 t3 u0 u1 u2 u3 x0 x1 x2 x3
    clear bR1d bS2d bR2d hX1 hX2
    clear hmid bR bS bN hlb bR1 bS1 bR2 bS2
    go_wp2_with fail
    go_region_held3 (fun w'=>w'.cell? ⟨w.heap.size + 1,0,none⟩ = some (.bool L.leaf) ∧ w'.cell? ⟨w.heap.size + 1,1,none⟩ = some (.slice B1 L.cells.length d1) ∧ w'.cell? ⟨w.heap.size + 1,2,none⟩ = some (.slice B2 L.keys.length d2) ∧ w'.cell? ⟨w.heap.size + 1,3,none⟩ = some (.slice B3 L.kids.length d3) ∧
     w'.cell? ⟨w.heap.size + 1 + 1,0,none⟩ = some (.bool R.leaf) ∧ w'.cell? ⟨w.heap.size + 1 + 1,1,none⟩ = some (.slice C1 R.cells.length f1) ∧ w'.cell? ⟨w.heap.size + 1 + 1,2,none⟩ = some (.slice C2 R.keys.length f2) ∧ w'.cell? ⟨w.heap.size + 1 + 1,3,none⟩ = some (.slice C3 R.kids.length f3) ∧
     w'.cell? ⟨w.heap.size,1,none⟩ = some (.slice (some ⟨kb,ko,none⟩) n.cells.length c1) ∧ w'.cell? ⟨kb,ko + K * 4,none⟩ = some (.string (str ky))) (go_keep) (fail)
    all_goals (
     have hwo:w.heap.size + 1 + 1 < wr.drew.heap.size:=HBS.out.lt
     have hinR:Old wr.drew (w.heap.size + 1):=by show w.heap.size + 1 < wr.drew.heap.size;omega
     have hinS:Old wr.drew (w.heap.size + 1 + 1):=hwo
     have hEX:Ext No w X2:=by
      rw [HX2.out,HX1.out]
      exact ((((((((HEW.out.setNew (by omega) 0 _).setNew (by omega) 1 _).setNew (by omega) 2 _).setNew (by omega) 3 _).setNew (by omega) 0 _).setNew (by omega) 1 _).setNew (by omega) 2 _).setNew (by omega) 3 _)
     have hzX:Ext (Old wr.drew) W X2:=by
      rw [HX2.out,HX1.out]
      exact ((((((((Ext.refl _ W).setF hinR 0 _).setF hinR 1 _).setF hinR 2 _).setF hinR 3 _).setF hinS 0 _).setF hinS 1 _).setF hinS 2 _).setF hinS 3 _
     have hnL:=(HNL.out.ext hzX.drew).mono (G:=Old w) (fun b _ hb=>HOLD.out b hb)
     have hnR:=(HNR2.out.ext hzX.drew).mono (G:=Old w) (fun b _ hb=>HOLD.out b hb)
     have hEd:=hEX.drew
     have hbR:Blk X2.drew (w.heap.size + 1) 40 #[.bool L.leaf,.slice B1 L.cells.length d1,.slice B2 L.keys.length d2,.slice B3 L.kids.length d3]:=BR2.out
     have hbS:Blk X2.drew (w.heap.size + 1 + 1) 40 #[.bool R.leaf,.slice C1 R.cells.length f1,.slice C2 R.keys.length f2,.slice C3 R.kids.length f3]:=BS2.out
     have HQ:Hid (Ext No w X2.drew ∧ NodeIn X2.drew (Old w) ⟨B1,d1,B2,d2,B3,d3⟩ L ∧ NodeIn X2.drew (Old w) ⟨C1,f1,C2,f2,C3,f3⟩ R ∧ Blk X2.drew (w.heap.size + 1) 40 #[.bool L.leaf,.slice B1 L.cells.length d1,.slice B2 L.keys.length d2,.slice B3 L.kids.length d3] ∧ Blk X2.drew (w.heap.size + 1 + 1) 40 #[.bool R.leaf,.slice C1 R.cells.length f1,.slice C2 R.keys.length f2,.slice C3 R.kids.length f3]):=Lib.hid ⟨hEd,hnL,hnR,hbR,hbS⟩
     rw [HX2.out,HX1.out] at HQ
     clear hwo hinR hinS hEX hzX hnL hnR hEd hbR hbS t0 t1 t2 t3 u0 u1 u2 u3 x0 x1 x2 x3
     go_wp2_with fail
     obtain ⟨hEd,hnL,hnR,hbR,hbS⟩:=HQ.out
     refine split_back (w.heap.size + 1) (w.heap.size + 1 + 1) _ _ hbR hbS rfl rfl rfl rfl rfl rfl rfl ?_
     refine ⟨hEd,?_⟩
     simp only
     refine ⟨⟨B1,d1,B2,d2,B3,d3⟩,⟨C1,f1,C2,f2,C3,f3⟩,?_,?_,?_⟩
     ·rw [HBK.out,← HL.out,← HR.out,HMID.out];rfl
     ·rw [HBK.out,← HL.out];exact hnL
     ·rw [HBK.out,← HR.out];exact hnR))
theorem split_branch (n:Nd) (w:World) (F:Nat → Prop) (A1:Option Addr) (c1:Nat) (A2:Option Addr) (c2:Nat) (A3:Option Addr) (c3:Nat) (hn:NodeAt w F A1 c1 A2 c2 A3 c3 n) (hok:n.ok = true) (hlf:n.leaf = false) (h2:2 + 1 ≤ n.keys.length) :
  Calls Tryz.prog 143 #[n.value A1 c1 A2 c2 A3 c3] w (SplitTold w (some (n.part 0 n.best,n.part (n.best + 1) n.keys.length,n.mid n.best))):=by
 have hOk:=Nd.Ok.of hok
 have hfit:=Nd.Ok.fits hOk
 have hall:n.all = n.keys.length:=by simp [Nd.all,hlf]
 have hgap:n.gap = 1:=by simp [Nd.gap,hlf]
 have HC:=Lib.hid (fun w hn=>check_any n w F A1 c1 A2 c2 A3 c3 hn hfit)
 rw [Nd.chk_ok hok] at HC
 have HP:=Lib.hid (fun f t w (hn:NodeAt w F A1 c1 A2 c2 A3 c3 n) (hf:f < t) (ht:t ≤ n.keys.length)=>part_any n f t w F A1 c1 A2 c2 A3 c3 hn hok hf (by rw [hall];exact ht))
 have HS:=Lib.hid (fun f t w F A1 c1 A2 c2 A3 c3 (hn:NodeAt w F A1 c1 A2 c2 A3 c3 (n.part f t))=>size_any (n.part f t) w F A1 c1 A2 c2 A3 c3 hn (Nd.part_fits hfit f t))
 have HBI:=Lib.hid (best_in (n:=n) (by rw [hall,hgap];exact h2))
 have HBL:Hid (n.best = (n.bestLoop (n.keys.length - 1 - 1) 1 (1,1073741824)).1):=Lib.hid (by unfold Nd.best;rw [hall,hgap])
 have HWO:Hid (∀ i,n.worse i = max (n.part 0 i).size (n.part (i + 1) n.keys.length).size):=Lib.hid (fun i=>by unfold Nd.worse;rw [hall,hgap])
 have hb1:=hn.b1
 have hb2:=hn.b2
 have HN:=Lib.hid hn
 have H2:=Lib.hid h2
 have hg1:¬ ((n.keys.length:Int) < 2 + 1):=by omega
 have hsb1:n.cells.length ≤ 255:=hOk.a1
 have hsb2:n.keys.length ≤ 255:=hOk.a2
 have HSZ:Hid (∀ f t,(n.part f t).size < 1000000000):=Lib.hid (fun f t=>by
  have h:=sumC_bound (n.part f t).cells (Nd.part_fits hfit f t).c
  have h':=sumK_bound (n.part f t).keys (Nd.part_fits hfit f t).k
  have e1:(n.part f t).cells.length ≤ 255:=by unfold Nd.part;split <;> simp <;> omega
  have e2:(n.part f t).keys.length ≤ 255:=by unfold Nd.part;split <;> simp <;> omega
  unfold Nd.size
  split <;> omega)
 simp only [Nd.value,hlf] at HC HP ⊢
 clear hn hok hOk hfit hall hgap h2
 go_enter Tryz.func143,Tryz.ntmps143
 go_wp2_with fail
 have hE0:Ext No w (((w.alloc (.cells #[.bool false,.slice A1 n.cells.length c1,.slice A2 n.keys.length c2,.slice A3 n.kids.length c3] 40)).alloc (.cells #[.bool false,.slice none 0 0,.slice none 0 0,.slice none 0 0] 40)).alloc (.cells #[.bool false,.slice none 0 0,.slice none 0 0,.slice none 0 0] 40)):=(((Ext.refl No w).alloc _).alloc _).alloc _
 refine (HC.out _ (HN.out.ext hE0.of_no)).mono ?_
 rintro e w1 ⟨rfl,hx1⟩
 have bn1:=(((Blk.new w 40 #[.bool false,.slice A1 n.cells.length c1,.slice A2 n.keys.length c2,.slice A3 n.kids.length c3]).alloc (.cells #[.bool false,.slice none 0 0,.slice none 0 0,.slice none 0 0] 40)).alloc (.cells #[.bool false,.slice none 0 0,.slice none 0 0,.slice none 0 0] 40)).ext hx1 (fun h=>h)
 have br1:=((Blk.new_at (b:=w.heap.size + 1) (w.alloc (.cells #[.bool false,.slice A1 n.cells.length c1,.slice A2 n.keys.length c2,.slice A3 n.kids.length c3] 40)) 40 #[.bool false,.slice none 0 0,.slice none 0 0,.slice none 0 0] (by simp)).alloc (.cells #[.bool false,.slice none 0 0,.slice none 0 0,.slice none 0 0] 40)).ext hx1 (fun h=>h)
 have bs1:=(Blk.new_at (b:=w.heap.size + 2) ((w.alloc (.cells #[.bool false,.slice A1 n.cells.length c1,.slice A2 n.keys.length c2,.slice A3 n.kids.length c3] 40)).alloc (.cells #[.bool false,.slice none 0 0,.slice none 0 0,.slice none 0 0] 40)) 40 #[.bool false,.slice none 0 0,.slice none 0 0,.slice none 0 0] (by simp)).ext hx1 (fun h=>h)
 have HE1:=Lib.hid (hE0.trans_ hx1)
 have HBN1:=Lib.hid bn1;have HBR1:=Lib.hid br1;have HBS1:=Lib.hid bs1
 clear hE0 hx1 bn1 br1 bs1
 go_wp2_with fail
 go_loopg [8,9,10] (n.keys.length - 1 - 1) (fun gk k b IV wr=>∃ (K B i:Nat),k = .int .i64 (K:Int) ∧ b = .int .i64 (B:Int) ∧ IV = .int .i64 (i:Int) ∧ i + gk = n.keys.length - 1 ∧ 1 ≤ i ∧ Hid (n.bestLoop gk i (K,B) = n.bestLoop (n.keys.length - 1 - 1) 1 (1,1073741824)) ∧ B ≤ 1073741824 ∧ Ext No w1 wr)
 case atStart=>exact ⟨1,1073741824,1,rfl,rfl,rfl,by have:=H2.out;omega,by omega,Lib.hid rfl,by omega,Ext.refl _ _⟩
 case round =>
  obtain ⟨K,B,i,rfl,rfl,rfl,hI,h1,hb,hB,hE⟩:=hrel
  have HI:=Lib.hid hI;have HE:=Lib.hid hE;have HH1:=Lib.hid h1;have HHB:=Lib.hid hB
  have bnr:=HBN1.out.ext hE (fun h=>h)
  have bndr:Blk wr.drew w.heap.size 40 #[.bool false,.slice A1 n.cells.length c1,.slice A2 n.keys.length c2,.slice A3 n.kids.length c3]:=bnr
  obtain ⟨p0,p1,p2,p3,g0,g1,g2,g3,ln⟩:=bndr.p4
  have HBN:=Lib.hid bndr
  have HNR:=Lib.hid (HN.out.ext ((HE1.out.trans_ hE).drew.of_no))
  by_cases hlt:i < n.keys.length - 1
  ·have HLT:=Lib.hid hlt
   have hlt':(i:Int) < (n.keys.length:Int) - 1:=by omega
   have hib:(i:Int) < 1000:=by omega
   have hwr:IntKind.i64.wrap ((i:Int) + 1) = ((i:Int) + 1):=IntWalk.i64_in _ (by omega)
   have HP1:Hid (∀ w,NodeAt w F A1 c1 A2 c2 A3 c3 n → Calls Tryz.prog 182 #[.agg #[.bool false,.slice A1 n.cells.length c1,.slice A2 n.keys.length c2,.slice A3 n.kids.length c3],.int .i64 0,.int .i64 (i:Int)] w (Made w (n.part 0 i))):=Lib.hid (fun w hn=>HP.out 0 i w hn (by omega) (by omega))
   have HP2:Hid (∀ w,NodeAt w F A1 c1 A2 c2 A3 c3 n → Calls Tryz.prog 182 #[.agg #[.bool false,.slice A1 n.cells.length c1,.slice A2 n.keys.length c2,.slice A3 n.kids.length c3],.int .i64 ((i:Int) + 1),.int .i64 (n.keys.length:Int)] w (Made w (n.part (i + 1) n.keys.length))):=Lib.hid (fun w hn=>HP.out (i + 1) n.keys.length w hn (by omega) (Nat.le_refl _))
   clear hI hE bnr bndr hlt h1 hB
   go_wp2_with fail
   go_region_held3 (fun w'=>w'.cell? ⟨w.heap.size,0,none⟩ = some (.bool false) ∧ w'.cell? ⟨w.heap.size,1,none⟩ = some (.slice A1 n.cells.length c1) ∧ w'.cell? ⟨w.heap.size,2,none⟩ = some (.slice A2 n.keys.length c2) ∧ w'.cell? ⟨w.heap.size,3,none⟩ = some (.slice A3 n.kids.length c3)) (go_keep)
    (first
     | (have _g:=HX7.out;clear _g;go_at_call 181;refine (HS.out (i + 1) n.keys.length _ _ _ _ _ _ _ _ HN7.out).mono ?_;rintro e w8 ⟨rfl,hx8⟩;have HX8:=Lib.hid hx8;have b8:=Blk.of_ext hx8 HB7.out (fun h=>h);have HB8:=Lib.hid b8;obtain ⟨p0,p1,p2,p3,g0,g1,g2,g3,ln⟩:=b8.p4;clear hx8)
     | (have _g:=HX6.out;clear _g;go_at_call 182;refine (HP2.out _ (HNR.out.ext (HX5.out.trans_ HX6.out).of_no)).mono ?_;rintro e w7 ⟨hx7,C1,f1,C2,f2,C3,f3,rfl,hn7⟩;have HX7:=Lib.hid hx7;have HN7:=Lib.hid hn7;have b7:=Blk.of_ext hx7 HB6.out (fun h=>h);have HB7:=Lib.hid b7;obtain ⟨p0,p1,p2,p3,g0,g1,g2,g3,ln⟩:=b7.p4;clear hx7 hn7)
     | (go_at_call 181;refine (HS.out 0 i _ _ _ _ _ _ _ _ HN5.out).mono ?_;rintro e w6 ⟨rfl,hx6⟩;have HX6:=Lib.hid hx6;have b6:=Blk.of_ext hx6 HB5.out (fun h=>h);have HB6:=Lib.hid b6;obtain ⟨p0,p1,p2,p3,g0,g1,g2,g3,ln⟩:=b6.p4;clear hx6)
     | (go_at_call 182;refine (HP1.out _ HNR.out).mono ?_;rintro e w5 ⟨hx5,B1,d1,B2,d2,B3,d3,rfl,hn5⟩;have HX5:=Lib.hid hx5;have HN5:=Lib.hid hn5;have b5:=Blk.of_ext hx5 HBN.out (fun h=>h);have HB5:=Lib.hid b5;obtain ⟨p0,p1,p2,p3,g0,g1,g2,g3,ln⟩:=b5.p4;clear hx5 hn5))
   all_goals (
    have HE8:=Lib.hid ((((HE.out.drew.trans_ HX5.out).trans_ HX6.out).trans_ HX7.out).trans_ HX8.out)
    have hz1:=HSZ.out 0 i
    have hz2:=HSZ.out (i + 1) n.keys.length
    obtain ⟨j,hj⟩:∃ j,gk = j + 1:=⟨gk - 1,by have:=HI.out;have:=HLT.out;omega⟩
    have HJ:=Lib.hid hj
    have hbb:=hb.out
    rw [hj,Nd.bestLoop,HWO.out i] at hbb
    obtain ⟨sa,hsa⟩:∃ sa,sa = (n.part 0 i).size:=⟨_,rfl⟩
    obtain ⟨sb,hsb⟩:∃ sb,sb = (n.part (i + 1) n.keys.length).size:=⟨_,rfl⟩
    have hsb':(n.part (i + 1) n.keys.length).size = sb:=hsb.symm
    try simp only [Nat.add_zero] at hsb' hbb hz2
    rw [← hsa] at hbb hz1 ⊢
    rw [hsb'] at hbb hz2 ⊢
    have hmx:max (sa:Int) (sb:Int) = ((max sa sb:Nat):Int):=by
     rcases Nat.le_total sa sb with h | h
     ·rw [Nat.max_eq_right h,Int.max_eq_right (by omega)]
     ·rw [Nat.max_eq_left h,Int.max_eq_left (by omega)]
    rw [hmx]
    obtain ⟨T,hT⟩:∃ T,T = max sa sb:=⟨_,rfl⟩
    rw [← hT] at hbb ⊢
    have HBB:=Lib.hid hbb
    have hTb:T < 1000000000:=by omega
    clear hbb hz1 hz2 hsa hsb hsb' hmx hT hj
    by_cases hlt2:T < B
    ·have h3:(T:Int) < (B:Int):=by omega
     go_wp2_with fail
     go_roundg j
     case rel =>
      have h5:=HBB.out
      rw [if_pos hlt2] at h5
      exact ⟨i,T,i + 1,rfl,rfl,by go_num,by have:=HI.out;have:=HJ.out;omega,by omega,Lib.hid h5,by omega,HE8.out⟩
     case measure=>have:=HJ.out;omega
    ·have h3:¬ ((T:Int) < (B:Int)):=by omega
     go_wp2_with fail
     go_roundg j
     case rel =>
      have h5:=HBB.out
      rw [if_neg hlt2] at h5
      exact ⟨K,B,i + 1,rfl,rfl,by go_num,by have:=HI.out;have:=HJ.out;omega,by omega,Lib.hid h5,HHB.out,HE8.out⟩
     case measure=>have:=HJ.out;omega)
  ·have hie:i = n.keys.length - 1:=by omega
   have hg0:gk = 0:=by omega
   subst hg0
   have hbK:n.best = K:=by rw [HBL.out,← hb.out];rfl
   obtain ⟨hk1,hk2⟩:=HBI.out
   rw [hbK] at hk1 hk2 ⊢
   have hkA:K + 1 < n.keys.length:=by
    have h1:n.all = n.keys.length:=by simp [Nd.all,hlf]
    have h2:n.gap = 1:=by simp [Nd.gap,hlf]
    rw [h1,h2] at hk2
    omega
   have HKA:=Lib.hid hkA;have HK1:=Lib.hid hk1
   have HP1:Hid (∀ w,NodeAt w F A1 c1 A2 c2 A3 c3 n → Calls Tryz.prog 182 #[.agg #[.bool false,.slice A1 n.cells.length c1,.slice A2 n.keys.length c2,.slice A3 n.kids.length c3],.int .i64 0,.int .i64 (K:Int)] w (Made w (n.part 0 K))):=Lib.hid (fun w hn=>HP.out 0 K w hn (by omega) (by omega))
   have HP2:Hid (∀ w,NodeAt w F A1 c1 A2 c2 A3 c3 n → Calls Tryz.prog 182 #[.agg #[.bool false,.slice A1 n.cells.length c1,.slice A2 n.keys.length c2,.slice A3 n.kids.length c3],.int .i64 ((K:Int) + 1),.int .i64 (n.keys.length:Int)] w (Made w (n.part (K + 1) n.keys.length))):=Lib.hid (fun w hn=>HP.out (K + 1) n.keys.length w hn (by omega) (Nat.le_refl _))
   have hwr:IntKind.i64.wrap ((K:Int) + 1) = ((K:Int) + 1):=IntWalk.i64_in _ (by omega)
   have hnl:¬ ((i:Int) < (n.keys.length:Int) - 1):=by omega
   have hkI:(K:Int) < (n.keys.length:Int):=by omega
   have hbr:=HBR1.out.ext hE (fun h=>h)
   have hbs:=HBS1.out.ext hE (fun h=>h)
   have HBR:Hid (Blk wr.drew (w.heap.size + 1) 40 #[.bool false,.slice none 0 0,.slice none 0 0,.slice none 0 0]):=Lib.hid hbr
   have HBS:Hid (Blk wr.drew (w.heap.size + 1 + 1) 40 #[.bool false,.slice none 0 0,.slice none 0 0,.slice none 0 0]):=Lib.hid hbs
   clear hbr hbs
   have ne1:¬ (w.heap.size = w.heap.size + 1 + 1):=by omega
   have ne2:¬ (w.heap.size + 1 + 1 = w.heap.size):=by omega
   have HBK:=Lib.hid hbK
   clear hI hE bnr bndr hlt h1 hB hk1 hk2 hkA hbK hie
   go_wp2_with fail
   go_region_held3 (fun w'=>w'.cell? ⟨w.heap.size,0,none⟩ = some (.bool false) ∧ w'.cell? ⟨w.heap.size,1,none⟩ = some (.slice A1 n.cells.length c1) ∧ w'.cell? ⟨w.heap.size,2,none⟩ = some (.slice A2 n.keys.length c2) ∧ w'.cell? ⟨w.heap.size,3,none⟩ = some (.slice A3 n.kids.length c3)) (go_keep)
    (first
     | (have _g:=HX5.out;clear _g;go_at_call 182;refine (HP2.out _ (HNR.out.ext HX5.out.of_no)).mono ?_;rintro e w7 ⟨hx7,C1,f1,C2,f2,C3,f3,rfl,hn7⟩;have HX7:=Lib.hid hx7;have HN7:=Lib.hid hn7;have b7:=Blk.of_ext hx7 HB5.out (fun h=>h);obtain ⟨p0,p1,p2,p3,g0,g1,g2,g3,ln⟩:=b7.p4;have br7:=Blk.of_ext hx7 HR5.out (fun h=>h);have HR7:=Lib.hid br7;obtain ⟨r0,r1,r2,r3,s0,s1,s2,s3,lr⟩:=br7.p4;have bs7:=Blk.of_ext hx7 HS5.out (fun h=>h);have HS7:=Lib.hid bs7;obtain ⟨y0,y1,y2,y3,z0,z1,z2,z3,lz⟩:=bs7.p4;clear hx7 hn7 b7 br7 bs7;simp only [Nd.value])
     | (go_at_call 182;refine (HP1.out _ HNR.out).mono ?_;rintro e w5 ⟨hx5,B1,d1,B2,d2,B3,d3,rfl,hn5⟩;have HX5:=Lib.hid hx5;have HN5:=Lib.hid hn5;have b5:=Blk.of_ext hx5 HBN.out (fun h=>h);have HB5:=Lib.hid b5;obtain ⟨p0,p1,p2,p3,g0,g1,g2,g3,ln⟩:=b5.p4;have br5:=Blk.of_ext hx5 HBR.out (fun h=>h);have HR5:=Lib.hid br5;obtain ⟨r0,r1,r2,r3,s0,s1,s2,s3,lr⟩:=br5.p4;have bs5:=Blk.of_ext hx5 HBS.out (fun h=>h);have HS5:=Lib.hid bs5;obtain ⟨y0,y1,y2,y3,z0,z1,z2,z3,lz⟩:=bs5.p4;clear hx5 hn5 b5 br5 bs5;simp only [Nd.value]))
   all_goals (
    obtain ⟨L,hL⟩:∃ L,L = n.part 0 K:=⟨_,rfl⟩
    obtain ⟨R,hR⟩:∃ R,R = n.part (K + 1) n.keys.length:=⟨_,rfl⟩
    have HL:=Lib.hid hL;have HR:=Lib.hid hR
    have hR':n.part (K + 1) n.keys.length = R:=hR.symm
    try simp only [Nat.add_zero] at hR'
    rw [← hL,hR']
    clear hL hR hR'
    obtain ⟨W,hW⟩:∃ W,W = (((((((w7.setCell ⟨w.heap.size + 1,0,none⟩ (.bool L.leaf)).setCell ⟨w.heap.size + 1,1,none⟩ (.slice B1 L.cells.length d1)).setCell ⟨w.heap.size + 1,2,none⟩ (.slice B2 L.keys.length d2)).setCell ⟨w.heap.size + 1,3,none⟩ (.slice B3 L.kids.length d3)).setCell ⟨w.heap.size + 1 + 1,0,none⟩ (.bool R.leaf)).setCell ⟨w.heap.size + 1 + 1,1,none⟩ (.slice C1 R.cells.length f1)).setCell ⟨w.heap.size + 1 + 1,2,none⟩ (.slice C2 R.keys.length f2)).setCell ⟨w.heap.size + 1 + 1,3,none⟩ (.slice C3 R.kids.length f3):=⟨_,rfl⟩
    have hwo:w.heap.size + 1 + 1 < wr.drew.heap.size:=HBS.out.lt
    have hinR:Old wr.drew (w.heap.size + 1):=by show w.heap.size + 1 < wr.drew.heap.size;omega
    have hinS:Old wr.drew (w.heap.size + 1 + 1):=hwo
    have hz:Ext (Old wr.drew) w7 W:=by
     rw [hW]
     exact ((((((((Ext.refl _ w7).setF hinR 0 _).setF hinR 1 _).setF hinR 2 _).setF hinR 3 _).setF hinS 0 _).setF hinS 1 _).setF hinS 2 _).setF hinS 3 _
    have bR:Blk W (w.heap.size + 1) 40 #[.bool L.leaf,.slice B1 L.cells.length d1,.slice B2 L.keys.length d2,.slice B3 L.kids.length d3]:=by
     rw [hW]
     exact (((((HR7.out.put4 (.bool L.leaf) (.slice B1 L.cells.length d1) (.slice B2 L.keys.length d2) (.slice B3 L.kids.length d3)).far (show w.heap.size + 1 ≠ w.heap.size + 1 + 1 by omega) _).far (show w.heap.size + 1 ≠ w.heap.size + 1 + 1 by omega) _).far (show w.heap.size + 1 ≠ w.heap.size + 1 + 1 by omega) _).far (show w.heap.size + 1 ≠ w.heap.size + 1 + 1 by omega) _)
    have bS:Blk W (w.heap.size + 1 + 1) 40 #[.bool R.leaf,.slice C1 R.cells.length f1,.slice C2 R.keys.length f2,.slice C3 R.kids.length f3]:=by
     rw [hW]
     exact ((((HS7.out.far (show w.heap.size + 1 + 1 ≠ w.heap.size + 1 by omega) _).far (show w.heap.size + 1 + 1 ≠ w.heap.size + 1 by omega) _).far (show w.heap.size + 1 + 1 ≠ w.heap.size + 1 by omega) _).far (show w.heap.size + 1 + 1 ≠ w.heap.size + 1 by omega) _).put4 (.bool R.leaf) (.slice C1 R.cells.length f1) (.slice C2 R.keys.length f2) (.slice C3 R.kids.length f3)
    have HE7:=Lib.hid ((((HE1.out.trans_ HE.out).drew).trans_ HX5.out).trans_ HX7.out)
    have hEW:Ext No w W:=by
     rw [hW]
     exact ((((((((HE7.out.setNew (by omega) 0 _).setNew (by omega) 1 _).setNew (by omega) 2 _).setNew (by omega) 3 _).setNew (by omega) 0 _).setNew (by omega) 1 _).setNew (by omega) 2 _).setNew (by omega) 3 _)
    have hold:∀ b,b < w.heap.size → Old wr.drew b:=fun b hb=>by show b < wr.drew.heap.size;omega
    have hnL:NodeAt W (Old wr.drew) B1 d1 B2 d2 B3 d3 L:=by rw [HL.out];exact (HN5.out.ext HX7.out.of_no).ext hz
    have hnR:NodeAt W (Old wr.drew) C1 f1 C2 f2 C3 f3 R:=by rw [HR.out];exact (HN7.out.mono (fun b _ hb=>Nat.lt_of_lt_of_le hb HX5.out.size)).ext hz
    have bN:Blk W w.heap.size 40 #[.bool false,.slice A1 n.cells.length c1,.slice A2 n.keys.length c2,.slice A3 n.kids.length c3] 
    :=(Blk.of_ext HX7.out (Blk.of_ext HX5.out HBN.out (fun h=>h)) (fun h=>h)).ext (F:=fun b=>b = w.heap.size + 1 ∨ b = w.heap.size + 1 + 1) (by
     rw [hW]
     exact ((((((((Ext.refl _ w7).setF (.inl rfl) 0 _).setF (.inl rfl) 1 _).setF (.inl rfl) 2 _).setF (.inl rfl) 3 _).setF (.inr rfl) 0 _).setF (.inr rfl) 1 _).setF (.inr rfl) 2 _).setF (.inr rfl) 3 _) (by omega)
    rw [← hW]
    have HNL:=Lib.hid hnL;have HNR2:=Lib.hid hnR;have HEW:=Lib.hid hEW;have BR:=Lib.hid bR;have BS:=Lib.hid bS
    have HOLD:=Lib.hid hold
    clear hz hwo hinR hinS hold hnL hnR hEW hW
    obtain ⟨ky,hc⟩:∃ c,n.keys[K]? = some c:=⟨_,List.getElem?_eq_getElem (by have:=HKA.out;omega)⟩
    obtain ⟨kb,ko,hA,_,k0⟩:=HN.out.keys.keyAt hc
    have hlb:=World.block_lt_of_cell? w _ k0
    simp only at hlb
    have k0W:=cell_ext HEW.out k0 (fun h=>h)
    have hmid:n.mid K = ky:=by simp [Nd.mid,hlf,List.getD,hc]
    subst hA
    clear hc k0
    have HMID:=Lib.hid hmid
    obtain ⟨r0,r1,r2,r3,s0,s1,s2,s3,lr⟩:=bR.p4
    obtain ⟨y0,y1,y2,y3,z0,z1,z2,z3,lz⟩:=bS.p4
    obtain ⟨q0,q1,q2,q3,_,_,_,_,lq⟩:=bN.p4
    have e1:¬ (kb = w.heap.size + 1):=by omega
    have e2:¬ (kb = w.heap.size + 1 + 1):=by omega
    have e3:¬ (w.heap.size + 1 = kb):=by omega
    have e4:¬ (w.heap.size + 1 + 1 = kb):=by omega
    have e5:¬ (w.heap.size + 1 = w.heap.size + 1 + 1):=by omega
    have e6:¬ (w.heap.size + 1 + 1 = w.heap.size + 1):=by omega
    obtain ⟨X1,hX1⟩:∃ X1,X1 = ((((W.setCell ⟨w.heap.size + 1,0,none⟩ (.bool L.leaf)).setCell ⟨w.heap.size + 1,1,none⟩ (.slice B1 L.cells.length d1)).setCell ⟨w.heap.size + 1,2,none⟩ (.slice B2 L.keys.length d2)).setCell ⟨w.heap.size + 1,3,none⟩ (.slice B3 L.kids.length d3)):=⟨_,rfl⟩
    have bR1:Blk X1 (w.heap.size + 1) 40 #[.bool L.leaf,.slice B1 L.cells.length d1,.slice B2 L.keys.length d2,.slice B3 L.kids.length d3]:=by rw [hX1];exact bR.put4 _ _ _ _
    have bS1:Blk X1 (w.heap.size + 1 + 1) 40 #[.bool R.leaf,.slice C1 R.cells.length f1,.slice C2 R.keys.length f2,.slice C3 R.kids.length f3]:=by rw [hX1];exact (((bS.far (show w.heap.size + 1 + 1 ≠ w.heap.size + 1 by omega) _).far (show w.heap.size + 1 + 1 ≠ w.heap.size + 1 by omega) _).far (show w.heap.size + 1 + 1 ≠ w.heap.size + 1 by omega) _).far (show w.heap.size + 1 + 1 ≠ w.heap.size + 1 by omega) _
    obtain ⟨X2,hX2⟩:∃ X2,X2 = ((((X1.setCell ⟨w.heap.size + 1 + 1,0,none⟩ (.bool R.leaf)).setCell ⟨w.heap.size + 1 + 1,1,none⟩ (.slice C1 R.cells.length f1)).setCell ⟨w.heap.size + 1 + 1,2,none⟩ (.slice C2 R.keys.length f2)).setCell ⟨w.heap.size + 1 + 1,3,none⟩ (.slice C3 R.kids.length f3)):=⟨_,rfl⟩
    have bS2:Blk X2 (w.heap.size + 1 + 1) 40 #[.bool R.leaf,.slice C1 R.cells.length f1,.slice C2 R.keys.length f2,.slice C3 R.kids.length f3]:=by rw [hX2];exact bS1.put4 _ _ _ _
    have bR2:Blk X2 (w.heap.size + 1) 40 #[.bool L.leaf,.slice B1 L.cells.length d1,.slice B2 L.keys.length d2,.slice B3 L.kids.length d3]:=by rw [hX2];exact (((bR1.far (show w.heap.size + 1 ≠ w.heap.size + 1 + 1 by omega) _).far (show w.heap.size + 1 ≠ w.heap.size + 1 + 1 by omega) _).far (show w.heap.size + 1 ≠ w.heap.size + 1 + 1 by omega) _).far (show w.heap.size + 1 ≠ w.heap.size + 1 + 1 by omega) _
    have bR1d:Blk X1.drew (w.heap.size + 1) 40 #[.bool L.leaf,.slice B1 L.cells.length d1,.slice B2 L.keys.length d2,.slice B3 L.kids.length d3]:=bR1
    have bS2d:Blk X2.drew (w.heap.size + 1 + 1) 40 #[.bool R.leaf,.slice C1 R.cells.length f1,.slice C2 R.keys.length f2,.slice C3 R.kids.length f3]:=bS2
    have bR2d:Blk X2.drew (w.heap.size + 1) 40 #[.bool L.leaf,.slice B1 L.cells.length d1,.slice B2 L.keys.length d2,.slice B3 L.kids.length d3]:=bR2
    have BR2:=Lib.hid bR2;have BS2:=Lib.hid bS2
    obtain ⟨t0,t1,t2,t3,_,_,_,_,_⟩:=bR1d.p4
    obtain ⟨u0,u1,u2,u3,_,_,_,_,_⟩:=bR2d.p4
    obtain ⟨x0,x1,x2,x3,_,_,_,_,_⟩:=bS2d.p4
    have HX1:=Lib.hid hX1;have HX2:=Lib.hid hX2
    rw [hX2] at u0 u1 u2 u3 x0 x1 x2 x3
    rw [hX1] at t0 t1 t2 t3 u0 u1 u2 u3 x0 x1 x2 x3
    clear bR1d bS2d bR2d hX1 hX2
    clear hmid bR bS bN hlb bR1 bS1 bR2 bS2
    go_wp2_with fail
    go_region_held3 (fun w'=>w'.cell? ⟨w.heap.size + 1,0,none⟩ = some (.bool L.leaf) ∧ w'.cell? ⟨w.heap.size + 1,1,none⟩ = some (.slice B1 L.cells.length d1) ∧ w'.cell? ⟨w.heap.size + 1,2,none⟩ = some (.slice B2 L.keys.length d2) ∧ w'.cell? ⟨w.heap.size + 1,3,none⟩ = some (.slice B3 L.kids.length d3) ∧
     w'.cell? ⟨w.heap.size + 1 + 1,0,none⟩ = some (.bool R.leaf) ∧ w'.cell? ⟨w.heap.size + 1 + 1,1,none⟩ = some (.slice C1 R.cells.length f1) ∧ w'.cell? ⟨w.heap.size + 1 + 1,2,none⟩ = some (.slice C2 R.keys.length f2) ∧ w'.cell? ⟨w.heap.size + 1 + 1,3,none⟩ = some (.slice C3 R.kids.length f3) ∧
     w'.cell? ⟨w.heap.size,2,none⟩ = some (.slice (some ⟨kb,ko,none⟩) n.keys.length c2) ∧ w'.cell? ⟨kb,ko + K,none⟩ = some (.string (str ky))) (go_keep) (fail)
    all_goals (
     have hwo:w.heap.size + 1 + 1 < wr.drew.heap.size:=HBS.out.lt
     have hinR:Old wr.drew (w.heap.size + 1):=by show w.heap.size + 1 < wr.drew.heap.size;omega
     have hinS:Old wr.drew (w.heap.size + 1 + 1):=hwo
     have hEX:Ext No w X2:=by
      rw [HX2.out,HX1.out]
      exact ((((((((HEW.out.setNew (by omega) 0 _).setNew (by omega) 1 _).setNew (by omega) 2 _).setNew (by omega) 3 _).setNew (by omega) 0 _).setNew (by omega) 1 _).setNew (by omega) 2 _).setNew (by omega) 3 _)
     have hzX:Ext (Old wr.drew) W X2:=by
      rw [HX2.out,HX1.out]
      exact ((((((((Ext.refl _ W).setF hinR 0 _).setF hinR 1 _).setF hinR 2 _).setF hinR 3 _).setF hinS 0 _).setF hinS 1 _).setF hinS 2 _).setF hinS 3 _
     have hnL:=(HNL.out.ext hzX.drew).mono (G:=Old w) (fun b _ hb=>HOLD.out b hb)
     have hnR:=(HNR2.out.ext hzX.drew).mono (G:=Old w) (fun b _ hb=>HOLD.out b hb)
     have hEd:=hEX.drew
     have hbR:Blk X2.drew (w.heap.size + 1) 40 #[.bool L.leaf,.slice B1 L.cells.length d1,.slice B2 L.keys.length d2,.slice B3 L.kids.length d3]:=BR2.out
     have hbS:Blk X2.drew (w.heap.size + 1 + 1) 40 #[.bool R.leaf,.slice C1 R.cells.length f1,.slice C2 R.keys.length f2,.slice C3 R.kids.length f3]:=BS2.out
     have HQ:Hid (Ext No w X2.drew ∧ NodeIn X2.drew (Old w) ⟨B1,d1,B2,d2,B3,d3⟩ L ∧ NodeIn X2.drew (Old w) ⟨C1,f1,C2,f2,C3,f3⟩ R ∧ Blk X2.drew (w.heap.size + 1) 40 #[.bool L.leaf,.slice B1 L.cells.length d1,.slice B2 L.keys.length d2,.slice B3 L.kids.length d3] ∧ Blk X2.drew (w.heap.size + 1 + 1) 40 #[.bool R.leaf,.slice C1 R.cells.length f1,.slice C2 R.keys.length f2,.slice C3 R.kids.length f3]):=Lib.hid ⟨hEd,hnL,hnR,hbR,hbS⟩
     rw [HX2.out,HX1.out] at HQ
     clear hwo hinR hinS hEX hzX hnL hnR hEd hbR hbS t0 t1 t2 t3 u0 u1 u2 u3 x0 x1 x2 x3
     go_wp2_with fail
     obtain ⟨hEd,hnL,hnR,hbR,hbS⟩:=HQ.out
     refine split_back (w.heap.size + 1) (w.heap.size + 1 + 1) _ _ hbR hbS rfl rfl rfl rfl rfl rfl rfl ?_
     refine ⟨hEd,?_⟩
     simp only
     refine ⟨⟨B1,d1,B2,d2,B3,d3⟩,⟨C1,f1,C2,f2,C3,f3⟩,?_,?_,?_⟩
     ·rw [HBK.out,← HL.out,← HR.out,HMID.out];rfl
     ·rw [HBK.out,← HL.out];exact hnL
     ·rw [HBK.out,← HR.out];exact hnR))
end Go.Proofs.YtccnemmlkcmceaaGreatDoor
