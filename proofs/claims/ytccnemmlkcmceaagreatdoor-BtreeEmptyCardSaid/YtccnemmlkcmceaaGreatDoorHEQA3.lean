/- Proofs about the given program, joined out of the texts CB, LP, LN1, EM1, EM2, RE. -/
import Derived.Test.YtccnemmlkcmceaaGreatDoorHEQA2
set_option linter.unusedVariables false
set_option linter.unusedSimpArgs false
set_option maxRecDepth 100000
set_option maxHeartbeats 6400000
namespace Go.Proofs.YtccnemmlkcmceaaGreatDoor
open Go.RowKit
theorem fillE_may (l:List Ac):∀ e ∈ fillE l,may e.1 [] = 0:=by
 have key:∀ (l:List Ac) (E:List Ent),(∀ e ∈ E,may e.1 [] = 0) → ∀ e ∈ l.foldl Ac.step E,may e.1 [] = 0:=by
  intro l
  induction l with
  | nil=>exact fun E h=>h
  | cons a l ih =>
   intro E h
   refine ih _ ?_
   intro e he
   unfold Ac.step at he
   split at he
   ·exact h e (List.mem_filter.1 he).1
   ·rcases insE_mem he with rfl | he
    ·exact a.key1_may [] (by simp)
    ·exact h e he
 exact key l [] (by simp)
theorem One.check {v:V} {root:Nat} {P:List Nat} {E:List Ent} (hT:TreeOf true v root P E) (hp:P.length ≤ 65000):v.check root = 0:=by
 obtain ⟨d,hd⟩:=survey_done hT hp
 unfold V.check
 rw [hd]
 rfl
theorem height_told {v:V} {root:Nat} {P:List Nat} {E:List Ent} (hT:TreeOf true v root P E):∃ n,v.height root = (n,0) ∧ (E = [] → n = 0) ∧ (E ≠ [] → 1 ≤ n ∧ 2 ^ (n - 1) ≤ E.length):=by
 rcases hT with ⟨h0,rfl,rfl⟩ | ⟨h,hh,hS⟩
 ·have:v.way root [] = some []:=by unfold V.way;rw [h0];rfl
  exact ⟨0,by unfold V.height;rw [this];rfl,fun _=>rfl,fun h=>absurd rfl h⟩
 ·obtain ⟨ups,st,rt,lo,hi,P',L,R,A,B,QA,QB,EA,EB,hl⟩:=locate (key:=[]) hS hh
  have h2:=hS.height
  refine ⟨h + 1,?_,fun e=>?_,fun _=>⟨by omega,by simpa using h2⟩⟩
  ·unfold V.height
   rw [hl.way]
   simp [hl.len]
  ·exact absurd e hS.told.1
theorem pages_told {v:V} {root:Nat} {P:List Nat} {E:List Ent} (hT:TreeOf true v root P E) (hp:P.length ≤ 65000):v.pages root = (P.length,0):=by
 obtain ⟨d,hd⟩:=survey_done hT hp
 unfold V.pages
 rw [hd]
theorem v0_kd:v0.Kd:=fun i h1 h2=>by have h3:i < 1:=h2;omega
theorem NewAt.ready {w0 w':World} {s:Sys} {p:Nat} {v':V} {T:Nat → Nat} (h:NewAt w0 s p) (hok:s.Ok) (h1:1 ≤ p) (h2:p ≤ 4000) (ht:TxAt w' s v') (hT:Half w' T) (hg:v'.Good) (hk:v'.Kd) (hm:v'.mt.Ok) :
  ∃ a Dd Dl,Ready w' s v' Dd Dl a T (freshDb (400 + 8 * p)) ∧ a.log = 400 ∧ (∀ g,Dd g ∨ Dl g ∨ g = a.x → w0.heap.size ≤ g) ∧ s.x = a.x ∧ s.d = a.d ∧ Live a.log 0 (freshDb (400 + 8 * p)) ∧ s.bh = 1 ∧ ∀ w'',s.db w'' → ∀ g,Dd g ∨ Dl g ∨ g = a.x → g < w''.heap.size:=by
 obtain ⟨kb,d,l,x,t,m,rfl,q1,q2,q3,q4,q5,q6,n1,n2,n3,n4,n5,n6,n7,n8,_⟩:=h.ex
 have hdb:NewDb w' kb d l x (400 + 8 * p) 400 (some ⟨t,0,none⟩):=ht.db
 have hL:=Live.fresh (400 + 8 * p) 400
 refine ⟨⟨d,kb,x,l,400⟩,(fun g=>g = d ∨ g = kb),(fun g=>g = l),⟨hok,ht,rfl,hdb.at_ hT (by omega) (by omega) (by omega) (by omega),?_,?_,?_,?_,n8,hg,hk,hm,hL.near.mono (by decide),by show 0 < 2 ^ 58;decide,by show 0 < 2 ^ 15;decide,by simp [freshDb],fun _=>rfl,?_⟩,rfl,?_,rfl,rfl,hL,rfl,?_⟩
 ·rintro (e | e)
  ·exact n2 e
  ·exact n1 e
 ·intro e;exact n3 e
 ·rintro (e | e)
  ·exact n6 e
  ·exact n5 e
 ·intro e;exact n7 e
 ·have h3:v'.high ≤ (400 + 8 * p - 400) / 8:=ht.h2
  show 400 + v'.high * 8 ≤ 400 + 8 * p
  omega
 ·intro g hg
  rcases hg with (hg | hg) | hg | hg
  ·rw [hg];exact q2
  ·rw [hg];exact q1
  ·have:g = l:=hg
   rw [this];exact q3
  ·rw [hg];exact q4
 ·intro w'' hw g hg
  have hw':NewDb w'' kb d l x (400 + 8 * p) 400 (some ⟨t,0,none⟩):=hw
  rcases hg with (hg | hg) | hg | hg
  ·rw [hg];exact hw'.disk.lt
  ·rw [hg];exact hw'.kept.lt
  ·have:g = l:=hg
   rw [this];exact hw'.wal.lt
  ·rw [hg];exact hw'.db.lt
theorem One.marks {cap root:Nat} {v:V} {P:List Nat} {E:List Ent} (h:One cap v root [] P E):v.high = v.cnt + P.length + 1:=by
 have h1:=h.room.1
 have h2:=h.sane.2.1
 have h3:v.room cap = (cap - v.high) + v.cnt:=rfl
 rw [List.length_nil] at h1
 omega
theorem shut_txroot (s:Sys) (w:World) (h:Shut w s) (i:Nat) :
  Calls Tryz.prog 46 #[.pointer (some ⟨s.t,0,none⟩),.int .i64 (i:Int)] w fun e w'=>e = .returned (.int .i64 0) ∧ w = w':=by
 have HU:=Lib.hid (shut_up s w h)
 clear h
 go_enter Tryz.func46,Tryz.ntmps46
 go_wp2_with (go_at_call 53;refine (HU.out).mono ?_;rintro e w' ⟨rfl,rfl⟩)
 go_ret
 exact ⟨rfl,rfl⟩
theorem shut_root (s:Sys) (w:World) (h:Shut w s) (gx i:Nat) (hx:Blk w gx 70 (treeCells s i)) :
  Calls Tryz.prog 15 #[.pointer (some ⟨gx,0,none⟩)] w fun e w'=>e = .returned (.int .i64 0) ∧ Ext No w w':=by
 have HN:=Lib.hid (none_no ⟨s.t,0,none⟩ (.int .i64 (i:Int)) gx w hx)
 have HR:=Lib.hid (fun k=>shut_txroot s (w.drewN k) (h.ext ((Ext.refl No w).drewN k)) i)
 have c0:=hx.cell 0
 have c1:=hx.cell 1
 simp [treeCells] at c0 c1
 have lx:=hx.lt
 clear h hx
 go_enter Tryz.func15,Tryz.ntmps15
 go_wp2_with fail
 refine (HN.out).mono ?_
 rintro e' w1 ⟨rfl,rfl⟩
 go_wp2_with fail
 go_quiet ((go_at_call 46;exact Calls.quiet_of_same ((HR.out _).mono fun _ _ ⟨h1,h2⟩=>⟨h1,h2.symm⟩)))
 go_wp2_with fail
 go_ret
 exact ⟨rfl,(Ext.refl _ _).drewN _⟩
theorem V.setR_good {v:V} (h:v.Good) (i n:Nat):(v.setR i n).Good:=by
 obtain ⟨l,h⟩:=h
 exact ⟨l,h.nd,h.cnt,h.hd,h.mem,h.body,h.top,h.h1,h.bd⟩
structure Emp (s:Sys) (W wr:World) (gm:Nat) (v:V) (P:List Nat) (E:List Ent) (A:Option Addr) (c:Nat):Prop where
 tx:TxAt wr s v
 one:One s.cap v 0 [] P E
 st:V.Steps s.cap v0 v
 r:∀ i,i ≠ 0 → v.r i = 0
 may:∀ e ∈ E,may e.1 [] = 0
 bm:Blk wr gm 32 #[.slice A E.length c]
 ra:RefAt wr s.F A c E
 ex:Ext (fun b=>s.F b ∨ b = gm) W wr
theorem Emp.no {s:Sys} {W wr w2:World} {gm:Nat} {v:V} {P:List Nat} {E:List Ent} {A:Option Addr} {c:Nat} (h:Emp s W wr gm v P E A c) (hs:s.Ok) (hx:Ext No wr w2):Emp s W w2 gm v P E A c :=
 ⟨h.tx.no hs hx,h.one,h.st,h.r,h.may,h.bm.ext hx (fun h=>h),h.ra.ext hx.of_no,h.ex.trans_ hx.of_no⟩
theorem del_mem {key:Bs} {E:List Ent} {e:Ent} (h:e ∈ E) (hk:e.1 = key):(del key E).length < E.length:=by
 unfold del
 exact (List.length_filter_lt_length_iff_exists (p:=fun e:Ent=>!(e.1 == key)) (l:=E)).2 ⟨e,h,by simp [hk]⟩
def intVals (l:List Int):List Value:=l.map fun n=>.int .i64 n
theorem empty_walk (A:Option Addr) (l:List Ac) (c:Nat) (A2:Option Addr) (ns:List Int) (c2:Nat) (w:World) (T:Nat → Nat) (hT:Half w T) (hl:Rd w (fun b=>w.heap.size ≤ b) 4 A l.length (acVals l)) (hll:l.length < 2^63) (hf:∀ a ∈ l,a.fits)
  (hl2:Rd w (fun b=>w.heap.size ≤ b) 1 A2 ns.length (intVals ns)) (hll2:ns.length < 2^63) (hf2:∀ n ∈ ns,-(2:Int)^63 ≤ n ∧ n < 2^63) :
  Calls Tryz.prog 10 #[.slice A l.length c,.slice A2 ns.length c2] w fun e w'=>e = .returned (.bool true) ∧ Ext No w w':=by
 have HB:=Lib.hid (begin_any 400 (by decide) (by decide) w)
 have HW:=Lib.hid works_any
 have HL:=Lib.hid hl
 have HLL:=Lib.hid hll
 have HFT:=Lib.hid hf
 have HL2:=Lib.hid hl2
 have HLL2:=Lib.hid hll2
 have HFT2:=Lib.hid hf2
 have HTT:=Lib.hid hT
 clear hl hll hf hT hl2 hll2 hf2
 go_enter Tryz.func10,Tryz.ntmps10
 go_wp2_with fail
 refine (HB.out).mono ?_
 rintro e w1 ⟨s,hF,rfl,hx1,ht,hm,hxx,_,hNA⟩
 have HNA:=Lib.hid hNA
 have HS:=Lib.hid hF.ok
 have HDB1:=Lib.hid hF.tx.db
 have HFF:Hid (∀ b,s.F b → w.heap.size ≤ b):=Lib.hid (fun b hb=>by
  rcases hb with rfl | rfl
  ·exact ht
  ·exact hm)
 have HOF:=Lib.hid (of_any (some ⟨s.t,0,none⟩) 0 (by decide) w1)
 obtain ⟨W2,hW2⟩:∃ W2,W2 = w1.alloc (.cells #[.pointer (some ⟨s.t,0,none⟩),.int .i64 0] 70):=⟨_,rfl⟩
 have HX2:=Lib.hid (show Blk W2 w1.heap.size 70 (treeCells s 0) from hW2 ▸ Blk.new w1 70 _)
 have HT2:=Lib.hid (show TxAt W2 s v0 from hW2 ▸ hF.tx.no hF.ok ((Ext.refl _ _).alloc _))
 have HE2:=Lib.hid (show Ext No w W2 from hW2 ▸ hx1.alloc _)
 have hcap:s.cap = 400:=hF.cap
 have HCAP:=Lib.hid hcap
 have HFILL:=Lib.hid (fill_any s hF.ok W2 v0 HT2.out w1.heap.size 0 HX2.out (by decide) [] [] (One.start hF (by decide) (by decide) 0) l A c
  ((HL.out.ext (HE2.out.of_no)).mono (by decide) (fun b _ hb=>HFF.out b hb)) HLL.out HFT.out 50 (by rw [hcap];decide) (by decide))
 have HOFF:=Lib.hid (tree_off HT2.out HX2.out)
 have hEl:(fillE (l.take 50)).length ≤ 50:=Nat.le_trans (fillE_len _) (by rw [List.length_take];omega)
 have HMY:=Lib.hid (fillE_may (l.take 50))
 obtain ⟨E,hE⟩:∃ E,E = fillE (l.take 50):=⟨_,rfl⟩
 rw [← hE] at HFILL hEl HMY
 have HEL:=Lib.hid hEl
 have HX12:=Lib.hid (show w1.heap.size < W2.heap.size from HX2.out.lt)
 clear hF hx1 ht hm hxx hcap hE hEl hNA
 go_wp2_with fail
 refine (HOF.out).mono ?_
 rintro e w2 ⟨rfl,rfl⟩
 rw [show w1.alloc (.cells #[.pointer (some ⟨s.t,0,none⟩),.int .i64 ((0:Nat):Int)] 70) = W2 from hW2.symm]
 clear hW2
 have HFILL2:Hid (Calls Tryz.prog 14 #[.pointer (some ⟨w1.heap.size,0,none⟩),.slice A l.length c,.int .i64 50] W2 (Filled s W2 v0 0 [] [] E)):=Lib.hid HFILL.out
 go_wp2_with fail
 refine (HFILL2.out).mono ?_
 rintro e w3 ⟨⟨v',P',A',c',rfl,ht,ho,htr,hra,hst⟩,hx3⟩
 obtain ⟨W4,hW4⟩:∃ W4,W4 = w3.alloc (.cells #[.slice A' E.length c'] 32):=⟨_,rfl⟩
 have hx34:Ext No w3 W4:=hW4 ▸ (Ext.refl _ _).alloc _
 have HE4:Hid (Ext s.F W2 W4):=Lib.hid (hx3.trans_ hx34.of_no)
 have HX4:=Lib.hid (HX2.out.ext HE4.out HOFF.out)
 have HEND:Hid (Ext No w W4):=Lib.hid (HE2.out.trans HE4.out (fun i hi hb=>by have:=HFF.out i hb;omega))
 obtain ⟨gm,hgm⟩:∃ gm,gm = w3.heap.size:=⟨_,rfl⟩
 have hgF:¬ s.F gm:=fun hb=>by have:=ht.old hb;omega
 have HGF:=Lib.hid hgF
 have HGM2:Hid (W2.heap.size ≤ gm):=Lib.hid (by have:=hx3.size;omega)
 have HGM:Hid (w1.heap.size < gm):=Lib.hid (by have:=hx3.size;have:=HX12.out;omega)
 have HEM:Hid (Emp s W4 W4 gm v' P' E A' c'):=Lib.hid ⟨ht.no HS.out hx34,ho,hst,fun i hi=>htr.r i hi,HMY.out,hgm ▸ hW4 ▸ Blk.new w3 32 _,RefAt.mono (G:=s.F) (hra.ext hx34.of_no) (fun b _ hb=>HT2.out.old hb),Ext.refl _ _⟩
 have HDEL:=Lib.hid (fun w v h hg hx key=>del_full s HS.out w v h hg w1.heap.size 0 hx (by decide) key)
 have HCHK:=Lib.hid (fun w v h hg hx=>checkt_any s HS.out w v h hg w1.heap.size 0 hx (by decide))
 clear ht ho htr hra hst hx3 hx34 hgF
 go_upto_region 8 with fail
 rw [← hW4,← hgm]
 clear hW4 hgm
 have hwz:W4.heap.size < W4.heap.size + 1:=by omega
 go_wp2_with fail
 go_loopg [11] E.length (fun gk q11 wr=>∃ (i:Nat) (v:V) (P:List Nat) (E9:List Ent) (A9:Option Addr) (c9:Nat),q11 = .int .i64 (i:Int) ∧ E9.length = gk ∧ Hid (E9.length + i ≤ 60) ∧ Hid (Emp s W4 wr gm v P E9 A9 c9))
 case atStart=>exact ⟨0,v',P',E,A',c',rfl,rfl,Lib.hid (by have:=HEL.out;omega),HEM⟩
 case round =>
  obtain ⟨i,v,P,E9,A9,c9,rfl,hgk,HIL,HE⟩:=hrel
  have HGK:=Lib.hid hgk
  have b0:=HE.out.bm.cell 0
  have bl:=HE.out.bm.lt
  simp at b0
  obtain ⟨L,hL⟩:∃ L,L = E9.length:=⟨_,rfl⟩
  rw [← hL] at b0 hgk
  have HLE:=Lib.hid hL
  clear hL hgk
  by_cases h0:0 < L
  ·have H0:=Lib.hid h0
   have h0':(0:Int) < (L:Int):=by omega
   clear h0
   have HXW:Hid (Ext No w wr):=Lib.hid (HEND.out.trans HE.out.ex (fun b hb h1=>by
    rcases h1 with h1 | h1
    ·have:=HFF.out b h1;omega
    ·have:=HGM2.out;have:=HE2.out.size;omega))
   go_upto_if 46 with fail
   go_cut [12] (fun q wx=>∃ k:Nat,q = .int .i64 (k:Int) ∧ Hid (k < L) ∧ Hid (Ext No wr wx))
   case first =>
    by_cases hin:i < ns.length
    ·have hin':(i:Int) < (ns.length:Int):=by omega
     obtain ⟨b,o,u,hA2,_,hu,k0⟩:=((HL2.out.ext HXW.out.of_no)).at1 hin
     subst hA2
     obtain ⟨n,hn⟩:∃ n,ns[i]? = some n:=⟨_,List.getElem?_eq_getElem hin⟩
     have hun:u = .int .i64 n:=by
      unfold intVals at hu
      rw [List.getElem?_map,hn] at hu
      exact (Option.some.inj hu).symm
     subst hun
     have lk:=World.block_lt_of_cell? wr _ k0
     simp only at lk
     have hnf:=HFT2.out n (List.mem_of_getElem? hn)
     obtain ⟨q,hqL,hq,hn1,hn2⟩:=rem_of n L (by omega)
     have hLb:L < 100:=by have:=HIL.out;have:=HLE.out;omega
     have hL0:((L:Int) == 0) = false:=by simp;omega
     have hLm:((L:Int) == -1) = false:=by simp
     have hwr1:IntKind.i64.wrap (n.tmod L) = n.tmod L:=by rw [wrapEq];unfold wrap64;omega
     have hwr2:IntKind.i64.wrap (n.tmod L + L) = n.tmod L + L:=by rw [wrapEq];unfold wrap64;omega
     have hwr3:IntKind.i64.wrap (q:Int) = (q:Int):=wrap_tiny _ (by omega) (by omega)
     have HQL:=Lib.hid hqL
     clear hin hu hn hnf hqL hLb hn1 hn2
     go_upto_region 13 with fail
     go_quiet (fail)
     go_wp2_with fail
     go_meet
     exact ⟨q,rfl,HQL,Lib.hid ((Ext.refl _ _).drewN _)⟩
    ·have hin':¬ ((i:Int) < (ns.length:Int)):=by omega
     clear hin
     go_wp2_with fail
     go_meet
     exact ⟨0,rfl,H0,Lib.hid (Ext.refl _ _)⟩
   case rest =>
    obtain ⟨k,rfl,HKL,HXK⟩:=hcut
    obtain ⟨e,hek⟩:∃ e,E9[k]? = some e:=⟨_,List.getElem?_eq_getElem (by have:=HKL.out;have:=HLE.out;omega)⟩
    have HEW:=Lib.hid (HE.out.no HS.out HXK.out)
    obtain ⟨b,o,hA9,_,k0,k1⟩:=HEW.out.ra.rd.entAt hek
    have lk:=World.block_lt_of_cell? wc _ k0
    simp only at lk
    have hem:=List.mem_of_getElem? hek
    have b0:=HEW.out.bm.cell 0
    have bl:=HEW.out.bm.lt
    simp at b0
    rw [← HLE.out] at b0
    subst hA9
    have hcap9:(L:Int) ≤ (c9:Int):=by have:=HE.out.ra.l;have:=HLE.out;omega
    have hkL:(k:Int) < (L:Int):=by have:=HKL.out;omega
    have hmay:=HEW.out.may e hem
    obtain ⟨d1,d2,P2,d3,d4⟩:=HEW.out.one.del hmay (by have:=HIL.out;omega) (by rw [HCAP.out];have:=HIL.out;simp only [List.length_nil];omega)
    have hshort:=del_mem hem rfl
    have d1':(v.Del s.cap 0 e.1).1 = true:=by rw [d1];exact decide_eq_true hshort
    have HXW:=Lib.hid (HX4.out.ext HEW.out.ex (fun hb=>by
     rcases hb with hb | hb
     ·exact HOFF.out hb
     ·have:=HGM.out;omega))
    have HDE:Hid (Calls Tryz.prog 27 #[.pointer (some ⟨w1.heap.size,0,none⟩),.string (str e.1)] wc fun e' w2=>e' = .returned (.tuple #[.bool true,.int .i64 0]) ∧ Hid (TxAt w2 s (v.Del s.cap 0 e.1).2.2) ∧ Hid (Ext s.F wc w2)):=Lib.hid (by
     refine (HDEL.out wc v HEW.out.tx HEW.out.one.sane.1 HXW.out e.1).mono ?_
     rintro e' w2 ⟨h1,h2,_,h3⟩
     rw [d1',d2] at h1
     exact ⟨h1,Lib.hid h2,Lib.hid h3⟩)
    have HONE:=Lib.hid d3
    have HTRD:=Lib.hid d4
    have HSH:=Lib.hid hshort
    have HMAY:=Lib.hid hmay
    have hPl:P2.length ≤ 65000:=by
     have h1:=d3.room.2
     have h2:=HIL.out
     omega
    have HCK:=Lib.hid (One.check d3.tree hPl)
    obtain ⟨v2,hv2⟩:∃ v2,v2 = (v.Del s.cap 0 e.1).2.2:=⟨_,rfl⟩
    rw [← hv2] at HDE HONE HTRD HCK
    have HST2:Hid (V.Steps s.cap v0 v2):=Lib.hid (by rw [hv2];exact HEW.out.st.trans ((V.StepsB.refl (sp:=true)).Del _ _))
    clear hek hem hmay d1 d2 d3 d4 d1' hshort hPl hv2
    go_wp2_with fail
    refine (HDE.out).mono ?_
    rintro e' w2 ⟨rfl,HT2',HX2'⟩
    have HBM2:=Lib.hid (HEW.out.bm.ext HX2'.out HGF.out)
    have HRA2:=Lib.hid (HEW.out.ra.ext HX2'.out)
    have HXW2:=Lib.hid (HXW.out.ext HX2'.out HOFF.out)
    have HC2:=Lib.hid (HCHK.out w2 v2 HT2'.out HONE.out.sane.1 HXW2.out)
    rw [HCK.out] at HC2
    clear k0 k1 lk b0 bl
    go_wp2_with fail
    refine (HC2.out).mono ?_
    rintro e' w3 ⟨rfl,hx3⟩
    have HX3:=Lib.hid hx3
    have HBM3:=Lib.hid (HBM2.out.ext hx3 (fun h=>h))
    have HRA3:=Lib.hid (RefAt.mono (G:=No) (HRA2.out.ext hx3.of_no) (fun _ _ h=>h.elim))
    have HRD:=Lib.hid (refdel_any w3 gm (some ⟨b,o,none⟩) c9 E9 e.1 HBM3.out HRA3.out HMAY.out)
    clear hx3
    go_wp2_with fail
    refine (HRD.out).mono ?_
    rintro e' w4 ⟨rfl,hx4,A5,c5,hb5,hr5⟩
    have HEM5:Hid (Emp s W4 w4 gm v2 P2 (del e.1 E9) A5 c5):=Lib.hid (by
     have hFw:∀ b,s.F b → b < w3.heap.size:=fun b hb=>(HT2'.out.no HS.out HX3.out).old hb
     have hE2:Ext s.F W2 w4:=by
      have h1:Ext s.F W2 wc:=HE4.out.trans HEW.out.ex (fun g hg h1=>by
       rcases h1 with h1 | h1
       ·exact h1
       ·have:=HGM2.out;omega)
      exact ((h1.trans_ HX2'.out).trans_ HX3.out.of_no).trans hx4 (fun g hg h1=>by
       have e1:g = gm:=h1
       have:=HGM2.out;omega)
     have hgt:s.t ≠ gm:=fun e1=>HGF.out (.inl e1.symm)
     have hgm':s.m ≠ gm:=fun e1=>HGF.out (.inr e1.symm)
     refine ⟨(HT2'.out.no HS.out HX3.out).local_ hx4 hgt hgm' (HS.out.keep _ _ hE2 HT2.out.db),HONE.out,HST2.out,fun i hi=>?_,fun x hx=>HEW.out.may x (List.mem_filter.1 hx).1,hb5,RefAt.mono (G:=s.F) hr5 (fun b _ hb=>hFw b hb),?_⟩
     ·rw [HTRD.out.r i hi];exact HEW.out.r i hi
     ·exact ((HEW.out.ex.trans_ (HX2'.out.mono (fun _ _ h=>.inl h))).trans_ HX3.out.of_no).trans_ (hx4.mono (fun _ _ h=>.inr h)))
    have hw9:IntKind.i64.wrap ((i:Int) + 1) = (i:Int) + 1:=wrap_tiny _ (by omega) (by have:=HIL.out;omega)
    clear hx4 hb5 hr5
    go_wp2_with fail
    go_roundg (del e.1 E9).length
    case rel=>exact ⟨i + 1,v2,P2,del e.1 E9,A5,c5,by go_num,rfl,Lib.hid (by have:=HIL.out;have:=HSH.out;omega),HEM5⟩
    case measure=>have:=HSH.out;have:=HGK.out;omega
  ·have h0':¬ ((0:Int) < (L:Int)):=by omega
   have hE0:E9 = []:=List.eq_nil_of_length_eq_zero (by rw [← HLE.out];omega)
   subst hE0
   have HXW:Hid (Ext No w wr):=Lib.hid (HEND.out.trans HE.out.ex (fun b hb h1=>by
    rcases h1 with h1 | h1
    ·have:=HFF.out b h1;omega
    ·have:=HGM2.out;have:=HE2.out.size;omega))
   have HXX:=Lib.hid (HX4.out.ext HE.out.ex (fun hb=>by
    rcases hb with hb | hb
    ·exact HOFF.out hb
    ·have:=HGM.out;omega))
   have hP0:P = []:=by
    have h1:=HE.out.one.room.2
    exact List.eq_nil_of_length_eq_zero (by simpa using h1)
   have HP0:=Lib.hid hP0
   have HHG:=Lib.hid (height_any s HS.out wr v HE.out.tx HE.out.one.sane.1 w1.heap.size 0 HXX.out (by decide))
   have HPG:=Lib.hid (fun w' (e:Ext No wr w')=>pages_any s HS.out w' v (HE.out.tx.no HS.out e) HE.out.one.sane.1 w1.heap.size 0 (HXX.out.ext e (fun h=>h)) (by decide))
   rw [pages_told HE.out.one.tree (by rw [hP0];decide),hP0] at HPG
   obtain ⟨hn,hh1,hh2,_⟩:=height_told HE.out.one.tree
   rw [hh2 rfl] at hh1
   rw [hh1] at HHG
   simp only [List.length_nil] at HPG HHG
   have HSR:=Lib.hid (fun w' (e:Ext No wr w')=>setroot_any s HS.out w' v (HE.out.tx.no HS.out e) 3 1 (by decide) (by decide))
   clear h0 hP0 hh1 hh2
   go_wp2_with fail
   refine (HHG.out).mono ?_
   rintro e w5 ⟨rfl,hx5⟩
   have HX5:=Lib.hid hx5
   clear hx5
   go_wp2_with fail
   refine (HPG.out _ HX5.out).mono ?_
   rintro e w6 ⟨rfl,hx6⟩
   have HX6:=Lib.hid (HX5.out.trans_ hx6)
   clear hx6
   have HSR6:Hid (Calls Tryz.prog 21 #[.pointer (some ⟨s.t,0,none⟩),.int .i64 3,.int .i64 1] w6 fun e w'=>e = .returned (.int .i64 0) ∧ TxAt w' s (v.setR 3 1) ∧ Ext s.F w6 w'):=Lib.hid (HSR.out w6 HX6.out)
   go_wp2_with fail
   refine (HSR6.out).mono ?_
   rintro e w7 ⟨rfl,ht7,hx7⟩
   have HX7:Hid (Ext No w w7):=Lib.hid ((HXW.out.trans_ HX6.out).trans hx7 (fun b hb h1=>by have:=HFF.out b h1;omega))
   have HXX7:=Lib.hid ((HXX.out.ext HX6.out (fun h=>h)).ext hx7 HOFF.out)
   have hmt:(v.setR 3 1).mt.Ok:=by
    have h1:=HE.out.one.mt (fun i hi=>by rw [HE.out.r i hi];decide)
    refine ⟨fun i=>?_,h1.h,h1.f,h1.c⟩
    show (if i = 3 then 1 else v.r i) < _
    split
    ·decide
    ·exact h1.r i
   obtain ⟨a,Dd,Dl,hR,hlog,hnew,hsx,_,hLv,_,hupp⟩:=HNA.out.ready HS.out (by decide) (by decide) ht7 (HTT.out.ext HX7.out (fun h=>h)) (V.setR_good HE.out.one.sane.1 3 1) (HE.out.st.kd v0_kd) hmt
   have HCM:=Lib.hid (commit_any hR)
   have HRD:=Lib.hid hR;have HLOG:=Lib.hid hlog;have HNEW:=Lib.hid hnew;have HSX:=Lib.hid hsx;have HLV:=Lib.hid hLv;have HUPP:=Lib.hid (hupp w1 HDB1.out)
   clear hR hlog hnew hsx hLv ht7 hx7 hmt hupp
   go_wp2_with fail
   refine (HCM.out).mono ?_
   rintro e w8 ⟨ov,im,hI,hC⟩
   obtain ⟨he,⟨Dd',Dl',hd',hdb',n1,n2⟩,hx8⟩:=hC
   subst he
   have hways:=HLV.out.commit (by rw [HLOG.out];decide) (by rw [HLOG.out];decide) (crc T) (v.setR 3 1).spoilt im (v.setR 3 1).mt (fun p hp=>(hI.mem HRD.out.good HRD.out.tx.h1 hp).2) (by
    have h1:=HRD.out.tx.h2;have h2:=HRD.out.ok.n2;unfold Sys.cap at h1
    have:=hI.len (by omega)
    omega)
   obtain ⟨R,hRR⟩:∃ R,R = (freshDb (400 + 8 * 400)).commit (crc T) a.log (v.setR 3 1).spoilt im (v.setR 3 1).mt:=⟨_,rfl⟩
   rw [← hRR] at hd' hdb' hways ⊢
   have hne10:R.1 ≠ 10:=by
    rcases hways with ⟨_,h1⟩ | ⟨_,_,h1⟩ | ⟨_,_,h1,_⟩ | ⟨_,_,h1,_⟩
    ·rw [h1];decide
    ·rw [h1];decide
    ·rw [h1];decide
    ·rw [h1];decide
   have hdb8:=hdb' hne10
   have HEND8:Hid (Ext No w w8):=Lib.hid (HX7.out.trans hx8 (fun g hg h1=>by have:=HNEW.out g h1;omega))
   have htn:¬ (fun g=>Dd g ∨ Dl g ∨ g = a.x) s.t:=fun hg=>by
    rcases hg with hg | hg | hg
    ·exact HRD.out.tD hg
    ·exact HRD.out.tL hg
    ·exact HRD.out.ok.tx (by rw [HRD.out.sx];exact hg)
   have hgn:¬ (fun g=>Dd g ∨ Dl g ∨ g = a.x) w1.heap.size:=fun hg=>by
    have:=HUPP.out _ hg
    omega
   have HSHUT:Hid (Shut w8 s):=Lib.hid ⟨cell_ext hx8 HRD.out.tx.c0 htn,by rw [HSX.out];exact hdb8.db.cell 10⟩
   have HXX8:=Lib.hid (HXX7.out.ext hx8 hgn)
   have HROOT:=Lib.hid (shut_root s w8 HSHUT.out w1.heap.size 0 HXX8.out)
   have HHI:=Lib.hid (high_any hdb8.db)
   have HFR:=Lib.hid (freecnt_any hdb8.db)
   rw [← HSX.out] at HHI HFR
   have HW8:=Lib.hid (fun w'=>HW.out w')
   clear hne10 htn hgn
   by_cases h0:R.1 = 0
   ·have hmarks:R.2.m.high = R.2.m.cnt + 1:=by
     rcases hways with ⟨_,h1⟩ | ⟨_,h1,_⟩ | ⟨_,_,h1,_⟩ | ⟨_,_,_,_,_,h1,_⟩
     ·rw [h1] at h0;cases h0
     ·subst h1
      have:=hI.none.1
      cases this
     ·rw [h1] at h0;cases h0
     ·rw [h1]
      have h2:=HE.out.one.marks
      rw [HP0.out] at h2
      exact h2
    have hc0:(R.1:Int) = 0:=by omega
    obtain ⟨HI,hHI⟩:∃ HI,HI = R.2.m.high:=⟨_,rfl⟩
    obtain ⟨CN,hCN⟩:∃ CN,CN = R.2.m.cnt:=⟨_,rfl⟩
    rw [← hHI] at HHI hmarks
    rw [← hCN] at HFR hmarks
    have hhb:HI < 1000000:=by
     rw [hHI]
     rcases hways with ⟨_,h1⟩ | ⟨_,h1,h2⟩ | ⟨_,_,h1,_⟩ | ⟨_,_,_,_,_,h1,_⟩
     ·rw [h1];decide
     ·rw [h2];decide
     ·rw [h1];decide
     ·rw [h1]
      have h3:=HE.out.one.sane.2
      show v.high < _
      omega
    have hw1:IntKind.i64.wrap ((HI:Int) - 1) = (CN:Int):=by rw [show (HI:Int) - 1 = (CN:Int) by omega];exact wrap_tiny _ (by omega) (by omega)
    rw [hc0]
    clear h0 hmarks hdb8 hc0 hHI hCN hhb hways hd' hdb' n1 n2 hx8 hRR
    go_wp2_with fail
    refine (HHI.out).mono ?_
    rintro e w9 ⟨rfl,rfl⟩
    go_wp2_with fail
    refine (HFR.out).mono ?_
    rintro e w9 ⟨rfl,rfl⟩
    go_wp2_with fail
    refine (HROOT.out).mono ?_
    rintro e w9 ⟨rfl,hx9⟩
    have HX9:=Lib.hid hx9
    clear hx9
    go_wp2_with fail
    refine (HW8.out _).mono ?_
    rintro e w10 ⟨rfl,hx10⟩
    go_wp2_with fail
    go_ret
    exact ⟨rfl,(HEND8.out.trans_ HX9.out).trans_ hx10⟩
   ·have hc1:((R.1:Int) == 0) = false:=by simp;omega
    clear h0 hways hd' hdb' n1 n2 hx8 hRR hdb8
    go_wp2_with fail
    refine (HROOT.out).mono ?_
    rintro e w9 ⟨rfl,hx9⟩
    have HX9:=Lib.hid hx9
    clear hx9
    go_wp2_with fail
    refine (HW8.out _).mono ?_
    rintro e w10 ⟨rfl,hx10⟩
    go_wp2_with fail
    go_ret
    exact ⟨rfl,(HEND8.out.trans_ HX9.out).trans_ hx10⟩
end Go.Proofs.YtccnemmlkcmceaaGreatDoor
namespace Go.Proofs.YtccnemmlkcmceaaGreatDoor
open Go.RowKit Go.ChangeShapes Go.WideShapes Go.ChangeAt
theorem Tryz.cells3':Tryz.prog.cellsOf 3 = 1:=by kernel_rfl
theorem ints_open {H:Type} {enc:TypeId × Value → H} {W:World} {base:Nat} {v:Value} {d:DataW H} {p:List MemPlace}
  (hval:Value.okWide Tryz.prog W .any base 35 v) (h:DataW.Trod enc Tryz.prog W 0 (fun _=>true) true 35 v d p) :
  ∃ (A:Option Addr) (l:List Int) (c:Nat),v = .slice A l.length c ∧ Rd W (fun b=>W.heap.size ≤ b) 1 A l.length (intVals l) ∧ l.length < 2 ^ 63 ∧ ∀ n ∈ l,-(2:Int)^63 ≤ n ∧ n < 2^63:=by
 obtain ⟨A0,n0,c0,rfl⟩:=okWide_slice (P:=Tryz.prog) Tryz.underlying35 hval
 obtain ⟨fuel,hf⟩:=h
 have hf':DataW.trod enc Tryz.prog W 0 (fun _=>true) true fuel 35 [.slice A0 n0 c0] = some (d,p):=hf
 rcases Go.Deep.open_slice1 (P:=Tryz.prog) Tryz.underlying35 Tryz.cells3' hf' with ⟨e,_⟩ | ⟨a,len,cap,m,n,V,D,Pl,e,_,hl,hm,hmm,_,hx⟩
 ·injection e with e _
  injection e with e1 e2 e3
  subst e1;subst e2;subst e3
  exact ⟨none,[],0,rfl,Rd.nil_ _,by decide,by simp⟩
 ·injection e with e _
  injection e with e1 e2 e3
  subst e1;subst e2;subst e3
  have hlm:n0 ≤ m:=by rw [hmm];split <;> omega
  obtain ⟨l,h1,h2⟩:=list_of_fun (n:=n0) (p:=fun i (x:Int)=>(-(2:Int)^63 ≤ x ∧ x < 2^63) ∧ W.cell? (a.add i) = some (.int .i64 x)) (fun i hi=>by
   obtain ⟨g1,g2⟩:=hx i (by omega)
   obtain ⟨n1,e1,_,w1⟩:=DataW.trod_int (P:=Tryz.prog) Tryz.underlying3 g2
   have q1:V i = Value.int .i64 n1:=by
    injection e1
   exact ⟨n1,wf_i64 w1,by rw [g1,q1]⟩)
  subst h1
  refine ⟨some a,l,c0,rfl,⟨by simp [intVals],fun hpos=>?_⟩,by unfold maxLen at hm;omega,fun y hy=>?_⟩
  ·obtain ⟨x0,hx0⟩:∃ x0,l[0]? = some x0:=⟨_,List.getElem?_eq_getElem hpos⟩
   have hspot:a.spot = none:=by
    have:=(h2 0 x0 hx0).2
    unfold Addr.add at this
    simp only [if_true] at this
    unfold World.cell? at this
    cases hs:a.spot with
    | none=>rfl
    | some _=>rw [hs] at this;split at this <;> simp at this
   obtain ⟨b,o,sp⟩:=a
   simp only at hspot
   subst hspot
   refine ⟨b,o,rfl,?_,fun j u hu=>?_⟩
   ·have h3:=(h2 0 x0 hx0).2
    rw [Addr.add_none] at h3
    have:=World.block_lt_of_cell? W _ h3
    simp only at this
    omega
   ·simp only [intVals,List.getElem?_map,Option.map_eq_some_iff] at hu
    obtain ⟨x,hx,rfl⟩:=hu
    have:=(h2 j x hx).2
    rw [Addr.add_none] at this
    exact this
  ·obtain ⟨i,hi,e⟩:=List.getElem_of_mem hy
   exact (h2 i y (by rw [List.getElem?_eq_getElem hi,e])).1
end Go.Proofs.YtccnemmlkcmceaaGreatDoor
