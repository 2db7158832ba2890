/- Proofs about the given program, joined out of the texts D2, S6, S7, D3. -/
import Derived.Test.YtccnemmlkcmceaaGreatDoorHC1
import Derived.Test.YtccnemmlkcmceaaGreatDoorHC3
set_option linter.unusedVariables false
set_option linter.unusedSimpArgs false
set_option maxRecDepth 100000
set_option maxHeartbeats 6400000
namespace Go.Proofs.YtccnemmlkcmceaaGreatDoor
open Go.RowKit
theorem Blk.p4 {w:World} {g:Nat} {t:TypeId} {a b c d:Value} (h:Blk w g t #[a,b,c,d]) :
  w.cell? ⟨g,0,none⟩ = some a ∧ w.cell? ⟨g,1,none⟩ = some b ∧ w.cell? ⟨g,2,none⟩ = some c ∧ w.cell? ⟨g,3,none⟩ = some d ∧
  w.frozen? ⟨g,0,none⟩ = false ∧ w.frozen? ⟨g,1,none⟩ = false ∧ w.frozen? ⟨g,2,none⟩ = false ∧ w.frozen? ⟨g,3,none⟩ = false ∧ g < w.heap.size :=
 ⟨h.cell 0,h.cell 1,h.cell 2,h.cell 3,h.frozen 0,h.frozen 1,h.frozen 2,h.frozen 3,h.lt⟩
theorem Blk.put4 {w:World} {g:Nat} {t:TypeId} {a b c d:Value} (h:Blk w g t #[a,b,c,d]) (a' b' c' d':Value) :
  Blk ((((w.setCell ⟨g,0,none⟩ a').setCell ⟨g,1,none⟩ b').setCell ⟨g,2,none⟩ c').setCell ⟨g,3,none⟩ d') g t #[a',b',c',d']:=(((h.set_ 0 a').set_ 1 b').set_ 2 c').set_ 3 d'
theorem Blk.far4 {w:World} {g g':Nat} {t:TypeId} {cs:Array Value} (h:Blk w g t cs) (hne:g ≠ g') (a' b' c' d':Value) :
  Blk ((((w.setCell ⟨g',0,none⟩ a').setCell ⟨g',1,none⟩ b').setCell ⟨g',2,none⟩ c').setCell ⟨g',3,none⟩ d') g t cs:=(((h.far hne a').far hne b').far hne c').far hne d'
theorem not_on {p b:Nat} (h:p < b):¬ On p b:=fun e=>by unfold On at e;omega
theorem cell_take (r:Rst) (hs:r.s.length < 1000000) (p:Nat) (w:World) (h:RestAt w p r) :
  Calls Tryz.prog 89 #[.pointer (some ⟨p,0,none⟩)] w fun e w'=>e = .returned r.cell.1.agg ∧ RestAt w' p r.cell.2 ∧ Ext (On p) w w':=by
 have lp:=h.lt
 have h1:=r.text_le
 have h2:=r.text.2.byte_le
 have h3:=r.text.2.byte.2.four_le
 have HT:=Lib.hid (fun w h=>text_take r hs p w h)
 have HB:=Lib.hid (fun w h=>byte_any r.text.2 (by omega) p w h)
 have HT2:=Lib.hid (fun w h=>text_take r.text.2.byte.2 (by omega) p w h)
 have HF:=Lib.hid (fun w h=>four_take r.text.2.byte.2 (by omega) p w h)
 have HF2:=Lib.hid (fun w h=>four_take r.text.2.byte.2.four.2 (by omega) p w h)
 have HX:Hid (r.cell = if r.text.2.byte.1 = 0 then (⟨r.text.1,r.text.2.byte.2.text.1,0,0⟩,r.text.2.byte.2.text.2)
  else if r.text.2.byte.1 = 1 then (⟨r.text.1,[],r.text.2.byte.2.four.2.four.1,r.text.2.byte.2.four.1⟩,⟨r.text.2.byte.2.four.2.four.2.s,r.text.2.byte.2.four.2.four.2.bad || decide (r.text.2.byte.2.four.2.four.1 = 0)⟩)
  else (⟨r.text.1,[],0,0⟩,⟨r.text.2.byte.2.s,true⟩)):=Lib.hid rfl
 clear h1 h2 h3
 obtain ⟨tag,htag⟩:∃ tag,r.text.2.byte.1 = tag:=⟨_,rfl⟩
 rw [htag] at HX HB
 clear htag
 generalize r.text.2.byte.2 = r2 at HX HB HT2 HF HF2
 generalize r.text.2 = r1 at HX HB HT
 generalize r.text.1 = k0 at HX HT
 generalize hcell:r.cell = cl at HX
 clear hcell
 go_enter Tryz.func89,Tryz.ntmps89
 go_wp2_with fail
 refine (HT.out _ (h.alloc _)).mono ?_
 rintro e w1 ⟨rfl,hr1,hx1⟩
 have b2:Blk w1 w.heap.size 45 #[.string (str []),.string (str []),.int .i64 0,.int .i64 0]:=(Blk.new w 45 #[.string (str []),.string (str []),.int .i64 0,.int .i64 0]).ext hx1 (not_on lp)
 have l2:=b2.lt
 go_wp2_with fail
 refine (HB.out _ (hr1.alloc _)).mono ?_
 rintro e w2 ⟨rfl,hr2,hx2⟩
 have b3:Blk w2 w1.heap.size 45 #[.string (str k0),.string (str []),.int .i64 0,.int .i64 0]:=(Blk.new w1 45 #[.string (str k0),.string (str []),.int .i64 0,.int .i64 0]).ext hx2 (not_on (by omega))
 have b2:Blk w2 w.heap.size 45 #[.string (str []),.string (str []),.int .i64 0,.int .i64 0]:=(b2.alloc _).ext hx2 (not_on lp)
 have l2:=b2.lt
 have l3:=b3.lt
 have hE2:Ext (On p) w w2:=((((Ext.refl (On p) w).alloc _).trans_ hx1).alloc _).trans_ hx2
 by_cases ht0:tag = 0
 ·subst ht0
  rw [if_pos rfl] at HX
  have f0:=b3.frozen 1
  go_wp2_with fail
  refine (HT2.out _ hr2).mono ?_
  rintro e w3 ⟨rfl,hr3,hx3⟩
  have b3:=b3.ext hx3 (not_on (by omega))
  have b2:=b2.ext hx3 (not_on lp)
  obtain ⟨q0,q1,q2,q3,f0,f1,f2,f3,l3⟩:=b3.p4
  obtain ⟨p0,p1,p2,p3,g0,g1,g2,g3,l2⟩:=b2.p4
  go_wp2_with fail
  have HRES:=(b2.far (p:=⟨w1.heap.size,1,none⟩) (by show w.heap.size ≠ w1.heap.size;omega) (.string (str r2.text.1))).put4 (.string (str k0)) (.string (str r2.text.1)) (.int .i64 0) (.int .i64 0)
  refine bodyPost_ret (results_cell_row (P:=Tryz.prog) rfl _ _ w.heap.size 45 _ (0,0) _ rfl HRES Tryz.underlying45 rfl (by kernel_rfl)) rfl ?_
  rw [HX.out]
  refine ⟨rfl,?_,?_⟩
  ·exact (hr3.far (p:=⟨w1.heap.size,1,none⟩) (by show p ≠ w1.heap.size;omega) _).far4 (by omega) _ _ _ _
  ·(repeat' (first | exact Ext.refl _ _ | assumption | apply Ext.alloc | apply Ext.drewN | apply Ext.drew | refine Ext.setNew ?_ (by first | omega | (simp;omega) | simp) _ _ | refine Ext.setF ?_ (by first | exact Or.inl rfl | exact Or.inr rfl | rfl) _ _ | refine Ext.trans_ ?_ (by assumption) | refine Ext.trans_ ?_ (Ext.of_no (by assumption))))
 ·by_cases ht1:tag = 1
  ·subst ht1
   rw [if_neg (by omega),if_pos rfl] at HX
   clear ht0
   go_wp2_with fail
   refine (HF.out _ hr2).mono ?_
   rintro e w3 ⟨rfl,hr3,hx3⟩
   have b3:=b3.ext hx3 (not_on (by omega))
   have b2:=b2.ext hx3 (not_on lp)
   obtain ⟨q0,q1,q2,q3,f0,f1,f2,f3,l3⟩:=b3.p4
   go_wp2_with fail
   refine (HF2.out _ (hr3.far (p:=⟨w1.heap.size,3,none⟩) (by show p ≠ w1.heap.size;omega) _)).mono ?_
   rintro e w4 ⟨rfl,hr4,hx4⟩
   have b3:=(b3.set_ 3 (.int .i64 (r2.four.1:Int))).ext hx4 (not_on (by omega))
   have b2:=(b2.far (p:=⟨w1.heap.size,3,none⟩) (by show w.heap.size ≠ w1.heap.size;omega) _).ext hx4 (not_on lp)
   have b3:Blk w4 w1.heap.size 45 #[.string (str k0),.string (str []),.int .i64 0,.int .i64 (r2.four.1:Int)]:=b3
   obtain ⟨q0,q1,q2,q3,f0,f1,f2,f3,l3⟩:=b3.p4
   obtain ⟨p0,p1,p2,p3,g0,g1,g2,g3,l2⟩:=b2.p4
   have c1:=hr4.cell 1
   have cf1:=hr4.frozen 1
   have l4:=hr4.lt
   simp at c1
   by_cases hbad:r2.four.2.four.2.bad = true
   ·have HBD:=Lib.hid hbad
    rw [hbad] at c1
    clear hbad
    go_wp2_with fail
    have HRES:=((b2.far (p:=⟨w1.heap.size,2,none⟩) (by show w.heap.size ≠ w1.heap.size;omega) (.int .i64 (r2.four.2.four.1:Int))).far (p:=⟨p,1,none⟩) (by show w.heap.size ≠ p;omega) (.bool true)).put4 (.string (str k0)) (.string (str [])) (.int .i64 (r2.four.2.four.1:Int)) (.int .i64 (r2.four.1:Int))
    refine bodyPost_ret (results_cell_row (P:=Tryz.prog) rfl _ _ w.heap.size 45 _ (0,0) _ rfl HRES Tryz.underlying45 rfl (by kernel_rfl)) rfl ?_
    rw [HX.out]
    refine ⟨rfl,?_,?_⟩
    ·have hq:=(((Blk.far hr4 (p:=⟨w1.heap.size,2,none⟩) (by show p ≠ w1.heap.size;omega) (.int .i64 (r2.four.2.four.1:Int))).set_ 1 (.bool true))).far4 (g':=w.heap.size) (by omega) (.string (str k0)) (.string (str [])) (.int .i64 (r2.four.2.four.1:Int)) (.int .i64 (r2.four.1:Int))
     simp only [HBD.out]
     simp only [Bool.true_or];exact hq
    ·exact ((((((((hE2.trans_ hx3).setNew (by omega) _ _).trans_ hx4).setNew (by omega) _ _).setF (show On p p from rfl) _ _).setNew (by omega) _ _).setNew (by omega) _ _).setNew (by omega) _ _).setNew (by omega) _ _
   ·have hbad:r2.four.2.four.2.bad = false:=by simpa using hbad
    have HBD:=Lib.hid hbad
    rw [hbad] at c1
    clear hbad
    go_wp2_with fail
    have HRES:=((b2.far (p:=⟨w1.heap.size,2,none⟩) (by show w.heap.size ≠ w1.heap.size;omega) (.int .i64 (r2.four.2.four.1:Int))).far (p:=⟨p,1,none⟩) (by show w.heap.size ≠ p;omega) (.bool ((r2.four.2.four.1:Int) == 0))).put4 (.string (str k0)) (.string (str [])) (.int .i64 (r2.four.2.four.1:Int)) (.int .i64 (r2.four.1:Int))
    refine bodyPost_ret (results_cell_row (P:=Tryz.prog) rfl _ _ w.heap.size 45 _ (0,0) _ rfl HRES Tryz.underlying45 rfl (by kernel_rfl)) rfl ?_
    rw [HX.out]
    refine ⟨rfl,?_,?_⟩
    ·have hq:=(((Blk.far hr4 (p:=⟨w1.heap.size,2,none⟩) (by show p ≠ w1.heap.size;omega) (.int .i64 (r2.four.2.four.1:Int))).set_ 1 (.bool ((r2.four.2.four.1:Int) == 0)))).far4 (g':=w.heap.size) (by omega) (.string (str k0)) (.string (str [])) (.int .i64 (r2.four.2.four.1:Int)) (.int .i64 (r2.four.1:Int))
     simp only [HBD.out]
     have e:decide (r2.four.2.four.1 = 0) = ((r2.four.2.four.1:Int) == 0):=by
      rw [Bool.eq_iff_iff];simp
     simp only [Bool.false_or];rw [e];exact hq
    ·exact ((((((((hE2.trans_ hx3).setNew (by omega) _ _).trans_ hx4).setNew (by omega) _ _).setF (show On p p from rfl) _ _).setNew (by omega) _ _).setNew (by omega) _ _).setNew (by omega) _ _).setNew (by omega) _ _
  ·have h0':((tag:Int) == 0) = false:=by simp;omega
   have h1':((tag:Int) == 1) = false:=by simp;omega
   rw [if_neg ht0,if_neg ht1] at HX
   clear ht0 ht1
   have cf1:=hr2.frozen 1
   have c1:=hr2.cell 1
   simp at c1
   have l4:=hr2.lt
   obtain ⟨q0,q1,q2,q3,f0,f1,f2,f3,l3⟩:=b3.p4
   obtain ⟨p0,p1,p2,p3,g0,g1,g2,g3,l2⟩:=b2.p4
   go_wp2_with fail
   have HRES:=(b2.far (p:=⟨p,1,none⟩) (by show w.heap.size ≠ p;omega) (.bool true)).put4 (.string (str k0)) (.string (str [])) (.int .i64 0) (.int .i64 0)
   refine bodyPost_ret (results_cell_row (P:=Tryz.prog) rfl _ _ w.heap.size 45 _ (0,0) _ rfl HRES Tryz.underlying45 rfl (by kernel_rfl)) rfl ?_
   rw [HX.out]
   refine ⟨rfl,?_,?_⟩
   ·exact (Blk.set_ hr2 1 _).far4 (by omega) _ _ _ _
   ·exact (((((hE2.setF (show On p p from rfl) _ _).setNew (by omega) _ _).setNew (by omega) _ _).setNew (by omega) _ _).setNew (by omega) _ _)
theorem cell_grown {w w':World} {row:Option Nat} (h:w.grownBy w' row) {g i:Nat} {u:Value} (hc:w.cell? ⟨g,i,none⟩ = some u) (hg:some g ≠ row):w'.cell? ⟨g,i,none⟩ = some u:=h.cell hc hg
theorem wrap_u8_small (n:Nat) (h:n < 256):IntKind.u8.wrap (n:Int) = n:=by
 unfold IntKind.wrap;simp [IntKind.bits,IntKind.signed];omega
theorem encKeys_take (ks:List Bs):∀ (is:List Nat) (k:Nat) (x:Bs) (i:Nat),ks[k]? = some x → is[k]? = some i →
  encKeys (ks.take (k + 1)) (is.take (k + 1)) = encKeys (ks.take k) (is.take k) ++ txt x ++ n4 i:=by
 induction ks with
 | nil=>intro is k x i h;simp at h
 | cons y ks ih =>
  intro is k x i hx hi
  match is,k with
  | [],_=>simp at hi
  | j :: is,0 =>
   simp at hx hi;subst hx;subst hi
   simp [encKeys]
  | j :: is,k + 1 =>
   simp only [List.getElem?_cons_succ] at hx hi
   simp only [List.take_succ_cons,encKeys]
   rw [ih is k x i hx hi]
   simp [List.append_assoc]
theorem encKeys_len (ks:List Bs):∀ (is:List Nat),(∀ k ∈ ks,k.length ≤ 140) → (encKeys ks is).length ≤ ks.length * 145:=by
 induction ks with
 | nil=>intro is _;simp [encKeys]
 | cons y ks ih =>
  intro is h
  match is with
  | []=>simp [encKeys]
  | j :: is =>
   have h1:=h y (by simp)
   have h2:=ih is (fun k hk=>h k (by simp [hk]))
   simp only [encKeys,List.length_append,txt,List.length_cons,n4_len]
   omega
theorem enc_branch (n:Nd) (w:World) (F:Nat → Prop) (A1:Option Addr) (c1:Nat) (A2:Option Addr) (c2:Nat) (A3:Option Addr) (c3:Nat) (hn:NodeAt w F A1 c1 A2 c2 A3 c3 n) (hno:n.ok = true) (hl:n.size ≤ 500) (hlf:n.leaf = false) :
  Calls Tryz.prog 180 #[n.value A1 c1 A2 c2 A3 c3] w fun e w'=>e = .returned (.tuple #[.string (str n.enc),.int .i64 0]) ∧ Ext No w w':=by
 have hO:=Nd.Ok.of hno
 have hf:=hO.fits
 have HC:=Lib.hid (fun w hn=>check_any n w F A1 c1 A2 c2 A3 c3 hn hf)
 have HS:=Lib.hid (fun w hn=>size_any n w F A1 c1 A2 c2 A3 c3 hn hf)
 rw [Nd.chk_ok hno] at HC
 clear hno
 have hl':¬ ((500:Int) < n.size):=by omega
 obtain ⟨hbr,hkl⟩:=hO.br hlf
 obtain ⟨i0,hi0⟩:∃ i0,n.kids[0]? = some i0:=⟨_,List.getElem?_eq_getElem (by omega)⟩
 have hi0b:i0 < 4294967296:=hf.i i0 (List.mem_of_getElem? hi0)
 obtain ⟨kb,ko,hA3,_,e0⟩:=hn.kids.kidAt hi0
 subst hA3
 simp only [Nat.add_zero] at e0
 have lkb:=World.block_lt_of_cell? w _ e0
 have hkpos:0 < n.kids.length:=by omega
 have hkp':(0:Int) < n.kids.length:=by omega
 have HBR:=Lib.hid hbr;have HKL:=Lib.hid hkl;have HI0:=Lib.hid hi0;have HLF:=Lib.hid hlf
 clear hbr hkl hi0
 go_enter Tryz.func180,Tryz.ntmps180
 simp only [Nd.value,hlf]
 simp only [Nd.value,hlf] at HC HS
 clear hlf
 go_wp2_with fail
 refine (HC.out _ (hn.ext ((Ext.refl _ w).alloc _))).mono ?_
 rintro e w1 ⟨rfl,hb1⟩
 have bb:=(Blk.new w 40 #[.bool false,.slice A1 n.cells.length c1,.slice A2 n.keys.length c2,.slice (some ⟨kb,ko,none⟩) n.kids.length c3]).ext hb1 (fun h=>h)
 have q0:=bb.cell 0
 have q1:=bb.cell 1
 have q2:=bb.cell 2
 have q3:=bb.cell 3
 have bl:=bb.lt
 simp at q0 q1 q2 q3
 go_wp2_with fail
 refine (HS.out _ (hn.ext (((Ext.refl _ w).alloc _).trans_ hb1.of_no))).mono ?_
 rintro e w2 ⟨rfl,hb2⟩
 have hE2:Ext No w w2:=by (repeat' (first | exact Ext.refl _ _ | assumption | apply Ext.alloc | apply Ext.drewN | apply Ext.drew | refine Ext.setNew ?_ (by first | omega | (simp;omega) | simp) _ _ | refine Ext.setF ?_ (by first | exact Or.inl rfl | exact Or.inr rfl | rfl) _ _ | refine Ext.trans_ ?_ (by assumption) | refine Ext.trans_ ?_ (Ext.of_no (by assumption))))
 have bb:=bb.ext hb2 (fun h=>h)
 have q0:=bb.cell 0
 have q2:=bb.cell 2
 have q3:=bb.cell 3
 have bl:=bb.lt
 simp at q0 q2 q3
 have e0':=cell_ext hE2 e0 (fun h=>h)
 have hwl:w.heap.size < w2.heap.size:=by omega
 have HE2:=Lib.hid hE2
 go_wp2_with fail
 have hk255:(n.keys.length:Int) % 256 = n.keys.length:=by have:=hO.a2;omega
 have hwr:=wrap_u8_small n.keys.length (by have:=hO.a2;omega)
 have HB2:Hid (bcs [2,UInt8.ofNat n.keys.length] = [.int .u8 2,.int .u8 (n.keys.length:Int)]):=by
  have:=ofNat_lt n.keys.length (by have:=hO.a2;omega)
  show bcs _ = _
  simp only [bcs,List.map_cons,List.map_nil,this];rfl
 go_region_held3 (fun w'=>w'.cell? ⟨w.heap.size,2,none⟩ = some (.slice A2 n.keys.length c2) ∧ w'.cell? ⟨w.heap.size,3,none⟩ = some (.slice (some ⟨kb,ko,none⟩) n.kids.length c3) ∧ w'.cell? ⟨kb,ko,none⟩ = some (.int .i64 (i0:Int))) (go_keep)
  ((go_at_call 202;refine (four_any (w.heap.size + 1) _ [2,UInt8.ofNat n.keys.length] i0 hi0b _ (by have h:=World.ownsRow_lit (base:=w.heap.size + 1) (e:=5) (size:=1) w2 #[.int .u8 2,.int .u8 (n.keys.length:Int)] 2 (by omega) (by decide) rfl;rw [HB2.out];exact h) (by simp;omega) (by simp)).mono ?_;rintro e w3 ⟨g,cap,rfl,hown3,hgrow3,hat3⟩;generalize hL:([2,UInt8.ofNat n.keys.length] ++ n4 i0:Bs) = L0 at hown3 ⊢;have HL0:=Lib.hid hL;clear hL;have k2:=cell_grown hgrow3 (g:=w.heap.size) (i:=2) (u:=.slice A2 n.keys.length c2) (by go_simp) (by simp [Value.ownBlock];omega);have k3:=cell_grown hgrow3 (g:=w.heap.size) (i:=3) (u:=.slice (some ⟨kb,ko,none⟩) n.kids.length c3) (by go_simp) (by simp [Value.ownBlock];omega);have k4:=cell_grown hgrow3 (g:=kb) (i:=ko) (u:=.int .i64 (i0:Int)) (by go_simp) (by simp [Value.ownBlock];omega)))
 have bb3:Blk w3 w.heap.size 40 #[.bool false,.slice A1 n.cells.length c1,.slice A2 n.keys.length c2,.slice (some ⟨kb,ko,none⟩) n.kids.length c3] :=
  (hgrow3.block w.heap.size (by simp;omega) (by simp [Value.ownBlock];omega)).trans ((bb.alloc _))
 have hE3:Ext No w w3:=Ext.grown ((HE2.out.alloc _).drew) hgrow3 (fun g' hg'=>by simp [Value.ownBlock] at hg';exact .inr (by omega))
 have HK:=Lib.hid (hn.keys)
 have HI:=Lib.hid (hn.kids)
 clear hn hgrow3 hat3 HC HS hb1 hb2 hE2 bb q0 q2 q3 e0' HE2 hl'
 have hkeyb:=hO.k
 have hfi:=hf.i
 have ha2:=hO.a2
 obtain ⟨wo,rfl⟩:∃ wo:World,wo = w3:=⟨_,rfl⟩
 have hL0len:L0.length = 6:=by rw [← HL0.out];simp [n4]
 have HLL:=Lib.hid hL0len
 clear hL0len
 go_wp2_with fail
 go_loopg [4,34] n.keys.length (fun gk v i wr=>∃ (k:Nat) (g cap:Nat) (L:Bs),k + gk = n.keys.length ∧ i = .int .i64 (k:Int) ∧ v = .slice (some ⟨g,0,none⟩) L.length cap ∧ wr.ownsRow (w.heap.size + 1) 5 1 (.slice (some ⟨g,0,none⟩) L.length cap) L.length (bcs L) ∧ L = L0 ++ encKeys (n.keys.take k) (n.kids.tail.take k) ∧ Ext No w wr ∧ Blk wr w.heap.size 40 #[.bool false,.slice A1 n.cells.length c1,.slice A2 n.keys.length c2,.slice (some ⟨kb,ko,none⟩) n.kids.length c3])
 case atStart=>exact ⟨0,g,cap,L0,by omega,rfl,rfl,hown3,by simp [encKeys],hE3,bb3⟩
 case round =>
  clear hown3 hE3 bb3 k2 k3 k4
  obtain ⟨k,g,cap,L,hk0,rfl,rfl,hown,hL,hE,bb⟩:=hrel
  have hk:k ≤ n.keys.length:=by omega
  have HK0:=Lib.hid hk0;have HL:=Lib.hid hL;have HO:=Lib.hid hown
  have hLb:L.length ≤ 6 + k * 145:=by
   have h1:=encKeys_len (n.keys.take k) (n.kids.tail.take k) (fun x hx=>(keyOk_len (hkeyb x (List.mem_of_mem_take hx))).2)
   have h2:(n.keys.take k).length ≤ k:=List.length_take_le _ _
   have h3:=HLL.out
   have h4:=Nat.mul_le_mul_right 145 h2
   rw [hL,List.length_append];omega
  clear hk0 hL hown
  have HE:=Lib.hid hE
  have q2:=bb.cell 2
  have q3:=bb.cell 3
  have bl:=bb.lt
  simp at q2 q3
  by_cases hlt:k < n.keys.length
  ·obtain ⟨x,hx⟩:∃ x,n.keys[k]? = some x:=⟨_,List.getElem?_eq_getElem hlt⟩
   obtain ⟨i,hi⟩:∃ i,n.kids[k + 1]? = some i:=⟨_,List.getElem?_eq_getElem (by have:=HKL.out;omega)⟩
   have hxl:=keyOk_len (hkeyb x (List.mem_of_getElem? hx))
   have hib:=hfi i (List.mem_of_getElem? hi)
   obtain ⟨b,o,hA,_,e1⟩:=(HK.out.ext hE.of_no).keyAt hx
   subst hA
   obtain ⟨b',o',hA',_,e2⟩:=(HI.out.ext hE.of_no).kidAt hi
   injection hA' with hA';injection hA' with hA1 hA2
   subst hA1;subst hA2
   have hbw:b < w.heap.size:=by
    obtain ⟨bw,ow,hAw,_,ew⟩:=HK.out.keyAt hx
    injection hAw with hAw;injection hAw with hA1 hA2
    rw [hA1];exact World.block_lt_of_cell? w _ ew
   have hgl:=HO.out.lt g rfl
   obtain ⟨hg1,hg2⟩:=hgl
   have lkw:kb < wr.heap.size:=by omega
   have hbw':b < wr.heap.size:=World.block_lt_of_cell? wr _ e1
   have w1:IntKind.i64.wrap ((k:Int) + 1) = (k:Int) + 1:=IntWalk.i64_in _ (by omega)
   have w2:(0:Int) ≤ (k:Int) + 1:=by omega
   have w3:((k:Int) + 1).toNat = k + 1:=by omega
   have w4:(k:Int) + 1 < n.kids.length:=by have:=HKL.out;omega
   have HX:=Lib.hid hx;have HII:=Lib.hid hi
   clear hx hi
   go_wp2_with fail
   go_region_held3 (fun w'=>w'.cell? ⟨w.heap.size,3,none⟩ = some (.slice (some ⟨kb,ko,none⟩) n.kids.length c3) ∧ w'.cell? ⟨kb,ko + (k + 1),none⟩ = some (.int .i64 (i:Int))) (go_keep)
    (first
     | (go_at_call 203;refine (text_any (w.heap.size + 1) _ L x (by omega) _ (by exact HO.out) (by simp;omega) (by omega)).mono ?_;rintro e w5 ⟨g1,cap1,rfl,hown1,hgrow1,hat1⟩;generalize hL1:(L ++ UInt8.ofNat x.length :: x:Bs) = L1 at hown1 ⊢;have HL1:=Lib.hid hL1;have HO1:=Lib.hid hown1;clear hL1 hown1;have k3:=cell_grown hgrow1 (g:=w.heap.size) (i:=3) (u:=.slice (some ⟨kb,ko,none⟩) n.kids.length c3) (by go_simp) (by simp [Value.ownBlock];omega);have k4:=cell_grown hgrow1 (g:=kb) (i:=ko + (k + 1)) (u:=.int .i64 (i:Int)) (by go_simp) (by simp [Value.ownBlock];omega))
     | (go_at_call 202;refine (four_any (w.heap.size + 1) _ L1 i hib _ (by exact HO1.out) (by have:=hgrow1.size;simp at this;omega) (by rw [← HL1.out];simp;omega)).mono ?_;rintro e w6 ⟨g2,cap2,rfl,hown2,hgrow2,hat2⟩;generalize hL2:(L1 ++ n4 i:Bs) = L2 at hown2 ⊢;have HL2:=Lib.hid hL2;have HO2:=Lib.hid hown2;clear hL2 hown2;have hg1':=(HO1.out.lt g1 rfl).1;have k3:=cell_grown hgrow2 (g:=w.heap.size) (i:=3) (u:=.slice (some ⟨kb,ko,none⟩) n.kids.length c3) (by go_simp) (by simp [Value.ownBlock];omega);have k4:=cell_grown hgrow2 (g:=kb) (i:=ko + (k + 1)) (u:=.int .i64 (i:Int)) (by go_simp) (by simp [Value.ownBlock];omega)))
   go_wp2_with fail
   go_roundg (gk - 1)
   case rel =>
    refine ⟨k + 1,g2,cap2,L2,by have:=HK0.out;omega,by go_num,rfl,HO2.out,?_,?_,?_⟩
    ·rw [← HL2.out,← HL1.out,HL.out,encKeys_take n.keys n.kids.tail k x i HX.out (by rw [List.getElem?_tail];exact HII.out)]
     simp [txt,List.append_assoc]
    ·exact Ext.grown (Ext.grown HE.out.drew hgrow1 (fun g' hg'=>by simp [Value.ownBlock] at hg';exact .inr (by omega))) hgrow2 (fun g' hg'=>by simp [Value.ownBlock] at hg';exact .inr (by omega))
    ·exact (hgrow2.block _ (by have:=hgrow1.size;simp at this;omega) (by simp [Value.ownBlock];omega)).trans ((hgrow1.block _ (by simp;omega) (by simp [Value.ownBlock];omega)).trans bb)
   case measure=>have:=HK0.out;omega
  ·have hke:k = n.keys.length:=by omega
   have HKE:=Lib.hid hke
   clear hke
   have hconv:(convert 98 9 (.slice (some ⟨g,0,none⟩) L.length cap)).run Tryz.prog wr = .ok (.string (str L)) wr :=
    run_convert_bytes_back (P:=Tryz.prog) wr 98 9 5 ⟨g,0,none⟩ cap L Tryz.underlying98 Tryz.underlying5 Tryz.underlying9 (fun j hj=>HO.out.cells (g:=g) rfl j _ (by simp [bcs,hj]))
   go_wp2_with fail
   go_ret2
   refine ⟨?_,HE.out⟩
   have hfin:L = n.enc:=by
    have htl:n.kids.tail.length = n.keys.length:=by have:=HKL.out;simp;omega
    rw [HL.out,HKE.out,List.take_length,← htl,List.take_length,← HL0.out]
    unfold Nd.enc
    rw [HLF.out,if_neg (by simp)]
    have hhd:n.kids.headD 0 = i0:=by have:=HI0.out;cases hkk:n.kids with | nil=>rw [hkk] at this;simp at this | cons a b=>rw [hkk] at this;simpa using this
    rw [hhd];simp
   rw [hfin]
   rfl
theorem encCells_take (cs:List Cell) (k:Nat) (c:Cell) (h:cs[k]? = some c):encCells (cs.take (k + 1)) = encCells (cs.take k) ++ c.enc:=by
 rw [List.take_add_one,h];simp [encCells]
theorem Cell.enc_len {c:Cell} (h:c.ok = true):c.enc.length ≤ 300:=by
 have:=Cell.ok_bounds h
 unfold Cell.enc txt
 split <;> simp [n4_len] <;> omega
theorem encCells_len (cs:List Cell) (h:∀ c ∈ cs,c.ok = true):(encCells cs).length ≤ cs.length * 300:=by
 induction cs with
 | nil=>simp [encCells]
 | cons c cs ih =>
  have h1:=Cell.enc_len (h c (by simp))
  have h2:=ih (fun c hc=>h c (by simp [hc]))
  simp only [encCells,List.flatMap_cons,List.length_append,List.length_cons] at *
  omega
theorem at_ne {g1 n cap g2 H x:Nat} (h:(Value.slice (some ⟨g1,0,none⟩) n cap).ownBlock = some g2 ∨ g2 = H) (h1:g1 ≠ x) (h2:x < H):g2 ≠ x:=by
 rcases h with h | h
 ·simp [Value.ownBlock] at h;omega
 ·omega
theorem le_ne {g1 n cap g2 H x:Nat} (h:(Value.slice (some ⟨g1,0,none⟩) n cap).ownBlock = some g2 ∨ H ≤ g2) (h1:g1 ≠ x) (h2:x < H):g2 ≠ x:=by
 rcases h with h | h
 ·simp [Value.ownBlock] at h;omega
 ·omega
theorem gb {w w':World} {row:Option Nat} (h:w.grownBy w' row) {B:Nat} (hb:B ≤ w.heap.size):B ≤ w'.heap.size:=Nat.le_trans hb h.size
theorem gba {w w':World} {row:Option Nat} {o:Obj} (h:((w.alloc o).drew).grownBy w' row) {B:Nat} (hb:B ≤ w.heap.size):B ≤ w'.heap.size:=Nat.le_trans (Nat.le_trans hb (by simp)) h.size
theorem cad {w:World} {g i:Nat} {v:Value} (h:w.cell? ⟨g,i,none⟩ = some v) (o:Obj):(w.alloc o).drew.cell? ⟨g,i,none⟩ = some v:=by
 have hlt:=World.block_lt_of_cell? w _ h
 exact (World.cell?_alloc_lt w o ⟨g,i,none⟩ hlt).trans h
theorem ne_own {g1 x n cap:Nat} (h:g1 ≠ x):some x ≠ (Value.slice (some ⟨g1,0,none⟩) n cap).ownBlock:=by simp [Value.ownBlock];omega
theorem lt_n4 {L L3:Bs} {n:Nat} (H:Hid (L ++ n4 n = L3)) (h:L.length < 999000):L3.length < 1000000:=by rw [← H.out];simp [n4_len];omega
theorem own_snoc {w:World} {base g cap:Nat} {L:Bs} {b:UInt8} {c:Int} (hb:(b.toNat:Int) = c) (h:w.ownsRow base 5 1 (.slice (some ⟨g,0,none⟩) (L.length + 1) cap) (L.length + 1) (bcs L ++ [.int .u8 c])) :
  Hid (w.ownsRow base 5 1 (.slice (some ⟨g,0,none⟩) (L.length + 1) cap) (L ++ [b]:Bs).length (bcs (L ++ [b]))):=by
 show World.ownsRow _ _ _ _ _ _ _
 rw [bcs_append,List.length_append]
 subst hb
 exact h
theorem enc_leaf (n:Nd) (w:World) (F:Nat → Prop) (A1:Option Addr) (c1:Nat) (A2:Option Addr) (c2:Nat) (A3:Option Addr) (c3:Nat) (hn:NodeAt w F A1 c1 A2 c2 A3 c3 n) (hno:n.ok = true) (hl:n.size ≤ 500) (hlf:n.leaf = true) :
  Calls Tryz.prog 180 #[n.value A1 c1 A2 c2 A3 c3] w fun e w'=>e = .returned (.tuple #[.string (str n.enc),.int .i64 0]) ∧ Ext No w w':=by
 have hO:=Nd.Ok.of hno
 have hf:=hO.fits
 have HC:=Lib.hid (fun w hn=>check_any n w F A1 c1 A2 c2 A3 c3 hn hf)
 have HS:=Lib.hid (fun w hn=>size_any n w F A1 c1 A2 c2 A3 c3 hn hf)
 rw [Nd.chk_ok hno] at HC
 clear hno
 have hl':¬ ((500:Int) < n.size):=by omega
 have HLF:=Lib.hid hlf
 obtain ⟨i0,hti,htz0,htz1,htz2⟩:=info_parts Tryz.info5
 go_enter Tryz.func180,Tryz.ntmps180
 simp only [Nd.value,hlf]
 simp only [Nd.value,hlf] at HC HS
 clear hlf
 go_wp2_with fail
 refine (HC.out _ (hn.ext ((Ext.refl _ w).alloc _))).mono ?_
 rintro e w1 ⟨rfl,hb1⟩
 have bb:=(Blk.new w 40 #[.bool true,.slice A1 n.cells.length c1,.slice A2 n.keys.length c2,.slice A3 n.kids.length c3]).ext hb1 (fun h=>h)
 have q0:=bb.cell 0
 have q1:=bb.cell 1
 have q2:=bb.cell 2
 have q3:=bb.cell 3
 have bl:=bb.lt
 simp at q0 q1 q2 q3
 go_wp2_with fail
 refine (HS.out _ (hn.ext (((Ext.refl _ w).alloc _).trans_ hb1.of_no))).mono ?_
 rintro e w2 ⟨rfl,hb2⟩
 have hE2:Ext No w w2:=by (repeat' (first | exact Ext.refl _ _ | assumption | apply Ext.alloc | apply Ext.drewN | apply Ext.drew | refine Ext.setNew ?_ (by first | omega | (simp;omega) | simp) _ _ | refine Ext.setF ?_ (by first | exact Or.inl rfl | exact Or.inr rfl | rfl) _ _ | refine Ext.trans_ ?_ (by assumption) | refine Ext.trans_ ?_ (Ext.of_no (by assumption))))
 have bb:=bb.ext hb2 (fun h=>h)
 have q0:=bb.cell 0
 have q1:=bb.cell 1
 have bl:=bb.lt
 simp at q0 q1
 have HE2:=Lib.hid hE2
 have hwr:=wrap_u8_small n.cells.length (by have:=hO.a1;omega)
 have hk255:(n.cells.length:Int) % 256 = n.cells.length:=by have:=hO.a1;omega
 have HB2:Hid (bcs [1,UInt8.ofNat n.cells.length] = [.int .u8 1,.int .u8 (n.cells.length:Int)]):=by
  have:=ofNat_lt n.cells.length (by have:=hO.a1;omega)
  show bcs _ = _
  simp only [bcs,List.map_cons,List.map_nil,this];rfl
 have HC1:=Lib.hid hn.cells
 have hcok:=hO.c
 have ha1:=hO.a1
 clear hn HC HS hb1 hb2 hE2 hl'
 go_wp2_with fail
 have hown3:=World.ownsRow_lit (base:=w.heap.size + 1) (e:=5) (size:=1) w2 #[.int .u8 1,.int .u8 (n.cells.length:Int)] 2 (by omega) (by decide) rfl
 have hE3:Ext No w (w2.alloc (.cells #[.int .u8 1,.int .u8 (n.cells.length:Int)] 5)):=HE2.out.alloc _
 have bb3:=bb.alloc (.cells #[.int .u8 1,.int .u8 (n.cells.length:Int)] 5)
 rw [← HB2.out] at hown3
 have hown3':(w2.alloc (.cells #[.int .u8 1,.int .u8 (n.cells.length:Int)] 5)).ownsRow (w.heap.size + 1) 5 1 (.slice (some ⟨w2.heap.size,0,none⟩) 2 2) 2 (bcs [1,UInt8.ofNat n.cells.length]):=by
  rw [HB2.out];exact World.ownsRow_lit (base:=w.heap.size + 1) (e:=5) (size:=1) w2 #[.int .u8 1,.int .u8 (n.cells.length:Int)] 2 (by omega) (by decide) rfl
 go_loopg [7,60] n.cells.length (fun gk v i wr=>∃ (k:Nat) (g cap:Nat) (L:Bs),k + gk = n.cells.length ∧ i = .int .i64 (k:Int) ∧ v = .slice (some ⟨g,0,none⟩) L.length cap ∧ wr.ownsRow (w.heap.size + 1) 5 1 (.slice (some ⟨g,0,none⟩) L.length cap) L.length (bcs L) ∧ L = [1,UInt8.ofNat n.cells.length] ++ encCells (n.cells.take k) ∧ Ext No w wr ∧ Blk wr w.heap.size 40 #[.bool true,.slice A1 n.cells.length c1,.slice A2 n.keys.length c2,.slice A3 n.kids.length c3])
 case atStart=>exact ⟨0,w2.heap.size,2,[1,UInt8.ofNat n.cells.length],by omega,rfl,rfl,hown3',by simp [encCells],hE3,bb3⟩
 case round =>
  clear hown3 hown3' hE3 bb3
  obtain ⟨k,g,cap,L,hk0,rfl,rfl,hown,hL,hE,bb⟩:=hrel
  have hk:k ≤ n.cells.length:=by omega
  have HK0:=Lib.hid hk0;have HL:=Lib.hid hL;have HO:=Lib.hid hown
  have hLb:L.length ≤ 2 + k * 300:=by
   have h1:=encCells_len (n.cells.take k) (fun x hx=>hcok x (List.mem_of_mem_take hx))
   have h2:(n.cells.take k).length ≤ k:=List.length_take_le _ _
   have h4:=Nat.mul_le_mul_right 300 h2
   rw [hL,List.length_append];simp;omega
  clear hk0 hL hown
  have HE:=Lib.hid hE
  have q1:=bb.cell 1
  have bl:=bb.lt
  simp at q1
  by_cases hlt:k < n.cells.length
  ·obtain ⟨x,hx⟩:∃ x,n.cells[k]? = some x:=⟨_,List.getElem?_eq_getElem hlt⟩
   have hxok:=hcok x (List.mem_of_getElem? hx)
   have hxb:=Cell.ok_bounds hxok
   obtain ⟨hx1,hx2,hx3,hx4,hx5⟩:=hxb
   obtain ⟨b,o,hA,_,e0,e1,e2,e3⟩:=(HC1.out.ext hE.of_no).cellAt hx
   subst hA
   have hbw:b < w.heap.size:=by
    obtain ⟨bw,ow,hAw,_,ew,_⟩:=HC1.out.cellAt hx
    injection hAw with hAw;injection hAw with hA1 hA2
    rw [hA1];exact World.block_lt_of_cell? w _ ew
   obtain ⟨hg1,hg2⟩:=HO.out.lt g rfl
   have lbr:b < wr.heap.size:=by omega
   have HX:=Lib.hid hx
   clear hx
   go_wp2_with fail
   refine (text_any (w.heap.size + 1) _ L x.key (by omega) _ (HO.out.alloc _) (by simp;omega) (by omega)).mono ?_
   rintro e w5 ⟨g1,cap1,rfl,hown1,hgrow1,hat1⟩
   generalize hL1:(L ++ UInt8.ofNat x.key.length :: x.key:Bs) = L1 at hown1 ⊢
   have HL1:=Lib.hid hL1;have HO1:=Lib.hid hown1
   have hL1b:L1.length ≤ 200 + k * 300:=by rw [← hL1];simp;omega
   clear hL1 hown1
   have hcb:=(Blk.new wr 45 #[.string (str x.key),.string (str x.val),.int .i64 (x.over:Int),.int .i64 (x.len:Int)])
   have hcb5:Blk w5 wr.heap.size 45 #[.string (str x.key),.string (str x.val),.int .i64 (x.over:Int),.int .i64 (x.len:Int)]:=(hgrow1.block _ (by simp) (by simp [Value.ownBlock];omega)).trans hcb
   have p1:=hcb5.cell 1
   have p2:=hcb5.cell 2
   have p3:=hcb5.cell 3
   have pl:=hcb5.lt
   simp at p1 p2 p3
   obtain ⟨hg3,hg4⟩:=HO1.out.lt g1 rfl
   have hgne:g1 ≠ wr.heap.size:=by
    rcases hat1 with h | h
    ·simp [Value.ownBlock] at h;omega
    ·simp at h;omega
   have m11:(L1 ++ [1]:Bs).length < 999000:=by simp;omega
   have m10:(L1 ++ [0]:Bs).length < 1000000:=by simp;omega
   have m1:w.heap.size + 1 ≤ w5.heap.size:=by omega
   have m2:L1.length + 1 ≤ maxLen:=by unfold maxLen;omega
   have m3:(L1.length + 1) * 1 ≤ 140737488355328:=by omega
   have m4:∀ o,w.heap.size + 1 ≤ (w5.alloc o).drew.heap.size:=fun o=>by simp;omega
   have m5:∀ o,(w5.alloc o).drew.heap.size = w5.heap.size + 1:=fun o=>by simp
   have m6:wr.heap.size < w5.heap.size + 1:=by omega
   have m7:x.len < 4294967296:=by omega
   have m8:x.over < 4294967296:=by omega
   have m9:x.val.length < 256:=by omega
   have n1:∀ u ∈ [Value.int .u8 1],u.oneCell' = true:=by simp [Value.oneCell']
   have n0:∀ u ∈ [Value.int .u8 0],u.oneCell' = true:=by simp [Value.oneCell']
   have m12:(L1 ++ [1]:Bs).length < 1000000:=by omega
   by_cases hov:(0:Int) < x.over
   ·have hov':0 < x.over:=by omega
    go_wp2_with fail
    go_region_held3 (fun w'=>w'.cell? ⟨wr.heap.size,2,none⟩ = some (.int .i64 (x.over:Int)) ∧ w'.cell? ⟨wr.heap.size,3,none⟩ = some (.int .i64 (x.len:Int))) (go_keep)
     (first
      | (go_at_call_of 202 (Value.int .i64 (x.len:Int));refine (four_any (w.heap.size + 1) _ (L1 ++ [1]) x.len m7 _ (by exact HO2.out) (by exact gba hgrow2 m1) m12).mono ?_;rintro e w7 ⟨g3,cap3,rfl,hown3,hgrow3,hat3⟩;generalize hL3:(L1 ++ [1] ++ n4 x.len:Bs) = L3 at hown3 ⊢;have HL3:=Lib.hid hL3;have HO3:=Lib.hid hown3;clear hL3 hown3;have r2:=cell_grown hgrow3 t2 (ne_own hg2ne);have r3:=cell_grown hgrow3 t3 (ne_own hg2ne))
      | (go_at_call_of 202 (Value.int .i64 (x.over:Int));refine (four_any (w.heap.size + 1) _ L3 x.over m8 _ (by exact HO3.out) (by exact gb hgrow3 (gba hgrow2 m1)) (by exact lt_n4 HL3 m11)).mono ?_;rintro e w8 ⟨g4,cap4,rfl,hown4,hgrow4,hat4⟩;generalize hL4:(L3 ++ n4 x.over:Bs) = L4 at hown4 ⊢;have HL4:=Lib.hid hL4;have HO4:=Lib.hid hown4;clear hL4 hown4;have hg3ne:g3 ≠ wr.heap.size:=le_ne hat3 hg2ne (gba hgrow2 pl);have s2:=cell_grown hgrow4 r2 (ne_own hg3ne);have s3:=cell_grown hgrow4 r3 (ne_own hg3ne))
      | ((refine step_append_lies _ (by rfl) _ _ _ (by rfl) (w.heap.size + 1) 5 i0 (.int .u8 0) 1 1 Tryz.underlying98 hti htz0 htz1 htz2 rfl (by decide) (.slice (some ⟨g1,0,none⟩) L1.length cap1) L1.length (bcs L1) (by rfl) (by exact HO1.out.alloc _) ⟨w5.heap.size,0,none⟩ 1 1 [.int .u8 1] (by rfl) (by rfl) (by exact World.news_of_block (cs:=#[.int .u8 1]) (t:=5) (fr:=(0,0)) (heap_alloc_new w5 _)) n1 (by decide) m2 m3 (by exact m4 _) (w5.heap.size + 1) (by exact m5 _) ?_);intro g2 cap2 w6 hown2 hgrow2 hat2 hlt2;have HO2:=own_snoc (L:=L1) (b:=1) (c:=1) rfl hown2;clear hown2;have hg2ne:g2 ≠ wr.heap.size:=at_ne hat2 hgne m6;have t2:=cell_grown hgrow2 (cad p2 _) (ne_own hgne);have t3:=cell_grown hgrow2 (cad p3 _) (ne_own hgne)))
    go_wp2_with fail
    go_roundg (gk - 1)
    case rel =>
     have z2:=hgrow2.size
     have z3:=hgrow3.size
     simp at z2 z3
     refine ⟨k + 1,g4,cap4,L4,by have:=HK0.out;omega,by go_num,rfl,HO4.out,?_,?_,?_⟩
     ·rw [← HL4.out,← HL3.out,← HL1.out,HL.out,encCells_take n.cells k x HX.out]
      simp [Cell.enc,txt,hov']
     ·have h1:=Ext.grown (HE.out.alloc _) hgrow1 (fun g' hg'=>by simp [Value.ownBlock] at hg';exact .inr (by omega))
      have h2:=Ext.grown (h1.alloc _).drew hgrow2 (fun g' hg'=>by simp [Value.ownBlock] at hg';exact .inr (by omega))
      have hg22:=(HO2.out.lt g2 rfl).1
      have hg33:=(HO3.out.lt g3 rfl).1
      exact Ext.grown (Ext.grown h2 hgrow3 (fun g' hg'=>by simp [Value.ownBlock] at hg';exact .inr (by omega))) hgrow4 (fun g' hg'=>by simp [Value.ownBlock] at hg';exact .inr (by omega))
     ·have hg22:=(HO2.out.lt g2 rfl).1
      have hg33:=(HO3.out.lt g3 rfl).1
      have w5l:=hgrow1.size
      simp at w5l
      exact (hgrow4.block _ (by omega) (by simp [Value.ownBlock];omega)).trans ((hgrow3.block _ (by omega) (by simp [Value.ownBlock];omega)).trans ((hgrow2.block _ (by simp;omega) (by simp [Value.ownBlock];omega)).trans ((Blk.alloc ((hgrow1.block _ (by simp;omega) (by simp [Value.ownBlock];omega)).trans (bb.alloc _)) _))))
    case measure=>have:=HK0.out;omega
   ·have hov':¬ 0 < x.over:=by omega
    go_wp2_with fail
    go_region_held3 (fun w'=>w'.cell? ⟨wr.heap.size,1,none⟩ = some (.string (str x.val))) (go_keep)
     (first
      | (go_at_call 203;refine (text_any (w.heap.size + 1) _ (L1 ++ [0]) x.val m9 _ (by exact HO2.out) (by exact gba hgrow2 m1) m10).mono ?_;rintro e w7 ⟨g3,cap3,rfl,hown3,hgrow3,hat3⟩;generalize hL3:(L1 ++ [0] ++ UInt8.ofNat x.val.length :: x.val:Bs) = L3 at hown3 ⊢;have HL3:=Lib.hid hL3;have HO3:=Lib.hid hown3;clear hL3 hown3;have r2:=cell_grown hgrow3 t2 (ne_own hg2ne))
      | ((refine step_append_lies _ (by rfl) _ _ _ (by rfl) (w.heap.size + 1) 5 i0 (.int .u8 0) 1 1 Tryz.underlying98 hti htz0 htz1 htz2 rfl (by decide) (.slice (some ⟨g1,0,none⟩) L1.length cap1) L1.length (bcs L1) (by rfl) (by exact HO1.out.alloc _) ⟨w5.heap.size,0,none⟩ 1 1 [.int .u8 0] (by rfl) (by rfl) (by exact World.news_of_block (cs:=#[.int .u8 0]) (t:=5) (fr:=(0,0)) (heap_alloc_new w5 _)) n0 (by decide) m2 m3 (by exact m4 _) (w5.heap.size + 1) (by exact m5 _) ?_);intro g2 cap2 w6 hown2 hgrow2 hat2 hlt2;have HO2:=own_snoc (L:=L1) (b:=0) (c:=0) rfl hown2;clear hown2;have hg2ne:g2 ≠ wr.heap.size:=at_ne hat2 hgne m6;have t2:=cell_grown hgrow2 (cad p1 _) (ne_own hgne)))
    go_wp2_with fail
    go_roundg (gk - 1)
    case rel =>
     have z2:=hgrow2.size
     simp at z2
     refine ⟨k + 1,g3,cap3,L3,by have:=HK0.out;omega,by go_num,rfl,HO3.out,?_,?_,?_⟩
     ·rw [← HL3.out,← HL1.out,HL.out,encCells_take n.cells k x HX.out]
      simp [Cell.enc,txt,hov']
     ·have h1:=Ext.grown (HE.out.alloc _) hgrow1 (fun g' hg'=>by simp [Value.ownBlock] at hg';exact .inr (by omega))
      have h2:=Ext.grown (h1.alloc _).drew hgrow2 (fun g' hg'=>by simp [Value.ownBlock] at hg';exact .inr (by omega))
      have hg22:=(HO2.out.lt g2 rfl).1
      exact Ext.grown h2 hgrow3 (fun g' hg'=>by simp [Value.ownBlock] at hg';exact .inr (by omega))
     ·have hg22:=(HO2.out.lt g2 rfl).1
      have w5l:=hgrow1.size
      simp at w5l
      exact (hgrow3.block _ (by omega) (by simp [Value.ownBlock];omega)).trans ((hgrow2.block _ (by simp;omega) (by simp [Value.ownBlock];omega)).trans ((Blk.alloc ((hgrow1.block _ (by simp;omega) (by simp [Value.ownBlock];omega)).trans (bb.alloc _)) _)))
    case measure=>have:=HK0.out;omega
  ·have hke:k = n.cells.length:=by omega
   have HKE:=Lib.hid hke
   clear hke
   have hconv:(convert 98 9 (.slice (some ⟨g,0,none⟩) L.length cap)).run Tryz.prog wr = .ok (.string (str L)) wr :=
    run_convert_bytes_back (P:=Tryz.prog) wr 98 9 5 ⟨g,0,none⟩ cap L Tryz.underlying98 Tryz.underlying5 Tryz.underlying9 (fun j hj=>HO.out.cells (g:=g) rfl j _ (by simp [bcs,hj]))
   go_wp2_with fail
   go_ret2
   refine ⟨?_,HE.out⟩
   have hfin:L = n.enc:=by
    rw [HL.out,HKE.out,List.take_length]
    unfold Nd.enc
    rw [HLF.out,if_pos rfl]
    simp
   rw [hfin]
   rfl
theorem Tryz.info45:(Tryz.prog.info? 45).map (fun i=>(i.zero,i.size,i.bytes)) = some (some (.agg #[.string ⟨#[]⟩,.string ⟨#[]⟩,.int .i64 0,.int .i64 0]),4,48):=by kernel_rfl
theorem Tryz.info9:(Tryz.prog.info? 9).map (fun i=>(i.zero,i.size,i.bytes)) = some (some (.string ⟨#[]⟩),1,16):=by kernel_rfl
theorem Tryz.info3:(Tryz.prog.info? 3).map (fun i=>(i.zero,i.size,i.bytes)) = some (some (.int .i64 0),1,8):=by kernel_rfl
def Nd.one (n:Nd) (r:Rst):Nd × Rst :=
 if n.leaf then ({ n with cells:=n.cells ++ [r.cell.1] },r.cell.2) else ({ n with keys:=n.keys ++ [r.text.1],kids:=n.kids ++ [r.text.2.four.1] },r.text.2.four.2)
def decLoop:Nat → Nd → Rst → Nd × Rst
 | 0,n,r=>(n,r)
 | k + 1,n,r=>if r.bad then (n,r) else decLoop k (n.one r).1 (n.one r).2
def Rst.head (r:Rst):Nd × Rst :=
 if r.byte.1 = 1 then (⟨true,[],[],[]⟩,r.byte.2.byte.2) else (⟨false,[],[],[r.byte.2.byte.2.four.1]⟩,r.byte.2.byte.2.four.2)
def Rst.loop (r:Rst):Nd × Rst:=decLoop r.byte.2.byte.1 r.head.1 r.head.2
def dec (s:Bs):Option Nd :=
 if 500 < s.length then none
 else if (⟨s,false⟩:Rst).loop.2.bad then none
 else if (⟨s,false⟩:Rst).loop.2.s.length ≠ 0 then none
 else if (⟨s,false⟩:Rst).byte.1 ≠ 1 ∧ (⟨s,false⟩:Rst).byte.1 ≠ 2 then none
 else if (⟨s,false⟩:Rst).loop.1.ok then some (⟨s,false⟩:Rst).loop.1 else none
def Old (w:World):Nat → Prop:=fun b=>b < w.heap.size
def Nd.zero:Value:=.agg #[.bool false,.slice none 0 0,.slice none 0 0,.slice none 0 0]
def Told (w:World) (o:Option Nd) (e:Ending) (w':World):Prop :=
 Ext No w w' ∧ match o with
  | none=>e = .returned (.tuple #[Nd.zero,.int .i64 5])
  | some n=>∃ A1 c1 A2 c2 A3 c3,e = .returned (.tuple #[n.value A1 c1 A2 c2 A3 c3,.int .i64 0]) ∧ NodeAt w' (Old w) A1 c1 A2 c2 A3 c3 n
def Lo (n:Nat):Nat → Prop:=fun b=>b < n
theorem Rd.own_lo {w':World} {base:Nat} {e:TypeId} {sz n cap:Nat} {A:Option Addr} {xs:List Value} (h:w'.ownsRow base e sz (.slice A n cap) n xs) (hs:0 < sz):Rd w' (Lo base) sz A n xs:=by
 refine ⟨h.1,fun hn=>?_⟩
 rcases h.2 with ⟨hv,h0⟩ | ⟨g,cap',cur,hv,hbg,hg,hnc,hcm,hcs,htake⟩
 ·omega
 ·injection hv with hA _ hc
  subst hA;subst hc
  refine ⟨g,0,rfl,fun h'=>by unfold Lo at h';omega,fun j u hu=>?_⟩
  have:=h.cells (g:=g) rfl j u hu
  rw [Nat.zero_add]
  simp only [Addr.add] at this
  split at this
  ·rename_i hj
   have:j = 0:=by simpa using hj
   subst this;assumption
  ·simpa using this
theorem NodeAt.mono {w:World} {F G:Nat → Prop} {A1:Option Addr} {c1:Nat} {A2:Option Addr} {c2:Nat} {A3:Option Addr} {c3:Nat} {n:Nd} (h:NodeAt w F A1 c1 A2 c2 A3 c3 n) (hG:∀ b,b < w.heap.size → G b → F b):NodeAt w G A1 c1 A2 c2 A3 c3 n :=
 ⟨h.cells.mono (by omega) hG,h.keys.mono (by omega) hG,h.kids.mono (by omega) hG,h.l1,h.l2,h.l3,h.b1,h.b2,h.b3,h.e1,h.e2,h.e3⟩
theorem Rd.own {w w':World} {base:Nat} {e:TypeId} {sz n cap:Nat} {A:Option Addr} {xs:List Value} (h:w'.ownsRow base e sz (.slice A n cap) n xs) (hb:w.heap.size ≤ base) (hs:0 < sz):Rd w' (Old w) sz A n xs:=by
 refine ⟨h.1,fun hn=>?_⟩
 rcases h.2 with ⟨hv,h0⟩ | ⟨g,cap',cur,hv,hbg,hg,hnc,hcm,hcs,htake⟩
 ·omega
 ·injection hv with hA _ hc
  subst hA;subst hc
  refine ⟨g,0,rfl,fun h'=>by unfold Old at h';omega,fun j u hu=>?_⟩
  have:=h.cells (g:=g) rfl j u hu
  rw [Nat.zero_add]
  simp only [Addr.add] at this
  split at this
  ·rename_i hj
   have:j = 0:=by simpa using hj
   subst this;assumption
  ·simpa using this
theorem own_cap {w:World} {base:Nat} {e:TypeId} {sz n cap:Nat} {A:Option Addr} {xs:List Value} (h:w.ownsRow base e sz (.slice A n cap) n xs):n ≤ cap:=by
 rcases h.2 with ⟨hv,h0⟩ | ⟨g,cap',cur,hv,hbg,hg,hnc,hcm,hcs,htake⟩
 ·omega
 ·injection hv with hA _ hc
  omega
theorem own_nilcap {w:World} {base:Nat} {e:TypeId} {sz n cap:Nat} {A:Option Addr} {xs:List Value} (h:w.ownsRow base e sz (.slice A n cap) n xs):A = none → cap = 0:=by
 rintro rfl
 rcases h.2 with ⟨hv,h0⟩ | ⟨g,cap',cur,hv,_⟩
 ·injection hv
 ·injection hv with hA;cases hA
theorem decLoop_stop (k:Nat) (n:Nd) (r:Rst) (h:r.bad = true):decLoop k n r = (n,r):=by
 match k with
 | 0=>rfl
 | k + 1=>simp [decLoop,h]
theorem Blk.new_at (w:World) (t:TypeId) (cs:Array Value) {b:Nat} (h:w.heap.size = b):Blk (w.alloc (.cells cs t)) b t cs:=h ▸ Blk.new w t cs
theorem Ext.on_new {F:Nat → Prop} {w0 w w':World} {p:Nat} (h:Ext F w0 w) (hx:Ext (On p) w w') (hp:w0.heap.size ≤ p):Ext F w0 w' :=
 ⟨hx.os.trans h.os,hx.tape.trans h.tape,hx.output.trans h.output,Nat.le_trans h.size hx.size,fun i hi hn=>(hx.block i (Nat.lt_of_lt_of_le hi h.size) (fun h'=>by unfold On at h';omega)).trans (h.block i hi hn)⟩
theorem off_on {p b:Nat} (h:b ≠ p):¬ On p b:=h
theorem Rst.cell_fits (r:Rst):r.cell.1.fits:=by
 have h1:=r.text_len
 have h2:=r.text.2.byte.2.text_len
 have h3:=r.text.2.byte.2.four_lt
 have h4:=r.text.2.byte.2.four.2.four_lt
 unfold Rst.cell
 split
 ·exact ⟨by simp only;omega,by simp only;omega,by simp,by simp⟩
 ·split
  ·exact ⟨by simp only;omega,by simp,by simp only;omega,by simp only;omega⟩
  ·exact ⟨by simp only;omega,by simp,by simp,by simp⟩
theorem own_push {w:World} {base g cap:Nat} {cs:List Cell} {c:Cell} (h:w.ownsRow base 45 4 (.slice (some ⟨g,0,none⟩) (cs.length + 1) cap) (cs.length + 1) (cellVals cs ++ c.vals)) :
  w.ownsRow base 45 4 (.slice (some ⟨g,0,none⟩) (cs ++ [c]).length cap) (cs ++ [c]).length (cellVals (cs ++ [c])):=by
 rw [cellVals_append,List.length_append]
 simpa [cellVals] using h
theorem own_ext {F:Nat → Prop} {w w':World} {base:Nat} {e:TypeId} {sz n:Nat} {v:Value} {xs:List Value} (h:w.ownsRow base e sz v n xs) (hx:Ext F w w') (hF:∀ g,base ≤ g → ¬ F g):w'.ownsRow base e sz v n xs:=by
 refine ⟨h.1,?_⟩
 rcases h.2 with h0 | ⟨g,cap,cur,hv,hbg,hg,rest⟩
 ·exact .inl h0
 ·exact .inr ⟨g,cap,cur,hv,hbg,(hx.block g (by
   rcases Nat.lt_or_ge g w.heap.size with hlt | hge
   ·exact hlt
   ·rw [Array.getElem?_eq_none hge] at hg;cases hg) (hF g hbg)).trans hg,rest⟩
theorem own_ge {w:World} {base:Nat} {e:TypeId} {sz n m cap:Nat} {A:Option Addr} {xs:List Value} (h:w.ownsRow base e sz (.slice A n cap) m xs) {x:Nat} (hx:x < base):some x ≠ (Value.slice A n cap).ownBlock:=by
 intro e'
 have:=h.lt x e'.symm
 omega
theorem own_ge' {w:World} {base:Nat} {e:TypeId} {sz n m cap:Nat} {A:Option Addr} {xs:List Value} (h:w.ownsRow base e sz (.slice A n cap) m xs) {B:Nat} (hx:B ≤ base) {F:Nat → Prop}:∀ g',(Value.slice A n cap).ownBlock = some g' → F g' ∨ B ≤ g':=by
 intro g' e'
 have:=h.lt g' e'
 exact .inr (by omega)
theorem Blk.grown {w w':World} {row:Option Nat} (h:w.grownBy w' row) {g:Nat} {t:TypeId} {cs:Array Value} (hb:Blk w g t cs) (hne:some g ≠ row):Blk w' g t cs:=(h.block g hb.lt hne).trans hb
theorem Cell.one (c:Cell):∀ u ∈ c.vals,u.oneCell' = true:=by
 intro u hu
 simp [Cell.vals] at hu
 rcases hu with rfl | rfl | rfl | rfl <;> simp [Value.oneCell']
theorem Blk.of_ext {F:Nat → Prop} {w w':World} {g:Nat} {t:TypeId} {cs:Array Value} (hx:Ext F w w') (h:Blk w g t cs) (hg:¬ F g):Blk w' g t cs:=h.ext hx hg
theorem own_of_ext {F:Nat → Prop} {w w':World} {base:Nat} {e:TypeId} {sz n:Nat} {v:Value} {xs:List Value} (hx:Ext F w w') (h:w.ownsRow base e sz v n xs) (hF:∀ g,base ≤ g → ¬ F g):w'.ownsRow base e sz v n xs:=own_ext h hx hF
end Go.Proofs.YtccnemmlkcmceaaGreatDoor
