/- Proofs about the given program, joined out of the texts LA, LB. -/
import Derived.Test.YtccnemmlkcmceaaGreatDoorHE31
set_option linter.unusedVariables false
set_option linter.unusedSimpArgs false
set_option maxRecDepth 100000
set_option maxHeartbeats 6400000
namespace Go.Proofs.YtccnemmlkcmceaaGreatDoor
open Go.RowKit
def depV:Option Nat → Int
 | none=>-1
 | some d=>d
def LookTold (gs:Nat) (w:World) (r:Option (Nat × Option Nat)) (e:Ending) (w':World):Prop :=
 Ext (On gs) w w' ∧ match r with
  | none=>e = .returned (.int .i64 5) ∧ ∃ p d:Int,Blk w' gs 118 #[.int .i64 p,.int .i64 d]
  | some (p,d)=>e = .returned (.int .i64 0) ∧ Blk w' gs 118 #[.int .i64 (p:Int),.int .i64 (depV d)] ∧ p ≤ 80000
def LookOk (s:Sys) (v:V) (wz:World) (gx gs k deep:Nat):Prop :=
 ∀ (w:World) (id:Nat) (low high:Bs) (p:Nat) (d:Option Nat),Ext No wz w → Blk w gs 118 #[.int .i64 (p:Int),.int .i64 (depV d)] → p ≤ 80000 →
  Calls Tryz.prog 94 #[.pointer (some ⟨gx,0,none⟩),.pointer (some ⟨gs,0,none⟩),.int .i64 (id:Int),.int .i64 (deep:Int),.string (str low),.string (str high)] w (LookTold gs w (v.look k id deep low high (p,d)))
theorem lookCells_step (v:V) (low high:Bs) (cs:List Cell) (K:Nat) (c:Cell) (p:Nat) (hc:cs[K]? = some c) :
  v.lookCells low high (cs.drop K) p = if inB low high c.key then (match v.value c with
  | none=>none
  | some _=>v.lookCells low high (cs.drop (K + 1)) (if 0 < c.over then p + max 1 ((c.len + 495) / 496) else p)) else none:=by
 have hl:=(List.getElem?_eq_some_iff.1 hc).1
 have e:cs.drop K = c :: cs.drop (K + 1):=by
  rw [List.drop_eq_getElem_cons hl]
  congr 1
  exact (List.getElem?_eq_some_iff.1 hc).2
 rw [e,V.lookCells]
 split
 ·cases v.value c <;> rfl
 ·rfl
theorem look_pages (p len:Nat) (hp:p ≤ 80000) (hl:len ≤ 16384):wrap64 ((p:Int) + max 1 (wrap64 ((wrap64 (wrap64 ((len:Int) + 496) - 1)).tdiv 496))) = ((p + max 1 ((len + 495) / 496):Nat):Int):=by
 have h1:wrap64 ((len:Int) + 496) = (len:Int) + 496:=by unfold wrap64;omega
 have h2:wrap64 ((len:Int) + 496 - 1) = (len:Int) + 495:=by unfold wrap64;omega
 rw [h1,h2]
 obtain ⟨q,hq⟩:∃ q,q = (len + 495) / 496:=⟨_,rfl⟩
 have hq2:q ≤ 34:=by omega
 have e0:((len:Int) + 495).tdiv 496 = (q:Int):=by rw [Int.tdiv_eq_ediv_of_nonneg (by omega),hq];omega
 rw [e0,← hq]
 clear hq e0 h1 h2
 have h3:wrap64 (q:Int) = (q:Int):=by unfold wrap64;omega
 rw [h3]
 have h4:max 1 (q:Int) = ((max 1 q:Nat):Int):=by omega
 rw [h4]
 obtain ⟨m,hm⟩:∃ m,m = max 1 q:=⟨_,rfl⟩
 have hm2:m ≤ 34:=by omega
 rw [← hm]
 clear hm h4 h3
 unfold wrap64;omega
theorem look_b1 {p K:Nat} (h:p ≤ 65536 + 34 * K) (hk:K < 255):p ≤ 80000:=by omega
theorem look_b2 {p K len:Nat} (h:p ≤ 65536 + 34 * K) (hl:len ≤ 16384):p + max 1 ((len + 495) / 496) ≤ 65536 + 34 * (K + 1):=by omega
theorem look_b3 {K gk cl:Nat} (h:K + gk = cl) (hl:(K:Int) < (cl:Int)):K + 1 + (gk - 1) = cl:=by omega
def kidsNext (f:Nat → Bs → Bs → Nat × Option Nat → Option (Nat × Option Nat)) (low high:Bs) (T:List (Nat × Bs × Bs)) (K:Nat):Option (Nat × Option Nat) → Option (Nat × Option Nat)
 | none=>none
 | some st=>lookKids f low high (decide (K = 0)) (T.drop K) st
theorem lookKids_step (f:Nat → Bs → Bs → Nat × Option Nat → Option (Nat × Option Nat)) (low high:Bs) (T:List (Nat × Bs × Bs)) (K:Nat) (kid:Nat) (lo hi:Bs) (st:Nat × Option Nat) (h:T[K]? = some (kid,lo,hi)) :
  lookKids f low high (decide (K = 0)) (T.drop K) st = if K ≠ 0 ∧ inB low high lo = false then none else kidsNext f low high T (K + 1) (f kid lo hi st):=by
 have hl:=(List.getElem?_eq_some_iff.1 h).1
 have e:T.drop K = (kid,lo,hi) :: T.drop (K + 1):=by
  rw [List.drop_eq_getElem_cons hl]
  congr 1
  exact (List.getElem?_eq_some_iff.1 h).2
 rw [e,lookKids]
 by_cases hK:K = 0
 ·subst hK
  simp
  cases f kid lo hi st <;> simp [kidsNext]
 ·simp [hK]
  split
  ·rfl
  ·cases f kid lo hi st <;> simp [kidsNext]
theorem trip_at {kids:List Nat} {keys:List Bs} {low high:Bs} (h:kids.length = keys.length + 1) {K:Nat} (hK:K < kids.length) :
  ∃ kid lo hi,kids[K]? = some kid ∧ (low :: keys ++ [high])[K]? = some lo ∧ (low :: keys ++ [high])[K + 1]? = some hi ∧ (kids.zip ((low :: keys).zip (keys ++ [high])))[K]? = some (kid,lo,hi):=by
 have h1:K < (low :: keys).length:=by simp;omega
 have h2:K < (keys ++ [high]).length:=by simp;omega
 refine ⟨kids[K],(low :: keys)[K],(keys ++ [high])[K],List.getElem?_eq_getElem hK,?_,?_,?_⟩
 ·rw [List.getElem?_append_left h1];exact List.getElem?_eq_getElem h1
 ·rw [List.cons_append,List.getElem?_cons_succ];exact List.getElem?_eq_getElem h2
 ·rw [List.getElem?_zip_eq_some]
  refine ⟨List.getElem?_eq_getElem hK,?_⟩
  rw [List.getElem?_zip_eq_some]
  exact ⟨List.getElem?_eq_getElem h1,List.getElem?_eq_getElem h2⟩
theorem look_step (s:Sys) (hs:s.Ok) (wz:World) (v:V) (hz:TxAt wz s v) (hg:v.Good) (gx i:Nat) (hxz:Blk wz gx 70 (treeCells s i)) (gs:Nat) (hgs:wz.heap.size ≤ gs) (k deep:Nat) (hkd:k + deep = 42)
  (IH:∀ j,k = j + 1 → LookOk s v wz gx gs j (deep + 1)):LookOk s v wz gx gs k deep:=by
 intro w id low high p d hez hsv hp
 have h:=hz.no hs hez
 have hx:=hxz.ext hez (fun h=>h)
 have HN:=Lib.hid (fun w' (e:Ext No w w')=>node_any s hs w' v (h.no hs e) hg gx i (hx.ext e (fun h=>h)) id)
 have HIN:=Lib.hid (fun k w bl bh h1 h2=>in_any k low high w bl bh h1 h2)
 have HIH:=Lib.hid IH
 have HKD:=Lib.hid hkd
 have HSV:=Lib.hid hsv
 have HZ:=Lib.hid hez
 have HGS:=Lib.hid hgs
 have HP:=Lib.hid hp
 have gold:gs < w.heap.size:=hsv.lt
 have hd40:deep ≤ 42:=by omega
 obtain ⟨D,hD⟩:∃ D,D = v.look k id deep low high (p,d):=⟨_,rfl⟩
 rw [← hD]
 have HD:=Lib.hid hD
 have HTX:Hid (∀ wr,Ext No wz wr → TxAt wr s v ∧ Blk wr gx 70 (treeCells s i)):=Lib.hid (fun wr e=>⟨hz.no hs e,hxz.ext e (fun h=>h)⟩)
 have HOKN:=Lib.hid (fun n (hn:v.node id = some n)=>V.node_ok hn)
 clear h hx hz hxz hez hsv IH hkd hgs hD hp hd40
 cases hn:v.node id with
 | none =>
  have hDn:D = none:=by
   rw [HD.out]
   cases k with
   | zero=>rfl
   | succ k=>rw [V.look,hn]
  subst hDn
  rw [hn] at HN
  clear HD hn HIH HKD
  go_enter Tryz.func94,Tryz.ntmps94
  go_wp2_with fail
  refine (HN.out _ (by (repeat' (first | exact Ext.refl _ _ | assumption | apply Ext.alloc | apply Ext.drewN | apply Ext.drew | refine Ext.setNew ?_ (by first | omega | (simp;omega) | simp) _ _ | refine Ext.setF ?_ (by first | exact Or.inl rfl | exact Or.inr rfl | rfl) _ _ | refine Ext.trans_ ?_ (by assumption) | refine Ext.trans_ ?_ (Ext.of_no (by assumption)))))).mono ?_
  rintro e w1 ⟨hx1,rfl⟩
  have hE1:Ext No w w1:=(((Ext.refl No w).alloc _).alloc _).trans_ hx1
  have HE1:=Lib.hid hE1
  clear hx1 hE1
  simp only [Nd.zero]
  go_wp2_with fail
  go_ret
  have hE2:Ext No w (w1.alloc (.cells #[.bool false,.slice none 0 0,.slice none 0 0,.slice none 0 0] 40)):=HE1.out.alloc _
  exact ⟨hE2.of_no,rfl,_,_,HSV.out.ext hE2 (fun h=>h)⟩
 | some n =>
  have hok:=HOKN.out n hn
  have HOK:=Lib.hid hok
  have hb255:=(Nd.Ok.of hok).a1
  have HNN:=Lib.hid hn
  rw [hn] at HN
  clear hok hn HOKN
  by_cases hstop:40 < deep ∨ 65536 < p + 1
  ·have hDn:D = none:=by
    rw [HD.out]
    cases k with
    | zero=>rfl
    | succ k=>rw [V.look,HNN.out];simp only;rw [if_pos hstop]
   subst hDn
   have hb:(decide ((40:Int) < (deep:Int)) || decide ((65536:Int) < (p:Int) + 1)) = true:=by
    rcases hstop with h | h
    ·simp;omega
    ·simp;omega
   clear hstop HD HIH
   go_enter Tryz.func94,Tryz.ntmps94
   go_wp2_with fail
   refine (HN.out _ (by (repeat' (first | exact Ext.refl _ _ | assumption | apply Ext.alloc | apply Ext.drewN | apply Ext.drew | refine Ext.setNew ?_ (by first | omega | (simp;omega) | simp) _ _ | refine Ext.setF ?_ (by first | exact Or.inl rfl | exact Or.inr rfl | rfl) _ _ | refine Ext.trans_ ?_ (by assumption) | refine Ext.trans_ ?_ (Ext.of_no (by assumption)))))).mono ?_
   rintro e w1 ⟨hx1,A1,c1,A2,c2,A3,c3,rfl,hnode⟩
   have hE1:Ext No w w1:=(((Ext.refl No w).alloc _).alloc _).trans_ hx1
   have hsv1:=HSV.out.ext hE1 (fun h=>h)
   have s0:=hsv1.cell 0
   have sf:=hsv1.frozen
   have sl:=hsv1.lt
   simp at s0
   have HE1:=Lib.hid hE1
   have HSV1:=Lib.hid hsv1
   have hpw:IntKind.i64.wrap ((p:Int) + 1) = (p:Int) + 1:=IntWalk.i64_in _ (by have:=HP.out;omega)
   clear hE1 hsv1 hx1 hnode
   simp only [Nd.value]
   by_cases h40:40 < deep
   ·have hi1:(40:Int) < (deep:Int):=by omega
    go_wp2_with fail
    go_ret
    have hE2:=(HE1.out.of_no.setF (F:=On gs) (b:=gs) rfl 0 (.int .i64 ((p:Int) + 1))).alloc (.cells #[.bool n.leaf,.slice A1 n.cells.length c1,.slice A2 n.keys.length c2,.slice A3 n.kids.length c3] 40)
    exact ⟨hE2,rfl,_,_,(HSV1.out.set_ 0 _).alloc _⟩
   ·have hi1:¬ ((40:Int) < (deep:Int)):=by omega
    have hi2:(65536:Int) < (p:Int) + 1:=by simp at hb;omega
    go_wp2_with fail
    go_ret
    have hE2:=(HE1.out.of_no.setF (F:=On gs) (b:=gs) rfl 0 (.int .i64 ((p:Int) + 1))).alloc (.cells #[.bool n.leaf,.slice A1 n.cells.length c1,.slice A2 n.keys.length c2,.slice A3 n.kids.length c3] 40)
    exact ⟨hE2,rfl,_,_,(HSV1.out.set_ 0 _).alloc _⟩
  ·obtain ⟨j,hj⟩:∃ j,k = j + 1:=⟨k - 1,by have:=HKD.out;omega⟩
   have HIHJ:=Lib.hid (HIH.out j hj)
   have hdd:=HD.out
   rw [hj,V.look,HNN.out] at hdd
   simp only at hdd
   rw [if_neg hstop] at hdd
   obtain ⟨LC,hLC⟩:∃ LC,LC = v.lookCells low high n.cells (p + 1):=⟨_,rfl⟩
   rw [← hLC] at hdd
   have HLC:=Lib.hid hLC
   have HD1:=Lib.hid hdd
   have HDN:=Lib.hid (show LC = none → D = none from fun h=>by rw [HD1.out,h])
   have hi1:decide ((40:Int) < (deep:Int)) = false:=by simp;omega
   have hi2:decide ((65536:Int) < (p:Int) + 1) = false:=by simp;omega
   have HPB:=Lib.hid (show p + 1 ≤ 65536 by omega)
   have HDP:=Lib.hid (show deep ≤ 40 by omega)
   clear hdd hLC hstop hj HIH HD
   go_enter Tryz.func94,Tryz.ntmps94
   go_wp2_with fail
   refine (HN.out _ (by (repeat' (first | exact Ext.refl _ _ | assumption | apply Ext.alloc | apply Ext.drewN | apply Ext.drew | refine Ext.setNew ?_ (by first | omega | (simp;omega) | simp) _ _ | refine Ext.setF ?_ (by first | exact Or.inl rfl | exact Or.inr rfl | rfl) _ _ | refine Ext.trans_ ?_ (by assumption) | refine Ext.trans_ ?_ (Ext.of_no (by assumption)))))).mono ?_
   rintro e w1 ⟨hx1,A1,c1,A2,c2,A3,c3,rfl,hnode⟩
   have hE1:Ext No w w1:=(((Ext.refl No w).alloc _).alloc _).trans_ hx1
   have hsv1:=HSV.out.ext hE1 (fun h=>h)
   have s0:=hsv1.cell 0
   have sf:=hsv1.frozen
   have sl:=hsv1.lt
   simp at s0
   have hlow1:=((Blk.new w 9 #[.string (str low)]).alloc (.cells #[.string (str high)] 9)).ext hx1 (fun h=>h)
   have hhigh1:=(Blk.new_at (b:=w.heap.size + 1) (w.alloc (.cells #[.string (str low)] 9)) 9 #[.string (str high)] (by simp)).ext hx1 (fun h=>h)
   have HE1:=Lib.hid hE1
   have HSV1:=Lib.hid hsv1;have HL1:=Lib.hid hlow1;have HH1:=Lib.hid hhigh1;have HNO1:=Lib.hid hnode
   have hpw:IntKind.i64.wrap ((p:Int) + 1) = (p:Int) + 1:=IntWalk.i64_in _ (by have:=HP.out;omega)
   clear hE1 hsv1 hx1 hnode hlow1 hhigh1
   simp only [Nd.value]
   go_wp2_with fail
   obtain ⟨W2,hW2⟩:∃ W2,W2 = ((w1.setCell ⟨gs,0,none⟩ (.int .i64 ((p:Int) + 1))).alloc (.cells #[.bool n.leaf,.slice A1 n.cells.length c1,.slice A2 n.keys.length c2,.slice A3 n.kids.length c3] 40)):=⟨_,rfl⟩
   have hE12:Ext (On gs) w1 W2:=by rw [hW2];exact ((Ext.refl (On gs) w1).setF (b:=gs) rfl _ _).alloc _
   have hb2:Blk W2 gs 118 #[.int .i64 ((p:Int) + 1),.int .i64 (depV d)]:=by rw [hW2];exact (HSV1.out.set_ 0 _).alloc _
   have hws:(w1.setCell ⟨gs,0,none⟩ (.int .i64 ((p:Int) + 1))).heap.size = w1.heap.size:=by simp [World.setCell]
   have hbn2:Blk W2 w1.heap.size 40 #[.bool n.leaf,.slice A1 n.cells.length c1,.slice A2 n.keys.length c2,.slice A3 n.kids.length c3]:=by rw [hW2];exact Blk.new_at (b:=w1.heap.size) _ 40 _ hws
   have hw1:=HE1.out.size
   have hoff:∀ b,w.heap.size ≤ b → ¬ On gs b:=fun b hb e=>by have e':b = gs:=e;omega
   have hl2:=HL1.out.ext hE12 (hoff _ (Nat.le_refl _))
   have hh2:=HH1.out.ext hE12 (hoff _ (Nat.le_succ _))
   have hno2:NodeAt W2 (On gs) A1 c1 A2 c2 A3 c3 n:=(HNO1.out.mono (G:=On gs) (fun b _ hb=>by
    have e':b = gs:=hb
    show b < _
    simp
    omega)).ext hE12
   have HB2:=Lib.hid hb2;have HBN2:=Lib.hid hbn2;have HL2:=Lib.hid hl2;have HH2:=Lib.hid hh2;have HNO2:=Lib.hid hno2
   have HE2:=Lib.hid (HE1.out.of_no.trans_ hE12)
   have HZ2:=Lib.hid ((HZ.out.trans_ HE1.out).on_new hE12 HGS.out)
   have HOFF:=Lib.hid hoff
   have hw1s:w.heap.size + 2 ≤ w1.heap.size:=HH1.out.lt
   rw [← hW2]
   clear hW2 hE12 hb2 hbn2 hl2 hh2 hno2 hws s0 sf sl
   go_loopg [53] n.cells.length (fun gk kv wr=>∃ (K p':Nat),K + gk = n.cells.length ∧ kv = .int .i64 (K:Int) ∧ Hid (Ext (On gs) W2 wr) ∧ Blk wr gs 118 #[.int .i64 (p':Int),.int .i64 (depV d)] ∧ Hid (v.lookCells low high (n.cells.drop K) p' = LC) ∧ Hid (p' ≤ 65536 + 34 * K))
   case atStart=>exact ⟨0,p + 1,by omega,rfl,Lib.hid (Ext.refl _ _),by rw [show ((p + 1:Nat):Int) = (p:Int) + 1 from by omega];exact HB2.out,Lib.hid (by rw [HLC.out];rfl),Lib.hid (by have:=HPB.out;omega)⟩
   case round =>
    obtain ⟨K,p',hK,rfl,HE,hgb,HLK,HPK⟩:=hrel
    clear HB2
    have HWZ:=Lib.hid (HZ2.out.on_new HE.out HGS.out)
    have HGB:=Lib.hid hgb
    have lo:=(HL2.out.ext HE.out (HOFF.out _ (Nat.le_refl _))).cell 0
    have hi:=(HH2.out.ext HE.out (HOFF.out _ (Nat.le_succ _))).cell 0
    obtain ⟨p0,p1,p2,p3,g0,g1,g2,g3,ln⟩:=(HBN2.out.ext HE.out (HOFF.out _ (by omega))).p4
    have hl0:=World.block_lt_of_cell? wr _ lo
    have hh0:=World.block_lt_of_cell? wr _ hi
    simp at lo hi hl0 hh0
    have HKK:=Lib.hid hK
    by_cases hlt:K < n.cells.length
    ·obtain ⟨c,hc⟩:∃ c,n.cells[K]? = some c:=⟨_,List.getElem?_eq_getElem hlt⟩
     obtain ⟨cb,co,hA1,hcF,k0,k1,k2,k3⟩:=(HNO2.out.ext HE.out).cells.cellAt hc
     have lc:=World.block_lt_of_cell? wr _ k0
     simp only at lc
     subst hA1
     have hcl1:=HNO2.out.l1
     have hlt':(K:Int) < (n.cells.length:Int):=by omega
     have hcok:=(Nd.Ok.of HOK.out).c c (List.mem_of_getElem? hc)
     have hcb:=Cell.ok_bounds hcok
     have HVC:=Lib.hid (fun w' (e:Ext No wr w')=>value_any' s hs v hg c (Nd.Ok.fits (Nd.Ok.of HOK.out) |>.c c (List.mem_of_getElem? hc)) w' gx i (HTX.out w' (HWZ.out.trans_ e)).1 (HTX.out w' (HWZ.out.trans_ e)).2)
     have hstep:=lookCells_step v low high n.cells K c p' hc
     rw [HLK.out] at hstep
     have HSTEP:=Lib.hid hstep
     have HCB:=Lib.hid hcb
     clear hK hc hstep hcok hcb hcF hgb
     generalize n.cells.length = cl at *
     simp only [Cell.agg] at HVC
     have HIN1:=Lib.hid (HIN.out c.key _ w.heap.size (w.heap.size + 1) (((HL2.out.ext HE.out (HOFF.out _ (Nat.le_refl _))).alloc (.cells #[.string (str c.key),.string (str c.val),.int .i64 (c.over:Int),.int .i64 (c.len:Int)] 45)).cell 0) (((HH2.out.ext HE.out (HOFF.out _ (Nat.le_succ _))).alloc _).cell 0))
     go_wp2_with fail
     refine HIN1.out.mono ?_
     rintro e w5 ⟨rfl,rfl⟩
     have hEc:Ext No wr (wr.alloc (.cells #[.string (str c.key),.string (str c.val),.int .i64 (c.over:Int),.int .i64 (c.len:Int)] 45)):=(Ext.refl No wr).alloc _
     cases hib:inB low high c.key with
     | false =>
      have hDn:=HDN.out (by rw [HSTEP.out,hib];rfl)
      subst hDn
      clear hib
      go_wp2_with fail
      go_ret
      exact ⟨(HE2.out.trans_ HE.out).trans_ hEc.of_no,rfl,_,_,HGB.out.ext hEc (fun h=>h)⟩
     | true =>
      have hst:=HSTEP.out
      rw [hib,if_pos rfl] at hst
      have HST:=Lib.hid hst
      have HEC:=Lib.hid hEc
      clear hib hst hEc HSTEP
      cases hvc:v.value c with
      | none =>
       rw [hvc] at HVC
       have hDn:=HDN.out (by rw [HST.out,hvc])
       subst hDn
       simp only [valOut] at HVC
       clear hvc
       go_wp2_with fail
       refine (HVC.out _ HEC.out).mono ?_
       rintro e w6 ⟨rfl,hx6⟩
       have hE6:=HEC.out.trans_ hx6
       clear hx6
       go_wp2_with fail
       go_ret
       exact ⟨(HE2.out.trans_ HE.out).trans_ hE6.of_no,rfl,_,_,HGB.out.ext hE6 (fun h=>h)⟩
      | some bv =>
       rw [hvc] at HVC
       have hst:=HST.out
       rw [hvc] at hst
       simp only at hst
       have HST1:=Lib.hid hst
       simp only [valOut] at HVC
       clear hvc hst HST
       go_wp2_with fail
       refine (HVC.out _ HEC.out).mono ?_
       rintro e w6 ⟨rfl,hx6⟩
       have hbx:=(Blk.new wr 45 #[.string (str c.key),.string (str c.val),.int .i64 (c.over:Int),.int .i64 (c.len:Int)]).ext hx6 (fun h=>h)
       have HE6:=Lib.hid (HEC.out.trans_ hx6)
       have hgb6:=HGB.out.ext (HEC.out.trans_ hx6) (fun h=>h)
       have HGB6:=Lib.hid hgb6
       obtain ⟨z0,z1,z2,z3,y0,y1,y2,y3,lz⟩:=hbx.p4
       have s0:=hgb6.cell 0
       have sf:=hgb6.frozen
       have sl:=hgb6.lt
       simp at s0
       clear hbx hx6 hgb6 k0 k1 k2 k3 lo hi p0 p1 p2 p3 g0 g1 g2 g3 ln hl0 hh0 lc
       by_cases hov:0 < c.over
       ·have hov':(0:Int) < (c.over:Int):=by omega
        have hgw:gs ≠ wr.heap.size:=by have h1:=HGB.out.lt;omega
        go_wp2_with fail
        go_region
        all_goals (
         go_wp2_with fail
         go_roundg (gk - 1)
         case rel =>
          have h1:=HST1.out
          rw [if_pos hov] at h1
          have hpk:=HPK.out
          have hcl:=HCB.out.2.2.2.1
          have hcl5:K < 255:=by have h2:=hlt';have h3:=hb255;omega
          have e1:=look_pages p' c.len (look_b1 hpk hcl5) hcl
          exact ⟨K + 1,p' + max 1 ((c.len + 495) / 496),look_b3 HKK.out hlt',by go_num,Lib.hid ((HE.out.trans_ HE6.out.of_no).setF (F:=On gs) (b:=gs) rfl 0 _).drew,by rw [← e1];exact (HGB6.out.set_ 0 _).drew1,Lib.hid h1.symm,Lib.hid (look_b2 hpk hcl)⟩
         case measure=>have:=HKK.out;omega)
       ·have hov':¬ ((0:Int) < (c.over:Int)):=by omega
        go_wp2_with fail
        go_roundg (gk - 1)
        case rel =>
         have h1:=HST1.out
         rw [if_neg hov] at h1
         refine ⟨K + 1,p',by have:=HKK.out;omega,by go_num,Lib.hid (HE.out.trans_ HE6.out.of_no),HGB6.out,Lib.hid h1.symm,Lib.hid (by have:=HPK.out;omega)⟩
        case measure=>have:=HKK.out;omega
    ·have hK':K = n.cells.length:=by omega
     have hlk:=HLK.out
     rw [List.drop_eq_nil_of_le (by omega),V.lookCells] at hlk
     have hd1:=HD1.out
     rw [← hlk] at hd1
     simp only at hd1
     have hpk:=HPK.out
     have HPF:=Lib.hid (show p' ≤ 74300 by omega)
     have s1:=hgb.cell 1
     have sf:=hgb.frozen
     have sl:=hgb.lt
     simp at s1
     have hnl:¬ ((K:Int) < (n.cells.length:Int)):=by omega
     clear hlt hK hlk hpk hgb HLK HLC HD1 HDN
     cases hlf:n.leaf with
     | true =>
      rw [hlf] at hd1 p0
      simp only [if_true] at hd1
      have HD2:=Lib.hid hd1
      have HLF:=Lib.hid hlf
      clear hd1 hlf
      by_cases hbad:(d.isSome = true ∧ d ≠ some deep) ∨ n.cells.length = 0
      ·have hDn:D = none:=by rw [HD2.out,if_pos hbad]
       subst hDn
       have HXR:=Lib.hid (HE2.out.trans_ HE.out)
       cases d with
       | none =>
        have hz0:(n.cells.length:Int) = 0:=by
         rcases hbad with ⟨h,_⟩ | h
         ·cases h
         ·omega
        simp only [depV] at s1
        clear hbad HD2 hnl
        go_wp2_with fail
        go_ret
        exact ⟨HXR.out,rfl,_,_,HGB.out⟩
       | some d0 =>
        simp only [depV] at s1
        by_cases hdd:d0 = deep
        ·have hz0:(n.cells.length:Int) = 0:=by
          rcases hbad with ⟨_,h⟩ | h
          ·exact absurd (by rw [hdd]) h
          ·omega
         subst hdd
         clear hbad HD2 hnl
         go_wp2_with fail
         go_ret
         exact ⟨HXR.out,rfl,_,_,HGB.out⟩
        ·have hne:((d0:Int) != (deep:Int)) = true:=by simpa using (by omega:¬ (d0:Int) = deep)
         have hne2:¬ ((d0:Int) = (deep:Int)):=by omega
         clear hbad HD2 hnl hdd
         go_wp2_with fail
         go_ret
         exact ⟨HXR.out,rfl,_,_,HGB.out⟩
      ·have hDn:D = some (p',some deep):=by rw [HD2.out,if_neg hbad]
       subst hDn
       have hpos:¬ ((n.cells.length:Int) = 0):=fun h=>hbad (.inr (by omega))
       have HXR:=Lib.hid ((HE2.out.trans_ HE.out).setF (F:=On gs) (b:=gs) rfl 1 (.int .i64 (deep:Int)))
       have HPZ:=Lib.hid (show p' ≤ 80000 by have:=HPF.out;omega)
       cases d with
       | none =>
        simp only [depV] at s1
        clear hbad HD2
        go_wp2_with fail
        go_ret
        exact ⟨HXR.out,rfl,HGB.out.set_ 1 _,HPZ.out⟩
       | some d0 =>
        have hdd:d0 = deep:=by
         rcases Nat.lt_trichotomy d0 deep with h | h | h
         ·exact absurd (.inl ⟨rfl,by simp;omega⟩) hbad
         ·exact h
         ·exact absurd (.inl ⟨rfl,by simp;omega⟩) hbad
        subst hdd
        simp only [depV] at s1
        clear hbad HD2
        go_wp2_with fail
        go_ret
        exact ⟨HXR.out,rfl,HGB.out.set_ 1 _,HPZ.out⟩
     | false =>
      rw [hlf] at hd1 p0
      simp only [Bool.false_eq_true,if_false] at hd1
      have hO:=Nd.Ok.of HOK.out
      have hkk:=(hO.br hlf).2
      have ha2:=hO.a2
      have HKK2:=Lib.hid hkk
      have HD2:=Lib.hid hd1
      have HXR:=Lib.hid (HE2.out.trans_ HE.out)
      have hno:=HNO2.out.ext HE.out
      have HNO:=Lib.hid hno
      obtain ⟨W,hW⟩:∃ W,W = (((wr.alloc (.cells #[.string (str low)] 9)).alloc (.cells #[.string (str high)] 9)).alloc (.cells #[.slice (some ⟨wr.heap.size,0,none⟩) 1 1,.slice A2 n.keys.length c2,.slice (some ⟨wr.heap.size + 1,0,none⟩) 1 1] 38)):=⟨_,rfl⟩
      have hEW:Ext No wr W:=by rw [hW];exact (((Ext.refl No wr).alloc _).alloc _).alloc _
      have hlb:Blk W wr.heap.size 9 #[.string (str low)]:=by rw [hW];exact ((Blk.new wr 9 _).alloc _).alloc _
      have hhb:Blk W (wr.heap.size + 1) 9 #[.string (str high)]:=by rw [hW];exact (Blk.new_at (b:=wr.heap.size + 1) (wr.alloc _) 9 _ (by simp)).alloc _
      have hpb:Blk W (wr.heap.size + 2) 38 #[.slice (some ⟨wr.heap.size,0,none⟩) 1 1,.slice A2 n.keys.length c2,.slice (some ⟨wr.heap.size + 1,0,none⟩) 1 1]:=by rw [hW];exact Blk.new_at (b:=wr.heap.size + 2) _ 38 _ (by simp)
      have hq1:Part.Ok W 1 ⟨some ⟨wr.heap.size,0,none⟩,1,1,[.string (str low)]⟩:=⟨⟨rfl,fun _=>⟨_,_,rfl,(fun h=>h),fun j u hu=>by rw [Nat.zero_add,hlb.cell j];simpa using hu⟩⟩,(fun h=>by cases h),(fun u hu=>by simp at hu;subst hu;rfl),Nat.le_refl _⟩
      have hq3:Part.Ok W 1 ⟨some ⟨wr.heap.size + 1,0,none⟩,1,1,[.string (str high)]⟩:=⟨⟨rfl,fun _=>⟨_,_,rfl,(fun h=>h),fun j u hu=>by rw [Nat.zero_add,hhb.cell j];simpa using hu⟩⟩,(fun h=>by cases h),(fun u hu=>by simp at hu;subst hu;rfl),Nat.le_refl _⟩
      have hq2:Part.Ok W 1 ⟨A2,n.keys.length,c2,keyVals n.keys⟩:=⟨(hno.keys.mono (G:=No) (by omega) (fun _ _ h=>h.elim)).ext hEW,hno.e2,one_keys _,hno.l2⟩
      have HCC:=Lib.hid (concat_strings [⟨some ⟨wr.heap.size,0,none⟩,1,1,[.string (str low)]⟩,⟨A2,n.keys.length,c2,keyVals n.keys⟩,⟨some ⟨wr.heap.size + 1,0,none⟩,1,1,[.string (str high)]⟩] (wr.heap.size + 2) 3 3 W rfl
       (by intro q hq;simp at hq;rcases hq with rfl | rfl | rfl;exact hq1;exact hq2;exact hq3) (by simp [total];omega) (by omega) (by omega)
       (by
         intro j q hj;match j,hj with
         | 0,hj=>simp at hj;subst hj;exact hpb.cell 0
         | 1,hj=>simp at hj;subst hj;exact hpb.cell 1
         | 2,hj=>simp at hj;subst hj;exact hpb.cell 2
         | j + 3,hj=>simp at hj))
      have e1:joined [⟨some ⟨wr.heap.size,0,none⟩,1,1,[.string (str low)]⟩,⟨A2,n.keys.length,c2,keyVals n.keys⟩,⟨some ⟨wr.heap.size + 1,0,none⟩,1,1,[.string (str high)]⟩] = keyVals (low :: n.keys ++ [high]):=by simp [joined,keyVals]
      have e2:total [⟨some ⟨wr.heap.size,0,none⟩,1,1,[.string (str low)]⟩,⟨A2,n.keys.length,c2,keyVals n.keys⟩,⟨some ⟨wr.heap.size + 1,0,none⟩,1,1,[.string (str high)]⟩] = n.keys.length + 2:=by simp [total];omega
      rw [e1,e2] at HCC
      have HEW:=Lib.hid hEW
      have hk256:n.kids.length ≤ 256:=by omega
      clear hd1 hO hkk hlb hhb hpb hq1 hq2 hq3 e1 e2 hEW hno ha2
      go_wp2_with fail
      rw [← hW]
      refine HCC.out.mono ?_
      rintro e w4 ⟨BA,bc,rfl,hown,hx4⟩
      have HOW:=Lib.hid hown
      have HX4:=Lib.hid (HEW.out.trans_ hx4)
      obtain ⟨q0,q1,q2,q3,x0,x1,x2,x3,lx⟩:=((HBN2.out.ext HE.out (HOFF.out _ (by omega))).ext (HEW.out.trans_ hx4) (fun h=>h)).p4
      clear hown hx4 p0 p1 p2 p3 g0 g1 g2 g3 ln s1 sf sl lo hi hl0 hh0 HCC hW
      go_wp2_with fail
      have HRD:Hid (Rd w4 (On gs) 1 BA (low :: n.keys ++ [high]).length (keyVals (low :: n.keys ++ [high]))):=Lib.hid (by
       have h1:=Rd.own_lo HOW.out (by omega)
       have h2:(low :: n.keys ++ [high]).length = n.keys.length + 2:=by simp
       rw [h2]
       exact h1.mono (by omega) (fun b _ hb=>by
        have e':b = gs:=hb
        have h3:=HEW.out.size
        have h4:=HGB.out.lt
        show b < _
        omega))
      have HLB:Hid ((low :: n.keys ++ [high]).length = n.keys.length + 2):=Lib.hid (by simp)
      have HBC:=Lib.hid (own_cap HOW.out)
      have HNO4:=Lib.hid (HNO.out.ext HX4.out.of_no)
      have HGB4:=Lib.hid (HGB.out.ext HX4.out (fun h=>h))
      have HX4R:=Lib.hid (HXR.out.trans_ HX4.out.of_no)
      have HWZ4:=Lib.hid (HWZ.out.trans_ HX4.out)
      have HL4:=Lib.hid ((HL2.out.ext HE.out (HOFF.out _ (Nat.le_refl _))).ext HX4.out (fun h=>h))
      have HH4:=Lib.hid ((HH2.out.ext HE.out (HOFF.out _ (Nat.le_succ _))).ext HX4.out (fun h=>h))
      have HPZ:=Lib.hid (show p' ≤ 80000 by have:=HPF.out;omega)
      obtain ⟨T,hT⟩:∃ T,T = n.kids.zip ((low :: n.keys).zip (n.keys ++ [high])):=⟨_,rfl⟩
      have HT:=Lib.hid hT
      have hd2:=HD2.out
      rw [← hT] at hd2
      have HD3:=Lib.hid hd2.symm
      clear hT hd2 q0 q1 q2 q3 x0 x1 x2 x3 lx HD2 HKK
      go_loopg [124] n.kids.length (fun gk kv wr2=>∃ (K2 p2:Nat) (d2:Option Nat),K2 + gk = n.kids.length ∧ kv = .int .i64 (K2:Int) ∧ Hid (Ext (On gs) w4 wr2) ∧ Blk wr2 gs 118 #[.int .i64 (p2:Int),.int .i64 (depV d2)] ∧
       Hid (lookKids (fun kid lo hi s=>v.look j kid (deep + 1) lo hi s) low high (decide (K2 = 0)) (T.drop K2) (p2,d2) = D) ∧ Hid (p2 ≤ 80000))
      case atStart=>exact ⟨0,p',d,by omega,rfl,Lib.hid (Ext.refl _ _),HGB4.out,HD3,HPZ⟩
      case round =>
       obtain ⟨K2,p2,d2,hK2,rfl,HE2b,hgb2,HLK2,HP2⟩:=hrel
       have HGB2:=Lib.hid hgb2
       have HKK:=Lib.hid hK2
       by_cases hlt:K2 < n.kids.length
       ·obtain ⟨kid,lo,hi,t1,t2,t3,t4⟩:=trip_at (low:=low) (high:=high) HKK2.out hlt
        rw [← HT.out] at t4
        have hstep:=lookKids_step (fun kid lo hi s=>v.look j kid (deep + 1) lo hi s) low high T K2 kid lo hi (p2,d2) t4
        rw [HLK2.out] at hstep
        have HSTEP:=Lib.hid hstep
        obtain ⟨kb,ko,hA3,_,c3k⟩:=(HNO4.out.ext HE2b.out).kids.kidAt t1
        subst hA3
        have lk:=World.block_lt_of_cell? _ _ c3k
        simp only at lk
        obtain ⟨bb,bo,hB,_,cb1⟩:=(HRD.out.ext HE2b.out).keyAt t2
        obtain ⟨_,_,hB',_,cb2⟩:=(HRD.out.ext HE2b.out).keyAt t3
        rw [hB] at hB'
        injection hB' with hB';injection hB' with e1 e2
        subst e1;subst e2
        subst hB
        have lbb:=World.block_lt_of_cell? _ _ cb1
        simp only at lbb
        have l1:=((HL4.out.ext HE2b.out (HOFF.out _ (Nat.le_refl _)))).cell 0
        have l2:=((HH4.out.ext HE2b.out (HOFF.out _ (Nat.le_succ _)))).cell 0
        simp at l1 l2
        have HINB:=Lib.hid (HIN.out lo wr _ _ l1 l2)
        have HREC:=Lib.hid (fun w' (e:Ext No wr w')=>HIHJ.out w' kid lo hi p2 d2 ((HWZ4.out.on_new HE2b.out HGS.out).trans_ e) (HGB2.out.ext e (fun h=>h)) HP2.out)
        have hkl2:n.keys.length + 1 = n.kids.length:=HKK2.out.symm
        have hbc:=HBC.out
        have hi1:(K2:Int) < (n.kids.length:Int):=by omega
        have hi2:(K2:Int) < (n.keys.length:Int) + 2:=by omega
        have hi3:(K2:Int) + 1 < (n.keys.length:Int) + 2:=by omega
        have hi4:IntKind.i64.wrap ((K2:Int) + 1) = (K2:Int) + 1:=IntWalk.i64_in _ (by omega)
        have hi5:(0:Int) ≤ (K2:Int) + 1:=by omega
        have hdw:IntKind.i64.wrap ((deep:Int) + 1) = (deep:Int) + 1:=IntWalk.i64_in _ (by have:=HDP.out;omega)
        obtain ⟨R,hR⟩:∃ R,R = v.look j kid (deep + 1) lo hi (p2,d2):=⟨_,rfl⟩
        rw [← hR] at HREC
        have HR:=Lib.hid hR
        clear hstep t1 t2 t3 t4 hR hgb2 hK2 hbc hkl2
        by_cases hbk:K2 ≠ 0 ∧ inB low high lo = false
        ·have hDn:D = none:=by rw [HSTEP.out,if_pos hbk]
         subst hDn
         obtain ⟨hz,hib⟩:=hbk
         have hz1:(0:Int) < (K2:Int):=by omega
         rw [hib] at HINB
         clear hz hib HSTEP HR HREC
         go_wp2_with fail
         refine HINB.out.mono ?_
         rintro e w5 ⟨rfl,rfl⟩
         go_wp2_with fail
         go_ret
         exact ⟨HX4R.out.trans_ HE2b.out,rfl,_,_,HGB2.out⟩
        ·have hst:=HSTEP.out
         rw [if_neg hbk] at hst
         have hst2:D = kidsNext (fun kid lo hi s=>v.look j kid (deep + 1) lo hi s) low high T (K2 + 1) R:=by rw [hst,HR.out]
         have HST2:=Lib.hid hst2
         have HR30:=Lib.hid (HREC.out wr.drew (Ext.refl No wr).drew)
         rw [show ((deep + 1:Nat):Int) = (deep:Int) + 1 from by omega] at HR30
         have hi6:bo + (K2 + 1) = bo + (K2 + 1):=rfl
         have hkz:K2 = 0 ∨ (K2 ≠ 0 ∧ inB low high lo = true):=by
          by_cases hz:K2 = 0
          ·exact .inl hz
          ·refine .inr ⟨hz,?_⟩
           cases hib:inB low high lo
           ·exact absurd ⟨hz,hib⟩ hbk
           ·rfl
         clear hst hst2 hbk HSTEP HREC hi6
         rcases hkz with hz | ⟨hz,hib⟩
         ·have hz1:¬ ((0:Int) < (K2:Int)):=by omega
          clear hz HINB
          go_wp2_with fail
          cases R with
          | none =>
           have hDn:D = none:=HST2.out
           subst hDn
           clear HST2 HR
           go_cut [23] (fun c23 wx=>c23 = .int .i64 5 ∧ Hid (Ext (On gs) wr wx) ∧ Hid (∃ p d:Int,Blk wx gs 118 #[.int .i64 p,.int .i64 d]))
           case first =>
            go_region_law ((go_simp;go_at_call 94;refine HR30.out.mono ?_;rintro e w9 ⟨hx9,rfl,hb9⟩;have HX9:=Lib.hid hx9;have HB9:=Lib.hid hb9;clear hx9 hb9))
            all_goals (
             go_wp2_with fail
             go_meet
             exact ⟨rfl,Lib.hid ((Ext.refl (On gs) wr).drew.trans_ HX9.out),HB9⟩)
           case rest =>
            obtain ⟨rfl,HX9,HB9⟩:=hcut
            go_wp2_with fail
            go_ret
            obtain ⟨pz,dz,hbz⟩:=HB9.out
            exact ⟨(HX4R.out.trans_ HE2b.out).trans_ HX9.out,rfl,pz,dz,hbz⟩
          | some st' =>
           obtain ⟨p9,d9⟩:=st'
           go_cut [23] (fun c23 wx=>c23 = .int .i64 0 ∧ Hid (Ext (On gs) wr wx) ∧ Hid (Blk wx gs 118 #[.int .i64 (p9:Int),.int .i64 (depV d9)]) ∧ Hid (p9 ≤ 80000))
           case first =>
            go_region_law ((go_simp;go_at_call 94;refine HR30.out.mono ?_;rintro e w9 ⟨hx9,rfl,hb9,hp9⟩;have HX9:=Lib.hid hx9;have HB9:=Lib.hid hb9;have HP9:=Lib.hid hp9;clear hx9 hb9 hp9))
            all_goals (
             go_wp2_with fail
             go_meet
             exact ⟨rfl,Lib.hid ((Ext.refl (On gs) wr).drew.trans_ HX9.out),HB9,HP9⟩)
           case rest =>
            obtain ⟨rfl,HX9,HB9,HP9⟩:=hcut
            go_wp2_with fail
            go_roundg (gk - 1)
            case rel=>exact ⟨K2 + 1,p9,d9,by have:=HKK.out;omega,by go_num,Lib.hid (HE2b.out.trans_ HX9.out),HB9.out,Lib.hid HST2.out.symm,HP9⟩
            case measure=>have:=HKK.out;omega
         ·have hz1:(0:Int) < (K2:Int):=by omega
          rw [hib] at HINB
          clear hz hib
          go_wp2_with fail
          refine HINB.out.mono ?_
          rintro e w5 ⟨rfl,rfl⟩
          go_wp2_with fail
          cases R with
          | none =>
           have hDn:D = none:=HST2.out
           subst hDn
           clear HST2 HR
           go_cut [23] (fun c23 wx=>c23 = .int .i64 5 ∧ Hid (Ext (On gs) wr wx) ∧ Hid (∃ p d:Int,Blk wx gs 118 #[.int .i64 p,.int .i64 d]))
           case first =>
            go_region_law ((go_simp;go_at_call 94;refine HR30.out.mono ?_;rintro e w9 ⟨hx9,rfl,hb9⟩;have HX9:=Lib.hid hx9;have HB9:=Lib.hid hb9;clear hx9 hb9))
            all_goals (
             go_wp2_with fail
             go_meet
             exact ⟨rfl,Lib.hid ((Ext.refl (On gs) wr).drew.trans_ HX9.out),HB9⟩)
           case rest =>
            obtain ⟨rfl,HX9,HB9⟩:=hcut
            go_wp2_with fail
            go_ret
            obtain ⟨pz,dz,hbz⟩:=HB9.out
            exact ⟨(HX4R.out.trans_ HE2b.out).trans_ HX9.out,rfl,pz,dz,hbz⟩
          | some st' =>
           obtain ⟨p9,d9⟩:=st'
           go_cut [23] (fun c23 wx=>c23 = .int .i64 0 ∧ Hid (Ext (On gs) wr wx) ∧ Hid (Blk wx gs 118 #[.int .i64 (p9:Int),.int .i64 (depV d9)]) ∧ Hid (p9 ≤ 80000))
           case first =>
            go_region_law ((go_simp;go_at_call 94;refine HR30.out.mono ?_;rintro e w9 ⟨hx9,rfl,hb9,hp9⟩;have HX9:=Lib.hid hx9;have HB9:=Lib.hid hb9;have HP9:=Lib.hid hp9;clear hx9 hb9 hp9))
            all_goals (
             go_wp2_with fail
             go_meet
             exact ⟨rfl,Lib.hid ((Ext.refl (On gs) wr).drew.trans_ HX9.out),HB9,HP9⟩)
           case rest =>
            obtain ⟨rfl,HX9,HB9,HP9⟩:=hcut
            go_wp2_with fail
            go_roundg (gk - 1)
            case rel=>exact ⟨K2 + 1,p9,d9,by have:=HKK.out;omega,by go_num,Lib.hid (HE2b.out.trans_ HX9.out),HB9.out,Lib.hid HST2.out.symm,HP9⟩
            case measure=>have:=HKK.out;omega
       ·have hK:K2 = n.kids.length:=by omega
        have hlen:T.length = n.kids.length:=by rw [HT.out];simp [HKK2.out]
        have hlk:=HLK2.out
        rw [List.drop_eq_nil_of_le (by omega),lookKids] at hlk
        subst hlk
        have hn1:¬ ((K2:Int) < (n.kids.length:Int)):=by omega
        obtain ⟨p0,p1,p2',p3,g0,g1,g2,g3,ln⟩:=(((HBN2.out.ext HE.out (HOFF.out _ (by omega))).ext HX4.out (fun h=>h)).ext HE2b.out (HOFF.out _ (by omega))).p4
        clear hlt hlen hK hgb2 hK2
        go_wp2_with fail
        go_ret
        exact ⟨HX4R.out.trans_ HE2b.out,rfl,HGB2.out,HP2.out⟩
theorem look_any (s:Sys) (hs:s.Ok) (wz:World) (v:V) (hz:TxAt wz s v) (hg:v.Good) (gx i:Nat) (hxz:Blk wz gx 70 (treeCells s i)) (gs:Nat) (hgs:wz.heap.size ≤ gs):∀ (k deep:Nat),k + deep = 42 → LookOk s v wz gx gs k deep
 | 0,deep,h=>look_step s hs wz v hz hg gx i hxz gs hgs 0 deep h (fun j hj=>by omega)
 | k + 1,deep,h=>look_step s hs wz v hz hg gx i hxz gs hgs (k + 1) deep h (fun j hj=>by
  have:j = k:=by omega
  subst this
  exact look_any s hs wz v hz hg gx i hxz gs hgs j (deep + 1) (by omega))
def SurvTold (w:World) (r:Option (Nat × Option Nat)) (e:Ending) (w':World):Prop :=
 Ext No w w' ∧ match r with
  | none=>∃ p d:Int,e = .returned (.tuple #[.agg #[.int .i64 p,.int .i64 d],.int .i64 5])
  | some (p,d)=>e = .returned (.tuple #[.agg #[.int .i64 (p:Int),.int .i64 (depV d)],.int .i64 0]) ∧ p ≤ 80000
theorem survey_some (s:Sys) (hs:s.Ok) (w:World) (v:V) (h:TxAt w s v) (hg:v.Good) (gx i:Nat) (hx:Blk w gx 70 (treeCells s i)) (hi:i < 4) (h0:v.r i ≠ 0) :
  Calls Tryz.prog 58 #[.pointer (some ⟨gx,0,none⟩)] w (SurvTold w (v.look 42 (v.r i) 0 [] [] (0,none))):=by
 have HN:=Lib.hid (fun w' (e:Ext No w w')=>none_no ⟨s.t,0,none⟩ (.int .i64 (i:Int)) gx w' (hx.ext e (fun h=>h)))
 have HA:=Lib.hid (fun w' (e:Ext No w w')=>alive_any s hs w' v (h.no hs e) gx i (hx.ext e (fun h=>h)))
 have HR:=Lib.hid (fun w' (e:Ext No w w')=>treeroot_any s hs w' v (h.no hs e) gx i (hx.ext e (fun h=>h)) hi)
 have HLK:=Lib.hid (fun w' (e:Ext No w w') (hsv:Blk w' (w.heap.size + 1) 118 #[.int .i64 0,.int .i64 (-1)])=>look_any s hs w v h hg gx i hx (w.heap.size + 1) (Nat.le_succ _) 42 0 rfl w' (v.r i) [] [] 0 none e hsv (by omega))
 have h0':((v.r i:Int) == 0) = false:=by simpa using (by omega:¬ (v.r i:Int) = 0)
 obtain ⟨R,hR⟩:∃ R,R = v.look 42 (v.r i) 0 [] [] (0,none):=⟨_,rfl⟩
 rw [← hR] at HLK ⊢
 obtain ⟨rt,hrt⟩:∃ rt,rt = v.r i:=⟨_,rfl⟩
 rw [← hrt] at HR HLK h0'
 clear h hg hx h0 hrt hR
 go_enter Tryz.func58,Tryz.ntmps58
 go_wp2_with fail
 have hE0:Ext No w ((w.alloc (.cells #[.int .i64 0,.int .i64 0] 118)).alloc (.cells #[.int .i64 0,.int .i64 (-1)] 118)):=((Ext.refl No w).alloc _).alloc _
 refine (HN.out _ (by (repeat' (first | exact Ext.refl _ _ | assumption | apply Ext.alloc | apply Ext.drewN | apply Ext.drew | refine Ext.setNew ?_ (by first | omega | (simp;omega) | simp) _ _ | refine Ext.setF ?_ (by first | exact Or.inl rfl | exact Or.inr rfl | rfl) _ _ | refine Ext.trans_ ?_ (by assumption) | refine Ext.trans_ ?_ (Ext.of_no (by assumption)))))).mono ?_
 rintro e w1 ⟨rfl,rfl⟩
 go_wp2_with fail
 refine (HA.out _ (by (repeat' (first | exact Ext.refl _ _ | assumption | apply Ext.alloc | apply Ext.drewN | apply Ext.drew | refine Ext.setNew ?_ (by first | omega | (simp;omega) | simp) _ _ | refine Ext.setF ?_ (by first | exact Or.inl rfl | exact Or.inr rfl | rfl) _ _ | refine Ext.trans_ ?_ (by assumption) | refine Ext.trans_ ?_ (Ext.of_no (by assumption)))))).mono ?_
 rintro e w2 ⟨rfl,hx2⟩
 have hE2:=hE0.trans_ hx2
 have ba:=((Blk.new w 118 #[.int .i64 0,.int .i64 0]).alloc (.cells #[.int .i64 0,.int .i64 (-1)] 118)).ext hx2 (fun h=>h)
 have bb:=(Blk.new_at (b:=w.heap.size + 1) (w.alloc (.cells #[.int .i64 0,.int .i64 0] 118)) 118 #[.int .i64 0,.int .i64 (-1)] (by simp)).ext hx2 (fun h=>h)
 have HE2:=Lib.hid hE2;have BA:=Lib.hid ba;have BB:=Lib.hid bb
 clear hE0 hx2 hE2 ba bb
 go_wp2_with fail
 refine (HR.out _ HE2.out).mono ?_
 rintro e w3 ⟨rfl,hx3⟩
 go_wp2_with fail
 refine (HR.out _ (HE2.out.trans_ hx3)).mono ?_
 rintro e w4 ⟨rfl,hx4⟩
 have hE4:=(HE2.out.trans_ hx3).trans_ hx4
 have bb4:=(BB.out.ext hx3 (fun h=>h)).ext hx4 (fun h=>h)
 have ba4:=(BA.out.ext hx3 (fun h=>h)).ext hx4 (fun h=>h)
 have HL:=Lib.hid (HLK.out w4 hE4 bb4)
 have HE4:=Lib.hid hE4;have BA4:=Lib.hid ba4
 clear hx3 hx4 hE4 bb4 ba4
 cases R with
 | none =>
  go_wp2_with fail
  refine (HL.out).mono ?_
  rintro e w5 ⟨hx5,rfl,pz,dz,bb5⟩
  have ba5:=BA4.out.ext hx5 (fun h=>by
   have h':w.heap.size = w.heap.size + 1:=h
   omega)
  have hE5:=HE4.out.on_new hx5 (Nat.le_succ _)
  have a0:=ba5.cell 0
  have a1:=ba5.cell 1
  have af:=ba5.frozen
  have al:=ba5.lt
  have b0:=bb5.cell 0
  have b1:=bb5.cell 1
  simp at a0 a1 b0 b1
  have BA5:=Lib.hid ba5;have HE5:=Lib.hid hE5
  clear bb5 hx5 ba5 hE5
  go_wp2_with fail
  exact survey_back w.heap.size _ ((BA5.out.set_ 0 (.int .i64 pz)).set_ 1 (.int .i64 dz)) rfl rfl rfl rfl ⟨(HE5.out.setNew (Nat.le_refl _) _ _).setNew (Nat.le_refl _) _ _,pz,dz,rfl⟩
 | some r =>
  obtain ⟨pz,dz⟩:=r
  go_wp2_with fail
  refine (HL.out).mono ?_
  rintro e w5 ⟨hx5,rfl,bb5,hpz⟩
  have ba5:=BA4.out.ext hx5 (fun h=>by
   have h':w.heap.size = w.heap.size + 1:=h
   omega)
  have hE5:=HE4.out.on_new hx5 (Nat.le_succ _)
  have a0:=ba5.cell 0
  have a1:=ba5.cell 1
  have af:=ba5.frozen
  have al:=ba5.lt
  have b0:=bb5.cell 0
  have b1:=bb5.cell 1
  simp at a0 a1 b0 b1
  have BA5:=Lib.hid ba5;have HE5:=Lib.hid hE5;have HPZ:=Lib.hid hpz
  clear bb5 hx5 ba5 hE5 hpz
  go_wp2_with fail
  exact survey_back w.heap.size _ ((BA5.out.set_ 0 (.int .i64 (pz:Int))).set_ 1 (.int .i64 (depV dz))) rfl rfl rfl rfl ⟨(HE5.out.setNew (Nat.le_refl _) _ _).setNew (Nat.le_refl _) _ _,rfl,HPZ.out⟩
theorem survey_any (s:Sys) (hs:s.Ok) (w:World) (v:V) (h:TxAt w s v) (hg:v.Good) (gx i:Nat) (hx:Blk w gx 70 (treeCells s i)) (hi:i < 4) :
  Calls Tryz.prog 58 #[.pointer (some ⟨gx,0,none⟩)] w (SurvTold w (v.survey i)):=by
 by_cases h0:v.r i = 0
 ·have e:v.survey i = some (0,none):=by unfold V.survey;rw [if_pos h0]
  rw [e]
  refine (survey_zero s hs w v h gx i hx hi h0).mono ?_
  rintro e w' ⟨he,hx'⟩
  exact ⟨hx',he,by omega⟩
 ·have e:v.survey i = v.look 42 (v.r i) 0 [] [] (0,none):=by unfold V.survey;rw [if_neg h0]
  rw [e]
  exact survey_some s hs w v h hg gx i hx hi h0
end Go.Proofs.YtccnemmlkcmceaaGreatDoor
