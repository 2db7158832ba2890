/- Proofs about the given program, joined out of the texts LA, LB, C7, CB, LP, BL, LN1, LN2, RA, RB, LH. -/
import Derived.Test.YtccnemmlkcmceaaGreatDoorHB18
import Derived.WalkSmall
import Derived.Deep.DeepCutAuto
import Derived.Test.YtccnemmlkcmceaaGreatDoorCards
import Derived.Test.YtccnemmlkcmceaaGreatDoorTie
import Derived.WalkKit
import Derived.ProofKit
import Derived.OpenShut
import Derived.Deep.DeepHandedRow
import Derived.Lib.LaidTab
import Derived.Lib.SmallJoins
import Derived.Deep.Slices
set_option linter.unusedVariables false
set_option linter.unusedSimpArgs false
set_option maxRecDepth 100000
set_option maxHeartbeats 6400000
namespace Go.Proofs.YtccnemmlkcmceaaGreatDoor
open Go.RowKit
def depV : Option Nat → Int
 | none => -1
 | some d => d
def LookTold (gs : Nat) (w : World) (r : Option (Nat × Option Nat)) (e : Ending) (w' : World) : Prop :=
 Ext (On gs) w w' ∧ match r with
  | none => e = .returned (.int .i64 5) ∧ ∃ p d : Int,Blk w' gs 118 #[.int .i64 p,.int .i64 d]
  | some (p,d) => e = .returned (.int .i64 0) ∧ Blk w' gs 118 #[.int .i64 (p : Int),.int .i64 (depV d)] ∧ p ≤ 80000
def LookOk (s : Sys) (v : V) (wz : World) (gx gs k deep : Nat) : Prop :=
 ∀ (w : World) (id : Nat) (low high : Bs) (p : Nat) (d : Option Nat),Ext No wz w → Blk w gs 118 #[.int .i64 (p : Int),.int .i64 (depV d)] → p ≤ 80000 →
  Calls Tryz.prog 94 #[.pointer (some ⟨gx,0,none⟩),.pointer (some ⟨gs,0,none⟩),.int .i64 (id : Int),.int .i64 (deep : Int),.string (str low),.string (str high)] w (LookTold gs w (v.look k id deep low high (p,d)))
theorem lookCells_step (v : V) (low high : Bs) (cs : List Cell) (K : Nat) (c : Cell) (p : Nat) (hc : cs[K]? = some c) :
  v.lookCells low high (cs.drop K) p = if inB low high c.key then (match v.value c with
  | none => none
  | some _ => v.lookCells low high (cs.drop (K + 1)) (if 0 < c.over then p + max 1 ((c.len + 495) / 496) else p)) else none := by
 have hl := (List.getElem?_eq_some_iff.1 hc).1
 have e : cs.drop K = c :: cs.drop (K + 1) := by
  rw [List.drop_eq_getElem_cons hl]
  congr 1
  exact (List.getElem?_eq_some_iff.1 hc).2
 rw [e,V.lookCells]
 split
 ·cases v.value c <;> rfl
 ·rfl
theorem look_pages (p len : Nat) (hp : p ≤ 80000) (hl : len ≤ 16384) : wrap64 ((p : Int) + max 1 (wrap64 ((wrap64 (wrap64 ((len : Int) + 496) - 1)).tdiv 496))) = ((p + max 1 ((len + 495) / 496) : Nat) : Int) := by
 have h1 : wrap64 ((len : Int) + 496) = (len : Int) + 496 := by unfold wrap64; omega
 have h2 : wrap64 ((len : Int) + 496 - 1) = (len : Int) + 495 := by unfold wrap64; omega
 rw [h1,h2]
 obtain ⟨q,hq⟩ : ∃ q,q = (len + 495) / 496 := ⟨_,rfl⟩
 have hq2 : q ≤ 34 := by omega
 have e0 : ((len : Int) + 495).tdiv 496 = (q : Int) := by rw [Int.tdiv_eq_ediv_of_nonneg (by omega),hq]; omega
 rw [e0,← hq]
 clear hq e0 h1 h2
 have h3 : wrap64 (q : Int) = (q : Int) := by unfold wrap64; omega
 rw [h3]
 have h4 : max 1 (q : Int) = ((max 1 q : Nat) : Int) := by omega
 rw [h4]
 obtain ⟨m,hm⟩ : ∃ m,m = max 1 q := ⟨_,rfl⟩
 have hm2 : m ≤ 34 := by omega
 rw [← hm]
 clear hm h4 h3
 unfold wrap64; omega
theorem look_b1 {p K : Nat} (h : p ≤ 65536 + 34 * K) (hk : K < 255) : p ≤ 80000 := by omega
theorem look_b2 {p K len : Nat} (h : p ≤ 65536 + 34 * K) (hl : len ≤ 16384) : p + max 1 ((len + 495) / 496) ≤ 65536 + 34 * (K + 1) := by omega
theorem look_b3 {K gk cl : Nat} (h : K + gk = cl) (hl : (K : Int) < (cl : Int)) : K + 1 + (gk - 1) = cl := by omega
def kidsNext (f : Nat → Bs → Bs → Nat × Option Nat → Option (Nat × Option Nat)) (low high : Bs) (T : List (Nat × Bs × Bs)) (K : Nat) : Option (Nat × Option Nat) → Option (Nat × Option Nat)
 | none => none
 | some st => lookKids f low high (decide (K = 0)) (T.drop K) st
theorem lookKids_step (f : Nat → Bs → Bs → Nat × Option Nat → Option (Nat × Option Nat)) (low high : Bs) (T : List (Nat × Bs × Bs)) (K : Nat) (kid : Nat) (lo hi : Bs) (st : Nat × Option Nat) (h : T[K]? = some (kid,lo,hi)) :
  lookKids f low high (decide (K = 0)) (T.drop K) st = if K ≠ 0 ∧ inB low high lo = false then none else kidsNext f low high T (K + 1) (f kid lo hi st) := by
 have hl := (List.getElem?_eq_some_iff.1 h).1
 have e : T.drop K = (kid,lo,hi) :: T.drop (K + 1) := by
  rw [List.drop_eq_getElem_cons hl]
  congr 1
  exact (List.getElem?_eq_some_iff.1 h).2
 rw [e,lookKids]
 by_cases hK : K = 0
 ·subst hK
  simp
  cases f kid lo hi st <;> simp [kidsNext]
 ·simp [hK]
  split
  ·rfl
  ·cases f kid lo hi st <;> simp [kidsNext]
theorem trip_at {kids : List Nat} {keys : List Bs} {low high : Bs} (h : kids.length = keys.length + 1) {K : Nat} (hK : K < kids.length) :
  ∃ kid lo hi,kids[K]? = some kid ∧ (low :: keys ++ [high])[K]? = some lo ∧ (low :: keys ++ [high])[K + 1]? = some hi ∧ (kids.zip ((low :: keys).zip (keys ++ [high])))[K]? = some (kid,lo,hi) := by
 have h1 : K < (low :: keys).length := by simp; omega
 have h2 : K < (keys ++ [high]).length := by simp; omega
 refine ⟨kids[K],(low :: keys)[K],(keys ++ [high])[K],List.getElem?_eq_getElem hK,?_,?_,?_⟩
 ·rw [List.getElem?_append_left h1]; exact List.getElem?_eq_getElem h1
 ·rw [List.cons_append,List.getElem?_cons_succ]; exact List.getElem?_eq_getElem h2
 ·rw [List.getElem?_zip_eq_some]
  refine ⟨List.getElem?_eq_getElem hK,?_⟩
  rw [List.getElem?_zip_eq_some]
  exact ⟨List.getElem?_eq_getElem h1,List.getElem?_eq_getElem h2⟩
theorem look_step (s : Sys) (hs : s.Ok) (wz : World) (v : V) (hz : TxAt wz s v) (hg : v.Good) (gx i : Nat) (hxz : Blk wz gx 70 (treeCells s i)) (gs : Nat) (hgs : wz.heap.size ≤ gs) (k deep : Nat) (hkd : k + deep = 42)
  (IH : ∀ j,k = j + 1 → LookOk s v wz gx gs j (deep + 1)) : LookOk s v wz gx gs k deep := by
 intro w id low high p d hez hsv hp
 have h := hz.no hs hez
 have hx := hxz.ext hez (fun h => h)
 have HN := Lib.hid (fun w' (e : Ext No w w') => node_any s hs w' v (h.no hs e) hg gx i (hx.ext e (fun h => h)) id)
 have HIN := Lib.hid (fun k w bl bh h1 h2 => in_any k low high w bl bh h1 h2)
 have HIH := Lib.hid IH
 have HKD := Lib.hid hkd
 have HSV := Lib.hid hsv
 have HZ := Lib.hid hez
 have HGS := Lib.hid hgs
 have HP := Lib.hid hp
 have gold : gs < w.heap.size := hsv.lt
 have hd40 : deep ≤ 42 := by omega
 obtain ⟨D,hD⟩ : ∃ D,D = v.look k id deep low high (p,d) := ⟨_,rfl⟩
 rw [← hD]
 have HD := Lib.hid hD
 have HTX : Hid (∀ wr,Ext No wz wr → TxAt wr s v ∧ Blk wr gx 70 (treeCells s i)) := Lib.hid (fun wr e => ⟨hz.no hs e,hxz.ext e (fun h => h)⟩)
 have HOKN := Lib.hid (fun n (hn : v.node id = some n) => V.node_ok hn)
 clear h hx hz hxz hez hsv IH hkd hgs hD hp hd40
 cases hn : v.node id with
 | none =>
  have hDn : D = none := by
   rw [HD.out]
   cases k with
   | zero => rfl
   | succ k => rw [V.look,hn]
  subst hDn
  rw [hn] at HN
  clear HD hn HIH HKD
  go_enter Tryz.func94,Tryz.ntmps94
  go_wp2_with fail
  refine (HN.out _ (by (repeat' (first | exact Ext.refl _ _ | assumption | apply Ext.alloc | apply Ext.drewN | apply Ext.drew | refine Ext.setNew ?_ (by first | omega | (simp; omega) | simp) _ _ | refine Ext.setF ?_ (by first | exact Or.inl rfl | exact Or.inr rfl | rfl) _ _ | refine Ext.trans_ ?_ (by assumption) | refine Ext.trans_ ?_ (Ext.of_no (by assumption)))))).mono ?_
  rintro e w1 ⟨hx1,rfl⟩
  have hE1 : Ext No w w1 := (((Ext.refl No w).alloc _).alloc _).trans_ hx1
  have HE1 := Lib.hid hE1
  clear hx1 hE1
  simp only [Nd.zero]
  go_wp2_with fail
  go_ret
  have hE2 : Ext No w (w1.alloc (.cells #[.bool false,.slice none 0 0,.slice none 0 0,.slice none 0 0] 40)) := HE1.out.alloc _
  exact ⟨hE2.of_no,rfl,_,_,HSV.out.ext hE2 (fun h => h)⟩
 | some n =>
  have hok := HOKN.out n hn
  have HOK := Lib.hid hok
  have hb255 := (Nd.Ok.of hok).a1
  have HNN := Lib.hid hn
  rw [hn] at HN
  clear hok hn HOKN
  by_cases hstop : 40 < deep ∨ 65536 < p + 1
  ·have hDn : D = none := by
    rw [HD.out]
    cases k with
    | zero => rfl
    | succ k => rw [V.look,HNN.out]; simp only; rw [if_pos hstop]
   subst hDn
   have hb : (decide ((40 : Int) < (deep : Int)) || decide ((65536 : Int) < (p : Int) + 1)) = true := by
    rcases hstop with h | h
    ·simp; omega
    ·simp; omega
   clear hstop HD HIH
   go_enter Tryz.func94,Tryz.ntmps94
   go_wp2_with fail
   refine (HN.out _ (by (repeat' (first | exact Ext.refl _ _ | assumption | apply Ext.alloc | apply Ext.drewN | apply Ext.drew | refine Ext.setNew ?_ (by first | omega | (simp; omega) | simp) _ _ | refine Ext.setF ?_ (by first | exact Or.inl rfl | exact Or.inr rfl | rfl) _ _ | refine Ext.trans_ ?_ (by assumption) | refine Ext.trans_ ?_ (Ext.of_no (by assumption)))))).mono ?_
   rintro e w1 ⟨hx1,A1,c1,A2,c2,A3,c3,rfl,hnode⟩
   have hE1 : Ext No w w1 := (((Ext.refl No w).alloc _).alloc _).trans_ hx1
   have hsv1 := HSV.out.ext hE1 (fun h => h)
   have s0 := hsv1.cell 0
   have sf := hsv1.frozen
   have sl := hsv1.lt
   simp at s0
   have HE1 := Lib.hid hE1
   have HSV1 := Lib.hid hsv1
   have hpw : IntKind.i64.wrap ((p : Int) + 1) = (p : Int) + 1 := IntWalk.i64_in _ (by have := HP.out; omega)
   clear hE1 hsv1 hx1 hnode
   simp only [Nd.value]
   by_cases h40 : 40 < deep
   ·have hi1 : (40 : Int) < (deep : Int) := by omega
    go_wp2_with fail
    go_ret
    have hE2 := (HE1.out.of_no.setF (F := On gs) (b := gs) rfl 0 (.int .i64 ((p : Int) + 1))).alloc (.cells #[.bool n.leaf,.slice A1 n.cells.length c1,.slice A2 n.keys.length c2,.slice A3 n.kids.length c3] 40)
    exact ⟨hE2,rfl,_,_,(HSV1.out.set_ 0 _).alloc _⟩
   ·have hi1 : ¬ ((40 : Int) < (deep : Int)) := by omega
    have hi2 : (65536 : Int) < (p : Int) + 1 := by simp at hb; omega
    go_wp2_with fail
    go_ret
    have hE2 := (HE1.out.of_no.setF (F := On gs) (b := gs) rfl 0 (.int .i64 ((p : Int) + 1))).alloc (.cells #[.bool n.leaf,.slice A1 n.cells.length c1,.slice A2 n.keys.length c2,.slice A3 n.kids.length c3] 40)
    exact ⟨hE2,rfl,_,_,(HSV1.out.set_ 0 _).alloc _⟩
  ·obtain ⟨j,hj⟩ : ∃ j,k = j + 1 := ⟨k - 1,by have := HKD.out; omega⟩
   have HIHJ := Lib.hid (HIH.out j hj)
   have hdd := HD.out
   rw [hj,V.look,HNN.out] at hdd
   simp only at hdd
   rw [if_neg hstop] at hdd
   obtain ⟨LC,hLC⟩ : ∃ LC,LC = v.lookCells low high n.cells (p + 1) := ⟨_,rfl⟩
   rw [← hLC] at hdd
   have HLC := Lib.hid hLC
   have HD1 := Lib.hid hdd
   have HDN := Lib.hid (show LC = none → D = none from fun h => by rw [HD1.out,h])
   have hi1 : decide ((40 : Int) < (deep : Int)) = false := by simp; omega
   have hi2 : decide ((65536 : Int) < (p : Int) + 1) = false := by simp; omega
   have HPB := Lib.hid (show p + 1 ≤ 65536 by omega)
   have HDP := Lib.hid (show deep ≤ 40 by omega)
   clear hdd hLC hstop hj HIH HD
   go_enter Tryz.func94,Tryz.ntmps94
   go_wp2_with fail
   refine (HN.out _ (by (repeat' (first | exact Ext.refl _ _ | assumption | apply Ext.alloc | apply Ext.drewN | apply Ext.drew | refine Ext.setNew ?_ (by first | omega | (simp; omega) | simp) _ _ | refine Ext.setF ?_ (by first | exact Or.inl rfl | exact Or.inr rfl | rfl) _ _ | refine Ext.trans_ ?_ (by assumption) | refine Ext.trans_ ?_ (Ext.of_no (by assumption)))))).mono ?_
   rintro e w1 ⟨hx1,A1,c1,A2,c2,A3,c3,rfl,hnode⟩
   have hE1 : Ext No w w1 := (((Ext.refl No w).alloc _).alloc _).trans_ hx1
   have hsv1 := HSV.out.ext hE1 (fun h => h)
   have s0 := hsv1.cell 0
   have sf := hsv1.frozen
   have sl := hsv1.lt
   simp at s0
   have hlow1 := ((Blk.new w 9 #[.string (str low)]).alloc (.cells #[.string (str high)] 9)).ext hx1 (fun h => h)
   have hhigh1 := (Blk.new_at (b := w.heap.size + 1) (w.alloc (.cells #[.string (str low)] 9)) 9 #[.string (str high)] (by simp)).ext hx1 (fun h => h)
   have HE1 := Lib.hid hE1
   have HSV1 := Lib.hid hsv1; have HL1 := Lib.hid hlow1; have HH1 := Lib.hid hhigh1; have HNO1 := Lib.hid hnode
   have hpw : IntKind.i64.wrap ((p : Int) + 1) = (p : Int) + 1 := IntWalk.i64_in _ (by have := HP.out; omega)
   clear hE1 hsv1 hx1 hnode hlow1 hhigh1
   simp only [Nd.value]
   go_wp2_with fail
   obtain ⟨W2,hW2⟩ : ∃ W2,W2 = ((w1.setCell ⟨gs,0,none⟩ (.int .i64 ((p : Int) + 1))).alloc (.cells #[.bool n.leaf,.slice A1 n.cells.length c1,.slice A2 n.keys.length c2,.slice A3 n.kids.length c3] 40)) := ⟨_,rfl⟩
   have hE12 : Ext (On gs) w1 W2 := by rw [hW2]; exact ((Ext.refl (On gs) w1).setF (b := gs) rfl _ _).alloc _
   have hb2 : Blk W2 gs 118 #[.int .i64 ((p : Int) + 1),.int .i64 (depV d)] := by rw [hW2]; exact (HSV1.out.set_ 0 _).alloc _
   have hws : (w1.setCell ⟨gs,0,none⟩ (.int .i64 ((p : Int) + 1))).heap.size = w1.heap.size := by simp [World.setCell]
   have hbn2 : Blk W2 w1.heap.size 40 #[.bool n.leaf,.slice A1 n.cells.length c1,.slice A2 n.keys.length c2,.slice A3 n.kids.length c3] := by rw [hW2]; exact Blk.new_at (b := w1.heap.size) _ 40 _ hws
   have hw1 := HE1.out.size
   have hoff : ∀ b,w.heap.size ≤ b → ¬ On gs b := fun b hb e => by have e' : b = gs := e; omega
   have hl2 := HL1.out.ext hE12 (hoff _ (Nat.le_refl _))
   have hh2 := HH1.out.ext hE12 (hoff _ (Nat.le_succ _))
   have hno2 : NodeAt W2 (On gs) A1 c1 A2 c2 A3 c3 n := (HNO1.out.mono (G := On gs) (fun b _ hb => by
    have e' : b = gs := hb
    show b < _
    simp
    omega)).ext hE12
   have HB2 := Lib.hid hb2; have HBN2 := Lib.hid hbn2; have HL2 := Lib.hid hl2; have HH2 := Lib.hid hh2; have HNO2 := Lib.hid hno2
   have HE2 := Lib.hid (HE1.out.of_no.trans_ hE12)
   have HZ2 := Lib.hid ((HZ.out.trans_ HE1.out).on_new hE12 HGS.out)
   have HOFF := Lib.hid hoff
   have hw1s : w.heap.size + 2 ≤ w1.heap.size := HH1.out.lt
   rw [← hW2]
   clear hW2 hE12 hb2 hbn2 hl2 hh2 hno2 hws s0 sf sl
   go_loopg [53] n.cells.length (fun gk kv wr => ∃ (K p' : Nat),K + gk = n.cells.length ∧ kv = .int .i64 (K : Int) ∧ Hid (Ext (On gs) W2 wr) ∧ Blk wr gs 118 #[.int .i64 (p' : Int),.int .i64 (depV d)] ∧ Hid (v.lookCells low high (n.cells.drop K) p' = LC) ∧ Hid (p' ≤ 65536 + 34 * K))
   case atStart => exact ⟨0,p + 1,by omega,rfl,Lib.hid (Ext.refl _ _),by rw [show ((p + 1 : Nat) : Int) = (p : Int) + 1 from by omega]; exact HB2.out,Lib.hid (by rw [HLC.out]; rfl),Lib.hid (by have := HPB.out; omega)⟩
   case round =>
    obtain ⟨K,p',hK,rfl,HE,hgb,HLK,HPK⟩ := hrel
    clear HB2
    have HWZ := Lib.hid (HZ2.out.on_new HE.out HGS.out)
    have HGB := Lib.hid hgb
    have lo := (HL2.out.ext HE.out (HOFF.out _ (Nat.le_refl _))).cell 0
    have hi := (HH2.out.ext HE.out (HOFF.out _ (Nat.le_succ _))).cell 0
    obtain ⟨p0,p1,p2,p3,g0,g1,g2,g3,ln⟩ := (HBN2.out.ext HE.out (HOFF.out _ (by omega))).p4
    have hl0 := World.block_lt_of_cell? wr _ lo
    have hh0 := World.block_lt_of_cell? wr _ hi
    simp at lo hi hl0 hh0
    have HKK := Lib.hid hK
    by_cases hlt : K < n.cells.length
    ·obtain ⟨c,hc⟩ : ∃ c,n.cells[K]? = some c := ⟨_,List.getElem?_eq_getElem hlt⟩
     obtain ⟨cb,co,hA1,hcF,k0,k1,k2,k3⟩ := (HNO2.out.ext HE.out).cells.cellAt hc
     have lc := World.block_lt_of_cell? wr _ k0
     simp only at lc
     subst hA1
     have hcl1 := HNO2.out.l1
     have hlt' : (K : Int) < (n.cells.length : Int) := by omega
     have hcok := (Nd.Ok.of HOK.out).c c (List.mem_of_getElem? hc)
     have hcb := Cell.ok_bounds hcok
     have HVC := Lib.hid (fun w' (e : Ext No wr w') => value_any' s hs v hg c (Nd.Ok.fits (Nd.Ok.of HOK.out) |>.c c (List.mem_of_getElem? hc)) w' gx i (HTX.out w' (HWZ.out.trans_ e)).1 (HTX.out w' (HWZ.out.trans_ e)).2)
     have hstep := lookCells_step v low high n.cells K c p' hc
     rw [HLK.out] at hstep
     have HSTEP := Lib.hid hstep
     have HCB := Lib.hid hcb
     clear hK hc hstep hcok hcb hcF hgb
     generalize n.cells.length = cl at *
     simp only [Cell.agg] at HVC
     have HIN1 := Lib.hid (HIN.out c.key _ w.heap.size (w.heap.size + 1) (((HL2.out.ext HE.out (HOFF.out _ (Nat.le_refl _))).alloc (.cells #[.string (str c.key),.string (str c.val),.int .i64 (c.over : Int),.int .i64 (c.len : Int)] 45)).cell 0) (((HH2.out.ext HE.out (HOFF.out _ (Nat.le_succ _))).alloc _).cell 0))
     go_wp2_with fail
     refine HIN1.out.mono ?_
     rintro e w5 ⟨rfl,rfl⟩
     have hEc : Ext No wr (wr.alloc (.cells #[.string (str c.key),.string (str c.val),.int .i64 (c.over : Int),.int .i64 (c.len : Int)] 45)) := (Ext.refl No wr).alloc _
     cases hib : inB low high c.key with
     | false =>
      have hDn := HDN.out (by rw [HSTEP.out,hib]; rfl)
      subst hDn
      clear hib
      go_wp2_with fail
      go_ret
      exact ⟨(HE2.out.trans_ HE.out).trans_ hEc.of_no,rfl,_,_,HGB.out.ext hEc (fun h => h)⟩
     | true =>
      have hst := HSTEP.out
      rw [hib,if_pos rfl] at hst
      have HST := Lib.hid hst
      have HEC := Lib.hid hEc
      clear hib hst hEc HSTEP
      cases hvc : v.value c with
      | none =>
       rw [hvc] at HVC
       have hDn := HDN.out (by rw [HST.out,hvc])
       subst hDn
       simp only [valOut] at HVC
       clear hvc
       go_wp2_with fail
       refine (HVC.out _ HEC.out).mono ?_
       rintro e w6 ⟨rfl,hx6⟩
       have hE6 := HEC.out.trans_ hx6
       clear hx6
       go_wp2_with fail
       go_ret
       exact ⟨(HE2.out.trans_ HE.out).trans_ hE6.of_no,rfl,_,_,HGB.out.ext hE6 (fun h => h)⟩
      | some bv =>
       rw [hvc] at HVC
       have hst := HST.out
       rw [hvc] at hst
       simp only at hst
       have HST1 := Lib.hid hst
       simp only [valOut] at HVC
       clear hvc hst HST
       go_wp2_with fail
       refine (HVC.out _ HEC.out).mono ?_
       rintro e w6 ⟨rfl,hx6⟩
       have hbx := (Blk.new wr 45 #[.string (str c.key),.string (str c.val),.int .i64 (c.over : Int),.int .i64 (c.len : Int)]).ext hx6 (fun h => h)
       have HE6 := Lib.hid (HEC.out.trans_ hx6)
       have hgb6 := HGB.out.ext (HEC.out.trans_ hx6) (fun h => h)
       have HGB6 := Lib.hid hgb6
       obtain ⟨z0,z1,z2,z3,y0,y1,y2,y3,lz⟩ := hbx.p4
       have s0 := hgb6.cell 0
       have sf := hgb6.frozen
       have sl := hgb6.lt
       simp at s0
       clear hbx hx6 hgb6 k0 k1 k2 k3 lo hi p0 p1 p2 p3 g0 g1 g2 g3 ln hl0 hh0 lc
       by_cases hov : 0 < c.over
       ·have hov' : (0 : Int) < (c.over : Int) := by omega
        have hgw : gs ≠ wr.heap.size := by have h1 := HGB.out.lt; omega
        go_wp2_with fail
        go_region
        all_goals (
         go_wp2_with fail
         go_roundg (gk - 1)
         case rel =>
          have h1 := HST1.out
          rw [if_pos hov] at h1
          have hpk := HPK.out
          have hcl := HCB.out.2.2.2.1
          have hcl5 : K < 255 := by have h2 := hlt'; have h3 := hb255; omega
          have e1 := look_pages p' c.len (look_b1 hpk hcl5) hcl
          exact ⟨K + 1,p' + max 1 ((c.len + 495) / 496),look_b3 HKK.out hlt',by go_num,Lib.hid ((HE.out.trans_ HE6.out.of_no).setF (F := On gs) (b := gs) rfl 0 _).drew,by rw [← e1]; exact (HGB6.out.set_ 0 _).drew1,Lib.hid h1.symm,Lib.hid (look_b2 hpk hcl)⟩
         case measure => have := HKK.out; omega)
       ·have hov' : ¬ ((0 : Int) < (c.over : Int)) := by omega
        go_wp2_with fail
        go_roundg (gk - 1)
        case rel =>
         have h1 := HST1.out
         rw [if_neg hov] at h1
         refine ⟨K + 1,p',by have := HKK.out; omega,by go_num,Lib.hid (HE.out.trans_ HE6.out.of_no),HGB6.out,Lib.hid h1.symm,Lib.hid (by have := HPK.out; omega)⟩
        case measure => have := HKK.out; omega
    ·have hK' : K = n.cells.length := by omega
     have hlk := HLK.out
     rw [List.drop_eq_nil_of_le (by omega),V.lookCells] at hlk
     have hd1 := HD1.out
     rw [← hlk] at hd1
     simp only at hd1
     have hpk := HPK.out
     have HPF := Lib.hid (show p' ≤ 74300 by omega)
     have s1 := hgb.cell 1
     have sf := hgb.frozen
     have sl := hgb.lt
     simp at s1
     have hnl : ¬ ((K : Int) < (n.cells.length : Int)) := by omega
     clear hlt hK hlk hpk hgb HLK HLC HD1 HDN
     cases hlf : n.leaf with
     | true =>
      rw [hlf] at hd1 p0
      simp only [if_true] at hd1
      have HD2 := Lib.hid hd1
      have HLF := Lib.hid hlf
      clear hd1 hlf
      by_cases hbad : (d.isSome = true ∧ d ≠ some deep) ∨ n.cells.length = 0
      ·have hDn : D = none := by rw [HD2.out,if_pos hbad]
       subst hDn
       have HXR := Lib.hid (HE2.out.trans_ HE.out)
       cases d with
       | none =>
        have hz0 : (n.cells.length : Int) = 0 := by
         rcases hbad with ⟨h,_⟩ | h
         ·cases h
         ·omega
        simp only [depV] at s1
        clear hbad HD2 hnl
        go_wp2_with fail
        go_ret
        exact ⟨HXR.out,rfl,_,_,HGB.out⟩
       | some d0 =>
        simp only [depV] at s1
        by_cases hdd : d0 = deep
        ·have hz0 : (n.cells.length : Int) = 0 := by
          rcases hbad with ⟨_,h⟩ | h
          ·exact absurd (by rw [hdd]) h
          ·omega
         subst hdd
         clear hbad HD2 hnl
         go_wp2_with fail
         go_ret
         exact ⟨HXR.out,rfl,_,_,HGB.out⟩
        ·have hne : ((d0 : Int) != (deep : Int)) = true := by simpa using (by omega : ¬ (d0 : Int) = deep)
         have hne2 : ¬ ((d0 : Int) = (deep : Int)) := by omega
         clear hbad HD2 hnl hdd
         go_wp2_with fail
         go_ret
         exact ⟨HXR.out,rfl,_,_,HGB.out⟩
      ·have hDn : D = some (p',some deep) := by rw [HD2.out,if_neg hbad]
       subst hDn
       have hpos : ¬ ((n.cells.length : Int) = 0) := fun h => hbad (.inr (by omega))
       have HXR := Lib.hid ((HE2.out.trans_ HE.out).setF (F := On gs) (b := gs) rfl 1 (.int .i64 (deep : Int)))
       have HPZ := Lib.hid (show p' ≤ 80000 by have := HPF.out; omega)
       cases d with
       | none =>
        simp only [depV] at s1
        clear hbad HD2
        go_wp2_with fail
        go_ret
        exact ⟨HXR.out,rfl,HGB.out.set_ 1 _,HPZ.out⟩
       | some d0 =>
        have hdd : d0 = deep := by
         rcases Nat.lt_trichotomy d0 deep with h | h | h
         ·exact absurd (.inl ⟨rfl,by simp; omega⟩) hbad
         ·exact h
         ·exact absurd (.inl ⟨rfl,by simp; omega⟩) hbad
        subst hdd
        simp only [depV] at s1
        clear hbad HD2
        go_wp2_with fail
        go_ret
        exact ⟨HXR.out,rfl,HGB.out.set_ 1 _,HPZ.out⟩
     | false =>
      rw [hlf] at hd1 p0
      simp only [Bool.false_eq_true,if_false] at hd1
      have hO := Nd.Ok.of HOK.out
      have hkk := (hO.br hlf).2
      have ha2 := hO.a2
      have HKK2 := Lib.hid hkk
      have HD2 := Lib.hid hd1
      have HXR := Lib.hid (HE2.out.trans_ HE.out)
      have hno := HNO2.out.ext HE.out
      have HNO := Lib.hid hno
      obtain ⟨W,hW⟩ : ∃ W,W = (((wr.alloc (.cells #[.string (str low)] 9)).alloc (.cells #[.string (str high)] 9)).alloc (.cells #[.slice (some ⟨wr.heap.size,0,none⟩) 1 1,.slice A2 n.keys.length c2,.slice (some ⟨wr.heap.size + 1,0,none⟩) 1 1] 38)) := ⟨_,rfl⟩
      have hEW : Ext No wr W := by rw [hW]; exact (((Ext.refl No wr).alloc _).alloc _).alloc _
      have hlb : Blk W wr.heap.size 9 #[.string (str low)] := by rw [hW]; exact ((Blk.new wr 9 _).alloc _).alloc _
      have hhb : Blk W (wr.heap.size + 1) 9 #[.string (str high)] := by rw [hW]; exact (Blk.new_at (b := wr.heap.size + 1) (wr.alloc _) 9 _ (by simp)).alloc _
      have hpb : Blk W (wr.heap.size + 2) 38 #[.slice (some ⟨wr.heap.size,0,none⟩) 1 1,.slice A2 n.keys.length c2,.slice (some ⟨wr.heap.size + 1,0,none⟩) 1 1] := by rw [hW]; exact Blk.new_at (b := wr.heap.size + 2) _ 38 _ (by simp)
      have hq1 : Part.Ok W 1 ⟨some ⟨wr.heap.size,0,none⟩,1,1,[.string (str low)]⟩ := ⟨⟨rfl,fun _ => ⟨_,_,rfl,(fun h => h),fun j u hu => by rw [Nat.zero_add,hlb.cell j]; simpa using hu⟩⟩,(fun h => by cases h),(fun u hu => by simp at hu; subst hu; rfl),Nat.le_refl _⟩
      have hq3 : Part.Ok W 1 ⟨some ⟨wr.heap.size + 1,0,none⟩,1,1,[.string (str high)]⟩ := ⟨⟨rfl,fun _ => ⟨_,_,rfl,(fun h => h),fun j u hu => by rw [Nat.zero_add,hhb.cell j]; simpa using hu⟩⟩,(fun h => by cases h),(fun u hu => by simp at hu; subst hu; rfl),Nat.le_refl _⟩
      have hq2 : Part.Ok W 1 ⟨A2,n.keys.length,c2,keyVals n.keys⟩ := ⟨(hno.keys.mono (G := No) (by omega) (fun _ _ h => h.elim)).ext hEW,hno.e2,one_keys _,hno.l2⟩
      have HCC := Lib.hid (concat_strings [⟨some ⟨wr.heap.size,0,none⟩,1,1,[.string (str low)]⟩,⟨A2,n.keys.length,c2,keyVals n.keys⟩,⟨some ⟨wr.heap.size + 1,0,none⟩,1,1,[.string (str high)]⟩] (wr.heap.size + 2) 3 3 W rfl
       (by intro q hq; simp at hq; rcases hq with rfl | rfl | rfl; exact hq1; exact hq2; exact hq3) (by simp [total]; omega) (by omega) (by omega)
       (by
         intro j q hj; match j,hj with
         | 0,hj => simp at hj; subst hj; exact hpb.cell 0
         | 1,hj => simp at hj; subst hj; exact hpb.cell 1
         | 2,hj => simp at hj; subst hj; exact hpb.cell 2
         | j + 3,hj => simp at hj))
      have e1 : joined [⟨some ⟨wr.heap.size,0,none⟩,1,1,[.string (str low)]⟩,⟨A2,n.keys.length,c2,keyVals n.keys⟩,⟨some ⟨wr.heap.size + 1,0,none⟩,1,1,[.string (str high)]⟩] = keyVals (low :: n.keys ++ [high]) := by simp [joined,keyVals]
      have e2 : total [⟨some ⟨wr.heap.size,0,none⟩,1,1,[.string (str low)]⟩,⟨A2,n.keys.length,c2,keyVals n.keys⟩,⟨some ⟨wr.heap.size + 1,0,none⟩,1,1,[.string (str high)]⟩] = n.keys.length + 2 := by simp [total]; omega
      rw [e1,e2] at HCC
      have HEW := Lib.hid hEW
      have hk256 : n.kids.length ≤ 256 := by omega
      clear hd1 hO hkk hlb hhb hpb hq1 hq2 hq3 e1 e2 hEW hno ha2
      go_wp2_with fail
      rw [← hW]
      refine HCC.out.mono ?_
      rintro e w4 ⟨BA,bc,rfl,hown,hx4⟩
      have HOW := Lib.hid hown
      have HX4 := Lib.hid (HEW.out.trans_ hx4)
      obtain ⟨q0,q1,q2,q3,x0,x1,x2,x3,lx⟩ := ((HBN2.out.ext HE.out (HOFF.out _ (by omega))).ext (HEW.out.trans_ hx4) (fun h => h)).p4
      clear hown hx4 p0 p1 p2 p3 g0 g1 g2 g3 ln s1 sf sl lo hi hl0 hh0 HCC hW
      go_wp2_with fail
      have HRD : Hid (Rd w4 (On gs) 1 BA (low :: n.keys ++ [high]).length (keyVals (low :: n.keys ++ [high]))) := Lib.hid (by
       have h1 := Rd.own_lo HOW.out (by omega)
       have h2 : (low :: n.keys ++ [high]).length = n.keys.length + 2 := by simp
       rw [h2]
       exact h1.mono (by omega) (fun b _ hb => by
        have e' : b = gs := hb
        have h3 := HEW.out.size
        have h4 := HGB.out.lt
        show b < _
        omega))
      have HLB : Hid ((low :: n.keys ++ [high]).length = n.keys.length + 2) := Lib.hid (by simp)
      have HBC := Lib.hid (own_cap HOW.out)
      have HNO4 := Lib.hid (HNO.out.ext HX4.out.of_no)
      have HGB4 := Lib.hid (HGB.out.ext HX4.out (fun h => h))
      have HX4R := Lib.hid (HXR.out.trans_ HX4.out.of_no)
      have HWZ4 := Lib.hid (HWZ.out.trans_ HX4.out)
      have HL4 := Lib.hid ((HL2.out.ext HE.out (HOFF.out _ (Nat.le_refl _))).ext HX4.out (fun h => h))
      have HH4 := Lib.hid ((HH2.out.ext HE.out (HOFF.out _ (Nat.le_succ _))).ext HX4.out (fun h => h))
      have HPZ := Lib.hid (show p' ≤ 80000 by have := HPF.out; omega)
      obtain ⟨T,hT⟩ : ∃ T,T = n.kids.zip ((low :: n.keys).zip (n.keys ++ [high])) := ⟨_,rfl⟩
      have HT := Lib.hid hT
      have hd2 := HD2.out
      rw [← hT] at hd2
      have HD3 := Lib.hid hd2.symm
      clear hT hd2 q0 q1 q2 q3 x0 x1 x2 x3 lx HD2 HKK
      go_loopg [124] n.kids.length (fun gk kv wr2 => ∃ (K2 p2 : Nat) (d2 : Option Nat),K2 + gk = n.kids.length ∧ kv = .int .i64 (K2 : Int) ∧ Hid (Ext (On gs) w4 wr2) ∧ Blk wr2 gs 118 #[.int .i64 (p2 : Int),.int .i64 (depV d2)] ∧
       Hid (lookKids (fun kid lo hi s => v.look j kid (deep + 1) lo hi s) low high (decide (K2 = 0)) (T.drop K2) (p2,d2) = D) ∧ Hid (p2 ≤ 80000))
      case atStart => exact ⟨0,p',d,by omega,rfl,Lib.hid (Ext.refl _ _),HGB4.out,HD3,HPZ⟩
      case round =>
       obtain ⟨K2,p2,d2,hK2,rfl,HE2b,hgb2,HLK2,HP2⟩ := hrel
       have HGB2 := Lib.hid hgb2
       have HKK := Lib.hid hK2
       by_cases hlt : K2 < n.kids.length
       ·obtain ⟨kid,lo,hi,t1,t2,t3,t4⟩ := trip_at (low := low) (high := high) HKK2.out hlt
        rw [← HT.out] at t4
        have hstep := lookKids_step (fun kid lo hi s => v.look j kid (deep + 1) lo hi s) low high T K2 kid lo hi (p2,d2) t4
        rw [HLK2.out] at hstep
        have HSTEP := Lib.hid hstep
        obtain ⟨kb,ko,hA3,_,c3k⟩ := (HNO4.out.ext HE2b.out).kids.kidAt t1
        subst hA3
        have lk := World.block_lt_of_cell? _ _ c3k
        simp only at lk
        obtain ⟨bb,bo,hB,_,cb1⟩ := (HRD.out.ext HE2b.out).keyAt t2
        obtain ⟨_,_,hB',_,cb2⟩ := (HRD.out.ext HE2b.out).keyAt t3
        rw [hB] at hB'
        injection hB' with hB'; injection hB' with e1 e2
        subst e1; subst e2
        subst hB
        have lbb := World.block_lt_of_cell? _ _ cb1
        simp only at lbb
        have l1 := ((HL4.out.ext HE2b.out (HOFF.out _ (Nat.le_refl _)))).cell 0
        have l2 := ((HH4.out.ext HE2b.out (HOFF.out _ (Nat.le_succ _)))).cell 0
        simp at l1 l2
        have HINB := Lib.hid (HIN.out lo wr _ _ l1 l2)
        have HREC := Lib.hid (fun w' (e : Ext No wr w') => HIHJ.out w' kid lo hi p2 d2 ((HWZ4.out.on_new HE2b.out HGS.out).trans_ e) (HGB2.out.ext e (fun h => h)) HP2.out)
        have hkl2 : n.keys.length + 1 = n.kids.length := HKK2.out.symm
        have hbc := HBC.out
        have hi1 : (K2 : Int) < (n.kids.length : Int) := by omega
        have hi2 : (K2 : Int) < (n.keys.length : Int) + 2 := by omega
        have hi3 : (K2 : Int) + 1 < (n.keys.length : Int) + 2 := by omega
        have hi4 : IntKind.i64.wrap ((K2 : Int) + 1) = (K2 : Int) + 1 := IntWalk.i64_in _ (by omega)
        have hi5 : (0 : Int) ≤ (K2 : Int) + 1 := by omega
        have hdw : IntKind.i64.wrap ((deep : Int) + 1) = (deep : Int) + 1 := IntWalk.i64_in _ (by have := HDP.out; omega)
        obtain ⟨R,hR⟩ : ∃ R,R = v.look j kid (deep + 1) lo hi (p2,d2) := ⟨_,rfl⟩
        rw [← hR] at HREC
        have HR := Lib.hid hR
        clear hstep t1 t2 t3 t4 hR hgb2 hK2 hbc hkl2
        by_cases hbk : K2 ≠ 0 ∧ inB low high lo = false
        ·have hDn : D = none := by rw [HSTEP.out,if_pos hbk]
         subst hDn
         obtain ⟨hz,hib⟩ := hbk
         have hz1 : (0 : Int) < (K2 : Int) := by omega
         rw [hib] at HINB
         clear hz hib HSTEP HR HREC
         go_wp2_with fail
         refine HINB.out.mono ?_
         rintro e w5 ⟨rfl,rfl⟩
         go_wp2_with fail
         go_ret
         exact ⟨HX4R.out.trans_ HE2b.out,rfl,_,_,HGB2.out⟩
        ·have hst := HSTEP.out
         rw [if_neg hbk] at hst
         have hst2 : D = kidsNext (fun kid lo hi s => v.look j kid (deep + 1) lo hi s) low high T (K2 + 1) R := by rw [hst,HR.out]
         have HST2 := Lib.hid hst2
         have HR30 := Lib.hid (HREC.out wr.drew (Ext.refl No wr).drew)
         rw [show ((deep + 1 : Nat) : Int) = (deep : Int) + 1 from by omega] at HR30
         have hi6 : bo + (K2 + 1) = bo + (K2 + 1) := rfl
         have hkz : K2 = 0 ∨ (K2 ≠ 0 ∧ inB low high lo = true) := by
          by_cases hz : K2 = 0
          ·exact .inl hz
          ·refine .inr ⟨hz,?_⟩
           cases hib : inB low high lo
           ·exact absurd ⟨hz,hib⟩ hbk
           ·rfl
         clear hst hst2 hbk HSTEP HREC hi6
         rcases hkz with hz | ⟨hz,hib⟩
         ·have hz1 : ¬ ((0 : Int) < (K2 : Int)) := by omega
          clear hz HINB
          go_wp2_with fail
          cases R with
          | none =>
           have hDn : D = none := HST2.out
           subst hDn
           clear HST2 HR
           go_cut [23] (fun c23 wx => c23 = .int .i64 5 ∧ Hid (Ext (On gs) wr wx) ∧ Hid (∃ p d : Int,Blk wx gs 118 #[.int .i64 p,.int .i64 d]))
           case first =>
            go_region_law ((go_simp; go_at_call 94; refine HR30.out.mono ?_; rintro e w9 ⟨hx9,rfl,hb9⟩; have HX9 := Lib.hid hx9; have HB9 := Lib.hid hb9; clear hx9 hb9))
            all_goals (
             go_wp2_with fail
             go_meet
             exact ⟨rfl,Lib.hid ((Ext.refl (On gs) wr).drew.trans_ HX9.out),HB9⟩)
           case rest =>
            obtain ⟨rfl,HX9,HB9⟩ := hcut
            go_wp2_with fail
            go_ret
            obtain ⟨pz,dz,hbz⟩ := HB9.out
            exact ⟨(HX4R.out.trans_ HE2b.out).trans_ HX9.out,rfl,pz,dz,hbz⟩
          | some st' =>
           obtain ⟨p9,d9⟩ := st'
           go_cut [23] (fun c23 wx => c23 = .int .i64 0 ∧ Hid (Ext (On gs) wr wx) ∧ Hid (Blk wx gs 118 #[.int .i64 (p9 : Int),.int .i64 (depV d9)]) ∧ Hid (p9 ≤ 80000))
           case first =>
            go_region_law ((go_simp; go_at_call 94; refine HR30.out.mono ?_; rintro e w9 ⟨hx9,rfl,hb9,hp9⟩; have HX9 := Lib.hid hx9; have HB9 := Lib.hid hb9; have HP9 := Lib.hid hp9; clear hx9 hb9 hp9))
            all_goals (
             go_wp2_with fail
             go_meet
             exact ⟨rfl,Lib.hid ((Ext.refl (On gs) wr).drew.trans_ HX9.out),HB9,HP9⟩)
           case rest =>
            obtain ⟨rfl,HX9,HB9,HP9⟩ := hcut
            go_wp2_with fail
            go_roundg (gk - 1)
            case rel => exact ⟨K2 + 1,p9,d9,by have := HKK.out; omega,by go_num,Lib.hid (HE2b.out.trans_ HX9.out),HB9.out,Lib.hid HST2.out.symm,HP9⟩
            case measure => have := HKK.out; omega
         ·have hz1 : (0 : Int) < (K2 : Int) := by omega
          rw [hib] at HINB
          clear hz hib
          go_wp2_with fail
          refine HINB.out.mono ?_
          rintro e w5 ⟨rfl,rfl⟩
          go_wp2_with fail
          cases R with
          | none =>
           have hDn : D = none := HST2.out
           subst hDn
           clear HST2 HR
           go_cut [23] (fun c23 wx => c23 = .int .i64 5 ∧ Hid (Ext (On gs) wr wx) ∧ Hid (∃ p d : Int,Blk wx gs 118 #[.int .i64 p,.int .i64 d]))
           case first =>
            go_region_law ((go_simp; go_at_call 94; refine HR30.out.mono ?_; rintro e w9 ⟨hx9,rfl,hb9⟩; have HX9 := Lib.hid hx9; have HB9 := Lib.hid hb9; clear hx9 hb9))
            all_goals (
             go_wp2_with fail
             go_meet
             exact ⟨rfl,Lib.hid ((Ext.refl (On gs) wr).drew.trans_ HX9.out),HB9⟩)
           case rest =>
            obtain ⟨rfl,HX9,HB9⟩ := hcut
            go_wp2_with fail
            go_ret
            obtain ⟨pz,dz,hbz⟩ := HB9.out
            exact ⟨(HX4R.out.trans_ HE2b.out).trans_ HX9.out,rfl,pz,dz,hbz⟩
          | some st' =>
           obtain ⟨p9,d9⟩ := st'
           go_cut [23] (fun c23 wx => c23 = .int .i64 0 ∧ Hid (Ext (On gs) wr wx) ∧ Hid (Blk wx gs 118 #[.int .i64 (p9 : Int),.int .i64 (depV d9)]) ∧ Hid (p9 ≤ 80000))
           case first =>
            go_region_law ((go_simp; go_at_call 94; refine HR30.out.mono ?_; rintro e w9 ⟨hx9,rfl,hb9,hp9⟩; have HX9 := Lib.hid hx9; have HB9 := Lib.hid hb9; have HP9 := Lib.hid hp9; clear hx9 hb9 hp9))
            all_goals (
             go_wp2_with fail
             go_meet
             exact ⟨rfl,Lib.hid ((Ext.refl (On gs) wr).drew.trans_ HX9.out),HB9,HP9⟩)
           case rest =>
            obtain ⟨rfl,HX9,HB9,HP9⟩ := hcut
            go_wp2_with fail
            go_roundg (gk - 1)
            case rel => exact ⟨K2 + 1,p9,d9,by have := HKK.out; omega,by go_num,Lib.hid (HE2b.out.trans_ HX9.out),HB9.out,Lib.hid HST2.out.symm,HP9⟩
            case measure => have := HKK.out; omega
       ·have hK : K2 = n.kids.length := by omega
        have hlen : T.length = n.kids.length := by rw [HT.out]; simp [HKK2.out]
        have hlk := HLK2.out
        rw [List.drop_eq_nil_of_le (by omega),lookKids] at hlk
        subst hlk
        have hn1 : ¬ ((K2 : Int) < (n.kids.length : Int)) := by omega
        obtain ⟨p0,p1,p2',p3,g0,g1,g2,g3,ln⟩ := (((HBN2.out.ext HE.out (HOFF.out _ (by omega))).ext HX4.out (fun h => h)).ext HE2b.out (HOFF.out _ (by omega))).p4
        clear hlt hlen hK hgb2 hK2
        go_wp2_with fail
        go_ret
        exact ⟨HX4R.out.trans_ HE2b.out,rfl,HGB2.out,HP2.out⟩
theorem look_any (s : Sys) (hs : s.Ok) (wz : World) (v : V) (hz : TxAt wz s v) (hg : v.Good) (gx i : Nat) (hxz : Blk wz gx 70 (treeCells s i)) (gs : Nat) (hgs : wz.heap.size ≤ gs) : ∀ (k deep : Nat),k + deep = 42 → LookOk s v wz gx gs k deep
 | 0,deep,h => look_step s hs wz v hz hg gx i hxz gs hgs 0 deep h (fun j hj => by omega)
 | k + 1,deep,h => look_step s hs wz v hz hg gx i hxz gs hgs (k + 1) deep h (fun j hj => by
  have : j = k := by omega
  subst this
  exact look_any s hs wz v hz hg gx i hxz gs hgs j (deep + 1) (by omega))
def SurvTold (w : World) (r : Option (Nat × Option Nat)) (e : Ending) (w' : World) : Prop :=
 Ext No w w' ∧ match r with
  | none => ∃ p d : Int,e = .returned (.tuple #[.agg #[.int .i64 p,.int .i64 d],.int .i64 5])
  | some (p,d) => e = .returned (.tuple #[.agg #[.int .i64 (p : Int),.int .i64 (depV d)],.int .i64 0]) ∧ p ≤ 80000
theorem survey_some (s : Sys) (hs : s.Ok) (w : World) (v : V) (h : TxAt w s v) (hg : v.Good) (gx i : Nat) (hx : Blk w gx 70 (treeCells s i)) (hi : i < 4) (h0 : v.r i ≠ 0) :
  Calls Tryz.prog 58 #[.pointer (some ⟨gx,0,none⟩)] w (SurvTold w (v.look 42 (v.r i) 0 [] [] (0,none))) := by
 have HN := Lib.hid (fun w' (e : Ext No w w') => none_no ⟨s.t,0,none⟩ (.int .i64 (i : Int)) gx w' (hx.ext e (fun h => h)))
 have HA := Lib.hid (fun w' (e : Ext No w w') => alive_any s hs w' v (h.no hs e) gx i (hx.ext e (fun h => h)))
 have HR := Lib.hid (fun w' (e : Ext No w w') => treeroot_any s hs w' v (h.no hs e) gx i (hx.ext e (fun h => h)) hi)
 have HLK := Lib.hid (fun w' (e : Ext No w w') (hsv : Blk w' (w.heap.size + 1) 118 #[.int .i64 0,.int .i64 (-1)]) => look_any s hs w v h hg gx i hx (w.heap.size + 1) (Nat.le_succ _) 42 0 rfl w' (v.r i) [] [] 0 none e hsv (by omega))
 have h0' : ((v.r i : Int) == 0) = false := by simpa using (by omega : ¬ (v.r i : Int) = 0)
 obtain ⟨R,hR⟩ : ∃ R,R = v.look 42 (v.r i) 0 [] [] (0,none) := ⟨_,rfl⟩
 rw [← hR] at HLK ⊢
 obtain ⟨rt,hrt⟩ : ∃ rt,rt = v.r i := ⟨_,rfl⟩
 rw [← hrt] at HR HLK h0'
 clear h hg hx h0 hrt hR
 go_enter Tryz.func58,Tryz.ntmps58
 go_wp2_with fail
 have hE0 : Ext No w ((w.alloc (.cells #[.int .i64 0,.int .i64 0] 118)).alloc (.cells #[.int .i64 0,.int .i64 (-1)] 118)) := ((Ext.refl No w).alloc _).alloc _
 refine (HN.out _ (by (repeat' (first | exact Ext.refl _ _ | assumption | apply Ext.alloc | apply Ext.drewN | apply Ext.drew | refine Ext.setNew ?_ (by first | omega | (simp; omega) | simp) _ _ | refine Ext.setF ?_ (by first | exact Or.inl rfl | exact Or.inr rfl | rfl) _ _ | refine Ext.trans_ ?_ (by assumption) | refine Ext.trans_ ?_ (Ext.of_no (by assumption)))))).mono ?_
 rintro e w1 ⟨rfl,rfl⟩
 go_wp2_with fail
 refine (HA.out _ (by (repeat' (first | exact Ext.refl _ _ | assumption | apply Ext.alloc | apply Ext.drewN | apply Ext.drew | refine Ext.setNew ?_ (by first | omega | (simp; omega) | simp) _ _ | refine Ext.setF ?_ (by first | exact Or.inl rfl | exact Or.inr rfl | rfl) _ _ | refine Ext.trans_ ?_ (by assumption) | refine Ext.trans_ ?_ (Ext.of_no (by assumption)))))).mono ?_
 rintro e w2 ⟨rfl,hx2⟩
 have hE2 := hE0.trans_ hx2
 have ba := ((Blk.new w 118 #[.int .i64 0,.int .i64 0]).alloc (.cells #[.int .i64 0,.int .i64 (-1)] 118)).ext hx2 (fun h => h)
 have bb := (Blk.new_at (b := w.heap.size + 1) (w.alloc (.cells #[.int .i64 0,.int .i64 0] 118)) 118 #[.int .i64 0,.int .i64 (-1)] (by simp)).ext hx2 (fun h => h)
 have HE2 := Lib.hid hE2; have BA := Lib.hid ba; have BB := Lib.hid bb
 clear hE0 hx2 hE2 ba bb
 go_wp2_with fail
 refine (HR.out _ HE2.out).mono ?_
 rintro e w3 ⟨rfl,hx3⟩
 go_wp2_with fail
 refine (HR.out _ (HE2.out.trans_ hx3)).mono ?_
 rintro e w4 ⟨rfl,hx4⟩
 have hE4 := (HE2.out.trans_ hx3).trans_ hx4
 have bb4 := (BB.out.ext hx3 (fun h => h)).ext hx4 (fun h => h)
 have ba4 := (BA.out.ext hx3 (fun h => h)).ext hx4 (fun h => h)
 have HL := Lib.hid (HLK.out w4 hE4 bb4)
 have HE4 := Lib.hid hE4; have BA4 := Lib.hid ba4
 clear hx3 hx4 hE4 bb4 ba4
 cases R with
 | none =>
  go_wp2_with fail
  refine (HL.out).mono ?_
  rintro e w5 ⟨hx5,rfl,pz,dz,bb5⟩
  have ba5 := BA4.out.ext hx5 (fun h => by
   have h' : w.heap.size = w.heap.size + 1 := h
   omega)
  have hE5 := HE4.out.on_new hx5 (Nat.le_succ _)
  have a0 := ba5.cell 0
  have a1 := ba5.cell 1
  have af := ba5.frozen
  have al := ba5.lt
  have b0 := bb5.cell 0
  have b1 := bb5.cell 1
  simp at a0 a1 b0 b1
  have BA5 := Lib.hid ba5; have HE5 := Lib.hid hE5
  clear bb5 hx5 ba5 hE5
  go_wp2_with fail
  exact survey_back w.heap.size _ ((BA5.out.set_ 0 (.int .i64 pz)).set_ 1 (.int .i64 dz)) rfl rfl rfl rfl ⟨(HE5.out.setNew (Nat.le_refl _) _ _).setNew (Nat.le_refl _) _ _,pz,dz,rfl⟩
 | some r =>
  obtain ⟨pz,dz⟩ := r
  go_wp2_with fail
  refine (HL.out).mono ?_
  rintro e w5 ⟨hx5,rfl,bb5,hpz⟩
  have ba5 := BA4.out.ext hx5 (fun h => by
   have h' : w.heap.size = w.heap.size + 1 := h
   omega)
  have hE5 := HE4.out.on_new hx5 (Nat.le_succ _)
  have a0 := ba5.cell 0
  have a1 := ba5.cell 1
  have af := ba5.frozen
  have al := ba5.lt
  have b0 := bb5.cell 0
  have b1 := bb5.cell 1
  simp at a0 a1 b0 b1
  have BA5 := Lib.hid ba5; have HE5 := Lib.hid hE5; have HPZ := Lib.hid hpz
  clear bb5 hx5 ba5 hE5 hpz
  go_wp2_with fail
  exact survey_back w.heap.size _ ((BA5.out.set_ 0 (.int .i64 (pz : Int))).set_ 1 (.int .i64 (depV dz))) rfl rfl rfl rfl ⟨(HE5.out.setNew (Nat.le_refl _) _ _).setNew (Nat.le_refl _) _ _,rfl,HPZ.out⟩
theorem survey_any (s : Sys) (hs : s.Ok) (w : World) (v : V) (h : TxAt w s v) (hg : v.Good) (gx i : Nat) (hx : Blk w gx 70 (treeCells s i)) (hi : i < 4) :
  Calls Tryz.prog 58 #[.pointer (some ⟨gx,0,none⟩)] w (SurvTold w (v.survey i)) := by
 by_cases h0 : v.r i = 0
 ·have e : v.survey i = some (0,none) := by unfold V.survey; rw [if_pos h0]
  rw [e]
  refine (survey_zero s hs w v h gx i hx hi h0).mono ?_
  rintro e w' ⟨he,hx'⟩
  exact ⟨hx',he,by omega⟩
 ·have e : v.survey i = v.look 42 (v.r i) 0 [] [] (0,none) := by unfold V.survey; rw [if_neg h0]
  rw [e]
  exact survey_some s hs w v h hg gx i hx hi h0
theorem pages_any (s : Sys) (hs : s.Ok) (w : World) (v : V) (h : TxAt w s v) (hg : v.Good) (gx i : Nat) (hx : Blk w gx 70 (treeCells s i)) (hi : i < 4) :
  Calls Tryz.prog 24 #[.pointer (some ⟨gx,0,none⟩)] w fun e w' => e = .returned (.tuple #[.int .i64 ((v.pages i).1 : Int),.int .i64 ((v.pages i).2 : Int)]) ∧ Ext No w w' := by
 have HS := Lib.hid (survey_any s hs w v h hg gx i hx hi)
 unfold V.pages
 generalize v.survey i = R at *
 clear h hg hx
 cases R with
 | none =>
  go_enter Tryz.func24,Tryz.ntmps24
  go_wp2_with fail
  refine (HS.out).mono ?_
  rintro e w1 ⟨hx1,p,d,rfl⟩
  go_wp2_with fail
  go_ret2
  exact ⟨rfl,by (repeat' (first | exact Ext.refl _ _ | assumption | apply Ext.alloc | apply Ext.drewN | apply Ext.drew | refine Ext.setNew ?_ (by first | omega | (simp; omega) | simp) _ _ | refine Ext.setF ?_ (by first | exact Or.inl rfl | exact Or.inr rfl | rfl) _ _ | refine Ext.trans_ ?_ (by assumption) | refine Ext.trans_ ?_ (Ext.of_no (by assumption))))⟩
 | some r =>
  obtain ⟨p,d⟩ := r
  go_enter Tryz.func24,Tryz.ntmps24
  go_wp2_with fail
  refine (HS.out).mono ?_
  rintro e w1 ⟨hx1,rfl,_⟩
  go_wp2_with fail
  go_ret2
  exact ⟨rfl,by (repeat' (first | exact Ext.refl _ _ | assumption | apply Ext.alloc | apply Ext.drewN | apply Ext.drew | refine Ext.setNew ?_ (by first | omega | (simp; omega) | simp) _ _ | refine Ext.setF ?_ (by first | exact Or.inl rfl | exact Or.inr rfl | rfl) _ _ | refine Ext.trans_ ?_ (by assumption) | refine Ext.trans_ ?_ (Ext.of_no (by assumption))))⟩
theorem One.start {s : Sys} {w : World} {p : Nat} (hF : Fresh w s p) (h : p ≤ 4000) (h1 : 1 ≤ p) (i : Nat) : One s.cap v0 i [] [] [] := by
 refine ⟨⟨v0_good,by rw [hF.cap]; exact h1,by rw [hF.cap]; omega⟩,.inl ⟨rfl,rfl,rfl⟩,by simp,fun p => ?_,by simp⟩
 rw [V.err_iff]
 simp only [List.append_nil,List.not_mem_nil,iff_false]
 intro ⟨h1,h2,_⟩
 have : v0.high = 1 := rfl
 omega
theorem heldB_self {E : List Ent} (h : SortedE E) : heldB E E = true := by
 have key : ∀ {F : List Ent},SortedE F → ∀ e ∈ F,F.lookup e.1 = some e.2 := by
  intro F hF
  induction F with
  | nil => simp
  | cons a F ih =>
   intro e he
   obtain ⟨k,b⟩ := a
   have h1 := List.pairwise_cons.1 hF
   rcases List.mem_cons.1 he with rfl | he
   ·simp
   ·have h2 := h1.1 e he
    have h3 : (e.1 == k) = false := by
     have := klt_ne h2
     simpa using fun e1 => this e1.symm
    rw [List.lookup_cons,h3]
    exact ih h1.2 e he
 unfold heldB
 rw [List.all_eq_true]
 intro e he
 rw [key h e he]
 simp
theorem fillE_may (l : List Ac) : ∀ e ∈ fillE l,may e.1 [] = 0 := by
 have key : ∀ (l : List Ac) (E : List Ent),(∀ e ∈ E,may e.1 [] = 0) → ∀ e ∈ l.foldl Ac.step E,may e.1 [] = 0 := by
  intro l
  induction l with
  | nil => exact fun E h => h
  | cons a l ih =>
   intro E h
   refine ih _ ?_
   intro e he
   unfold Ac.step at he
   split at he
   ·exact h e (List.mem_filter.1 he).1
   ·rcases insE_mem he with rfl | he
    ·exact a.key1_may [] (by simp)
    ·exact h e he
 exact key l [] (by simp)
theorem height_told {v : V} {root : Nat} {P : List Nat} {E : List Ent} (hT : TreeOf true v root P E) : ∃ n,v.height root = (n,0) ∧ (E = [] → n = 0) ∧ (E ≠ [] → 1 ≤ n ∧ 2 ^ (n - 1) ≤ E.length) := by
 rcases hT with ⟨h0,rfl,rfl⟩ | ⟨h,hh,hS⟩
 ·have : v.way root [] = some [] := by unfold V.way; rw [h0]; rfl
  exact ⟨0,by unfold V.height; rw [this]; rfl,fun _ => rfl,fun h => absurd rfl h⟩
 ·obtain ⟨ups,st,rt,lo,hi,P',L,R,A,B,QA,QB,EA,EB,hl⟩ := locate (key := []) hS hh
  have h2 := hS.height
  refine ⟨h + 1,?_,fun e => ?_,fun _ => ⟨by omega,by simpa using h2⟩⟩
  ·unfold V.height
   rw [hl.way]
   simp [hl.len]
  ·exact absurd e hS.told.1
def lg : Nat → Nat
 | 0 => 0
 | 1 => 0
 | n + 2 => lg ((n + 2) / 2) + 1
theorem lg_step {n : Nat} (h : 1 < n) : lg n = lg (n / 2) + 1 := by
 match n,h with
 | n + 2,_ => rw [lg]
theorem lg_le : ∀ (k n : Nat),2 ^ k ≤ n → k ≤ lg n
 | 0,n,_ => by omega
 | k + 1,n,h => by
  have h1 : 1 < n := by
   have : 2 ^ 1 ≤ 2 ^ (k + 1) := Nat.pow_le_pow_right (by omega) (by omega)
   omega
  rw [lg_step h1]
  have h2 : 2 ^ k ≤ n / 2 := by
   rw [Nat.pow_succ] at h
   omega
  have := lg_le k (n / 2) h2
  omega
theorem pages_told {v : V} {root : Nat} {P : List Nat} {E : List Ent} (hT : TreeOf true v root P E) (hp : P.length ≤ 65000) : v.pages root = (P.length,0) := by
 obtain ⟨d,hd⟩ := survey_done hT hp
 unfold V.pages
 rw [hd]
structure Live (log N : Nat) (b : Db) : Prop where
 fine : b.Fine log
 rb : b.recs = [] → b.bytes = []
 near : b.k.Near (131072 * (N + 1))
 ep : b.epoch ≤ N
 rl : b.recs.length ≤ N
theorem Live.fresh (n log : Nat) : Live log 0 (freshDb n) := ⟨⟨⟨rfl,rfl⟩,by simp [freshDb]⟩,fun _ => rfl,⟨by simp [freshDb],by simp [freshDb],by simp [freshDb]⟩,Nat.le_refl _,Nat.le_refl _⟩
theorem Db.commit_log (cr : Bs → Nat) (log : Nat) (s : Db) (sp : Bool) (l : List (Nat × Bs)) (m : Mt) (hb : s.recs = [] → s.bytes = []) : ((s.commit cr log sp l m).2.recs = [] → (s.commit cr log sp l m).2.bytes = []) ∧ (s.commit cr log sp l m).2.recs.length ≤ s.recs.length + 1 := by
 have hkeep : ∀ s : Db,(s.recs = [] → s.bytes = []) → ((s.keep cr log l m).2.recs = [] → (s.keep cr log l m).2.bytes = []) ∧ (s.keep cr log l m).2.recs.length ≤ s.recs.length + 1 := by
  intro s hs
  have h1 : ((s.sync cr (encRec l)).2.recs = [] → (s.sync cr (encRec l)).2.bytes = []) ∧ (s.sync cr (encRec l)).2.recs.length ≤ s.recs.length + 1 := by
   rw [Db.sync_eq]
   split
   ·exact ⟨hs,Nat.le_succ _⟩
   ·exact ⟨fun h => by simp at h,by simp⟩
  unfold Db.keep
  split
  ·exact h1
  ·exact h1
 unfold Db.commit
 split
 ·exact ⟨hb,Nat.le_succ _⟩
 ·split
  ·exact ⟨hb,Nat.le_succ _⟩
  ·split
   ·exact ⟨hb,Nat.le_succ _⟩
   ·split
    ·obtain ⟨h1,_,_⟩ := Db.settle_log cr s
     have hr : ((s.settle cr).2.recs = [] → (s.settle cr).2.bytes = []) ∧ (s.settle cr).2.recs.length ≤ s.recs.length := by
      rcases h1 with ⟨a,b,_⟩ | ⟨a,b,_⟩
      ·rw [a,b]; exact ⟨hb,Nat.le_refl _⟩
      ·rw [a,b]; exact ⟨fun _ => rfl,Nat.zero_le _⟩
     split
     ·exact ⟨hr.1,Nat.le_succ_of_le hr.2⟩
     ·have := hkeep _ hr.1
      exact ⟨this.1,by omega⟩
    ·exact hkeep s hb
theorem Live.commit {log N : Nat} {b : Db} (h : Live log N b) (hlog : 2 ≤ log) (hlog2 : log ≤ 30000) (cr : Bs → Nat) (sp : Bool) (l : List (Nat × Bs)) (m : Mt) (hl : ∀ p ∈ l,p.2.length = 512) (hll : l.length ≤ 10000) :
  (sp = true ∧ b.commit cr log sp l m = (9,b)) ∨ (sp = false ∧ l = [] ∧ b.commit cr log sp l m = (0,b)) ∨ (sp = false ∧ l ≠ [] ∧ b.commit cr log sp l m = (7,b) ∧ ((encRec l).length > 65536 ∨ (encRec l).length + 8 > 64 * (log - 1))) ∨
  (sp = false ∧ l ≠ [] ∧ (b.commit cr log sp l m).1 = 0 ∧ Live log (N + 1) (b.commit cr log sp l m).2 ∧ (b.commit cr log sp l m).2.k.n = b.k.n ∧ (b.commit cr log sp l m).2.m = m ∧ ∀ i,pageOf (b.commit cr log sp l m).2.k.cur log i = pages l (pageOf b.k.cur log) i) := by
 cases sp
 ·by_cases h0 : l = []
  ·refine .inr (.inl ⟨rfl,h0,?_⟩)
   unfold Db.commit
   rw [if_neg (by simp),if_pos h0]
  ·have h1 := Db.commit_near (cr := cr) (log := log) (sp := false) (m := m) h.near hll h.rb
   have h2 := Db.commit_log cr log b false l m h.rb
   rcases Db.commit_live (cr := cr) (m := m) h.fine hlog hl h0 h.rb with ⟨c1,c2,c9⟩ | ⟨c1,c2,c3,c4,c5,c6⟩
   ·exact .inr (.inr (.inl ⟨rfl,h0,Prod.ext c1 c2,c9⟩))
   ·exact .inr (.inr (.inr ⟨rfl,h0,c1,⟨c2,h2.1,h1.mono (by omega),by have := h.ep; omega,by have := h.rl; have := h2.2; omega⟩,c3,c4,c6⟩))
 ·refine .inl ⟨rfl,?_⟩
  unfold Db.commit
  rw [if_pos rfl]
theorem Images.none {s : Sys} {v : V} {T : Nat → Nat} {ov : List (Nat × Leaf)} (h : Images s v T ov []) : v.marked = false ∧ ∀ i,1 ≤ i → i < v.high → i < s.bh ∧ v.pg i = s.base i := by
 have h1 : imgList (crc T) v ov = [] := h.perm.nil_eq.symm
 unfold imgList at h1
 have h2 := List.append_eq_nil_iff.1 h1
 have h3 : ov = [] := List.map_eq_nil_iff.1 h2.1
 subst h3
 refine ⟨?_,fun i a b => ?_⟩
 ·cases hm : v.marked
  ·rfl
  ·rw [hm] at h2; simp at h2
 ·obtain ⟨h4,h5⟩ := h.over.pg i a b
  exact ⟨by simpa using h4,h5⟩
theorem TreeOf.rlt {g : Bool} {v : V} {root : Nat} {P : List Nat} {E : List Ent} (h : TreeOf g v root P E) : v.r root < v.high ∨ v.r root = 0 := by
 rcases h with ⟨h0,_,_⟩ | ⟨x,_,hS⟩
 ·exact .inr h0
 ·obtain ⟨n,Q,_,_,hp,_⟩ := Sub.iff.1 hS
  have := hS.us (v.r root) (hp.mem_iff.2 (by simp))
  exact .inl ((V.err_iff v _).1 this).2.1
theorem v0_kd : v0.Kd := fun i h1 h2 => by have h3 : i < 1 := h2; omega
theorem NewAt.ready {w0 w' : World} {s : Sys} {p : Nat} {v' : V} {T : Nat → Nat} (h : NewAt w0 s p) (hok : s.Ok) (h1 : 1 ≤ p) (h2 : p ≤ 4000) (ht : TxAt w' s v') (hT : Half w' T) (hg : v'.Good) (hk : v'.Kd) (hm : v'.mt.Ok) :
  ∃ a Dd Dl,Ready w' s v' Dd Dl a T (freshDb (400 + 8 * p)) ∧ a.log = 400 ∧ (∀ g,Dd g ∨ Dl g ∨ g = a.x → w0.heap.size ≤ g) ∧ s.x = a.x ∧ s.d = a.d ∧ Live a.log 0 (freshDb (400 + 8 * p)) ∧ s.bh = 1 ∧ ∀ w'',s.db w'' → ∀ g,Dd g ∨ Dl g ∨ g = a.x → g < w''.heap.size := by
 obtain ⟨kb,d,l,x,t,m,rfl,q1,q2,q3,q4,q5,q6,n1,n2,n3,n4,n5,n6,n7,n8,_⟩ := h.ex
 have hdb : NewDb w' kb d l x (400 + 8 * p) 400 (some ⟨t,0,none⟩) := ht.db
 have hL := Live.fresh (400 + 8 * p) 400
 refine ⟨⟨d,kb,x,l,400⟩,(fun g => g = d ∨ g = kb),(fun g => g = l),⟨hok,ht,rfl,hdb.at_ hT (by omega) (by omega) (by omega) (by omega),?_,?_,?_,?_,n8,hg,hk,hm,hL.near.mono (by decide),by show 0 < 2 ^ 58; decide,by show 0 < 2 ^ 15; decide,by simp [freshDb],fun _ => rfl,?_⟩,rfl,?_,rfl,rfl,hL,rfl,?_⟩
 ·rintro (e | e)
  ·exact n2 e
  ·exact n1 e
 ·intro e; exact n3 e
 ·rintro (e | e)
  ·exact n6 e
  ·exact n5 e
 ·intro e; exact n7 e
 ·have h3 : v'.high ≤ (400 + 8 * p - 400) / 8 := ht.h2
  show 400 + v'.high * 8 ≤ 400 + 8 * p
  omega
 ·intro g hg
  rcases hg with (hg | hg) | hg | hg
  ·rw [hg]; exact q2
  ·rw [hg]; exact q1
  ·have : g = l := hg
   rw [this]; exact q3
  ·rw [hg]; exact q4
 ·intro w'' hw g hg
  have hw' : NewDb w'' kb d l x (400 + 8 * p) 400 (some ⟨t,0,none⟩) := hw
  rcases hg with (hg | hg) | hg | hg
  ·rw [hg]; exact hw'.disk.lt
  ·rw [hg]; exact hw'.kept.lt
  ·have : g = l := hg
   rw [this]; exact hw'.wal.lt
  ·rw [hg]; exact hw'.db.lt
theorem One.mt {cap root : Nat} {v : V} {X P : List Nat} {E : List Ent} (h : One cap v root X P E) (hr : ∀ i,i ≠ root → v.r i < 65536) : v.mt.Ok := by
 obtain ⟨⟨fr,hfr⟩,h1,h2⟩ := h.sane
 have h3 := hfr.cnt
 have h4 := hfr.lt
 refine ⟨fun i => ?_,by show v.high < _; omega,?_,by show v.cnt < _; omega⟩
 ·show v.r i < _
  by_cases hi : i = root
  ·subst hi
   rcases h.tree.rlt with h5 | h5 <;> omega
  ·have := hr i hi; omega
 ·show v.free < _
  rw [hfr.hd]
  cases fr with
  | nil => decide
  | cons a l =>
   have := (hfr.mem a).2 (by simp)
   show a < _
   omega
theorem One.marks {cap root : Nat} {v : V} {P : List Nat} {E : List Ent} (h : One cap v root [] P E) : v.high = v.cnt + P.length + 1 := by
 have h1 := h.room.1
 have h2 := h.sane.2.1
 have h3 : v.room cap = (cap - v.high) + v.cnt := rfl
 rw [List.length_nil] at h1
 omega
theorem One.none {cap root : Nat} {v : V} {P : List Nat} {E : List Ent} (h : One cap v root [] P E) (h1 : v.high = 1) : P = [] := by
 cases P with
 | nil => rfl
 | cons p P =>
  have := (h.us p).2 (by simp)
  have := (V.err_iff v p).1 this
  omega
theorem lean_walk (A : Option Addr) (l : List Ac) (c : Nat) (w : World) (T : Nat → Nat) (hT : Half w T) (hl : Rd w (fun b => w.heap.size ≤ b) 4 A l.length (acVals l)) (hll : l.length < 2^63) (hf : ∀ a ∈ l,a.fits) :
  Calls Tryz.prog 9 #[.slice A l.length c] w fun e w' => e = .returned (.bool true) ∧ Ext No w w' := by
 have HB := Lib.hid (begin_any 400 (by decide) (by decide) w)
 have HW := Lib.hid works_any
 have HL := Lib.hid hl
 have HLL := Lib.hid hll
 have HFT := Lib.hid hf
 have HTT := Lib.hid hT
 clear hl hll hf hT
 go_enter Tryz.func9,Tryz.ntmps9
 go_wp2_with fail
 refine (HB.out).mono ?_
 rintro e w1 ⟨s,hF,rfl,hx1,ht,hm,hxx,_,hNA⟩
 have HNA := Lib.hid hNA
 have HS := Lib.hid hF.ok
 have HFF : Hid (∀ b,s.F b → w.heap.size ≤ b) := Lib.hid (fun b hb => by
  rcases hb with rfl | rfl
  ·exact ht
  ·exact hm)
 have HOF := Lib.hid (of_any (some ⟨s.t,0,none⟩) 0 (by decide) w1)
 obtain ⟨W2,hW2⟩ : ∃ W2,W2 = w1.alloc (.cells #[.pointer (some ⟨s.t,0,none⟩),.int .i64 0] 70) := ⟨_,rfl⟩
 have HX2 := Lib.hid (show Blk W2 w1.heap.size 70 (treeCells s 0) from hW2 ▸ Blk.new w1 70 _)
 have HT2 := Lib.hid (show TxAt W2 s v0 from hW2 ▸ hF.tx.no hF.ok ((Ext.refl _ _).alloc _))
 have HE2 := Lib.hid (show Ext No w W2 from hW2 ▸ hx1.alloc _)
 have hcap : s.cap = 400 := hF.cap
 have HFILL := Lib.hid (fill_any s hF.ok W2 v0 HT2.out w1.heap.size 0 HX2.out (by decide) [] [] (One.start hF (by decide) (by decide) 0) l A c
  ((HL.out.ext (HE2.out.of_no)).mono (by decide) (fun b _ hb => HFF.out b hb)) HLL.out HFT.out 60 (by rw [hcap]; decide) (by decide))
 have HOFF := Lib.hid (tree_off HT2.out HX2.out)
 have hEl : (fillE (l.take 60)).length ≤ 60 := Nat.le_trans (fillE_len _) (by rw [List.length_take]; omega)
 have HMY := Lib.hid (fillE_may (l.take 60))
 obtain ⟨E,hE⟩ : ∃ E,E = fillE (l.take 60) := ⟨_,rfl⟩
 rw [← hE] at HFILL hEl HMY
 have HEL := Lib.hid hEl
 clear hF hx1 ht hm hxx hcap hE hEl hNA
 go_wp2_with fail
 refine (HOF.out).mono ?_
 rintro e w2 ⟨rfl,rfl⟩
 rw [show w1.alloc (.cells #[.pointer (some ⟨s.t,0,none⟩),.int .i64 ((0 : Nat) : Int)] 70) = W2 from hW2.symm]
 clear hW2
 have HFILL2 : Hid (Calls Tryz.prog 14 #[.pointer (some ⟨w1.heap.size,0,none⟩),.slice A l.length c,.int .i64 60] W2 (Filled s W2 v0 0 [] [] E)) := Lib.hid HFILL.out
 go_wp2_with fail
 refine (HFILL2.out).mono ?_
 rintro e w3 ⟨⟨v',P',A',c',rfl,ht,ho,htr,hra,hst⟩,hx3⟩
 have HO := Lib.hid ho; have HST := Lib.hid hst; have HTR := Lib.hid htr
 obtain ⟨W4,hW4⟩ : ∃ W4,W4 = w3.alloc (.cells #[.slice A' E.length c'] 32) := ⟨_,rfl⟩
 have hx34 : Ext No w3 W4 := hW4 ▸ (Ext.refl _ _).alloc _
 have HE4 : Hid (Ext s.F W2 W4) := Lib.hid (hx3.trans_ hx34.of_no)
 have HT4 := Lib.hid (ht.no HS.out hx34)
 have HX4 := Lib.hid (HX2.out.ext HE4.out HOFF.out)
 have HB4 := Lib.hid (show Blk W4 w3.heap.size 32 #[.slice A' E.length c'] from hW4 ▸ Blk.new w3 32 _)
 have HRA : Hid (RefAt W4 No A' c' E) := Lib.hid (RefAt.mono (G := No) (hra.ext hx34.of_no) (fun _ _ h => h.elim))
 have HEND : Hid (Ext No w W4) := Lib.hid (HE2.out.trans HE4.out (fun i hi hb => by have := HFF.out i hb; omega))
 have HHT4 := Lib.hid (HTT.out.ext HEND.out (fun h => h))
 have hEb : E.length < 65536 := by have := HEL.out; omega
 have HPG := Lib.hid (fun w' (e : Ext No W4 w') => pages_any s HS.out w' v' (HT4.out.no HS.out e) ho.sane.1 w1.heap.size 0 (HX4.out.ext e (fun h => h)) (by decide))
 have HHG := Lib.hid (fun w' (e : Ext No W4 w') => height_any s HS.out w' v' (HT4.out.no HS.out e) ho.sane.1 w1.heap.size 0 (HX4.out.ext e (fun h => h)) (by decide))
 have HHD := Lib.hid (fun w' (e : Ext No W4 w') => holds_any s HS.out w' v' (HT4.out.no HS.out e) ho.sane.1 w1.heap.size 0 (HX4.out.ext e (fun h => h)) (by decide) P' E ho.tree A' c' E (HRA.out.rd.ext e) hEb HMY.out)
 rw [heldB_self ho.tree.sorted] at HHD
 have hpr := ho.room.2
 rw [pages_told ho.tree (by have := HEL.out; omega)] at HPG
 obtain ⟨hn,hh1,hh2,hh3⟩ := height_told ho.tree
 rw [hh1] at HHG
 simp only at HPG HHG
 obtain ⟨N,hN⟩ : ∃ N,N = P'.length := ⟨_,rfl⟩
 rw [← hN] at HPG hpr
 have HN := Lib.hid hN; have HPR := Lib.hid hpr
 have HH2 := Lib.hid hh2; have HH3 := Lib.hid hh3
 -- the commit
 have HRDY : Hid (∀ w',Ext No W4 w' → ∃ a Dd Dl,Ready w' s v' Dd Dl a T (freshDb 3600) ∧ a.log = 400 ∧ (∀ g,Dd g ∨ Dl g ∨ g = a.x → w.heap.size ≤ g) ∧ s.x = a.x ∧ s.d = a.d ∧ Live a.log 0 (freshDb 3600) ∧ s.bh = 1) := Lib.hid (fun w' e => by
  obtain ⟨a,Dd,Dl,q1,q2,q3,q4,q5,q6,q7,_⟩ := HNA.out.ready HS.out (by decide) (by decide) (HT4.out.no HS.out e) (HHT4.out.ext e (fun h => h)) HO.out.sane.1 (HST.out.kd v0_kd) (HO.out.mt (fun i hi => by rw [HTR.out.r i hi]; show 0 < 65536; decide))
  exact ⟨a,Dd,Dl,q1,q2,q3,q4,q5,q6,q7⟩)
 clear ht ho htr hra hst hx3 hx34 hEb hpr hh1 hh2 hh3 hN
 go_upto_region 8 with fail
 rw [← hW4]
 clear hW4
 have b0 := HB4.out.cell 0
 have bl := HB4.out.lt
 simp at b0
 go_wp2_with fail
 refine (HPG.out _ (Ext.refl _ _)).mono ?_
 rintro e w5 ⟨rfl,hx5⟩
 have HX5 := Lib.hid hx5
 clear hx5
 go_wp2_with fail
 refine (HHG.out _ HX5.out).mono ?_
 rintro e w6 ⟨rfl,hx6⟩
 have HX6 := Lib.hid (HX5.out.trans_ hx6)
 have b0 := (HB4.out.ext HX6.out (fun h => h)).cell 0
 have bl := (HB4.out.ext HX6.out (fun h => h)).lt
 simp at b0
 clear hx6
 go_wp2_with fail
 refine (HHD.out _ HX6.out).mono ?_
 rintro e w7 ⟨rfl,hx7⟩
 have HX7 := Lib.hid (HX6.out.trans_ hx7)
 have b0 := (HB4.out.ext HX7.out (fun h => h)).cell 0
 have bl := (HB4.out.ext HX7.out (fun h => h)).lt
 simp at b0
 clear hx7
 go_wp2_with fail
 obtain ⟨K,hK⟩ : ∃ K,K = E.length := ⟨_,rfl⟩
 rw [← hK]
 have HK := Lib.hid hK
 have hK60 : K < 100 := by rw [hK]; have := HEL.out; omega
 have HK60 := Lib.hid hK60
 rw [← hK] at b0
 clear hK hK60 HPG HHG HHD
 go_loopg [13,14] K (fun gk q13 q14 wr => ∃ k : Nat,gk ≤ K ∧ q14 = .int .i64 (gk : Int) ∧ q13 = .int .i64 (k : Int) ∧ Hid (k + lg gk = 1 + lg K) ∧ Hid (k + gk ≤ 1 + K) ∧ w7 = wr)
 case atStart => exact ⟨1,Nat.le_refl _,rfl,rfl,Lib.hid rfl,Lib.hid (Nat.le_refl _),rfl⟩
 case round =>
  obtain ⟨k,hle,rfl,rfl,HKL,HKG,rfl⟩ := hrel
  have HLE := Lib.hid hle
  by_cases h1 : 1 < gk
  ·have h1' : (1 : Int) < (gk : Int) := by omega
   obtain ⟨h2,hh2⟩ : ∃ h2,h2 = gk / 2 := ⟨_,rfl⟩
   have hd1 : (gk : Int).tdiv 2 = (h2 : Int) := by rw [hh2,Int.tdiv_eq_ediv_of_nonneg (by omega)]; omega
   have hd2 : (gk : Int) / 2 = (h2 : Int) := by rw [hh2]; omega
   have hw1 : IntKind.i64.wrap ((k : Int) + 1) = (k : Int) + 1 := wrap_tiny _ (by omega) (by have := HKG.out; have := HK60.out; omega)
   have hw2 : IntKind.i64.wrap (h2 : Int) = (h2 : Int) := wrap_tiny _ (by omega) (by have := HK60.out; omega)
   have HS1 : Hid ((k + 1) + lg h2 = 1 + lg K) := Lib.hid (by have h3 := lg_step h1; rw [← hh2] at h3; have := HKL.out; omega)
   have HS2 : Hid ((k + 1) + h2 ≤ 1 + K) := Lib.hid (by have := HKG.out; omega)
   have HLT : Hid (h2 < gk ∧ h2 ≤ K) := Lib.hid ⟨by omega,by omega⟩
   clear hle h1 hh2
   go_wp2_with fail
   go_roundg h2
   case rel => exact ⟨k + 1,HLT.out.2,rfl,by go_num,HS1,HS2,rfl⟩
   case measure => exact HLT.out.1
  ·have h1' : ¬ ((1 : Int) < (gk : Int)) := by omega
   have HLG : Hid (k = 1 + lg K) := Lib.hid (by
    have h3 : lg gk = 0 := by
     match gk,h1 with
     | 0,_ => rw [lg]
     | 1,_ => rw [lg]
     | n + 2,h => omega
    have := HKL.out; omega)
   clear hle h1
   go_upto_if 67 with fail
   go_cut [13] (fun q wx => ∃ M : Nat,q = .int .i64 (M : Int) ∧ Hid (hn ≤ M) ∧ w7 = wx)
   case first =>
    by_cases hK0 : K = 0
    ·have HM0 : Hid (hn ≤ 0) := Lib.hid (by
      have h3 : E = [] := List.eq_nil_of_length_eq_zero (by rw [← HK.out,hK0])
      rw [HH2.out h3]; exact Nat.le_refl _)
     subst hK0
     go_wp2_with fail
     go_meet
     exact ⟨0,rfl,HM0,rfl⟩
    ·have hK1 : ((K : Int) == 0) = false := by simpa using hK0
     have HM1 : Hid (hn ≤ k) := Lib.hid (by
      have h3 : E ≠ [] := fun e => hK0 (by rw [HK.out,e]; rfl)
      obtain ⟨g1,g2⟩ := HH3.out h3
      have := lg_le _ _ g2
      rw [← HK.out] at this
      have := HLG.out
      omega)
     clear hK0
     go_wp2_with fail
     go_meet
     exact ⟨k,rfl,HM1,rfl⟩
   case rest =>
    obtain ⟨M,rfl,HM,rfl⟩ := hcut
    obtain ⟨a,Dd,Dl,hR,hlog,hnew,hsx,_,hLv,_⟩ := HRDY.out w7 HX7.out
    have HCM := Lib.hid (commit_any hR)
    have HRD := Lib.hid hR; have HLOG := Lib.hid hlog; have HNEW := Lib.hid hnew; have HSX := Lib.hid hsx; have HLV := Lib.hid hLv
    clear hR hlog hnew hsx hLv HRDY
    go_wp2_with fail
    refine (HCM.out).mono ?_
    rintro e w8 ⟨ov,im,hI,hC⟩
    obtain ⟨he,⟨Dd',Dl',hd',hdb',n1,n2⟩,hx8⟩ := hC
    subst he
    have hways := HLV.out.commit (by rw [HLOG.out]; decide) (by rw [HLOG.out]; decide) (crc T) v'.spoilt im v'.mt (fun p hp => (hI.mem HO.out.sane.1 HRD.out.tx.h1 hp).2) (by
     have h1 := HRD.out.tx.h2; have h2 := HRD.out.ok.n2; unfold Sys.cap at h1
     have := hI.len (by omega)
     omega)
    obtain ⟨R,hRR⟩ : ∃ R,R = (freshDb 3600).commit (crc T) a.log v'.spoilt im v'.mt := ⟨_,rfl⟩
    rw [← hRR] at hd' hdb' hways ⊢
    have HEND8 : Hid (Ext No w w8) := Lib.hid ((HEND.out.trans_ HX7.out).trans hx8 (fun g hg h1 => by have := HNEW.out g h1; omega))
    have HW8 := Lib.hid (HW.out w8)
    by_cases h0 : R.1 = 0
    ·have hmarks : R.2.m.high = R.2.m.cnt + N + 1 := by
      rcases hways with ⟨_,h1⟩ | ⟨_,h1,h2⟩ | ⟨_,_,h1,_⟩ | ⟨_,_,_,_,_,h1,_⟩
      ·rw [h1] at h0; cases h0
      ·subst h1
       rw [h2]
       have h3 := hI.none.1
       have h4 := HST.out.mark h3
       have h5 := HO.out.none (by rw [h4.2.2.1]; rfl)
       rw [HN.out,h5]
       rfl
      ·rw [h1] at h0; cases h0
      ·rw [h1,HN.out]
       exact HO.out.marks
     have hdb8 := hdb' (by omega)
     have HHI := Lib.hid (high_any hdb8.db)
     have HFR := Lib.hid (freecnt_any hdb8.db)
     rw [← HSX.out] at HHI HFR
     have hc0 : (R.1 : Int) = 0 := by omega
     obtain ⟨HI,hHI⟩ : ∃ HI,HI = R.2.m.high := ⟨_,rfl⟩
     obtain ⟨CN,hCN⟩ : ∃ CN,CN = R.2.m.cnt := ⟨_,rfl⟩
     rw [← hHI] at HHI hmarks
     rw [← hCN] at HFR hmarks
     have hhb : HI < 1000000 := by
      rw [hHI]
      rcases hways with ⟨_,h1⟩ | ⟨_,h1,h2⟩ | ⟨_,_,h1,_⟩ | ⟨_,_,_,_,_,h1,_⟩
      ·rw [h1]; decide
      ·rw [h2]; decide
      ·rw [h1]; decide
      ·rw [h1]
       have h3 := HO.out.sane.2
       show v'.high < _
       omega
     obtain ⟨K1,hK1⟩ : ∃ K1,K1 = CN + N := ⟨_,rfl⟩
     have hw1 : IntKind.i64.wrap ((HI : Int) - 1) = (K1 : Int) := by rw [show (HI : Int) - 1 = (K1 : Int) by omega]; exact wrap_tiny _ (by omega) (by omega)
     have hw2 : IntKind.i64.wrap ((K1 : Int) - (CN : Int)) = (N : Int) := by rw [show (K1 : Int) - (CN : Int) = (N : Int) by omega]; exact wrap_tiny _ (by omega) (by omega)
     have hmle : (hn : Int) ≤ (M : Int) := by have := HM.out; omega
     rw [hc0]
     clear h0 hmarks hdb8 hc0 hHI hCN hhb hK1 hways hd' hdb' n1 n2 hx8 hRR
     go_wp2_with fail
     refine (HHI.out).mono ?_
     rintro e w9 ⟨rfl,rfl⟩
     go_wp2_with fail
     refine (HFR.out).mono ?_
     rintro e w9 ⟨rfl,rfl⟩
     go_wp2_with fail
     refine (HW8.out).mono ?_
     rintro e w9 ⟨rfl,hx9⟩
     go_wp2_with fail
     go_ret
     exact ⟨rfl,HEND8.out.trans_ hx9⟩
    ·have hc1 : ((R.1 : Int) != 0) = true := by simp; omega
     clear h0 hways hd' hdb' n1 n2 hx8 hRR
     go_wp2_with fail
     refine (HW8.out).mono ?_
     rintro e w9 ⟨rfl,hx9⟩
     go_wp2_with fail
     go_ret
     exact ⟨rfl,HEND8.out.trans_ hx9⟩
end Go.Proofs.YtccnemmlkcmceaaGreatDoor
namespace Go.Proofs.YtccnemmlkcmceaaGreatDoor
open Go.RowKit Go.ChangeShapes Go.WideShapes Go.ChangeAt
theorem Tryz.own : ownKnob Tryz.prog.godebug = none := by kernel_rfl
theorem Tryz.laidOut : laidOutB Tryz.prog = true := by kernel_rfl
theorem ext_kept {w w' : World} (h : Ext No w w') (may : MemPlace → Prop) : w.keptBut w' may := by
 refine ⟨h.os,h.output,fun i hi => ?_⟩
 rw [h.block i hi (fun h => h)]
 exact (World.keptBut_refl w may).2.2 i hi
def flat1 : DataW Unit → List Value
 | .lit (.int k n) => [.int k n]
 | _ => []
def flat2 : DataW Unit → List Value
 | .agg l => l.flatMap flat1
 | d => flat1 d
def flat3 : DataW Unit → List Value
 | .agg l => l.flatMap flat2
 | d => flat1 d
def putCells (cs : List Value) : Obj → Obj
 | .cells _ t frozen => .cells cs.toArray t frozen
 | o => o
theorem gHalf : Tryz.prog.globalNamed "aquifer/castagnoli.half" = some 0 := by kernel_rfl
noncomputable def laidWorld (os : Os) : World :=
 { World.holding Tryz.prog os ⟨#[],#[],[]⟩ with heap := ((((World.holding Tryz.prog os ⟨#[],#[],[]⟩).heap.modify 0 (putCells (flat3 Rows.laid_aquifer_castagnoli_half))).modify 2 (putCells (flat3 Rows.laid_unicode_utf8_first))).modify 3 (putCells (flat3 Rows.laid_unicode_utf8_acceptRanges))) }
theorem laid_met (os : Os) (args : Array Value) : laidMet Tryz.prog [("aquifer/castagnoli.half",Rows.laid_aquifer_castagnoli_half),("unicode/utf8.acceptRanges",Rows.laid_unicode_utf8_acceptRanges),("unicode/utf8.first",Rows.laid_unicode_utf8_first)] ((laidWorld os).forCall (fun _ _ => 0) ⟨#[],args,[]⟩).memory :=
 laidMet_of_run' 8 (by kernel_rfl) (by kernel_rfl)
theorem Tryz.cells53 : Tryz.prog.cellsOf 53 = 4 := by kernel_rfl
theorem Tryz.cells3 : Tryz.prog.cellsOf 3 = 1 := by kernel_rfl
theorem Tryz.cells9 : Tryz.prog.cellsOf 9 = 1 := by kernel_rfl
theorem act_cells {H : Type} {enc : TypeId × Value → H} {W : World} {sp : Nat → Bool} {fuel : Nat} {cs : List Value} {x : DataW H × List MemPlace}
  (h : DataW.trod enc Tryz.prog W 0 sp true fuel 53 cs = some x) : ∃ a : Ac,cs = a.vals ∧ a.fits := by
 obtain ⟨y0,y1,y2,y3,m,hx,hl,h0,h1,h2,h3⟩ := Go.Joins.trod_struct4 (P := Tryz.prog) Tryz.underlying53 h
 obtain ⟨n0,e0,_⟩ := DataW.trod_int (P := Tryz.prog) Tryz.underlying3 h0
 obtain ⟨n1,e1,_,w1⟩ := DataW.trod_int (P := Tryz.prog) Tryz.underlying3 h1
 obtain ⟨s2,e2,_,z2⟩ := DataW.trod_string (P := Tryz.prog) Tryz.underlying9 h2
 obtain ⟨s3,e3,_,z3⟩ := DataW.trod_string (P := Tryz.prog) Tryz.underlying9 h3
 rw [Tryz.cells53] at hl
 refine ⟨⟨n0,n1,s2.data.toList,s3.data.toList⟩,?_,?_,?_,?_⟩
 ·match cs,hl with
  | [a,b,c,d],_ =>
   have q0 : [a] = [Value.int .i64 n0] := by simpa [Value.cells,Tryz.cells3] using e0
   have q1 : [b] = [Value.int .i64 n1] := by simpa [Value.cells,Tryz.cells3] using e1
   have q2 : [c] = [Value.string s2] := by simpa [Value.cells,Tryz.cells9] using e2
   have q3 : [d] = [Value.string s3] := by simpa [Value.cells,Tryz.cells9] using e3
   injection q0 with q0; injection q1 with q1; injection q2 with q2; injection q3 with q3
   subst q0; subst q1; subst q2; subst q3
   simp only [Ac.vals,str_of]
 ·simp only [Lit.wf,Bool.and_eq_true,decide_eq_true_eq,IntKind.min,IntKind.max] at w1
  have a' : -(2:Int)^63 ≤ n1 := of_decide_eq_true w1.1
  have b' : n1 ≤ (2:Int)^63 - 1 := of_decide_eq_true w1.2
  exact ⟨a',by show n1 < 2^63; omega⟩
 ·have h4 : s3.data.toList.length = s3.size := Array.length_toList
  unfold maxLen at z3
  show s3.data.toList.length < 2 ^ 63
  rw [h4]; omega
 ·have h4 : s2.data.toList.length = s2.size := Array.length_toList
  unfold maxLen at z2
  show s2.data.toList.length < 2 ^ 63
  rw [h4]; omega
theorem acVals_of {w : World} {b o : Nat} {l : List Ac} (h : ∀ i a,l[i]? = some a → ∀ j u,a.vals[j]? = some u → w.cell? ⟨b,o + (i * 4 + j),none⟩ = some u) : ∀ j u,(acVals l)[j]? = some u → w.cell? ⟨b,o + j,none⟩ = some u := by
 intro j u hu
 have hj := (List.getElem?_eq_some_iff.1 hu).1
 rw [acVals_len] at hj
 have hi : j / 4 < l.length := by omega
 have ha : l[j / 4]? = some (l[j / 4]'hi) := List.getElem?_eq_getElem hi
 have hj4 : j % 4 < (l[j / 4]'hi).vals.length := by simp [Ac.vals]; omega
 have h1 := h _ _ ha (j % 4) _ (List.getElem?_eq_getElem hj4)
 have h2 := acVals_at l _ _ ha (j % 4) _ (List.getElem?_eq_getElem hj4)
 rw [show j / 4 * 4 + j % 4 = j by omega] at h1 h2
 rw [hu] at h2
 rw [h1,h2]
theorem list_of_fun {α : Type} {n : Nat} {p : Nat → α → Prop} (h : ∀ i,i < n → ∃ x,p i x) : ∃ l : List α,l.length = n ∧ ∀ i a,l[i]? = some a → p i a := by
 induction n with
 | zero => exact ⟨[],rfl,fun i a h => by cases h⟩
 | succ n ih =>
  obtain ⟨l,h1,h2⟩ := ih (fun i hi => h i (by omega))
  obtain ⟨x,hx⟩ := h n (by omega)
  refine ⟨l ++ [x],by simp [h1],fun i a ha => ?_⟩
  rcases Nat.lt_or_ge i l.length with hi | hi
  ·rw [List.getElem?_append_left hi] at ha; exact h2 i a ha
  ·rw [List.getElem?_append_right hi] at ha
   have hi' := (List.getElem?_eq_some_iff.1 ha).1
   have : i - l.length = 0 := by simpa using hi'
   rw [this] at ha
   have e : x = a := by simpa using ha
   subst e
   have e2 : i = n := by omega
   rw [e2]; exact hx
theorem acts_open {H : Type} {enc : TypeId × Value → H} {W : World} {base : Nat} {v : Value} {d : DataW H} {p : List MemPlace}
  (hval : Value.okWide Tryz.prog W .any base 22 v) (h : DataW.Trod enc Tryz.prog W 0 (fun _ => true) true 22 v d p) :
  ∃ (A : Option Addr) (l : List Ac) (c : Nat),v = .slice A l.length c ∧ Rd W (fun b => W.heap.size ≤ b) 4 A l.length (acVals l) ∧ l.length < 2 ^ 63 ∧ ∀ a ∈ l,a.fits := by
 obtain ⟨A0,n0,c0,rfl⟩ := okWide_slice (P := Tryz.prog) Tryz.underlying22 hval
 obtain ⟨fuel,hf⟩ := h
 have hf' : DataW.trod enc Tryz.prog W 0 (fun _ => true) true fuel 22 [.slice A0 n0 c0] = some (d,p) := hf
 rcases Go.Deep.open_slice (P := Tryz.prog) Tryz.underlying22 hf' with ⟨e,_⟩ | ⟨a,len,cap,m,n,D,Pl,e,_,hl,hm,hmm,_,hx⟩
 ·injection e with e _
  injection e with e1 e2 e3
  subst e1; subst e2; subst e3
  exact ⟨none,[],0,rfl,Rd.nil_ _,by decide,by simp⟩
 ·injection e with e _
  injection e with e1 e2 e3
  subst e1; subst e2; subst e3
  rw [Tryz.cells53] at hx
  have hlm : n0 ≤ m := by rw [hmm]; split <;> omega
  obtain ⟨l,h1,h2⟩ := list_of_fun (n := n0) (p := fun i (x : Ac) => x.fits ∧ ∀ j u,x.vals[j]? = some u → W.cell? ((a.add (i * 4)).add j) = some u) (fun i hi => by
   obtain ⟨cs',g1,g2⟩ := hx i (by omega)
   obtain ⟨y,rfl,hy⟩ := act_cells g2
   obtain ⟨_,_,g3⟩ := World.cells?_some g1
   refine ⟨y,hy,fun j u hu => ?_⟩
   have hj := (List.getElem?_eq_some_iff.1 hu).1
   rw [g3 j (by simpa [Ac.vals] using hj),hu])
  subst h1
  refine ⟨some a,l,c0,rfl,⟨acVals_len l,fun hpos => ?_⟩,by unfold maxLen at hm; omega,fun y hy => ?_⟩
  ·obtain ⟨x0,hx0⟩ : ∃ x0,l[0]? = some x0 := ⟨_,List.getElem?_eq_getElem hpos⟩
   have hspot : a.spot = none := by
    have := (h2 0 x0 hx0).2 0 _ rfl
    rw [Go.Deep.add_add,Nat.zero_mul,Nat.add_zero] at this
    unfold Addr.add at this
    simp only [if_true] at this
    unfold World.cell? at this
    cases hs : a.spot with
    | none => rfl
    | some _ => rw [hs] at this; split at this <;> simp at this
   obtain ⟨b,o,sp⟩ := a
   simp only at hspot
   subst hspot
   have hall := acVals_of (w := W) (b := b) (o := o) (l := l) (fun i y hy j u hu => by
    have := (h2 i y hy).2 j u hu
    rw [Go.Deep.add_add,Addr.add_none] at this
    exact this)
   refine ⟨b,o,rfl,?_,hall⟩
   have h3 := (h2 0 x0 hx0).2 0 _ rfl
   rw [Go.Deep.add_add,Addr.add_none] at h3
   have := World.block_lt_of_cell? W _ h3
   simp only at this
   omega
  ·obtain ⟨i,hi,e⟩ := List.getElem_of_mem hy
   exact (h2 i y (by rw [List.getElem?_eq_getElem hi,e])).1
end Go.Proofs.YtccnemmlkcmceaaGreatDoor
namespace Go.Proofs.YtccnemmlkcmceaaGreatDoor
open Go.RowKit
def halfs : List Int := [0,274646895,549293790,820201905,1098587580,1361435347,1640403810,1905808397,2197175160,2460548119,2722870694,2987750089,3280807620,3553878443,3811616794,4084100981]
def halfT (i : Nat) : Nat := (halfs.getD i 0).toNat
theorem halfT_lt (i : Nat) : halfT i < 4294967296 := by
 unfold halfT
 rcases Nat.lt_or_ge i 16 with h | h
 ·have hall : ∀ j,j < 16 → (halfs.getD j 0).toNat < 4294967296 := by decide
  exact hall i h
 ·rw [List.getD_eq_getElem?_getD,List.getElem?_eq_none (by simpa [halfs] using h)]; decide
theorem half_of_laid {rest : List (String × DataW Unit)} {W : World} (h : laidMet Tryz.prog (("aquifer/castagnoli.half",Rows.laid_aquifer_castagnoli_half) :: rest) W) : Half W halfT := by
 have h1 : Lib.TabIs Tryz.prog W "aquifer/castagnoli.half" .u32 halfs := Lib.tabIs_of_head (rest := rest) (t := 258) (e := 192) (n := 16) gHalf (by kernel_rfl) (by kernel_rfl) (by kernel_rfl) (by kernel_rfl) (by kernel_rfl) h
 refine ⟨fun i hi => ?_,halfT_lt⟩
 have h2 := h1.cell gHalf i (by simpa [halfs] using hi)
 rw [h2]
 have hall : ∀ j,j < 16 → (0 : Int) ≤ halfs.getD j 0 := by decide
 unfold halfT
 rw [Int.toNat_of_nonneg (hall i hi)]
end Go.Proofs.YtccnemmlkcmceaaGreatDoor
