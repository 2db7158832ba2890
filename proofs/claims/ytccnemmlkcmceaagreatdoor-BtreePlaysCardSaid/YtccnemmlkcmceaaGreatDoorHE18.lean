/- Proofs about the given program, joined out of the texts P4, I1. -/
import Derived.Test.YtccnemmlkcmceaaGreatDoorHE15
import Derived.Lib.RowBridge
set_option linter.unusedVariables false
set_option linter.unusedSimpArgs false
set_option maxRecDepth 100000
set_option maxHeartbeats 6400000
namespace Go.Proofs.YtccnemmlkcmceaaGreatDoor
open Go.RowKit
theorem Part.Ok.ext {w w':World} {sz:Nat} {p:Part} (h:p.Ok w sz) (hx:Ext No w w'):p.Ok w' sz:=⟨h.rd.ext hx,h.e,h.one,h.cap⟩
theorem part_branch (n:Nd) (f t:Nat) (w:World) (F:Nat → Prop) (A1:Option Addr) (c1:Nat) (A2:Option Addr) (c2:Nat) (A3:Option Addr) (c3:Nat) (hn:NodeAt w F A1 c1 A2 c2 A3 c3 n)
  (hlf:n.leaf = false) (hf:f < t) (ht:t ≤ n.keys.length) (hkk:n.kids.length = n.keys.length + 1) :
  Calls Tryz.prog 182 #[n.value A1 c1 A2 c2 A3 c3,.int .i64 (f:Int),.int .i64 (t:Int)] w (Made w (n.part f t)):=by
 obtain ⟨b,o,hA,_⟩:=hn.keys.2 (by omega)
 obtain ⟨ad,had⟩:∃ ad,A2 = some ad:=⟨_,hA⟩
 subst had
 clear hA
 obtain ⟨b',o',hA,_⟩:=hn.kids.2 (by omega)
 obtain ⟨ae,hae⟩:∃ ad,A3 = some ad:=⟨_,hA⟩
 subst hae
 clear hA
 have hp:n.part f t = ⟨false,[],(n.keys.drop f).take (t - f),(n.kids.drop f).take (t + 1 - f)⟩:=by simp [Nd.part,hlf]
 rw [hp]
 have hl2:=hn.l2
 have hb2:=hn.b2
 have hl3:=hn.l3
 have hb3:=hn.b3
 obtain ⟨W,hW⟩:∃ W,W = ((w.alloc (.cells #[.bool false,.slice A1 n.cells.length c1,.slice (some ad) n.keys.length c2,.slice (some ae) n.kids.length c3] 40)).alloc (.cells #[.bool false,.slice none 0 0,.slice none 0 0,.slice none 0 0] 40)):=⟨_,rfl⟩
 have hEW:Ext No w W.drew:=by rw [hW];exact (((Ext.refl No w).alloc _).alloc _).drew
 have hkl:=((hn.keys.mono (G:=No) (by omega) (fun _ _ h=>h.elim)).ext hEW).sub f t c2 (by omega) ht hl2 (by omega)
 have hil:=((hn.kids.mono (G:=No) (by omega) (fun _ _ h=>h.elim)).ext hEW).sub f (t + 1) c3 (by omega) (by omega) hl3 (by omega)
 have hkv:((keyVals n.keys).drop (f * 1)).take ((t - f) * 1) = keyVals ((n.keys.drop f).take (t - f)):=by simp [keyVals,List.map_take,List.map_drop]
 have hiv:((kidVals n.kids).drop (f * 1)).take ((t + 1 - f) * 1) = kidVals ((n.kids.drop f).take (t + 1 - f)):=by simp [kidVals,List.map_take,List.map_drop]
 rw [hkv] at hkl
 rw [hiv] at hil
 have hcf2:¬ c2 = f:=by omega
 have hcf3:¬ c3 = f:=by omega
 rw [if_neg hcf2] at hkl
 rw [if_neg hcf3] at hil
 simp only [Nat.mul_one] at hkl hil
 have hok2:Part.Ok W.drew 1 ⟨some (ad.add f),t - f,c2 - f,keyVals ((n.keys.drop f).take (t - f))⟩:=⟨hkl,(fun h=>by cases h),one_keys _,by simp only;omega⟩
 have hok3:Part.Ok W.drew 1 ⟨some (ae.add f),t + 1 - f,c3 - f,kidVals ((n.kids.drop f).take (t + 1 - f))⟩:=⟨hil,(fun h=>by cases h),one_kids _,by simp only;omega⟩
 have HC2:=Lib.hid (fun w h=>clone_strings _ w h (show t - f < 100000 by omega):∀ w,Part.Ok w 1 ⟨some (ad.add f),t - f,c2 - f,keyVals ((n.keys.drop f).take (t - f))⟩ → _)
 have HC3:=Lib.hid (fun w h=>clone_ints _ w h (show t + 1 - f < 100000 by omega):∀ w,Part.Ok w 1 ⟨some (ae.add f),t + 1 - f,c3 - f,kidVals ((n.kids.drop f).take (t + 1 - f))⟩ → _)
 have hk1:((n.keys.drop f).take (t - f)).length = t - f:=by simp;omega
 have hk2:((n.kids.drop f).take (t + 1 - f)).length = t + 1 - f:=by simp;omega
 generalize (n.keys.drop f).take (t - f) = ks at *
 generalize (n.kids.drop f).take (t + 1 - f) = ids at *
 have HK1:=Lib.hid hk1;have HK2:=Lib.hid hk2
 have bn:Blk W w.heap.size 40 #[.bool false,.slice A1 n.cells.length c1,.slice (some ad) n.keys.length c2,.slice (some ae) n.kids.length c3]:=by rw [hW];exact (Blk.new w 40 _).alloc _
 have br:Blk W (w.heap.size + 1) 40 #[.bool false,.slice none 0 0,.slice none 0 0,.slice none 0 0]:=by rw [hW];exact Blk.new_at (b:=w.heap.size + 1) (w.alloc _) 40 _ (by simp)
 simp only [Nd.value,hlf,Part.v] at HC2 HC3 ⊢
 obtain ⟨p0,p1,p2,p3,g0,g1,g2,g3,ln⟩:=bn.p4
 obtain ⟨r0,r1,r2,r3,s0,s1,s2,s3,lr⟩:=br.p4
 have hi1:(f:Int) ≤ t:=by omega
 have hi2:(t:Int) ≤ c2:=by omega
 have hi3:(0:Int) ≤ f:=by omega
 have hi4:t ≤ c2:=by omega
 have hi5:(t:Int) + 1 ≤ c3:=by omega
 have hi6:t + 1 ≤ c3:=by omega
 have hi7:(f:Int) ≤ (t:Int) + 1:=by omega
 have hi8:f ≤ t + 1:=by omega
 have hi9:IntKind.i64.wrap ((t:Int) + 1) = (t:Int) + 1:=IntWalk.i64_in _ (by omega)
 have hi10:((t:Int) + 1).toNat = t + 1:=by omega
 have hi11:(0:Int) ≤ (t:Int) + 1:=by omega
 have hi12:f ≤ t:=by omega
 have hb1:t - f < 65536:=by omega
 have hb2:t + 1 - f < 65536:=by omega
 have hWs:W.heap.size = w.heap.size + 2:=by rw [hW];simp
 have hW':=hW.symm
 have HOK2:=Lib.hid hok2;have HOK3:=Lib.hid hok3;have HEW:=Lib.hid hEW
 generalize n.cells.length = nl at *
 generalize n.keys.length = kl at *
 generalize n.kids.length = il at *
 clear hkk hW hp hkl hil hkv hiv hok2 hok3 hk1 hk2 hn hEW hlf
 go_enter Tryz.func182,Tryz.ntmps182
 go_wp2_with fail
 go_region_held3 (fun w'=>w'.cell? ⟨w.heap.size,2,none⟩ = some (.slice (some ad) kl c2) ∧ w'.cell? ⟨w.heap.size,3,none⟩ = some (.slice (some ae) il c3)) (go_keep)
  (first
   | (go_at_call 124;refine (HC2.out _ HOK2.out).mono ?_;rintro e w5 ⟨B2,d2,rfl,hown2,hx2⟩;have HO2:=Lib.hid hown2;have HX2:=Lib.hid hx2;have k2:=cell_ext hx2 p2 (fun h=>h);have k3:=cell_ext hx2 p3 (fun h=>h);have br5:=Blk.of_ext hx2 br (fun h=>h);have HBR5:=Lib.hid br5;obtain ⟨r0,r1,r2,r3,s0,s1,s2,s3,lr⟩:=br5.p4;clear hown2 hx2)
   | (go_at_call 146;refine (HC3.out _ (HOK3.out.ext HX2.out)).mono ?_;rintro e w6 ⟨B3,d3,rfl,hown3,hx3⟩;have HO3:=Lib.hid hown3;have HX3:=Lib.hid hx3;have k2':=cell_ext hx3 k2 (fun h=>h);have k3':=cell_ext hx3 k3 (fun h=>h);have br6:=Blk.of_ext hx3 HBR5.out (fun h=>h);have HBR6:=Lib.hid br6;obtain ⟨r0,r1,r2,r3,s0,s1,s2,s3,lr⟩:=br6.p4;clear hown3 hx3))
 all_goals (
  go_wp2_with fail
  refine bodyPost_ret (results_cell_row (P:=Tryz.prog) rfl _ _ (w.heap.size + 1) 40 _ (0,0) _ rfl (HBR6.out.put4 (.bool false) (.slice none 0 0) (.slice B2 (t - f) d2) (.slice B3 (t + 1 - f) d3)) Tryz.underlying40 rfl (by kernel_rfl)) rfl ?_
  have hx6:Ext No w w6:=(HEW.out.trans_ HX2.out).trans_ HX3.out
  refine ⟨(((hx6.setNew (by omega) _ _).setNew (by omega) _ _).setNew (by omega) _ _).setNew (by omega) _ _,none,0,B2,d2,B3,d3,by simp only [Nd.value,HK1.out,HK2.out,List.length_nil],?_⟩
  have hcap2:=own_cap HO2.out
  have hcap3:=own_cap HO3.out
  have hsz5:w.heap.size + 2 ≤ w5.heap.size:=by have:=HX2.out.size;simp at this;omega
  have hin':Lo (w.heap.size + 2) (w.heap.size + 1):=by show w.heap.size + 1 < w.heap.size + 2;omega
  have r2:Rd w6 (Lo (w.heap.size + 2)) 1 B2 (t - f) (keyVals ks):=((Rd.own_lo HO2.out (by omega)).mono (G:=Lo (w.heap.size + 2)) (by omega) (fun b _ hb=>by unfold Lo at hb ⊢;simp;omega)).ext HX3.out.of_no
  have r3:Rd w6 (Lo (w.heap.size + 2)) 1 B3 (t + 1 - f) (kidVals ids):=(Rd.own_lo HO3.out (by omega)).mono (G:=Lo (w.heap.size + 2)) (by omega) (fun b _ hb=>by unfold Lo at hb ⊢;omega)
  have hn2:NodeAt w6 (Lo (w.heap.size + 2)) none 0 B2 d2 B3 d3 ⟨false,[],ks,ids⟩:=⟨Rd.nil_ _,by rw [HK1.out];exact r2,by rw [HK2.out];exact r3,by simp,by rw [HK1.out];exact hcap2,by rw [HK2.out];exact hcap3,by simp,by rw [HK1.out];omega,by rw [HK2.out];omega,fun _=>rfl,own_nilcap HO2.out,own_nilcap HO3.out⟩
  have hz:Ext (Lo (w.heap.size + 2)) w6 _:=((((Ext.refl _ w6).setF hin' 0 (.bool false)).setF hin' 1 (.slice none 0 0)).setF hin' 2 (.slice B2 (t - f) d2)).setF hin' 3 (.slice B3 (t + 1 - f) d3)
  exact (hn2.ext hz).mono (fun b _ hb=>by unfold Old at hb;unfold Lo;omega))
def Rowed (base:Nat) (v:Value) (w:World) (xs:List Value) (n:Nat) (e:Ending) (w':World):Prop :=
 ∃ A c,e = .returned (.slice A n c) ∧ Rd w' (Lo base) 1 A n xs ∧ n ≤ c ∧ (A = none → c = 0) ∧ Ext (fun b=>v.ownBlock = some b) w w'
theorem Ext.setCells {F:Nat → Prop} {b:Nat}:∀ (vs:List Value) (o:Nat) {w w':World},Ext F w w' → (F b ∨ w.heap.size ≤ b) → Ext F w (w'.setCells b o vs)
 | [],_,_,_,h,_=>h
 | v :: r,o,_,_,h,hb=>Ext.setCells r (o + 1) (h.setCell (p:=⟨b,o,none⟩) hb v) hb
theorem own_cell {w:World} {base:Nat} {e:TypeId} {g cap n:Nat} {xs:List Value} {cur:Array Value} (hg:w.heap[g]? = some (.cells cur e (0,0))) (hs:cur.size = cap * 1) (ht:cur.toList.take (n * 1) = xs) :
  (∀ j v,xs[j]? = some v → w.cell? ⟨g,0 + j,none⟩ = some v) ∧ (∀ j,j < cap → (w.cell? ⟨g,0 + j,none⟩).isSome = true) ∧ ∀ j,w.frozen? ⟨g,0 + j,none⟩ = false:=by
 have hb:Blk w g e cur:=hg
 refine ⟨fun j v hj=>?_,fun j hj=>?_,fun j=>hb.frozen _⟩
 ·rw [Nat.zero_add,hb.cell,← Array.getElem?_toList]
  rw [← ht,List.getElem?_take] at hj
  split at hj
  ·exact hj
  ·cases hj
 ·rw [Nat.zero_add,hb.cell,Array.getElem?_eq_getElem (by omega)]
  rfl
theorem shift_cells (w:World) (b i n:Nat) (xs:List Value) (u:Value) (hl:xs.length = n) (hi:i ≤ n)
  (hcs:∀ j v,xs[j]? = some v → w.cell? ⟨b,0 + j,none⟩ = some v) (hsp:∀ j,j < n + 1 → (w.cell? ⟨b,0 + j,none⟩).isSome = true) :
  ∀ j v,(xs.take i ++ u :: xs.drop i)[j]? = some v → ((w.setCells b (0 + (i + 1)) (xs.drop i)).setCells b (0 + i) [u]).cell? ⟨b,0 + j,none⟩ = some v:=by
 intro j v hj
 have hs2:∀ j,j < n + 1 → ((w.setCells b (0 + (i + 1)) (xs.drop i)).cell? ⟨b,0 + j,none⟩).isSome = true:=fun j hj =>
  isSome_setCells b _ _ _ (fun k hk=>by rw [List.length_drop] at hk;have:=hsp (i + 1 + k) (by omega);rwa [← Nat.add_assoc] at this) _ (hsp j hj)
 rcases Nat.lt_trichotomy j i with h | h | h
 ·rw [List.getElem?_append_left (by rw [List.length_take];omega),List.getElem?_take_of_lt h] at hj
  rw [World.cell?_setCells_out _ _ _ _ _ (fun _ _=>.inl (by show 0 + j < 0 + i;omega)),World.cell?_setCells_out _ _ _ _ _ (fun _ _=>.inl (by show 0 + j < 0 + (i + 1);omega))]
  exact hcs j v hj
 ·subst h
  rw [List.getElem?_append_right (by rw [List.length_take];omega),List.length_take,Nat.min_eq_left (by omega)] at hj
  simp at hj
  subst hj
  have:=World.cell?_setCells_in b [u] (0 + j) (w.setCells b (0 + (j + 1)) (xs.drop j)) (fun k hk=>by
   have:k = 0:=by simpa using hk
   subst this
   exact hs2 j (by omega)) 0 (by simp)
  simpa using this
 ·rw [List.getElem?_append_right (by rw [List.length_take];omega),List.length_take,Nat.min_eq_left (by omega)] at hj
  obtain ⟨k,hk⟩:∃ k,j = i + 1 + k:=⟨j - i - 1,by omega⟩
  subst hk
  rw [show i + 1 + k - i = k + 1 by omega] at hj
  simp only [List.getElem?_cons_succ] at hj
  have hkl:k < (xs.drop i).length:=(List.getElem?_eq_some_iff.1 hj).1
  rw [World.cell?_setCells_out _ _ _ _ _ (fun _ _=>.inr (by show 0 + i + 1 ≤ 0 + (i + 1 + k);omega))]
  have:=World.cell?_setCells_in b (xs.drop i) (0 + (i + 1)) w (fun k hk=>by rw [List.length_drop] at hk;have:=hsp (i + 1 + k) (by omega);rwa [← Nat.add_assoc] at this) k hkl
  rw [show 0 + (i + 1 + k) = 0 + (i + 1) + k by omega,this]
  rw [← hj,List.getElem?_eq_getElem hkl]
theorem growCells (w:World) (b i n:Nat) (xs:List Value) (u:Value) (cur:Array Value) (e:TypeId) (hl:xs.length = n) (hi:i ≤ n) (hb:Blk w b e cur) (hs:n + 1 ≤ cur.size) (hc:∀ j v,j < i → xs[j]? = some v → cur[j]? = some v) :
  ∀ j v,(xs.take i ++ u :: xs.drop i)[j]? = some v → ((w.setCells b i [u]).drew.setCells b (i + 1) (xs.drop i)).cell? ⟨b,0 + j,none⟩ = some v:=by
 intro j v hj
 have hsp:∀ j,j < n + 1 → (w.cell? ⟨b,0 + j,none⟩).isSome = true:=fun j hj=>by rw [Nat.zero_add,hb.cell,Array.getElem?_eq_getElem (by omega)];rfl
 have hsp':∀ j,j < n + 1 → (w.cell? ⟨b,j,none⟩).isSome = true:=fun j hj=>by have:=hsp j hj;rwa [Nat.zero_add] at this
 have hs2:∀ j,j < n + 1 → ((w.setCells b i [u]).drew.cell? ⟨b,j,none⟩).isSome = true:=fun j hj =>
  isSome_setCells b [u] i w (fun k hk=>by
                       have:k = 0:=by simpa using hk
                       subst this
                       exact hsp' i (by omega)) j (hsp' j hj)
 rw [Nat.zero_add]
 rcases Nat.lt_trichotomy j i with h | h | h
 ·rw [List.getElem?_append_left (by rw [List.length_take];omega),List.getElem?_take_of_lt h] at hj
  rw [World.cell?_setCells_out _ _ _ _ _ (fun _ _=>.inl (by show j < i + 1;omega))]
  show (w.setCells b i [u]).cell? _ = _
  rw [World.cell?_setCells_out _ _ _ _ _ (fun _ _=>.inl (by show j < i;omega)),hb.cell]
  exact hc j v h hj
 ·subst h
  rw [List.getElem?_append_right (by rw [List.length_take];omega),List.length_take,Nat.min_eq_left (by omega)] at hj
  simp at hj
  subst hj
  rw [World.cell?_setCells_out _ _ _ _ _ (fun _ _=>.inl (by show j < j + 1;omega))]
  show (w.setCells b j [u]).cell? _ = _
  have:=World.cell?_setCells_in b [u] j w (fun k hk=>by
   have:k = 0:=by simpa using hk
   subst this
   exact hsp' j (by omega)) 0 (by simp)
  simpa using this
 ·rw [List.getElem?_append_right (by rw [List.length_take];omega),List.length_take,Nat.min_eq_left (by omega)] at hj
  obtain ⟨k,hk⟩:∃ k,j = i + 1 + k:=⟨j - i - 1,by omega⟩
  subst hk
  rw [show i + 1 + k - i = k + 1 by omega] at hj
  simp only [List.getElem?_cons_succ] at hj
  have hkl:k < (xs.drop i).length:=(List.getElem?_eq_some_iff.1 hj).1
  have:=World.cell?_setCells_in b (xs.drop i) (i + 1) (w.setCells b i [u]).drew (fun k hk=>by rw [List.length_drop] at hk;exact hs2 (i + 1 + k) (by omega)) k hkl
  rw [this,← hj,List.getElem?_eq_getElem hkl]
theorem ins_len (xs:List Value) (i n:Nat) (u:Value) (hl:xs.length = n) (hi:i ≤ n):(xs.take i ++ u :: xs.drop i).length = (n + 1) * 1:=by
 simp;omega
theorem zeros_len (z:Value) (hz:z.cells.size = 1) (k:Nat):(Builtin.zeroCells z.cells k).size = k:=by rw [size_zeroCells,hz,Nat.mul_one]
theorem insert_strings (i n:Nat) (hi:i ≤ n) (hn:n < 100000) (base:Nat) (v:Value) (xs:List Value) (w:World) (hown:w.ownsRow base 9 1 v n xs) (h1c:∀ u ∈ xs,u.oneCell' = true) (vb:Nat) (u:Value) (hu:u.oneCell' = true) (hvb:Blk w vb 9 #[u]) (hne:some vb ≠ v.ownBlock) (hbs:base ≤ w.heap.size) :
  Calls Tryz.prog 144 #[v,.int .i64 (i:Int),.slice (some ⟨vb,0,none⟩) 1 1] w (Rowed base v w (xs.take i ++ u :: xs.drop i) (n + 1)):=by
 have hvs:∀ j v,[u][j]? = some v → w.cell? ⟨vb,0 + j,none⟩ = some v:=fun j v hj=>by
  rw [Nat.zero_add,hvb.cell]
  simpa using hj
 have h1v:∀ v ∈ [u],v.oneCell' = true:=fun v hv=>by simp at hv;subst hv;exact hu
 have hl:=hown.1
 rw [Nat.mul_one] at hl
 have hsz:=ins_len xs i n u hl hi
 rcases hown.2 with ⟨rfl,rfl⟩ | ⟨g,cap,cur,rfl,hbg,hg,hnc,hcm,hcs,ht⟩
 ·have:i = 0:=by omega
  subst this
  have hx:xs = []:=List.eq_nil_of_length_eq_zero hl
  subst hx
  refine (Any2.slices_Insert_string_end_grow Tryz.laysNm222 none 0 0 vb 0 1 1 [] [u] w (by omega) (by omega) (by omega) (by omega) rfl rfl (fun _=>rfl) (fun a h=>by cases h) hvs h1v).mono ?_
  rintro e w' ⟨he,rfl⟩
  have hgc:=grownCap_ge w (0 + 1) 0 9
  refine ⟨_,_,he,⟨hsz,fun _=>⟨w.heap.size,0,rfl,by unfold Lo;omega,fun j x hx=>?_⟩⟩,hgc,(fun h=>by cases h),(Ext.refl _ w).drew.alloc _⟩
  simp only [Nat.zero_add]
  refine ((Blk.new_at (b:=w.heap.size) w.drew _ _ rfl).cell j).trans ?_
  rw [Array.getElem?_append_left (by have:=(List.getElem?_eq_some_iff.1 hx).1;simpa using this)]
  simpa using hx
 ·obtain ⟨k1,k2,k3⟩:=own_cell (base:=base) hg hcs ht
  unfold maxLen at hcm
  have hgs:g < w.heap.size:=by
   rcases Nat.lt_or_ge g w.heap.size with h | h
   ·exact h
   ·rw [Array.getElem?_eq_none h] at hg;cases hg
  have hne':vb ≠ g:=fun h=>hne (by rw [h];rfl)
  have hshB:w.shape? g = some (9,cur.size):=by simp [World.shape?,hg]
  have hshA:w.shape? vb = some (9,1):=by unfold Blk at hvb;simp [World.shape?,hvb]
  rcases Nat.lt_or_ge i n with hlt | hge
  ·rcases Nat.lt_or_ge cap (n + 1) with hr | hr
   ·refine (Any2.slices_Insert_string_grow Tryz.laysNm222 g 0 n cap i vb 0 1 1 xs [u] w hlt (by omega) hnc hr (by omega) hl rfl k1 hvs h1c h1v).mono ?_
    rintro e w' ⟨he,rfl⟩
    have hgc:=grownCap_ge w (n + 1) cap 9
    refine ⟨_,_,he,⟨hsz,fun _=>⟨w.heap.size,0,rfl,by unfold Lo;omega,?_⟩⟩,hgc,(fun h=>by cases h),(((((Ext.refl _ w).alloc _).drew.setCells _ _ (.inr (Nat.le_refl _))).drew).setCells _ _ (.inr (Nat.le_refl _)))⟩
    refine growCells _ w.heap.size i n xs u _ _ hl hi ((Blk.new_at (b:=w.heap.size) w _ _ rfl).drewN 1) ?_ ?_
    ·simp only [Array.size_append]
     rw [zeros_len _ rfl,zeros_len _ rfl]
     simp
     show n + 1 ≤ _
     have:n + 1 ≤ grownCap w (n + 1) cap 9:=hgc
     change n + 1 ≤ min i xs.length + (n + 1 - i) + (grownCap w (n + 1) cap 9 - (n + 1))
     omega
    ·intro j x hj hx
     rw [Array.append_assoc,Array.getElem?_append_left (by simp;omega)]
     simp [List.getElem?_take_of_lt hj,hx]
   ·refine (Any2.slices_Insert_string_shift Tryz.laysNm222 g 0 n cap i vb 0 1 1 xs [u] w hlt (by omega) hr (by omega) hne' hl rfl k1 (fun j hj=>k2 j (by omega)) (fun j _=>k3 j) hvs h1c h1v 9 9 1 cur.size hshA hshB (by omega) (hvb.frozen 0) (hvb.frozen 1)).mono ?_
    rintro e w' ⟨he,rfl⟩
    refine ⟨_,_,he,⟨hsz,fun _=>⟨g,0,rfl,by unfold Lo;omega,?_⟩⟩,hr,(fun h=>by cases h),((Ext.refl (fun b=>(Value.slice (some ⟨g,0,none⟩) n cap).ownBlock = some b) w).drew.setCells _ _ (.inl rfl)).setCells _ _ (.inl rfl)⟩
    exact shift_cells w.drew g i n xs u hl hi k1 (fun j hj=>k2 j (by omega))
  ·have:i = n:=by omega
   subst this
   have ht':xs.take i = xs:=List.take_of_length_le (by omega)
   have hd':xs.drop i = []:=List.drop_eq_nil_of_le (by omega)
   rcases Nat.lt_or_ge cap (i + 1) with hr | hr
   ·refine (Any2.slices_Insert_string_end_grow Tryz.laysNm222 (some ⟨g,0,none⟩) i cap vb 0 1 1 xs [u] w (by omega) hnc hr (by omega) hl rfl (fun h=>by cases h) (fun a h j x hx=>by
     injection h with h;subst h
     have:=k1 j x hx
     unfold Addr.add
     split
     ·rename_i hj
      have:j = 0:=by simpa using hj
      subst this;assumption
     ·exact this) hvs h1v).mono ?_
    rintro e w' ⟨he,rfl⟩
    have hgc:=grownCap_ge w (i + 1) cap 9
    refine ⟨_,_,he,⟨hsz,fun _=>⟨w.heap.size,0,rfl,by unfold Lo;omega,fun j x hx=>?_⟩⟩,hgc,(fun h=>by cases h),(Ext.refl _ w).drew.alloc _⟩
    simp only [Nat.zero_add]
    refine ((Blk.new_at (b:=w.heap.size) w.drew _ _ rfl).cell j).trans ?_
    rw [ht',hd'] at hx
    rw [Array.getElem?_append_left (by have:=(List.getElem?_eq_some_iff.1 hx).1;simpa using this)]
    simpa using hx
   ·refine (Any2.slices_Insert_string_end_room Tryz.laysNm222 g 0 i cap vb 0 1 1 [u] w (by omega) hr (by omega) rfl (fun j hj=>by have:=k2 (i + j) (by omega);rwa [← Nat.add_assoc] at this) (fun j hj=>by have:=k3 (i + j);rwa [← Nat.add_assoc] at this) hvs h1v).mono ?_
    rintro e w' ⟨he,rfl⟩
    refine ⟨_,_,he,⟨hsz,fun _=>⟨g,0,rfl,by unfold Lo;omega,?_⟩⟩,hr,(fun h=>by cases h),(Ext.refl (fun b=>(Value.slice (some ⟨g,0,none⟩) i cap).ownBlock = some b) w).setCells _ _ (.inl rfl)⟩
    have:=shift_cells w g i i xs u hl hi k1 (fun j hj=>k2 j (by omega))
    rw [hd'] at this ⊢
    exact this
theorem insert_ints (i n:Nat) (hi:i ≤ n) (hn:n < 100000) (base:Nat) (v:Value) (xs:List Value) (w:World) (hown:w.ownsRow base 3 1 v n xs) (h1c:∀ u ∈ xs,u.oneCell' = true) (vb:Nat) (u:Value) (hu:u.oneCell' = true) (hvb:Blk w vb 3 #[u]) (hne:some vb ≠ v.ownBlock) (hbs:base ≤ w.heap.size) :
  Calls Tryz.prog 145 #[v,.int .i64 (i:Int),.slice (some ⟨vb,0,none⟩) 1 1] w (Rowed base v w (xs.take i ++ u :: xs.drop i) (n + 1)):=by
 have hvs:∀ j v,[u][j]? = some v → w.cell? ⟨vb,0 + j,none⟩ = some v:=fun j v hj=>by
  rw [Nat.zero_add,hvb.cell]
  simpa using hj
 have h1v:∀ v ∈ [u],v.oneCell' = true:=fun v hv=>by simp at hv;subst hv;exact hu
 have hl:=hown.1
 rw [Nat.mul_one] at hl
 have hsz:=ins_len xs i n u hl hi
 rcases hown.2 with ⟨rfl,rfl⟩ | ⟨g,cap,cur,rfl,hbg,hg,hnc,hcm,hcs,ht⟩
 ·have:i = 0:=by omega
  subst this
  have hx:xs = []:=List.eq_nil_of_length_eq_zero hl
  subst hx
  refine (Any2.slices_Insert_int_end_grow Tryz.laysNm221 none 0 0 vb 0 1 1 [] [u] w (by omega) (by omega) (by omega) (by omega) rfl rfl (fun _=>rfl) (fun a h=>by cases h) hvs h1v).mono ?_
  rintro e w' ⟨he,rfl⟩
  have hgc:=grownCap_ge w (0 + 1) 0 3
  refine ⟨_,_,he,⟨hsz,fun _=>⟨w.heap.size,0,rfl,by unfold Lo;omega,fun j x hx=>?_⟩⟩,hgc,(fun h=>by cases h),(Ext.refl _ w).drew.alloc _⟩
  simp only [Nat.zero_add]
  refine ((Blk.new_at (b:=w.heap.size) w.drew _ _ rfl).cell j).trans ?_
  rw [Array.getElem?_append_left (by have:=(List.getElem?_eq_some_iff.1 hx).1;simpa using this)]
  simpa using hx
 ·obtain ⟨k1,k2,k3⟩:=own_cell (base:=base) hg hcs ht
  unfold maxLen at hcm
  have hgs:g < w.heap.size:=by
   rcases Nat.lt_or_ge g w.heap.size with h | h
   ·exact h
   ·rw [Array.getElem?_eq_none h] at hg;cases hg
  have hne':vb ≠ g:=fun h=>hne (by rw [h];rfl)
  have hshB:w.shape? g = some (3,cur.size):=by simp [World.shape?,hg]
  have hshA:w.shape? vb = some (3,1):=by unfold Blk at hvb;simp [World.shape?,hvb]
  rcases Nat.lt_or_ge i n with hlt | hge
  ·rcases Nat.lt_or_ge cap (n + 1) with hr | hr
   ·refine (Any2.slices_Insert_int_grow Tryz.laysNm221 g 0 n cap i vb 0 1 1 xs [u] w hlt (by omega) hnc hr (by omega) hl rfl k1 hvs h1c h1v).mono ?_
    rintro e w' ⟨he,rfl⟩
    have hgc:=grownCap_ge w (n + 1) cap 3
    refine ⟨_,_,he,⟨hsz,fun _=>⟨w.heap.size,0,rfl,by unfold Lo;omega,?_⟩⟩,hgc,(fun h=>by cases h),(((((Ext.refl _ w).alloc _).drew.setCells _ _ (.inr (Nat.le_refl _))).drew).setCells _ _ (.inr (Nat.le_refl _)))⟩
    refine growCells _ w.heap.size i n xs u _ _ hl hi ((Blk.new_at (b:=w.heap.size) w _ _ rfl).drewN 1) ?_ ?_
    ·simp only [Array.size_append]
     rw [zeros_len _ rfl,zeros_len _ rfl]
     simp
     show n + 1 ≤ _
     have:n + 1 ≤ grownCap w (n + 1) cap 3:=hgc
     change n + 1 ≤ min i xs.length + (n + 1 - i) + (grownCap w (n + 1) cap 3 - (n + 1))
     omega
    ·intro j x hj hx
     rw [Array.append_assoc,Array.getElem?_append_left (by simp;omega)]
     simp [List.getElem?_take_of_lt hj,hx]
   ·refine (Any2.slices_Insert_int_shift Tryz.laysNm221 g 0 n cap i vb 0 1 1 xs [u] w hlt (by omega) hr (by omega) hne' hl rfl k1 (fun j hj=>k2 j (by omega)) (fun j _=>k3 j) hvs h1c h1v 3 3 1 cur.size hshA hshB (by omega) (hvb.frozen 0) (hvb.frozen 1)).mono ?_
    rintro e w' ⟨he,rfl⟩
    refine ⟨_,_,he,⟨hsz,fun _=>⟨g,0,rfl,by unfold Lo;omega,?_⟩⟩,hr,(fun h=>by cases h),((Ext.refl (fun b=>(Value.slice (some ⟨g,0,none⟩) n cap).ownBlock = some b) w).drew.setCells _ _ (.inl rfl)).setCells _ _ (.inl rfl)⟩
    exact shift_cells w.drew g i n xs u hl hi k1 (fun j hj=>k2 j (by omega))
  ·have:i = n:=by omega
   subst this
   have ht':xs.take i = xs:=List.take_of_length_le (by omega)
   have hd':xs.drop i = []:=List.drop_eq_nil_of_le (by omega)
   rcases Nat.lt_or_ge cap (i + 1) with hr | hr
   ·refine (Any2.slices_Insert_int_end_grow Tryz.laysNm221 (some ⟨g,0,none⟩) i cap vb 0 1 1 xs [u] w (by omega) hnc hr (by omega) hl rfl (fun h=>by cases h) (fun a h j x hx=>by
     injection h with h;subst h
     have:=k1 j x hx
     unfold Addr.add
     split
     ·rename_i hj
      have:j = 0:=by simpa using hj
      subst this;assumption
     ·exact this) hvs h1v).mono ?_
    rintro e w' ⟨he,rfl⟩
    have hgc:=grownCap_ge w (i + 1) cap 3
    refine ⟨_,_,he,⟨hsz,fun _=>⟨w.heap.size,0,rfl,by unfold Lo;omega,fun j x hx=>?_⟩⟩,hgc,(fun h=>by cases h),(Ext.refl _ w).drew.alloc _⟩
    simp only [Nat.zero_add]
    refine ((Blk.new_at (b:=w.heap.size) w.drew _ _ rfl).cell j).trans ?_
    rw [ht',hd'] at hx
    rw [Array.getElem?_append_left (by have:=(List.getElem?_eq_some_iff.1 hx).1;simpa using this)]
    simpa using hx
   ·refine (Any2.slices_Insert_int_end_room Tryz.laysNm221 g 0 i cap vb 0 1 1 [u] w (by omega) hr (by omega) rfl (fun j hj=>by have:=k2 (i + j) (by omega);rwa [← Nat.add_assoc] at this) (fun j hj=>by have:=k3 (i + j);rwa [← Nat.add_assoc] at this) hvs h1v).mono ?_
    rintro e w' ⟨he,rfl⟩
    refine ⟨_,_,he,⟨hsz,fun _=>⟨g,0,rfl,by unfold Lo;omega,?_⟩⟩,hr,(fun h=>by cases h),(Ext.refl (fun b=>(Value.slice (some ⟨g,0,none⟩) i cap).ownBlock = some b) w).setCells _ _ (.inl rfl)⟩
    have:=shift_cells w g i i xs u hl hi k1 (fun j hj=>k2 j (by omega))
    rw [hd'] at this ⊢
    exact this
end Go.Proofs.YtccnemmlkcmceaaGreatDoor
