/- Proofs about the given program, joined out of the texts S0, S1, S2, S3, RA. -/
import Derived.Test.YtccnemmlkcmceaaGreatDoorHE1
import Derived.Deep.DeepCutAuto
import Derived.Deep.LoopGhost
import Derived.Deep.CutBlock
import Derived.Test.YtccnemmlkcmceaaGreatDoorCards
import Derived.Test.YtccnemmlkcmceaaGreatDoorTie
import Derived.ProofKit
import Derived.OpenShut
import Derived.Deep.DeepHandedRow
import Derived.Lib.LaidTab
set_option linter.unusedVariables false
set_option linter.unusedSimpArgs false
set_option maxRecDepth 100000
set_option maxHeartbeats 6400000
namespace Go.Proofs.YtccnemmlkcmceaaGreatDoor
open Go.RowKit
abbrev Bs:=List UInt8
structure Cell where
 key:Bs
 val:Bs
 over:Nat
 len:Nat
structure Nd where
 leaf:Bool
 cells:List Cell
 keys:List Bs
 kids:List Nat
def Cell.vals (c:Cell):List Value:=[.string (str c.key),.string (str c.val),.int .i64 (c.over:Int),.int .i64 (c.len:Int)]
def Cell.agg (c:Cell):Value:=.agg #[.string (str c.key),.string (str c.val),.int .i64 (c.over:Int),.int .i64 (c.len:Int)]
def Rd (w:World) (F:Nat → Prop) (sz:Nat) (A:Option Addr) (n:Nat) (xs:List Value):Prop :=
 xs.length = n * sz ∧ (0 < n → ∃ b o,A = some ⟨b,o,none⟩ ∧ ¬ F b ∧ ∀ j u,xs[j]? = some u → w.cell? ⟨b,o + j,none⟩ = some u)
section
variable {w w':World} {F G:Nat → Prop} {sz n:Nat} {A:Option Addr} {xs:List Value}
theorem Rd.nil_ (A:Option Addr):Rd w F sz A 0 []:=⟨by simp,fun h=>absurd h (by omega)⟩
theorem Rd.ext (h:Rd w F sz A n xs) (he:Ext F w w'):Rd w' F sz A n xs :=
 ⟨h.1,fun hn=>by
  obtain ⟨b,o,e,hb,hc⟩:=h.2 hn
  refine ⟨b,o,e,hb,fun j u hu=>?_⟩
  have hc':=hc j u hu
  have hlt:=World.block_lt_of_cell? w _ hc'
  rw [← hc']
  exact World.cell?_of_block (he.block b hlt hb)⟩
theorem Rd.mono (h:Rd w F sz A n xs) (hs:0 < sz) (hG:∀ b,b < w.heap.size → G b → F b):Rd w G sz A n xs :=
 ⟨h.1,fun hn=>by
  obtain ⟨b,o,e,hb,hc⟩:=h.2 hn
  refine ⟨b,o,e,fun hg=>hb (hG b ?_ hg),hc⟩
  match xs,h.1,hc with
  | [],hl,_=>have:=Nat.mul_pos hn hs;simp at hl;omega
  | u :: xs',_,hc=>exact World.block_lt_of_cell? w _ (hc 0 u rfl)⟩
end
def cellVals (cs:List Cell):List Value:=cs.flatMap Cell.vals
def keyVals (ks:List Bs):List Value:=ks.map fun k=>.string (str k)
def kidVals (ks:List Nat):List Value:=ks.map fun (k:Nat)=>.int .i64 (k:Int)
theorem cellVals_cons (c:Cell) (cs:List Cell):cellVals (c :: cs) = c.vals ++ cellVals cs:=rfl
theorem cellVals_append (a b:List Cell):cellVals (a ++ b) = cellVals a ++ cellVals b:=by simp [cellVals]
theorem cellVals_at (cs:List Cell) (i k:Nat) (c:Cell) (hc:cs[i]? = some c) (hk:k < 4):(cellVals cs)[i * 4 + k]? = c.vals[k]?:=by
 induction cs generalizing i with
 | nil=>simp at hc
 | cons d cs ih =>
  rw [cellVals_cons]
  have hl:d.vals.length = 4:=rfl
  match i with
  | 0 =>
   have:d = c:=by simpa using hc
   subst this
   rw [List.getElem?_append_left (by omega)]
   simp
  | i + 1 =>
   rw [List.getElem?_append_right (by omega),hl,show (i + 1) * 4 + k - 4 = i * 4 + k from by omega]
   exact ih i (by simpa using hc)
theorem cellVals_drop (cs:List Cell) (k:Nat):(cellVals cs).drop (k * 4) = cellVals (cs.drop k):=by
 induction cs generalizing k with
 | nil=>simp [cellVals]
 | cons c cs ih =>
  match k with
  | 0=>simp
  | k + 1 =>
   rw [cellVals_cons,List.drop_succ_cons,← ih k,List.drop_append,show (k + 1) * 4 - c.vals.length = k * 4 from by simp [Cell.vals];omega]
   simp [Cell.vals];omega
theorem cellVals_take (cs:List Cell) (k:Nat):(cellVals cs).take (k * 4) = cellVals (cs.take k):=by
 induction cs generalizing k with
 | nil=>simp [cellVals]
 | cons c cs ih =>
  match k with
  | 0=>simp [cellVals]
  | k + 1 =>
   rw [cellVals_cons,List.take_succ_cons,cellVals_cons,← ih k,List.take_append,show (k + 1) * 4 - c.vals.length = k * 4 from by simp [Cell.vals];omega]
   congr 1
   exact List.take_of_length_le (by simp [Cell.vals];omega)
theorem Rd.cellAt {w:World} {F:Nat → Prop} {A:Option Addr} {cs:List Cell} (h:Rd w F 4 A cs.length (cellVals cs)) {i:Nat} {c:Cell} (hc:cs[i]? = some c) :
  ∃ b o,A = some ⟨b,o,none⟩ ∧ ¬ F b ∧ w.cell? ⟨b,o + i * 4,none⟩ = some (.string (str c.key)) ∧ w.cell? ⟨b,o + i * 4 + 1,none⟩ = some (.string (str c.val)) ∧
   w.cell? ⟨b,o + i * 4 + 2,none⟩ = some (.int .i64 (c.over:Int)) ∧ w.cell? ⟨b,o + i * 4 + 3,none⟩ = some (.int .i64 (c.len:Int)):=by
 have hi:i < cs.length:=(List.getElem?_eq_some_iff.1 hc).1
 obtain ⟨b,o,e,hb,hx⟩:=h.2 (by omega)
 refine ⟨b,o,e,hb,?_,?_,?_,?_⟩
 ·have:=hx (i * 4 + 0) _ ((cellVals_at cs i 0 c hc (by omega)).trans rfl)
  exact this
 ·have:=hx (i * 4 + 1) _ ((cellVals_at cs i 1 c hc (by omega)).trans rfl)
  rw [← Nat.add_assoc] at this;exact this
 ·have:=hx (i * 4 + 2) _ ((cellVals_at cs i 2 c hc (by omega)).trans rfl)
  rw [← Nat.add_assoc] at this;exact this
 ·have:=hx (i * 4 + 3) _ ((cellVals_at cs i 3 c hc (by omega)).trans rfl)
  rw [← Nat.add_assoc] at this;exact this
theorem Rd.keyAt {w:World} {F:Nat → Prop} {A:Option Addr} {ks:List Bs} (h:Rd w F 1 A ks.length (keyVals ks)) {i:Nat} {k:Bs} (hc:ks[i]? = some k) :
  ∃ b o,A = some ⟨b,o,none⟩ ∧ ¬ F b ∧ w.cell? ⟨b,o + i,none⟩ = some (.string (str k)):=by
 have hi:i < ks.length:=(List.getElem?_eq_some_iff.1 hc).1
 obtain ⟨b,o,e,hb,hx⟩:=h.2 (by omega)
 exact ⟨b,o,e,hb,hx i _ (by simp [keyVals,hc])⟩
theorem Rd.kidAt {w:World} {F:Nat → Prop} {A:Option Addr} {ks:List Nat} (h:Rd w F 1 A ks.length (kidVals ks)) {i:Nat} {k:Nat} (hc:ks[i]? = some k) :
  ∃ b o,A = some ⟨b,o,none⟩ ∧ ¬ F b ∧ w.cell? ⟨b,o + i,none⟩ = some (.int .i64 (k:Int)):=by
 have hi:i < ks.length:=(List.getElem?_eq_some_iff.1 hc).1
 obtain ⟨b,o,e,hb,hx⟩:=h.2 (by omega)
 exact ⟨b,o,e,hb,hx i _ (by simp [kidVals,hc])⟩
structure NodeAt (w:World) (F:Nat → Prop) (A1:Option Addr) (c1:Nat) (A2:Option Addr) (c2:Nat) (A3:Option Addr) (c3:Nat) (n:Nd):Prop where
 cells:Rd w F 4 A1 n.cells.length (cellVals n.cells)
 keys:Rd w F 1 A2 n.keys.length (keyVals n.keys)
 kids:Rd w F 1 A3 n.kids.length (kidVals n.kids)
 l1:n.cells.length ≤ c1
 l2:n.keys.length ≤ c2
 l3:n.kids.length ≤ c3
 b1:n.cells.length < 65536
 b2:n.keys.length < 65536
 b3:n.kids.length < 65536
 e1:A1 = none → c1 = 0
 e2:A2 = none → c2 = 0
 e3:A3 = none → c3 = 0
def Nd.value (n:Nd) (A1:Option Addr) (c1:Nat) (A2:Option Addr) (c2:Nat) (A3:Option Addr) (c3:Nat):Value :=
 .agg #[.bool n.leaf,.slice A1 n.cells.length c1,.slice A2 n.keys.length c2,.slice A3 n.kids.length c3]
theorem NodeAt.ext {w w':World} {F:Nat → Prop} {A1:Option Addr} {c1:Nat} {A2:Option Addr} {c2:Nat} {A3:Option Addr} {c3:Nat} {n:Nd} (h:NodeAt w F A1 c1 A2 c2 A3 c3 n) (he:Ext F w w') :
  NodeAt w' F A1 c1 A2 c2 A3 c3 n:=⟨h.cells.ext he,h.keys.ext he,h.kids.ext he,h.l1,h.l2,h.l3,h.b1,h.b2,h.b3,h.e1,h.e2,h.e3⟩
def keyOk (k:Bs):Bool:=decide (1 ≤ k.length ∧ k.length ≤ 140)
def idOk (n:Nat):Bool:=decide (1 ≤ n ∧ n ≤ 2147483647)
def Cell.size (c:Cell):Nat:=if 0 < c.over then 10 + c.key.length else 3 + c.key.length + c.val.length
def Cell.ok (c:Cell):Bool :=
 if c.over = 0 then keyOk c.key && decide (c.len = 0) && decide (c.size ≤ 160) else keyOk c.key && idOk c.over && decide (c.len ≤ 16384) && c.val.isEmpty
theorem key_any (k:Bs) (w:World) (hk:k.length < 4294967296):Calls Tryz.prog 131 #[.string (str k)] w fun e w'=>e = .returned (.bool (keyOk k)) ∧ w = w':=by
 have h0:=str_size k
 by_cases h1:1 ≤ k.length
 ·by_cases h2:k.length ≤ 140
  ·have e:keyOk k = true:=by simp [keyOk,h1,h2]
   rw [e]
   go_enter Tryz.func131,Tryz.ntmps131
   go_wp2
   go_ret
   exact ⟨ret_bool (by simp;omega),rfl⟩
  ·have e:keyOk k = false:=by simp [keyOk];omega
   rw [e]
   go_enter Tryz.func131,Tryz.ntmps131
   go_wp2
   go_ret
   exact ⟨ret_bool (by simp;omega),rfl⟩
 ·have e:keyOk k = false:=by simp [keyOk];omega
  rw [e]
  go_enter Tryz.func131,Tryz.ntmps131
  go_wp2
  go_ret
  exact ⟨rfl,rfl⟩
theorem id_any (n:Nat) (w:World):Calls Tryz.prog 132 #[.int .i64 (n:Int)] w fun e w'=>e = .returned (.bool (idOk n)) ∧ w = w':=by
 by_cases h1:1 ≤ n
 ·have h1':((n:Int) ≥ 1):=by omega
  by_cases h2:n ≤ 2147483647
  ·have e:idOk n = true:=by simp [idOk,h1,h2]
   have h2':decide ((n:Int) ≤ 2147483647) = true:=by simp;omega
   rw [e]
   clear h2
   go_enter Tryz.func132,Tryz.ntmps132
   go_wp2
   go_ret
   exact ⟨rfl,rfl⟩
  ·have e:idOk n = false:=by simp [idOk];omega
   have h2':decide ((n:Int) ≤ 2147483647) = false:=by simp;omega
   rw [e]
   clear h2
   go_enter Tryz.func132,Tryz.ntmps132
   go_wp2
   go_ret
   exact ⟨rfl,rfl⟩
 ·have e:idOk n = false:=by simp [idOk];omega
  rw [e]
  go_enter Tryz.func132,Tryz.ntmps132
  go_wp2
  go_ret
  exact ⟨rfl,rfl⟩
theorem length_any (c:Cell) (w:World) (hk:c.key.length < 4294967296) (hv:c.val.length < 4294967296) :
  Calls Tryz.prog 175 #[c.agg] w fun e w'=>e = .returned (.int .i64 (c.size:Int)) ∧ ∃ o,w' = w.alloc o:=by
 have h0:=str_size c.key
 have h00:=str_size c.val
 by_cases h1:(0:Int) < c.over
 ·have e:c.size = 10 + c.key.length:=by unfold Cell.size;rw [if_pos (by omega)]
  rw [e]
  go_enter Tryz.func175,Tryz.ntmps175
  simp only [Cell.agg]
  go_wp2
  go_ret
  exact ⟨ret_int (by omega),_,rfl⟩
 ·have e:c.size = 3 + c.key.length + c.val.length:=by unfold Cell.size;rw [if_neg (by omega)]
  rw [e]
  go_enter Tryz.func175,Tryz.ntmps175
  simp only [Cell.agg]
  go_wp2
  go_ret
  exact ⟨ret_int (by omega),_,rfl⟩
def Cell.fits (c:Cell):Prop:=c.key.length < 65536 ∧ c.val.length < 65536 ∧ c.over < 4294967296 ∧ c.len < 4294967296
theorem cell_any (c:Cell) (w:World) (hf:c.fits) :
  Calls Tryz.prog 130 #[c.agg] w fun e w'=>e = .returned (.bool c.ok) ∧ Ext No w w':=by
 obtain ⟨hk,hv,ho,hl⟩:=hf
 have HK:=Lib.hid (fun w=>key_any c.key w (by omega))
 have HI:=Lib.hid (fun w=>id_any c.over w)
 have HL:=Lib.hid (fun w=>length_any c w (by omega) (by omega))
 have h0:=str_size c.key
 have h00:=str_size c.val
 by_cases h1:c.over = 0
 ·have e:c.ok = (keyOk c.key && decide (c.len = 0) && decide (c.size ≤ 160)):=by unfold Cell.ok;rw [if_pos h1]
  have h1':((c.over:Int) == 0) = true:=by simp [h1]
  rw [e]
  clear h1 e
  have b2:((c.len:Int) == 0) = decide (c.len = 0):=by rw [Bool.eq_iff_iff];simp
  generalize keyOk c.key = k1 at *
  generalize hk2:decide (c.len = 0) = k2 at *
  cases k1
  ·go_enter Tryz.func130,Tryz.ntmps130
   simp only [Cell.agg]
   go_wp2_with (go_at_call 131;refine (HK.out _).mono ?_;rintro e w' ⟨rfl,rfl⟩)
   go_ret
   exact ⟨ret_bool (by simp),by (repeat' (first | exact Ext.refl _ _ | assumption | apply Ext.alloc | apply Ext.drewN | apply Ext.drew | refine Ext.setNew ?_ (by first | omega | (simp;omega) | simp) _ _ | refine Ext.setF ?_ (by first | exact Or.inl rfl | exact Or.inr rfl | rfl) _ _ | refine Ext.trans_ ?_ (by assumption) | refine Ext.trans_ ?_ (Ext.of_no (by assumption))))⟩
  ·cases k2
   ·go_enter Tryz.func130,Tryz.ntmps130
    simp only [Cell.agg]
    go_wp2_with (go_at_call 131;refine (HK.out _).mono ?_;rintro e w' ⟨rfl,rfl⟩)
    go_ret
    exact ⟨ret_bool (by simp),by (repeat' (first | exact Ext.refl _ _ | assumption | apply Ext.alloc | apply Ext.drewN | apply Ext.drew | refine Ext.setNew ?_ (by first | omega | (simp;omega) | simp) _ _ | refine Ext.setF ?_ (by first | exact Or.inl rfl | exact Or.inr rfl | rfl) _ _ | refine Ext.trans_ ?_ (by assumption) | refine Ext.trans_ ?_ (Ext.of_no (by assumption))))⟩
   ·simp only [Cell.agg] at HL
    go_enter Tryz.func130,Tryz.ntmps130
    simp only [Cell.agg]
    go_wp2_with (first | (go_at_call 131;refine (HK.out _).mono ?_;rintro e w' ⟨rfl,rfl⟩) | (go_at_call 175;refine (HL.out _).mono ?_;rintro e w' ⟨rfl,o,rfl⟩))
    go_ret
    exact ⟨ret_bool (by simp;omega),by (repeat' (first | exact Ext.refl _ _ | assumption | apply Ext.alloc | apply Ext.drewN | apply Ext.drew | refine Ext.setNew ?_ (by first | omega | (simp;omega) | simp) _ _ | refine Ext.setF ?_ (by first | exact Or.inl rfl | exact Or.inr rfl | rfl) _ _ | refine Ext.trans_ ?_ (by assumption) | refine Ext.trans_ ?_ (Ext.of_no (by assumption))))⟩
 ·have e:c.ok = (keyOk c.key && idOk c.over && decide (c.len ≤ 16384) && c.val.isEmpty):=by unfold Cell.ok;rw [if_neg h1]
  have h1':((c.over:Int) == 0) = false:=by simp;omega
  rw [e]
  clear h1 e
  have b2:decide ((0:Int) ≤ c.len) = true:=by simp
  have b3:decide ((c.len:Int) ≤ 16384) = decide (c.len ≤ 16384):=by rw [Bool.eq_iff_iff];simp;omega
  generalize keyOk c.key = k1 at *
  generalize idOk c.over = k2 at *
  generalize hk3:decide (c.len ≤ 16384) = k3 at *
  cases k1
  ·go_enter Tryz.func130,Tryz.ntmps130
   simp only [Cell.agg]
   go_wp2_with (first | (go_at_call 131;refine (HK.out _).mono ?_;rintro e w' ⟨rfl,rfl⟩) | (go_at_call 132;refine (HI.out _).mono ?_;rintro e w' ⟨rfl,rfl⟩))
   go_ret
   exact ⟨ret_bool (by simp),by (repeat' (first | exact Ext.refl _ _ | assumption | apply Ext.alloc | apply Ext.drewN | apply Ext.drew | refine Ext.setNew ?_ (by first | omega | (simp;omega) | simp) _ _ | refine Ext.setF ?_ (by first | exact Or.inl rfl | exact Or.inr rfl | rfl) _ _ | refine Ext.trans_ ?_ (by assumption) | refine Ext.trans_ ?_ (Ext.of_no (by assumption))))⟩
  ·cases k2
   ·go_enter Tryz.func130,Tryz.ntmps130
    simp only [Cell.agg]
    go_wp2_with (first | (go_at_call 131;refine (HK.out _).mono ?_;rintro e w' ⟨rfl,rfl⟩) | (go_at_call 132;refine (HI.out _).mono ?_;rintro e w' ⟨rfl,rfl⟩))
    go_ret
    exact ⟨ret_bool (by simp),by (repeat' (first | exact Ext.refl _ _ | assumption | apply Ext.alloc | apply Ext.drewN | apply Ext.drew | refine Ext.setNew ?_ (by first | omega | (simp;omega) | simp) _ _ | refine Ext.setF ?_ (by first | exact Or.inl rfl | exact Or.inr rfl | rfl) _ _ | refine Ext.trans_ ?_ (by assumption) | refine Ext.trans_ ?_ (Ext.of_no (by assumption))))⟩
   ·cases k3
    all_goals
     go_enter Tryz.func130,Tryz.ntmps130
     simp only [Cell.agg]
     go_wp2_with (first | (go_at_call 131;refine (HK.out _).mono ?_;rintro e w' ⟨rfl,rfl⟩) | (go_at_call 132;refine (HI.out _).mono ?_;rintro e w' ⟨rfl,rfl⟩))
     go_ret
     exact ⟨ret_bool (by simp),by (repeat' (first | exact Ext.refl _ _ | assumption | apply Ext.alloc | apply Ext.drewN | apply Ext.drew | refine Ext.setNew ?_ (by first | omega | (simp;omega) | simp) _ _ | refine Ext.setF ?_ (by first | exact Or.inl rfl | exact Or.inr rfl | rfl) _ _ | refine Ext.trans_ ?_ (by assumption) | refine Ext.trans_ ?_ (Ext.of_no (by assumption))))⟩
def sumC (cs:List Cell):Nat:=(cs.map Cell.size).sum
def sumK (ks:List Bs):Nat:=(ks.map fun k=>5 + k.length).sum
def Nd.size (n:Nd):Nat:=2 + sumC n.cells + sumK n.keys + (if n.leaf then 0 else 4)
theorem sumC_take (cs:List Cell) (k:Nat) (c:Cell) (h:cs[k]? = some c):sumC (cs.take (k + 1)) = sumC (cs.take k) + c.size:=by
 rw [List.take_add_one,h];simp [sumC]
theorem sumK_take (cs:List Bs) (k:Nat) (c:Bs) (h:cs[k]? = some c):sumK (cs.take (k + 1)) = sumK (cs.take k) + (5 + c.length):=by
 rw [List.take_add_one,h];simp [sumK]
structure Nd.fits (n:Nd):Prop where
 c:∀ c ∈ n.cells,c.fits
 k:∀ k ∈ n.keys,k.length < 65536
 i:∀ i ∈ n.kids,i < 4294967296
theorem size_bound {c:Cell} (h:c.fits):c.size < 131100:=by
 obtain ⟨h1,h2,_,_⟩:=h
 unfold Cell.size;split <;> omega
theorem sumC_bound (cs:List Cell) (h:∀ c ∈ cs,c.fits):sumC cs ≤ cs.length * 131100:=by
 induction cs with
 | nil=>simp [sumC]
 | cons c cs ih =>
  have h1:=size_bound (h c (by simp))
  have h2:=ih (fun c hc=>h c (by simp [hc]))
  simp only [sumC,List.map_cons,List.sum_cons,List.length_cons] at *
  omega
theorem sumK_bound (cs:List Bs) (h:∀ k ∈ cs,k.length < 65536):sumK cs ≤ cs.length * 65600:=by
 induction cs with
 | nil=>simp [sumK]
 | cons c cs ih =>
  have h1:=h c (by simp)
  have h2:=ih (fun c hc=>h c (by simp [hc]))
  simp only [sumK,List.map_cons,List.sum_cons,List.length_cons] at *
  omega
theorem size_any (n:Nd) (w:World) (F:Nat → Prop) (A1:Option Addr) (c1:Nat) (A2:Option Addr) (c2:Nat) (A3:Option Addr) (c3:Nat) (hn:NodeAt w F A1 c1 A2 c2 A3 c3 n) (hf:n.fits) :
  Calls Tryz.prog 181 #[n.value A1 c1 A2 c2 A3 c3] w fun e w'=>e = .returned (.int .i64 (n.size:Int)) ∧ Ext No w w':=by
 have HL:=Lib.hid (fun c w hk hv=>length_any c w hk hv)
 have hb1:=hn.b1
 have hb2:=hn.b2
 go_enter Tryz.func181,Tryz.ntmps181
 simp only [Nd.value]
 go_wp2
 go_loopw [3,11] (fun s i wr=>∃ k:Nat,k ≤ n.cells.length ∧ i = .int .i64 (k:Int) ∧ s = .int .i64 ((2 + sumC (n.cells.take k):Nat):Int) ∧ Ext No (w.alloc (.cells #[.bool n.leaf,.slice A1 n.cells.length c1,.slice A2 n.keys.length c2,.slice A3 n.kids.length c3] 40)) wr) (fun _ i _=>n.cells.length - (intOf i).toNat)
 case atStart=>exact ⟨0,Nat.zero_le _,rfl,by simp [sumC],Ext.refl _ _⟩
 case round =>
  obtain ⟨k,hk,rfl,rfl,hE⟩:=hrel
  have bb:=(Blk.new w 40 #[.bool n.leaf,.slice A1 n.cells.length c1,.slice A2 n.keys.length c2,.slice A3 n.kids.length c3]).ext hE (fun h=>h)
  by_cases hlt:k < n.cells.length
  ·obtain ⟨c,hc⟩:∃ c,n.cells[k]? = some c:=⟨_,List.getElem?_eq_getElem hlt⟩
   have hcf:=hf.c c (List.mem_of_getElem? hc)
   have hst:=Lib.hid (sumC_take _ _ _ hc)
   have hsb:=sumC_bound _ (fun c hc=>hf.c c (List.mem_of_mem_take hc):∀ c ∈ n.cells.take k,c.fits)
   have hln:(n.cells.take k).length ≤ k:=List.length_take_le _ _
   have hszc:=size_bound hcf
   obtain ⟨b,o,hA,_,e0,e1,e2,e3⟩:=(hn.cells.ext (((Ext.refl _ w).alloc _).trans_ hE.of_no)).cellAt hc
   subst hA
   generalize sumC (n.cells.take k) = sk at *
   have lt0:=World.block_lt_of_cell? wr _ e0
   obtain ⟨q1,q2,_,_⟩:=hcf
   go_wp2_with (go_at_call 175;refine (HL.out c _ (by omega) (by omega)).mono ?_;rintro e w' ⟨rfl,o,rfl⟩)
   go_roundw
   case rel=>exact ⟨k + 1,by omega,by go_num,by rw [hst.out];go_num,by (repeat' (first | exact Ext.refl _ _ | assumption | apply Ext.alloc | apply Ext.drewN | apply Ext.drew | refine Ext.setNew ?_ (by first | omega | (simp;omega) | simp) _ _ | refine Ext.setF ?_ (by first | exact Or.inl rfl | exact Or.inr rfl | rfl) _ _ | refine Ext.trans_ ?_ (by assumption) | refine Ext.trans_ ?_ (Ext.of_no (by assumption))))⟩
   case measure=>simp [intOf];omega
  ·have hke:k = n.cells.length:=by omega
   have k2:=bb.cell 2
   have k0:=bb.cell 0
   simp at k2 k0
   have hsb:=sumC_bound _ (fun c hc=>hf.c c (List.mem_of_mem_take hc):∀ c ∈ n.cells.take k,c.fits)
   have hln:(n.cells.take k).length ≤ k:=List.length_take_le _ _
   have hst:sumC (n.cells.take k) = sumC n.cells:=by rw [hke,List.take_length]
   rw [hst] at hsb ⊢
   clear hst hke
   generalize hsk:sumC n.cells = sk at *
   have HSK:=Lib.hid hsk;clear hsk
   obtain ⟨wo,rfl⟩:∃ wo:World,wo = wr:=⟨_,rfl⟩
   go_wp2
   go_loopw [3,23] (fun s i wr=>∃ k:Nat,k ≤ n.keys.length ∧ i = .int .i64 (k:Int) ∧ s = .int .i64 ((2 + sk + sumK (n.keys.take k):Nat):Int) ∧ wo = wr) (fun _ i _=>n.keys.length - (intOf i).toNat)
   case atStart=>exact ⟨0,Nat.zero_le _,rfl,by simp [sumK],rfl⟩
   case round =>
    obtain ⟨j,hj,rfl,rfl,rfl⟩:=hrel
    by_cases hlt2:j < n.keys.length
    ·obtain ⟨c,hc⟩:∃ c,n.keys[j]? = some c:=⟨_,List.getElem?_eq_getElem hlt2⟩
     have hcf:=hf.k c (List.mem_of_getElem? hc)
     have hst:=Lib.hid (sumK_take _ _ _ hc)
     have hsb2:=sumK_bound _ (fun c hc=>hf.k c (List.mem_of_mem_take hc):∀ c ∈ n.keys.take j,c.length < 65536)
     have hln2:(n.keys.take j).length ≤ j:=List.length_take_le _ _
     have hsz:=str_size c
     obtain ⟨b,o,hA,_,e0⟩:=(hn.keys.ext (((Ext.refl _ w).alloc _).trans_ hE.of_no)).keyAt hc
     subst hA
     generalize sumK (n.keys.take j) = sk2 at *
     go_wp2
     go_roundw
     case rel=>exact ⟨j + 1,by omega,by go_num,by rw [hst.out];go_num,trivial⟩
     case measure=>simp [intOf];omega
    ·have hje:j = n.keys.length:=by omega
     have hsb2:=sumK_bound _ hf.k
     have hfin:(2 + sk + sumK (n.keys.take j):Nat) + (if n.leaf then 0 else 4) = n.size:=by rw [hje,List.take_length,← HSK.out];unfold Nd.size;rfl
     have hst:sumK (n.keys.take j) = sumK n.keys:=by rw [hje,List.take_length]
     have HF:=Lib.hid hfin
     clear hfin
     rw [hst] at HF ⊢
     clear hst hje
     generalize sumK n.keys = sk2 at *
     cases hlf:n.leaf
     all_goals
      rw [hlf] at k0 HF
      go_wp2
      go_ret
      refine ⟨ret_int ?_,by (repeat' (first | exact Ext.refl _ _ | assumption | apply Ext.alloc | apply Ext.drewN | apply Ext.drew | refine Ext.setNew ?_ (by first | omega | (simp;omega) | simp) _ _ | refine Ext.setF ?_ (by first | exact Or.inl rfl | exact Or.inr rfl | rfl) _ _ | refine Ext.trans_ ?_ (by assumption) | refine Ext.trans_ ?_ (Ext.of_no (by assumption))))⟩
      have:=HF.out
      simp at this ⊢
      omega
end Go.Proofs.YtccnemmlkcmceaaGreatDoor
namespace Go.Proofs.YtccnemmlkcmceaaGreatDoor
open Go.RowKit Go.BigFrame
abbrev klt (a b:Bs):Bool:=Op.bytesLess a b
def okC (cs:List Cell):Nat → Bool
 | 0=>true
 | k + 1=>okC cs k && (match cs[k]? with
  | some c=>c.ok && (match k with
   | 0=>true
   | j + 1=>(match cs[j]? with | some d=>klt d.key c.key | none=>false))
  | none=>false)
def okK (cs:List Bs):Nat → Bool
 | 0=>true
 | k + 1=>okK cs k && (match cs[k]? with
  | some c=>keyOk c && (match k with
   | 0=>true
   | j + 1=>(match cs[j]? with | some d=>klt d c | none=>false))
  | none=>false)
def Nd.shape (n:Nd):Bool:=decide (n.cells.length ≤ 255) && decide (n.keys.length ≤ 255) &&
 (if n.leaf then decide (n.keys.length = 0) && decide (n.kids.length = 0) else decide (n.cells.length = 0) && decide (n.kids.length = n.keys.length + 1))
def Nd.ok (n:Nd):Bool:=n.shape && okC n.cells n.cells.length && okK n.keys n.keys.length && n.kids.all idOk
def Nd.chk (n:Nd):Int:=if n.ok then 0 else 2
theorem check_any (n:Nd) (w:World) (F:Nat → Prop) (A1:Option Addr) (c1:Nat) (A2:Option Addr) (c2:Nat) (A3:Option Addr) (c3:Nat) (hn:NodeAt w F A1 c1 A2 c2 A3 c3 n) (hf:n.fits) :
  Calls Tryz.prog 91 #[n.value A1 c1 A2 c2 A3 c3] w fun e w'=>e = .returned (.int .i64 n.chk) ∧ Ext No w w':=by
 have HC:=Lib.hid (fun c w h=>cell_any c w h)
 have hb1:=hn.b1
 have hb2:=hn.b2
 have hb3:=hn.b3
 simp only [Nd.value]
 generalize hlf:n.leaf = lf
 have HLF:=Lib.hid hlf
 clear hlf
 go_enter Tryz.func91,Tryz.ntmps91
 go_upto_region 1 with fail
 go_cut [3] (fun s3 wx=>s3 = .bool (decide (n.cells.length ≤ 255) && decide (n.keys.length ≤ 255)) ∧ wx = (w.alloc (.cells #[.bool lf,.slice A1 n.cells.length c1,.slice A2 n.keys.length c2,.slice A3 n.kids.length c3] 40)))
 case first =>
  by_cases h1:(n.cells.length:Int) ≤ 255
  ·have h1':n.cells.length ≤ 255:=by omega
   go_wp2_with fail
   go_meet
   exact ⟨by simp [h1'];omega,rfl⟩
  ·have h1':¬ n.cells.length ≤ 255:=by omega
   go_wp2_with fail
   go_meet
   exact ⟨by simp [h1'],rfl⟩
 case rest =>
  obtain ⟨rfl,rfl⟩:=hcut
  generalize hk1:(decide (n.cells.length ≤ 255) && decide (n.keys.length ≤ 255)) = k1
  go_upto_if 21 with fail
  go_cut [3] (fun s3 wx=>s3 = .bool n.shape ∧ wx = (w.alloc (.cells #[.bool lf,.slice A1 n.cells.length c1,.slice A2 n.keys.length c2,.slice A3 n.kids.length c3] 40)))
  case first =>
   have hs:n.shape = (k1 && (if n.leaf then decide (n.keys.length = 0) && decide (n.kids.length = 0) else decide (n.cells.length = 0) && decide (n.kids.length = n.keys.length + 1))):=by unfold Nd.shape;rw [hk1]
   have HS:=Lib.hid hs
   clear hs hk1
   rw [HLF.out] at HS
   cases k1
   ·cases lf
    all_goals
     go_wp2_with fail
     go_meet
     exact ⟨by rw [HS.out];rfl,rfl⟩
   ·cases lf
    ·by_cases hkz:n.cells.length = 0
     ·have hkz':((n.cells.length:Int) == 0) = true:=by simp [hkz]
      have HZ:=Lib.hid hkz
      clear hkz
      go_wp2_with fail
      go_meet
      exact ⟨by rw [HS.out];simp [HZ.out];try (rw [Bool.eq_iff_iff];simp;omega),by simp⟩
     ·have hkz':((n.cells.length:Int) == 0) = false:=by simp [hkz]
      have HZ:=Lib.hid hkz
      clear hkz
      go_wp2_with fail
      go_meet
      exact ⟨by rw [HS.out];simp [HZ.out],by simp⟩
    ·by_cases hkz:n.keys.length = 0
     ·have hkz':((n.keys.length:Int) == 0) = true:=by simp [hkz]
      have HZ:=Lib.hid hkz
      clear hkz
      go_wp2_with fail
      go_meet
      exact ⟨by rw [HS.out];simp [HZ.out];try (rw [Bool.eq_iff_iff];simp),by simp⟩
     ·have hkz':((n.keys.length:Int) == 0) = false:=by simp [hkz]
      have HZ:=Lib.hid hkz
      clear hkz
      go_wp2_with fail
      go_meet
      exact ⟨by rw [HS.out];simp [HZ.out],by simp⟩
  case rest =>
   obtain ⟨rfl,rfl⟩:=hcut
   clear hk1
   generalize hsh:n.shape = sh
   go_wp2_with fail
   go_loopg [3,55] n.cells.length (fun g s i wr=>∃ k:Nat,k + g = n.cells.length ∧ i = .int .i64 (k:Int) ∧ s = .bool (sh && okC n.cells k) ∧ Ext No (w.alloc (.cells #[.bool lf,.slice A1 n.cells.length c1,.slice A2 n.keys.length c2,.slice A3 n.kids.length c3] 40)) wr)
   case atStart=>exact ⟨0,by omega,rfl,by simp [okC],Ext.refl _ _⟩
   case round =>
    obtain ⟨k,hk0,rfl,rfl,hE⟩:=hrel
    have hk:k ≤ n.cells.length:=by omega
    have HK0:=Lib.hid hk0
    clear hk0
    have bb:=(Blk.new w 40 #[.bool lf,.slice A1 n.cells.length c1,.slice A2 n.keys.length c2,.slice A3 n.kids.length c3]).ext hE (fun h=>h)
    have q0:=bb.cell 0
    have q1:=bb.cell 1
    have q2:=bb.cell 2
    have q3:=bb.cell 3
    have bl:=bb.lt
    simp at q0 q1 q2 q3
    by_cases hlt:k < n.cells.length
    ·obtain ⟨c,hc⟩:∃ c,n.cells[k]? = some c:=⟨_,List.getElem?_eq_getElem hlt⟩
     have hcf:=hf.c c (List.mem_of_getElem? hc)
     obtain ⟨b,o,hA,_,e0,e1,e2,e3⟩:=(hn.cells.ext (((Ext.refl _ w).alloc _).trans_ hE.of_no)).cellAt hc
     subst hA
     have lt0:b < wr.heap.size:=World.block_lt_of_cell? wr _ e0
     have HE:=Lib.hid hE
     cases hok:(sh && okC n.cells k)
     ·have hn1:(sh && okC n.cells (k + 1)) = false:=by
       cases sh
       ·rfl
       ·simp at hok;simp [okC,hok]
      have HN:=Lib.hid hn1
      clear hn1 hok
      go_wp2_with fail
      go_quiet (fail)
      go_wp2_with fail
      go_roundg (gk - 1)
      case rel=>exact ⟨k + 1,by have:=HK0.out;omega,by go_num,by rw [HN.out],by have:=HE.out;(repeat' (first | exact Ext.refl _ _ | assumption | apply Ext.alloc | apply Ext.drewN | apply Ext.drew | refine Ext.setNew ?_ (by first | omega | (simp;omega) | simp) _ _ | refine Ext.setF ?_ (by first | exact Or.inl rfl | exact Or.inr rfl | rfl) _ _ | refine Ext.trans_ ?_ (by assumption) | refine Ext.trans_ ?_ (Ext.of_no (by assumption))))⟩
      case measure=>have:=HK0.out;omega
     ·cases hco:c.ok
      ·have hn1:(sh && okC n.cells (k + 1)) = false:=by simp [okC,hc,hco]
       have HN:=Lib.hid hn1
       have HC1:=Lib.hid (fun w=>HC.out c w hcf)
       simp only [Cell.agg,hco] at HC1
       clear hn1 hok hco
       go_wp2_with fail
       have lt1:b < wr.heap.size + 1:=by omega
       have bl1:w.heap.size < wr.heap.size + 1:=by omega
       refine wp_region_up (by kernel_rfl) (by kernel_rfl) ?_;(repeat (go_big_quiet_step ((go_at_call 130;exact Calls.up_of (HC1.out _)))));refine wpQuiet_nil ?_;intro _ hw';obtain ⟨⟨wq,hq⟩,hw''⟩:=hw';change _ = wq at hw'';subst hw''
       go_wp2_with fail
       go_roundg (gk - 1)
       case rel=>exact ⟨k + 1,by have:=HK0.out;omega,by go_num,by rw [HN.out],by have:=HE.out;(repeat' (first | exact Ext.refl _ _ | assumption | apply Ext.alloc | apply Ext.drewN | apply Ext.drew | refine Ext.setNew ?_ (by first | omega | (simp;omega) | simp) _ _ | refine Ext.setF ?_ (by first | exact Or.inl rfl | exact Or.inr rfl | rfl) _ _ | refine Ext.trans_ ?_ (by assumption) | refine Ext.trans_ ?_ (Ext.of_no (by assumption))))⟩
       case measure=>have:=HK0.out;omega
      ·have HC1:=Lib.hid (fun w=>HC.out c w hcf)
       simp only [Cell.agg,hco] at HC1
       match k with
       | 0 =>
        have hn1:(sh && okC n.cells (0 + 1)) = true:=by
         cases sh
         ·simp at hok
         ·simp [okC,hc,hco]
        have HN:=Lib.hid hn1
        clear hn1 hok hco
        simp only [Nat.zero_mul,Nat.add_zero] at e0 e1 e2 e3
        have lt1:b < wr.heap.size + 1:=by omega
        have bl1:w.heap.size < wr.heap.size + 1:=by omega
        go_wp2_with fail
        refine wp_region_up (by kernel_rfl) (by kernel_rfl) ?_;(repeat (go_big_quiet_step ((go_at_call 130;exact Calls.up_of (HC1.out _)))));refine wpQuiet_nil ?_;intro _ hw';obtain ⟨⟨wq,hq⟩,hw''⟩:=hw';change _ = wq at hw'';subst hw''
        go_wp2_with fail
        go_roundg (gk - 1)
        case rel=>exact ⟨0 + 1,by have:=HK0.out;omega,by go_num,by rw [HN.out],by have:=HE.out;(repeat' (first | exact Ext.refl _ _ | assumption | apply Ext.alloc | apply Ext.drewN | apply Ext.drew | refine Ext.setNew ?_ (by first | omega | (simp;omega) | simp) _ _ | refine Ext.setF ?_ (by first | exact Or.inl rfl | exact Or.inr rfl | rfl) _ _ | refine Ext.trans_ ?_ (by assumption) | refine Ext.trans_ ?_ (Ext.of_no (by assumption))))⟩
        case measure=>have:=HK0.out;omega
       | j + 1 =>
        obtain ⟨d,hd⟩:∃ d,n.cells[j]? = some d:=⟨_,List.getElem?_eq_getElem (by omega)⟩
        have hn1:(sh && okC n.cells (j + 1 + 1)) = klt d.key c.key:=by
         cases sh
         ·simp at hok
         ·simp only [Bool.true_and] at hok
          rw [okC,hok];simp [hc,hco,hd]
        have HN:=Lib.hid hn1
        obtain ⟨b',o',hA',_,p0,_⟩:=(hn.cells.ext (((Ext.refl _ w).alloc _).trans_ hE.of_no)).cellAt hd
        injection hA' with hA'
        injection hA' with hA1 hA2
        subst hA1;subst hA2
        clear hn1 hok hco
        have hz:(((j:Int) + 1) == 0) = false:=by simp;omega
        have hji:(j:Int) < n.cells.length:=by omega
        have hjn:j < n.cells.length:=by omega
        have lt1:b < wr.heap.size + 1:=by omega
        have bl1:w.heap.size < wr.heap.size + 1:=by omega
        go_wp2_with fail
        refine wp_region_up (by kernel_rfl) (by kernel_rfl) ?_;(repeat (go_big_quiet_step ((go_at_call 130;exact Calls.up_of (HC1.out _)))));refine wpQuiet_nil ?_;intro _ hw';obtain ⟨⟨wq,hq⟩,hw''⟩:=hw';change _ = wq at hw'';subst hw''
        go_wp2_with fail
        go_roundg (gk - 1)
        case rel=>exact ⟨j + 1 + 1,by have:=HK0.out;omega,by go_num,by rw [HN.out],by have:=HE.out;(repeat' (first | exact Ext.refl _ _ | assumption | apply Ext.alloc | apply Ext.drewN | apply Ext.drew | refine Ext.setNew ?_ (by first | omega | (simp;omega) | simp) _ _ | refine Ext.setF ?_ (by first | exact Or.inl rfl | exact Or.inr rfl | rfl) _ _ | refine Ext.trans_ ?_ (by assumption) | refine Ext.trans_ ?_ (Ext.of_no (by assumption))))⟩
        case measure=>have:=HK0.out;omega
    ·have hke:k = n.cells.length:=by omega
     subst hke
     generalize hs1:(sh && okC n.cells n.cells.length) = s1
     have HS1:=Lib.hid hs1
     clear hs1
     have HKK:=Lib.hid (fun k w hk=>key_any k w hk)
     have HII:=Lib.hid (fun n w=>id_any n w)
     have HE:=Lib.hid (((Ext.refl No w).alloc _).trans_ hE)
     have hnk:=hn.keys.ext (((Ext.refl _ w).alloc _).trans_ hE.of_no)
     have hni:=hn.kids.ext (((Ext.refl _ w).alloc _).trans_ hE.of_no)
     clear hn hE bb hlt hk HK0
     obtain ⟨wo,rfl⟩:∃ wo:World,wo = wr:=⟨_,rfl⟩
     go_wp2_with fail
     go_loopg [3,85] n.keys.length (fun g s i wr=>∃ k:Nat,k + g = n.keys.length ∧ i = .int .i64 (k:Int) ∧ s = .bool (s1 && okK n.keys k) ∧ ∃ q,wr = wo.drewN q)
     case atStart=>exact ⟨0,by omega,rfl,by simp [okK],0,rfl⟩
     case round =>
      obtain ⟨k,hk0,rfl,rfl,q,rfl⟩:=hrel
      have hk:k ≤ n.keys.length:=by omega
      have HK0:=Lib.hid hk0
      clear hk0
      by_cases hlt:k < n.keys.length
      ·obtain ⟨c,hc⟩:∃ c,n.keys[k]? = some c:=⟨_,List.getElem?_eq_getElem hlt⟩
       have hcf:=hf.k c (List.mem_of_getElem? hc)
       obtain ⟨b,o,hA,_,e0⟩:=hnk.keyAt hc
       subst hA
       cases hok:(s1 && okK n.keys k)
       ·have hn1:(s1 && okK n.keys (k + 1)) = false:=by
         cases s1
         ·rfl
         ·simp at hok;simp [okK,hok]
        have HN:=Lib.hid hn1
        clear hn1 hok
        go_wp2_with fail
        go_roundg (gk - 1)
        case rel=>exact ⟨k + 1,by have:=HK0.out;omega,by go_num,by rw [HN.out],q,rfl⟩
        case measure=>have:=HK0.out;omega
       ·have HC1:=Lib.hid (fun w=>HKK.out c w (by omega))
        cases hco:keyOk c
        ·have hn1:(s1 && okK n.keys (k + 1)) = false:=by simp [okK,hc,hco]
         have HN:=Lib.hid hn1
         simp only [hco] at HC1
         clear hn1 hok hco
         go_wp2_with (go_at_call 131;refine (HC1.out _).mono ?_;rintro e w' ⟨rfl,rfl⟩)
         go_roundg (gk - 1)
         case rel=>exact ⟨k + 1,by have:=HK0.out;omega,by go_num,by rw [HN.out],q,rfl⟩
         case measure=>have:=HK0.out;omega
        ·simp only [hco] at HC1
         match k with
         | 0 =>
          have hn1:(s1 && okK n.keys (0 + 1)) = true:=by
           cases s1
           ·simp at hok
           ·simp [okK,hc,hco]
          have HN:=Lib.hid hn1
          clear hn1 hok hco
          simp only [Nat.add_zero] at e0
          go_wp2_with (go_at_call 131;refine (HC1.out _).mono ?_;rintro e w' ⟨rfl,rfl⟩)
          go_roundg (gk - 1)
          case rel=>exact ⟨0 + 1,by have:=HK0.out;omega,by go_num,by rw [HN.out],q,rfl⟩
          case measure=>have:=HK0.out;omega
         | j + 1 =>
          obtain ⟨d,hd⟩:∃ d,n.keys[j]? = some d:=⟨_,List.getElem?_eq_getElem (by omega)⟩
          have hn1:(s1 && okK n.keys (j + 1 + 1)) = klt d c:=by
           cases s1
           ·simp at hok
           ·simp only [Bool.true_and] at hok
            rw [okK,hok];simp [hc,hco,hd]
          have HN:=Lib.hid hn1
          obtain ⟨b',o',hA',_,p0⟩:=hnk.keyAt hd
          injection hA' with hA'
          injection hA' with hA1 hA2
          subst hA1;subst hA2
          clear hn1 hok hco
          have hz:(((j:Int) + 1) == 0) = false:=by simp;omega
          have hji:(j:Int) < n.keys.length:=by omega
          have hjn:j < n.keys.length:=by omega
          go_wp2_with (go_at_call 131;refine (HC1.out _).mono ?_;rintro e w' ⟨rfl,rfl⟩)
          go_roundg (gk - 1)
          case rel=>exact ⟨j + 1 + 1,by have:=HK0.out;omega,by go_num,by rw [HN.out],q,rfl⟩
          case measure=>have:=HK0.out;omega
      ·have hke:k = n.keys.length:=by omega
       subst hke
       generalize hs2:(s1 && okK n.keys n.keys.length) = s2
       have HS2:=Lib.hid hs2
       clear hs2 hk HK0 hlt
       go_wp2_with fail
       go_loopg [3,113] n.kids.length (fun g s i wr=>∃ k:Nat,k + g = n.kids.length ∧ i = .int .i64 (k:Int) ∧ s = .bool (s2 && (n.kids.take k).all idOk) ∧ ∃ q,wr = wo.drewN q)
       case atStart=>exact ⟨0,by omega,rfl,by simp,q,rfl⟩
       case round =>
        obtain ⟨k,hk0,rfl,rfl,q,rfl⟩:=hrel
        have hk:k ≤ n.kids.length:=by omega
        have HK0:=Lib.hid hk0
        clear hk0
        by_cases hlt:k < n.kids.length
        ·obtain ⟨c,hc⟩:∃ c,n.kids[k]? = some c:=⟨_,List.getElem?_eq_getElem hlt⟩
         obtain ⟨b,o,hA,_,e0⟩:=hni.kidAt hc
         subst hA
         have hstep:(n.kids.take (k + 1)).all idOk = ((n.kids.take k).all idOk && idOk c):=by rw [List.take_add_one,hc];simp
         cases hok:(s2 && (n.kids.take k).all idOk)
         ·have hn1:(s2 && (n.kids.take (k + 1)).all idOk) = false:=by rw [hstep,← Bool.and_assoc,hok];rfl
          have HN:=Lib.hid hn1
          clear hn1 hok hstep
          go_wp2_with fail
          go_roundg (gk - 1)
          case rel=>exact ⟨k + 1,by have:=HK0.out;omega,by go_num,by rw [HN.out],q,rfl⟩
          case measure=>have:=HK0.out;omega
         ·have hn1:(s2 && (n.kids.take (k + 1)).all idOk) = idOk c:=by rw [hstep,← Bool.and_assoc,hok];rfl
          have HN:=Lib.hid hn1
          clear hn1 hok hstep
          have HC1:=Lib.hid (fun w=>HII.out c w)
          generalize idOk c = ic at *
          go_wp2_with (go_at_call 132;refine (HC1.out _).mono ?_;rintro e w' ⟨rfl,rfl⟩)
          go_roundg (gk - 1)
          case rel=>exact ⟨k + 1,by have:=HK0.out;omega,by go_num,by rw [HN.out],q,rfl⟩
          case measure=>have:=HK0.out;omega
        ·have hke:k = n.kids.length:=by omega
         subst hke
         have hfin:(s2 && (n.kids.take n.kids.length).all idOk) = n.ok:=by
          rw [List.take_length,← HS2.out,← HS1.out,← hsh];rfl
         rw [hfin]
         have HQ:=Lib.hid (((Ext.refl No w).trans_ HE.out).drewN q)
         clear hfin
         cases hno:n.ok
         all_goals
          go_wp2_with fail
          go_ret
          exact ⟨ret_int (by unfold Nd.chk;rw [hno];rfl),HQ.out⟩
end Go.Proofs.YtccnemmlkcmceaaGreatDoor
namespace Go.Proofs.YtccnemmlkcmceaaGreatDoor
open Go.RowKit
theorem Nd.chk_ok {n:Nd} (h:n.ok = true):n.chk = 0:=by simp [Nd.chk,h]
theorem Nd.chk_bad {n:Nd} (h:n.ok = false):n.chk = 2:=by simp [Nd.chk,h]
end Go.Proofs.YtccnemmlkcmceaaGreatDoor
namespace Go.Proofs.YtccnemmlkcmceaaGreatDoor
open Go.RowKit Go.ChangeShapes Go.WideShapes Go.ChangeAt
theorem Tryz.own:ownKnob Tryz.prog.godebug = none:=by kernel_rfl
theorem Tryz.laidOut:laidOutB Tryz.prog = true:=by kernel_rfl
theorem ext_kept {w w':World} (h:Ext No w w') (may:MemPlace → Prop):w.keptBut w' may:=by
 refine ⟨h.os,h.output,fun i hi=>?_⟩
 rw [h.block i hi (fun h=>h)]
 exact (World.keptBut_refl w may).2.2 i hi
def flat1:DataW Unit → List Value
 | .lit (.int k n)=>[.int k n]
 | _=>[]
def flat2:DataW Unit → List Value
 | .agg l=>l.flatMap flat1
 | d=>flat1 d
def flat3:DataW Unit → List Value
 | .agg l=>l.flatMap flat2
 | d=>flat1 d
def putCells (cs:List Value):Obj → Obj
 | .cells _ t frozen=>.cells cs.toArray t frozen
 | o=>o
theorem gHalf:Tryz.prog.globalNamed "aquifer/castagnoli.half" = some 0:=by kernel_rfl
noncomputable def laidWorld (os:Os):World :=
 { World.holding Tryz.prog os ⟨#[],#[],[]⟩ with heap:=((((World.holding Tryz.prog os ⟨#[],#[],[]⟩).heap.modify 0 (putCells (flat3 Rows.laid_aquifer_castagnoli_half))).modify 2 (putCells (flat3 Rows.laid_unicode_utf8_first))).modify 3 (putCells (flat3 Rows.laid_unicode_utf8_acceptRanges))) }
theorem laid_met (os:Os) (args:Array Value):laidMet Tryz.prog [("aquifer/castagnoli.half",Rows.laid_aquifer_castagnoli_half),("unicode/utf8.acceptRanges",Rows.laid_unicode_utf8_acceptRanges),("unicode/utf8.first",Rows.laid_unicode_utf8_first)] ((laidWorld os).forCall (fun _ _=>0) ⟨#[],args,[]⟩).memory :=
 laidMet_of_run' 8 (by kernel_rfl) (by kernel_rfl)
end Go.Proofs.YtccnemmlkcmceaaGreatDoor
