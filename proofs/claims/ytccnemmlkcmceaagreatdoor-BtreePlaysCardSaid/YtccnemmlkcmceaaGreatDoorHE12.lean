/- Proofs about the given program, joined out of the texts F1, F2, G0, G1, G2, K1. -/
import Derived.Test.YtccnemmlkcmceaaGreatDoorHE10
import Derived.Lib.AppendZeros
import Derived.Laws.AppendOwnNone
import Derived.Maps.AppendAt
import Derived.Lib.SliceRun
set_option linter.unusedVariables false
set_option linter.unusedSimpArgs false
set_option maxRecDepth 100000
set_option maxHeartbeats 6400000
namespace Go.Proofs.YtccnemmlkcmceaaGreatDoor
open Go.RowKit
theorem u8_tri (x y:UInt8) (h1:¬ x < y) (h2:¬ y < x):x = y:=by
 rw [UInt8.lt_iff_toNat_lt] at h1 h2
 exact UInt8.toNat_inj.1 (by omega)
theorem cmp_lt (a b:Bs):Lib.compareBytes a b < 0 ↔ klt a b = true:=by
 induction a generalizing b with
 | nil=>cases b <;> simp [Lib.compareBytes,klt,Op.bytesLess]
 | cons x a ih =>
  match b with
  | []=>simp [Lib.compareBytes,klt,Op.bytesLess]
  | y :: b =>
   unfold Lib.compareBytes klt Op.bytesLess
   by_cases h1:x < y
   ·simp [h1]
   ·by_cases h2:y < x
    ·have:¬ (x == y) = true:=by intro e;have:=eq_of_beq e;subst this;exact h1 h2
     simp [h1,h2,this]
    ·have:x = y:=u8_tri x y h1 h2
     subst this
     simp [h1]
     exact ih b
theorem cmp_eq (a b:Bs):Lib.compareBytes a b = 0 ↔ a = b:=by
 induction a generalizing b with
 | nil=>cases b <;> simp [Lib.compareBytes]
 | cons x a ih =>
  match b with
  | []=>simp [Lib.compareBytes]
  | y :: b =>
   unfold Lib.compareBytes
   by_cases h1:x < y
   ·have:x ≠ y:=by rintro rfl;exact absurd h1 (UInt8.lt_irrefl _)
    simp [h1,this]
   ·by_cases h2:y < x
    ·have:x ≠ y:=by rintro rfl;exact absurd h2 (UInt8.lt_irrefl _)
     simp [h1,h2,this]
    ·have:x = y:=u8_tri x y h1 h2
     subst this
     simp [h1,ih]
theorem find1_any (c:Cell) (k:Bs) (w:World) :
  Calls Tryz.prog 137 #[c.agg,.string (str k)] w fun e w'=>e = .returned (.int .i64 (Lib.compareBytes c.key k)) ∧ ∃ o,w' = w.alloc o:=by
 have HC:=Lib.hid (fun w=>Tryz.strings_Compare (str c.key) (str k) w)
 simp only [str_toList] at HC
 go_enter Tryz.func137,Tryz.ntmps137
 simp only [Cell.agg]
 go_wp2_with fail
 refine (HC.out _).mono ?_
 rintro e w1 ⟨rfl,rfl⟩
 go_wp2_with fail
 go_ret
 exact ⟨rfl,_,rfl⟩
structure Place (ks:List Bs) (key:Bs) (i:Nat):Prop where
 le:i ≤ ks.length
 at_:∀ (j:Nat) (k:Bs),ks[j]? = some k → klt k key = decide (j < i)
theorem bsf_any (cs:List Cell) (key:Bs) (i0:Nat) (hp:Place (cs.map Cell.key) key i0) (w:World) (F:Nat → Prop) (A:Option Addr) (cap:Nat) (hr:Rd w F 4 A cs.length (cellVals cs)) (hb:cs.length < 65536) (hc:cs.length ≤ cap) :
  Calls Tryz.prog 136 #[.slice A cs.length cap,.string (str key),.func (.func 137) #[] #[]] w fun e w'=>e = .returned (.tuple #[.int .i64 (i0:Int),.bool (decide ((cs[i0]?).map Cell.key = some key))]) ∧ Ext No w w':=by
 have hil:i0 ≤ cs.length:=by simpa using hp.le
 have HR:=Lib.hid hr;have HP:=Lib.hid hp
 clear hr hp
 go_enter Tryz.func136,Tryz.ntmps136
 go_wp2_with fail
 go_loopg [9,10] cs.length (fun gk vi vj wr=>∃ (i j:Nat),vi = .int .i64 (i:Int) ∧ vj = .int .i64 (j:Int) ∧ i ≤ i0 ∧ i0 ≤ j ∧ j ≤ cs.length ∧ gk + i = j ∧ Ext No w wr)
 case atStart=>exact ⟨0,cs.length,rfl,rfl,by omega,by omega,by omega,by omega,Ext.refl _ _⟩
 case round =>
  obtain ⟨i,j,rfl,rfl,h1,h2,h3,h4,hE⟩:=hrel
  have H4:=Lib.hid h4;have HE:=Lib.hid hE
  clear h4 hE
  by_cases hlt:i < j
  ·obtain ⟨h,hh⟩:∃ h,(i + j) / 2 = h:=⟨_,rfl⟩
   have hh1:h < j:=by omega
   have hh2:i ≤ h:=by omega
   obtain ⟨c,hc⟩:∃ c,cs[h]? = some c:=⟨_,List.getElem?_eq_getElem (by omega)⟩
   obtain ⟨b,o,hA,_,e0,e1,e2,e3⟩:=(HR.out.ext HE.out.of_no).cellAt hc
   subst hA
   have e1':IntKind.i64.wrap (((i:Int) + j) / 2) = h:=by rw [IntKind.wrap_i64];omega
   have HF:=Lib.hid (fun w=>find1_any c key w)
   have hat:=HP.out.at_ h c.key (by simp [hc])
   have hcmp:=cmp_lt c.key key
   generalize Lib.compareBytes c.key key = cv at HF hcmp
   rw [hat] at hcmp
   have HC:=Lib.hid hcmp
   have lb:=World.block_lt_of_cell? wr _ e0
   simp only [Cell.agg] at HF
   clear hat hcmp hc
   go_wp2_with fail
   refine (HF.out _).mono ?_
   rintro e w1 ⟨rfl,o1,rfl⟩
   by_cases hlt2:h < i0
   ·have hcv:cv < 0:=HC.out.2 (by simpa using hlt2)
    go_wp2_with fail
    go_roundg (gk - (h + 1 - i))
    case rel=>exact ⟨h + 1,j,by go_num,rfl,by omega,h2,h3,by have:=H4.out;omega,HE.out.alloc _⟩
    case measure=>have:=H4.out;omega
   ·have hcv:¬ cv < 0:=fun h'=>by have:=HC.out.1 h';simp at this;omega
    go_wp2_with fail
    go_roundg (gk - (j - h))
    case rel=>exact ⟨i,h,rfl,rfl,h1,by omega,by omega,by have:=H4.out;omega,HE.out.alloc _⟩
    case measure=>have:=H4.out;omega
  ·have hij:i = i0:=by omega
   subst hij
   by_cases hlt':i < cs.length
   ·obtain ⟨c,hc⟩:∃ c,cs[i]? = some c:=⟨_,List.getElem?_eq_getElem hlt'⟩
    obtain ⟨b,o,hA,_,e0,e1,e2,e3⟩:=(HR.out.ext HE.out.of_no).cellAt hc
    subst hA
    have HF:=Lib.hid (fun w=>find1_any c key w)
    have hcmp:=cmp_eq c.key key
    have hd:decide ((cs[i]?).map Cell.key = some key) = decide (c.key = key):=by simp [hc]
    have HDD:=Lib.hid hd
    generalize Lib.compareBytes c.key key = cv at HF hcmp
    simp only [Cell.agg] at HF
    have HC:=Lib.hid hcmp
    clear hcmp hd hc
    go_wp2_with fail
    refine (HF.out _).mono ?_
    rintro e w1 ⟨rfl,o1,rfl⟩
    go_wp2_with fail
    go_ret2
    refine ⟨?_,HE.out.alloc _⟩
    have hb:(cv == 0) = decide (c.key = key):=by rw [Bool.eq_iff_iff];simpa using HC.out
    rw [HDD.out,← hb]
    rfl
   ·have hd:decide ((cs[i]?).map Cell.key = some key) = false:=by rw [List.getElem?_eq_none (by omega)];simp
    have HDD:=Lib.hid hd
    clear hd
    go_wp2_with fail
    go_ret2
    exact ⟨by rw [HDD.out];rfl,HE.out⟩
theorem less_any (a b:Bs) (w:World):Calls Tryz.prog 178 #[.string (str a),.string (str b)] w fun e w'=>e = .returned (.bool (klt a b)) ∧ w = w':=by
 go_enter Tryz.func178,Tryz.ntmps178
 go_wp2
 go_ret
 exact ⟨ret_bool (by simp),rfl⟩
theorem nan_any (a:Bs) (w:World):Calls Tryz.prog 179 #[.string (str a)] w fun e w'=>e = .returned (.bool false) ∧ w = w':=by
 go_enter Tryz.func179,Tryz.ntmps179
 go_wp2
 go_ret
 exact ⟨ret_bool (by simp),rfl⟩
theorem bs_any (ks:List Bs) (key:Bs) (i0:Nat) (hp:Place ks key i0) (w:World) (F:Nat → Prop) (A:Option Addr) (cap:Nat) (hr:Rd w F 1 A ks.length (keyVals ks)) (hb:ks.length < 65536) (hc:ks.length ≤ cap) :
  Calls Tryz.prog 139 #[.slice A ks.length cap,.string (str key)] w fun e w'=>e = .returned (.tuple #[.int .i64 (i0:Int),.bool (decide (ks[i0]? = some key))]) ∧ Ext No w w':=by
 have hil:i0 ≤ ks.length:=by simpa using hp.le
 have HR:=Lib.hid hr;have HP:=Lib.hid hp
 have HL:=Lib.hid (fun a w=>less_any a key w)
 clear hr hp
 go_enter Tryz.func139,Tryz.ntmps139
 go_wp2_with fail
 go_loopg [7,8] ks.length (fun gk vi vj wr=>∃ (i j:Nat),vi = .int .i64 (i:Int) ∧ vj = .int .i64 (j:Int) ∧ i ≤ i0 ∧ i0 ≤ j ∧ j ≤ ks.length ∧ gk + i = j ∧ Ext No w wr)
 case atStart=>exact ⟨0,ks.length,rfl,rfl,by omega,by omega,by omega,by omega,Ext.refl _ _⟩
 case round =>
  obtain ⟨i,j,rfl,rfl,h1,h2,h3,h4,hE⟩:=hrel
  have H4:=Lib.hid h4;have HE:=Lib.hid hE
  clear h4 hE
  by_cases hlt:i < j
  ·obtain ⟨h,hh⟩:∃ h,(i + j) / 2 = h:=⟨_,rfl⟩
   have hh1:h < j:=by omega
   have hh2:i ≤ h:=by omega
   obtain ⟨c,hc⟩:∃ c,ks[h]? = some c:=⟨_,List.getElem?_eq_getElem (by omega)⟩
   obtain ⟨b,o,hA,_,e0⟩:=(HR.out.ext HE.out.of_no).keyAt hc
   subst hA
   have e1':IntKind.i64.wrap (((i:Int) + j) / 2) = h:=by rw [IntKind.wrap_i64];omega
   have hat:=HP.out.at_ h c hc
   have lb:=World.block_lt_of_cell? wr _ e0
   clear hc
   go_wp2_with fail
   refine (HL.out _ _).mono ?_
   rintro e w1 ⟨rfl,rfl⟩
   by_cases hlt2:h < i0
   ·have hkl:klt c key = true:=by simpa [hlt2] using hat
    simp only [hkl]
    clear hat
    go_wp2_with fail
    go_roundg (gk - (h + 1 - i))
    case rel=>exact ⟨h + 1,j,by go_num,rfl,by omega,h2,h3,by have:=H4.out;omega,HE.out⟩
    case measure=>have:=H4.out;omega
   ·have hkl:klt c key = false:=by simpa [hlt2] using hat
    simp only [hkl]
    clear hat
    go_wp2_with fail
    go_roundg (gk - (j - h))
    case rel=>exact ⟨i,h,rfl,rfl,h1,by omega,by omega,by have:=H4.out;omega,HE.out⟩
    case measure=>have:=H4.out;omega
  ·have hij:i = i0:=by omega
   subst hij
   by_cases hlt':i < ks.length
   ·obtain ⟨c,hc⟩:∃ c,ks[i]? = some c:=⟨_,List.getElem?_eq_getElem hlt'⟩
    obtain ⟨b,o,hA,_,e0⟩:=(HR.out.ext HE.out.of_no).keyAt hc
    subst hA
    have hd:decide (ks[i]? = some key) = decide (c = key):=by simp [hc]
    have HDD:=Lib.hid hd
    clear hd hc
    by_cases hck:c = key
    ·have hd2:=Lib.hid (show decide (c = key) = true by simpa using hck)
     have hne:(c == key) = true:=by simpa using hck
     clear hck
     go_wp2_with fail
     go_ret2
     exact ⟨by rw [HDD.out,hd2.out];rfl,HE.out⟩
    ·have hd2:=Lib.hid (show decide (c = key) = false by simpa using hck)
     have hne:(c == key) = false:=by simpa using hck
     go_wp2_with (go_at_call 179;refine (nan_any _ _).mono ?_;rintro e w1 ⟨rfl,rfl⟩)
     go_ret2
     exact ⟨by rw [HDD.out,hd2.out];rfl,HE.out⟩
   ·have hd:decide (ks[i]? = some key) = false:=by rw [List.getElem?_eq_none (by omega)];simp
    have HDD:=Lib.hid hd
    clear hd
    go_wp2_with fail
    go_ret2
    exact ⟨by rw [HDD.out];rfl,HE.out⟩
theorem klt_cons (x y:UInt8) (a b:Bs):klt (x :: a) (y :: b) = (decide (x < y) || (x == y && klt a b)):=rfl
theorem klt_nil_right (a:Bs):klt a [] = false:=by cases a <;> rfl
theorem klt_irrefl (a:Bs):klt a a = false:=by
 induction a with
 | nil=>rfl
 | cons x a ih=>rw [klt_cons,ih];simp
theorem klt_trans {a b c:Bs} (h1:klt a b = true) (h2:klt b c = true):klt a c = true:=by
 induction a generalizing b c with
 | nil =>
  match b,c,h1,h2 with
  | [],_,h1,_=>cases h1
  | _ :: _,[],_,h2=>cases h2
  | _ :: _,_ :: _,_,_=>rfl
 | cons x a ih =>
  match b,c,h1,h2 with
  | [],_,h1,_=>cases h1
  | _ :: _,[],_,h2=>cases h2
  | y :: b,z :: c,h1,h2 =>
   rw [klt_cons] at *
   simp only [Bool.or_eq_true,decide_eq_true_eq,Bool.and_eq_true,beq_iff_eq] at *
   rcases h1 with h1 | ⟨rfl,h1⟩
   ·rcases h2 with h2 | ⟨rfl,h2⟩
    ·left;rw [UInt8.lt_iff_toNat_lt] at *;omega
    ·left;exact h1
   ·rcases h2 with h2 | ⟨rfl,h2⟩
    ·left;exact h2
    ·exact .inr ⟨rfl,ih h1 h2⟩
theorem klt_tri (a b:Bs) (h1:klt a b = false) (h2:klt b a = false):a = b:=by
 induction a generalizing b with
 | nil =>
  match b,h1 with
  | [],_=>rfl
  | _ :: _,h1=>cases h1
 | cons x a ih =>
  match b,h1,h2 with
  | [],_,h2=>cases h2
  | y :: b,h1,h2 =>
   rw [klt_cons] at *
   simp only [Bool.or_eq_false_iff,decide_eq_false_iff_not,Bool.and_eq_false_imp,beq_iff_eq] at *
   have:=u8_tri x y h1.1 h2.1
   subst this
   rw [ih b (h1.2 rfl) (h2.2 rfl)]
theorem klt_asymm {a b:Bs} (h:klt a b = true):klt b a = false:=by
 cases h2:klt b a
 ·rfl
 ·have:=klt_trans h h2;rw [klt_irrefl] at this;cases this
theorem klt_ne {a b:Bs} (h:klt a b = true):a ≠ b:=by
 rintro rfl;rw [klt_irrefl] at h;cases h
theorem kle_trans {a b c:Bs} (h1:klt b a = false) (h2:klt b c = true):klt a c = true:=by
 cases h:klt a b
 ·have:=klt_tri a b h h1;subst this;exact h2
 ·exact klt_trans h h2
abbrev Sorted (ks:List Bs):Prop:=ks.Pairwise fun a b=>klt a b = true
def rank (ks:List Bs) (key:Bs):Nat:=(ks.takeWhile fun k=>klt k key).length
theorem rank_le (ks:List Bs) (key:Bs):rank ks key ≤ ks.length:=by
 unfold rank
 exact (List.takeWhile_prefix _).length_le
theorem Place.of_sorted {ks:List Bs} (h:Sorted ks) (key:Bs):Place ks key (rank ks key):=by
 refine ⟨rank_le _ _,?_⟩
 induction ks with
 | nil=>intro j k hj;simp at hj
 | cons x ks ih =>
  rw [Sorted,List.pairwise_cons] at h
  intro j k hj
  cases hx:klt x key
  ·have hr:rank (x :: ks) key = 0:=by simp [rank,hx]
   rw [hr]
   match j,hj with
   | 0,hj=>simp at hj;subst hj;rw [hx];rfl
   | j + 1,hj =>
    have hk:=List.mem_of_getElem? (by simpa using hj:ks[j]? = some k)
    have:=h.1 k hk
    cases hkk:klt k key
    ·rfl
    ·have:=klt_trans this hkk;rw [hx] at this;cases this
  ·have hr:rank (x :: ks) key = rank ks key + 1:=by simp [rank,hx]
   rw [hr]
   match j,hj with
   | 0,hj=>simp at hj;subst hj;rw [hx];simp
   | j + 1,hj =>
    rw [ih h.2 j k (by simpa using hj)]
    simp
theorem sorted_okK (ks:List Bs):∀ k,k ≤ ks.length → okK ks k = true → Sorted (ks.take k)
 | 0,_,_=>by simp
 | k + 1,hk,h=>by
  simp only [okK,Bool.and_eq_true] at h
  have ih:=sorted_okK ks k (by omega) h.1
  obtain ⟨x,hx⟩:∃ x,ks[k]? = some x:=⟨_,List.getElem?_eq_getElem (by omega)⟩
  have h2:=h.2
  rw [hx] at h2
  simp only [Bool.and_eq_true] at h2
  rw [List.take_add_one,hx,Sorted,List.pairwise_append]
  refine ⟨ih,by simp,?_⟩
  intro a ha b hb
  simp at hb
  subst hb
  match k,h2.2,ih,ha with
  | 0,_,_,ha=>simp at ha
  | j + 1,h3,ih,ha =>
   obtain ⟨y,hj⟩:∃ y,ks[j]? = some y:=⟨_,List.getElem?_eq_getElem (by omega)⟩
   simp only [hj] at h3
   rw [List.take_add_one,hj,Sorted,List.pairwise_append] at ih
   rw [List.take_add_one,hj] at ha
   rcases List.mem_append.1 ha with ha | ha
   ·exact klt_trans (ih.2.2 a ha _ (by simp)) h3
   ·simp at ha;subst ha;exact h3
theorem sorted_okC (cs:List Cell):∀ k,k ≤ cs.length → okC cs k = true → Sorted ((cs.take k).map Cell.key)
 | 0,_,_=>by simp
 | k + 1,hk,h=>by
  simp only [okC,Bool.and_eq_true] at h
  have ih:=sorted_okC cs k (by omega) h.1
  obtain ⟨x,hx⟩:∃ x,cs[k]? = some x:=⟨_,List.getElem?_eq_getElem (by omega)⟩
  have h2:=h.2
  rw [hx] at h2
  simp only [Bool.and_eq_true] at h2
  rw [List.take_add_one,hx,Sorted,List.map_append,List.pairwise_append]
  refine ⟨ih,by simp,?_⟩
  intro a ha b hb
  simp at hb
  subst hb
  match k,h2.2,ih,ha with
  | 0,_,_,ha=>simp at ha
  | j + 1,h3,ih,ha =>
   obtain ⟨y,hj⟩:∃ y,cs[j]? = some y:=⟨_,List.getElem?_eq_getElem (by omega)⟩
   simp only [hj] at h3
   rw [List.take_add_one,hj,Sorted,List.map_append,List.pairwise_append] at ih
   rw [List.take_add_one,hj,List.map_append] at ha
   rcases List.mem_append.1 ha with ha | ha
   ·exact klt_trans (ih.2.2 a ha _ (by simp)) h3
   ·simp at ha;subst ha;exact h3
theorem Nd.Ok.sortedK {n:Nd} (h:n.ok = true):Sorted n.keys:=by
 unfold Nd.ok at h
 simp only [Bool.and_eq_true] at h
 have:=sorted_okK n.keys _ (Nat.le_refl _) h.1.2
 rwa [List.take_length] at this
theorem Nd.Ok.sortedC {n:Nd} (h:n.ok = true):Sorted (n.cells.map Cell.key):=by
 unfold Nd.ok at h
 simp only [Bool.and_eq_true] at h
 have:=sorted_okC n.cells _ (Nat.le_refl _) h.1.1.2
 rwa [List.take_length] at this
def Nd.find (n:Nd) (key:Bs):Nat × Bool :=
 if n.leaf then (rank (n.cells.map Cell.key) key,decide ((n.cells[rank (n.cells.map Cell.key) key]?).map Cell.key = some key))
 else (rank n.keys key + (if n.keys[rank n.keys key]? = some key then 1 else 0),decide (n.keys[rank n.keys key]? = some key))
theorem find_any (n:Nd) (key:Bs) (w:World) (F:Nat → Prop) (A1:Option Addr) (c1:Nat) (A2:Option Addr) (c2:Nat) (A3:Option Addr) (c3:Nat) (hn:NodeAt w F A1 c1 A2 c2 A3 c3 n)
  (h1:n.leaf = true → Sorted (n.cells.map Cell.key)) (h2:n.leaf = false → Sorted n.keys) :
  Calls Tryz.prog 95 #[n.value A1 c1 A2 c2 A3 c3,.string (str key)] w fun e w'=>e = .returned (.tuple #[.int .i64 ((n.find key).1:Int),.bool (n.find key).2]) ∧ Ext No w w':=by
 cases hlf:n.leaf
 ·have HB:=Lib.hid (fun w h=>bs_any n.keys key _ (Place.of_sorted (h2 hlf) key) w F A2 c2 h hn.b2 hn.l2)
  have hf:n.find key = (rank n.keys key + (if n.keys[rank n.keys key]? = some key then 1 else 0),decide (n.keys[rank n.keys key]? = some key)):=by simp [Nd.find,hlf]
  rw [hf]
  have hrl:=rank_le n.keys key
  have hb2:=hn.b2
  have HK:=Lib.hid hn.keys
  generalize rank n.keys key = i at HB hrl
  by_cases he:n.keys[i]? = some key
  ·rw [if_pos he]
   have hd:decide (n.keys[i]? = some key) = true:=by simpa using he
   rw [hd] at HB ⊢
   simp only [Nd.value,hlf]
   clear he hd hf hlf hn h1 h2
   go_enter Tryz.func95,Tryz.ntmps95
   go_wp2_with fail
   refine (HB.out _ (HK.out.ext ((Ext.refl _ w).alloc _))).mono ?_
   rintro e w1 ⟨rfl,hx⟩
   go_wp2_with fail
   go_ret2
   exact ⟨by go_num,((Ext.refl No w).alloc _).trans_ hx⟩
  ·rw [if_neg he]
   have hd:decide (n.keys[i]? = some key) = false:=by simpa using he
   rw [hd] at HB ⊢
   simp only [Nd.value,hlf]
   clear he hd hf hlf hn h1 h2
   go_enter Tryz.func95,Tryz.ntmps95
   go_wp2_with fail
   refine (HB.out _ (HK.out.ext ((Ext.refl _ w).alloc _))).mono ?_
   rintro e w1 ⟨rfl,hx⟩
   go_wp2_with fail
   go_ret2
   exact ⟨rfl,((Ext.refl No w).alloc _).trans_ hx⟩
 ·have HB:=Lib.hid (fun w h=>bsf_any n.cells key _ (Place.of_sorted (h1 hlf) key) w F A1 c1 h hn.b1 hn.l1)
  have hf:n.find key = (rank (n.cells.map Cell.key) key,decide ((n.cells[rank (n.cells.map Cell.key) key]?).map Cell.key = some key)):=by simp [Nd.find,hlf]
  rw [hf]
  have HK:=Lib.hid hn.cells
  generalize rank (n.cells.map Cell.key) key = i at HB
  generalize decide ((n.cells[i]?).map Cell.key = some key) = d at HB
  simp only [Nd.value,hlf]
  clear hf hlf hn h1 h2
  go_enter Tryz.func95,Tryz.ntmps95
  go_wp2_with fail
  refine (HB.out _ (HK.out.ext ((Ext.refl _ w).alloc _))).mono ?_
  rintro e w1 ⟨rfl,hx⟩
  go_wp2_with fail
  go_ret2
  exact ⟨rfl,((Ext.refl No w).alloc _).trans_ hx⟩
theorem run_append_rd {w:World} (t ty:TypeId) (base:Nat) (e:TypeId) (i:TypeInfo) (z:Value) (size bytes:Nat) (ht:Tryz.prog.underlying t = some (.slice e)) (hi:Tryz.prog.info? e = some i) (hz:i.zero = some z)
  (hsize:i.size = size) (hby:i.bytes = bytes) (hzs:z.cells.size = size) (hsz:0 < size) (v:Value) (n:Nat) (xs:List Value) (hown:w.ownsRow base e size v n xs)
  (F:Nat → Prop) (A:Option Addr) (m c:Nat) (news:List Value) (hr:Rd w F size A m news) (hnil:A = none → c = 0) (h1:∀ u ∈ news,u.oneCell' = true) (h63:n + m ≤ maxLen) (hbytes:(n + m) * bytes ≤ 140737488355328) (hbase:base ≤ w.heap.size) :
  ∃ v' w',(Builtin.append_ #[t,t] ty #[v,.slice A m c]).run Tryz.prog w = .ok v' w' ∧ w'.ownsRow base e size v' (n + m) (xs ++ news) ∧ w.grownBy w' v.ownBlock:=by
 have go:∀ ad,A = some ad → (∀ j u,news[j]? = some u → w.cell? (ad.add j) = some u) → ∃ v' w',(Builtin.append_ #[t,t] ty #[v,.slice A m c]).run Tryz.prog w = .ok v' w' ∧ w'.ownsRow base e size v' (n + m) (xs ++ news) ∧ w.grownBy w' v.ownBlock:=by
  rintro ad rfl hnews
  obtain ⟨v',w',hrun,h2,h3,_,_⟩:=run_append_own_at (P:=Tryz.prog) w base t ty e i z size bytes ht hi hz hsize hby hzs hsz v n xs hown ad m c news hr.1 hnews h1 h63 hbytes hbase
  exact ⟨v',w',hrun,h2,h3⟩
 rcases Nat.eq_zero_or_pos m with hm | hm
 ·have hn0:news = []:=List.eq_nil_of_length_eq_zero (by rw [hr.1,hm,Nat.zero_mul])
  cases A with
  | none =>
   have hc:=hnil rfl
   subst hm;subst hc;subst hn0
   exact ⟨v,w,run_append_owned_none (P:=Tryz.prog) (w:=w) base t ty e i size ht hi v n xs hown,by simpa using hown,⟨rfl,rfl,rfl,Nat.le_refl _,fun _ _ _=>rfl⟩⟩
  | some ad=>exact go ad rfl (fun j u hu=>by rw [hn0] at hu;simp at hu)
 ·obtain ⟨b,o,hA,_,hc⟩:=hr.2 hm
  refine go _ hA (fun j u hu=>?_)
  have hadd:(⟨b,o,none⟩:Addr).add j = ⟨b,o + j,none⟩:=by
   unfold Addr.add;split
   ·rename_i h;have:j = 0:=by simpa using h
    subst this;rfl
   ·rfl
  rw [hadd];exact hc j u hu
theorem own_form {w:World} {base:Nat} {e:TypeId} {sz n:Nat} {v:Value} {xs:List Value} (h:w.ownsRow base e sz v n xs):∃ A c,v = .slice A n c:=by
 rcases h.2 with ⟨rfl,rfl⟩ | ⟨g,cap,cur,rfl,_⟩
 ·exact ⟨none,0,rfl⟩
 ·exact ⟨_,_,rfl⟩
theorem own_bounds {w:World} {base:Nat} {e:TypeId} {sz n:Nat} {v:Value} {xs:List Value} (h:w.ownsRow base e sz v n xs) {F:Nat → Prop} {B:Nat} (hB:B ≤ base):∀ g',v.ownBlock = some g' → F g' ∨ B ≤ g':=by
 intro g' e'
 have:=h.lt g' e'
 exact .inr (by omega)
def Row (e:TypeId) (sz:Nat) (w:World) (xs:List Value) (n:Nat) (en:Ending) (w':World):Prop :=
 ∃ A c,en = .returned (.slice A n c) ∧ w'.ownsRow w.heap.size e sz (.slice A n c) n xs ∧ Ext No w w'
structure Part where
 A:Option Addr
 n:Nat
 c:Nat
 xs:List Value
structure Part.Ok (w:World) (sz:Nat) (p:Part):Prop where
 rd:Rd w No sz p.A p.n p.xs
 e:p.A = none → p.c = 0
 one:∀ u ∈ p.xs,u.oneCell' = true
 cap:p.n ≤ p.c
def Part.v (p:Part):Value:=.slice p.A p.n p.c
def total (ps:List Part):Nat:=(ps.map Part.n).sum
def joined (ps:List Part):List Value:=ps.flatMap Part.xs
theorem total_take (ps:List Part) (k:Nat) (p:Part) (h:ps[k]? = some p):total (ps.take (k + 1)) = total (ps.take k) + p.n:=by
 rw [List.take_add_one,h];simp [total]
theorem joined_take (ps:List Part) (k:Nat) (p:Part) (h:ps[k]? = some p):joined (ps.take (k + 1)) = joined (ps.take k) ++ p.xs:=by
 rw [List.take_add_one,h];simp [joined]
theorem total_le (ps:List Part):∀ k,total (ps.take k) ≤ total ps:=by
 induction ps with
 | nil=>intro k;simp
 | cons p ps ih =>
  intro k
  match k with
  | 0=>simp [total]
  | k + 1=>have:=ih k;simp only [total,List.take_succ_cons,List.map_cons,List.sum_cons] at *;omega
theorem grow_strings (n:Nat) (w:World) (hn:n < 100000) :
  Calls Tryz.prog 176 #[.slice none 0 0,.int .i64 (n:Int)] w (Row 9 1 w [] 0):=by
 obtain ⟨i0,hti,htz0,htz1,htz2⟩:=info_parts Tryz.info9
 by_cases h0:n = 0
 ·subst h0
  go_enter Tryz.func176,Tryz.ntmps176
  go_wp2_with fail
  go_ret
  exact ⟨none,0,rfl,World.ownsRow_nil _ _ _ _,Ext.refl _ _⟩
 ·have hp:0 < n:=by omega
  have hrun:=fun (w:World)=>Lib.run_append_nil_zeros (P:=Tryz.prog) w 38 3 38 9 i0 _ .i64 .i64 Tryz.underlying38 Tryz.underlying3 hti htz0 n hp (by omega) (by omega) (by rw [htz2];omega)
  have hge:=grownCap_ge w n 0 9
  have hle:=grownCap_le_maxLen w n 0 9 (by unfold maxLen;omega)
  have HG:=Lib.hid hge
  have HR:=Lib.hid hrun
  have HL:=Lib.hid hle
  unfold maxLen at hle
  clear hrun h0
  generalize hcap:grownCap w n 0 9 = cp at hge hle
  have hcp:(0:Int) ≤ (cp:Int):=by omega
  go_enter Tryz.func176,Tryz.ntmps176
  go_wp2_with (at_builtin;refine Lib.wpList_append_run _ rfl (.tmp 20) (.tmp 21) 38 3 rfl _ _ rfl rfl _ _ (HR.out _) ?_)
  go_ret
  refine ⟨some ⟨w.heap.size,0,none⟩,cp,rfl,⟨by simp,.inr ⟨w.heap.size,cp,_,rfl,Nat.le_refl _,heap_alloc_new w _,by omega,by rw [← hcap];exact HL.out,?_,by simp⟩⟩,((Ext.refl No w).alloc _).drew⟩
  rw [Array.size_append,size_zeroCells,size_zeroCells]
  show n * 1 + (cp - n) * 1 = cp * 1
  omega
theorem concat_strings (ps:List Part) (b m cap:Nat) (w:World) (hm:ps.length = m) (hps:∀ p ∈ ps,p.Ok w 1) (hsum:total ps < 100000) (hml:m < 100) (hmc:m ≤ cap)
  (hc:∀ j p,ps[j]? = some p → w.cell? ⟨b,j,none⟩ = some p.v) :
  Calls Tryz.prog 135 #[.slice (some ⟨b,0,none⟩) m cap] w (Row 9 1 w (joined ps) (total ps)):=by
 obtain ⟨i0,hti,htz0,htz1,htz2⟩:=info_parts Tryz.info9
 have HP:=Lib.hid hps;have HC:=Lib.hid hc;have HM:=Lib.hid hm
 have HGR:=Lib.hid (fun w=>grow_strings (total ps) w hsum)
 have HT:=Lib.hid (fun k=>total_le ps k)
 clear hps hc hm
 go_enter Tryz.func135,Tryz.ntmps135
 go_wp2_with fail
 go_loopg [3,11] m (fun gk s i wr=>∃ (k:Nat),k + gk = m ∧ i = .int .i64 (k:Int) ∧ s = .int .i64 (total (ps.take k):Int) ∧ w = wr)
 case atStart=>exact ⟨0,by omega,rfl,rfl,rfl⟩
 case round =>
  obtain ⟨k,hk0,rfl,rfl,rfl⟩:=hrel
  have HK0:=Lib.hid hk0
  have hk:k ≤ m:=by omega
  clear hk0
  have ht:=HT.out k
  by_cases hlt:k < m
  ·obtain ⟨p,hp⟩:∃ p,ps[k]? = some p:=⟨_,List.getElem?_eq_getElem (by rw [HM.out];exact hlt)⟩
   have e0:=HC.out k p hp
   have HE:=Lib.hid (total_take ps k p hp)
   have ht2:=HT.out (k + 1)
   rw [HE.out] at ht2
   generalize total (ps.take k) = s0 at ht ht2 HE ⊢
   clear hp
   unfold Part.v at e0
   go_wp2_with fail
   go_roundg (gk - 1)
   case rel=>exact ⟨k + 1,by have:=HK0.out;omega,by go_num,by rw [HE.out];go_num,rfl⟩
   case measure=>have:=HK0.out;omega
  ·have hke:k = m:=by omega
   have htk:total (ps.take k) = total ps:=by rw [hke,← HM.out,List.take_length]
   rw [htk]
   clear htk hke ht
   go_wp2_with fail
   refine (HGR.out _).mono ?_
   rintro e w1 ⟨A,c,rfl,hown0,hx⟩
   have HO0:=Lib.hid hown0;have HX:=Lib.hid hx
   have hsz:=hx.size
   clear hown0 hx
   go_wp2_with fail
   go_loopg [6,27] m (fun gk v i wr=>∃ (k:Nat),k + gk = m ∧ i = .int .i64 (k:Int) ∧ wr.ownsRow w.heap.size 9 1 v (total (ps.take k)) (joined (ps.take k)) ∧ Ext No w wr)
   case atStart=>exact ⟨0,by omega,rfl,by simpa [total,joined] using HO0.out,HX.out⟩
   case round =>
    obtain ⟨k,hk0,rfl,hown,hE⟩:=hrel
    have HK0:=Lib.hid hk0;have HO:=Lib.hid hown;have HE:=Lib.hid hE
    have hk:k ≤ m:=by omega
    have hsz:=hE.size
    clear hk0 hown hE
    have ht:=HT.out k
    by_cases hlt:k < m
    ·obtain ⟨p,hp⟩:∃ p,ps[k]? = some p:=⟨_,List.getElem?_eq_getElem (by rw [HM.out];exact hlt)⟩
     have e0:=cell_ext HE.out (HC.out k p hp) (fun h=>h)
     have HE1:=Lib.hid (total_take ps k p hp)
     have HE2:=Lib.hid (joined_take ps k p hp)
     have ht2:=HT.out (k + 1)
     have hpo:=HP.out p (List.mem_of_getElem? hp)
     rw [HE1.out] at ht2
     unfold Part.v at e0
     clear hp
     obtain ⟨v',w2,hrun,hown2,hg⟩:=run_append_rd 38 38 w.heap.size 9 i0 _ 1 16 Tryz.underlying38 hti htz0 htz1 htz2 rfl (by decide) _ _ _ HO.out No p.A p.n p.c p.xs (hpo.rd.ext HE.out) hpo.e hpo.one (by unfold maxLen;omega) (by omega) hsz
     have HO2:=Lib.hid hown2;have HG:=Lib.hid hg;have HRN:=Lib.hid hrun
     clear hown2 hg hpo hrun
     go_wp2_with (at_builtin;refine Lib.wpList_append_run _ rfl (.tmp 31) (.tmp 32) 38 38 rfl _ _ rfl rfl _ _ HRN.out ?_)
     go_wp2_with fail
     go_roundg (gk - 1)
     case rel=>exact ⟨k + 1,by have:=HK0.out;omega,by go_num,by rw [HE1.out,HE2.out];exact HO2.out,HE.out.grown HG.out (own_bounds HO.out (Nat.le_refl _))⟩
     case measure=>have:=HK0.out;omega
    ·have hke:k = m:=by omega
     have HKE:=Lib.hid hke
     obtain ⟨A',c',hv⟩:=own_form HO.out
     subst hv
     clear hke ht
     go_wp2_with fail
     go_ret
     have hT:=HO.out
     have e1:ps.take k = ps:=by rw [HKE.out,← HM.out,List.take_length]
     rw [e1] at hT ⊢
     exact ⟨A',c',rfl,hT,HE.out⟩
theorem grow_cells (n:Nat) (w:World) (hn:n < 100000) :
  Calls Tryz.prog 187 #[.slice none 0 0,.int .i64 (n:Int)] w (Row 45 4 w [] 0):=by
 obtain ⟨i0,hti,htz0,htz1,htz2⟩:=info_parts Tryz.info45
 by_cases h0:n = 0
 ·subst h0
  go_enter Tryz.func187,Tryz.ntmps187
  go_wp2_with fail
  go_ret
  exact ⟨none,0,rfl,World.ownsRow_nil _ _ _ _,Ext.refl _ _⟩
 ·have hp:0 < n:=by omega
  have hrun:=fun (w:World)=>Lib.run_append_nil_zeros (P:=Tryz.prog) w 37 3 37 45 i0 _ .i64 .i64 Tryz.underlying37 Tryz.underlying3 hti htz0 n hp (by omega) (by omega) (by rw [htz2];omega)
  have hge:=grownCap_ge w n 0 45
  have hle:=grownCap_le_maxLen w n 0 45 (by unfold maxLen;omega)
  have HG:=Lib.hid hge
  have HR:=Lib.hid hrun
  have HL:=Lib.hid hle
  unfold maxLen at hle
  clear hrun h0
  generalize hcap:grownCap w n 0 45 = cp at hge hle
  have hcp:(0:Int) ≤ (cp:Int):=by omega
  go_enter Tryz.func187,Tryz.ntmps187
  go_wp2_with (at_builtin;refine Lib.wpList_append_run _ rfl (.tmp 20) (.tmp 21) 37 3 rfl _ _ rfl rfl _ _ (HR.out _) ?_)
  go_ret
  refine ⟨some ⟨w.heap.size,0,none⟩,cp,rfl,⟨by simp,.inr ⟨w.heap.size,cp,_,rfl,Nat.le_refl _,heap_alloc_new w _,by omega,by rw [← hcap];exact HL.out,?_,by simp⟩⟩,((Ext.refl No w).alloc _).drew⟩
  rw [Array.size_append,size_zeroCells,size_zeroCells]
  show n * 4 + (cp - n) * 4 = cp * 4
  omega
theorem concat_cells (ps:List Part) (b m cap:Nat) (w:World) (hm:ps.length = m) (hps:∀ p ∈ ps,p.Ok w 4) (hsum:total ps < 100000) (hml:m < 100) (hmc:m ≤ cap)
  (hc:∀ j p,ps[j]? = some p → w.cell? ⟨b,j,none⟩ = some p.v) :
  Calls Tryz.prog 147 #[.slice (some ⟨b,0,none⟩) m cap] w (Row 45 4 w (joined ps) (total ps)):=by
 obtain ⟨i0,hti,htz0,htz1,htz2⟩:=info_parts Tryz.info45
 have HP:=Lib.hid hps;have HC:=Lib.hid hc;have HM:=Lib.hid hm
 have HGR:=Lib.hid (fun w=>grow_cells (total ps) w hsum)
 have HT:=Lib.hid (fun k=>total_le ps k)
 clear hps hc hm
 go_enter Tryz.func147,Tryz.ntmps147
 go_wp2_with fail
 go_loopg [3,11] m (fun gk s i wr=>∃ (k:Nat),k + gk = m ∧ i = .int .i64 (k:Int) ∧ s = .int .i64 (total (ps.take k):Int) ∧ w = wr)
 case atStart=>exact ⟨0,by omega,rfl,rfl,rfl⟩
 case round =>
  obtain ⟨k,hk0,rfl,rfl,rfl⟩:=hrel
  have HK0:=Lib.hid hk0
  have hk:k ≤ m:=by omega
  clear hk0
  have ht:=HT.out k
  by_cases hlt:k < m
  ·obtain ⟨p,hp⟩:∃ p,ps[k]? = some p:=⟨_,List.getElem?_eq_getElem (by rw [HM.out];exact hlt)⟩
   have e0:=HC.out k p hp
   have HE:=Lib.hid (total_take ps k p hp)
   have ht2:=HT.out (k + 1)
   rw [HE.out] at ht2
   generalize total (ps.take k) = s0 at ht ht2 HE ⊢
   clear hp
   unfold Part.v at e0
   go_wp2_with fail
   go_roundg (gk - 1)
   case rel=>exact ⟨k + 1,by have:=HK0.out;omega,by go_num,by rw [HE.out];go_num,rfl⟩
   case measure=>have:=HK0.out;omega
  ·have hke:k = m:=by omega
   have htk:total (ps.take k) = total ps:=by rw [hke,← HM.out,List.take_length]
   rw [htk]
   clear htk hke ht
   go_wp2_with fail
   refine (HGR.out _).mono ?_
   rintro e w1 ⟨A,c,rfl,hown0,hx⟩
   have HO0:=Lib.hid hown0;have HX:=Lib.hid hx
   have hsz:=hx.size
   clear hown0 hx
   go_wp2_with fail
   go_loopg [6,27] m (fun gk v i wr=>∃ (k:Nat),k + gk = m ∧ i = .int .i64 (k:Int) ∧ wr.ownsRow w.heap.size 45 4 v (total (ps.take k)) (joined (ps.take k)) ∧ Ext No w wr)
   case atStart=>exact ⟨0,by omega,rfl,by simpa [total,joined] using HO0.out,HX.out⟩
   case round =>
    obtain ⟨k,hk0,rfl,hown,hE⟩:=hrel
    have HK0:=Lib.hid hk0;have HO:=Lib.hid hown;have HE:=Lib.hid hE
    have hk:k ≤ m:=by omega
    have hsz:=hE.size
    clear hk0 hown hE
    have ht:=HT.out k
    by_cases hlt:k < m
    ·obtain ⟨p,hp⟩:∃ p,ps[k]? = some p:=⟨_,List.getElem?_eq_getElem (by rw [HM.out];exact hlt)⟩
     have e0:=cell_ext HE.out (HC.out k p hp) (fun h=>h)
     have HE1:=Lib.hid (total_take ps k p hp)
     have HE2:=Lib.hid (joined_take ps k p hp)
     have ht2:=HT.out (k + 1)
     have hpo:=HP.out p (List.mem_of_getElem? hp)
     rw [HE1.out] at ht2
     unfold Part.v at e0
     clear hp
     obtain ⟨v',w2,hrun,hown2,hg⟩:=run_append_rd 37 37 w.heap.size 45 i0 _ 4 48 Tryz.underlying37 hti htz0 htz1 htz2 rfl (by decide) _ _ _ HO.out No p.A p.n p.c p.xs (hpo.rd.ext HE.out) hpo.e hpo.one (by unfold maxLen;omega) (by omega) hsz
     have HO2:=Lib.hid hown2;have HG:=Lib.hid hg;have HRN:=Lib.hid hrun
     clear hown2 hg hpo hrun
     go_wp2_with (at_builtin;refine Lib.wpList_append_run _ rfl (.tmp 31) (.tmp 32) 37 37 rfl _ _ rfl rfl _ _ HRN.out ?_)
     go_wp2_with fail
     go_roundg (gk - 1)
     case rel=>exact ⟨k + 1,by have:=HK0.out;omega,by go_num,by rw [HE1.out,HE2.out];exact HO2.out,HE.out.grown HG.out (own_bounds HO.out (Nat.le_refl _))⟩
     case measure=>have:=HK0.out;omega
    ·have hke:k = m:=by omega
     have HKE:=Lib.hid hke
     obtain ⟨A',c',hv⟩:=own_form HO.out
     subst hv
     clear hke ht
     go_wp2_with fail
     go_ret
     have hT:=HO.out
     have e1:ps.take k = ps:=by rw [HKE.out,← HM.out,List.take_length]
     rw [e1] at hT ⊢
     exact ⟨A',c',rfl,hT,HE.out⟩
theorem clone_strings (p:Part) (w:World) (hp:p.Ok w 1) (hn:p.n < 100000) :
  Calls Tryz.prog 124 #[p.v] w (Row 9 1 w p.xs p.n):=by
 obtain ⟨i0,hti,htz0,htz1,htz2⟩:=info_parts Tryz.info9
 obtain ⟨A,n,c,xs⟩:=p
 have hlen:=hp.rd.1
 simp only [Part.v] at hn hlen ⊢
 cases A with
 | none =>
  have hc:c = 0:=hp.e rfl
  have hn0:n = 0:=by
   rcases Nat.eq_zero_or_pos n with h | h
   ·exact h
   ·obtain ⟨b,o,hA,_⟩:=hp.rd.2 h;cases hA
  subst hc;subst hn0
  have hx:xs = []:=List.eq_nil_of_length_eq_zero (by simpa using hlen)
  subst hx
  clear hp hlen
  have he:=fun w=>Lib.run_eql_slice_nil (P:=Tryz.prog) w 38 9 none 0 0 0 0 Tryz.underlying38
  simp only [Option.isNone_none] at he
  go_enter Tryz.func124,Tryz.ntmps124
  go_wp2_with fail
  go_ret
  exact ⟨none,0,rfl,World.ownsRow_nil _ _ _ _,Ext.refl _ _⟩
 | some ad =>
  have hx:Ext No w (w.alloc (.cells #[] 9)):=(Ext.refl No w).alloc _
  have hown0:=World.ownsRow_lit (base:=w.heap.size) (e:=9) (size:=1) w #[] 0 (Nat.le_refl _) (by decide) (by simp)
  obtain ⟨v',w2,hrun,hown2,hg⟩:=run_append_rd (w:=w.alloc (.cells #[] 9)) 38 38 w.heap.size 9 i0 _ 1 16 Tryz.underlying38 hti htz0 htz1 htz2 rfl (by decide) _ _ _ hown0 No (some ad) n c xs (hp.rd.ext hx) hp.e hp.one (by unfold maxLen;omega) (by omega) (by simp)
  have HO2:=Lib.hid hown2;have HG:=Lib.hid hg;have HRN:=Lib.hid hrun;have HX:=Lib.hid hx;have HO0:=Lib.hid hown0
  clear hp hlen hown2 hg hrun hx hown0
  have he:=fun w=>Lib.run_eql_slice_nil (P:=Tryz.prog) w 38 9 (some ad) n c 0 0 Tryz.underlying38
  simp only [Option.isNone_some] at he
  go_enter Tryz.func124,Tryz.ntmps124
  go_wp2_with (at_builtin;refine Lib.wpList_append_run _ rfl (.tmp 5) (.tmp 6) 38 38 rfl _ _ rfl rfl _ _ HRN.out ?_)
  obtain ⟨A',c',hv⟩:=own_form HO2.out
  subst hv
  go_wp2_with fail
  go_ret
  have hT:=HO2.out
  simp only [Nat.zero_add,List.nil_append] at hT ⊢
  exact ⟨A',c',rfl,by simpa using hT,HX.out.grown HG.out (own_bounds HO0.out (Nat.le_refl _))⟩
theorem clone_cells (p:Part) (w:World) (hp:p.Ok w 4) (hn:p.n < 100000) :
  Calls Tryz.prog 204 #[p.v] w (Row 45 4 w p.xs p.n):=by
 obtain ⟨i0,hti,htz0,htz1,htz2⟩:=info_parts Tryz.info45
 obtain ⟨A,n,c,xs⟩:=p
 have hlen:=hp.rd.1
 simp only [Part.v] at hn hlen ⊢
 cases A with
 | none =>
  have hc:c = 0:=hp.e rfl
  have hn0:n = 0:=by
   rcases Nat.eq_zero_or_pos n with h | h
   ·exact h
   ·obtain ⟨b,o,hA,_⟩:=hp.rd.2 h;cases hA
  subst hc;subst hn0
  have hx:xs = []:=List.eq_nil_of_length_eq_zero (by simpa using hlen)
  subst hx
  clear hp hlen
  have he:=fun w=>Lib.run_eql_slice_nil (P:=Tryz.prog) w 37 45 none 0 0 0 0 Tryz.underlying37
  simp only [Option.isNone_none] at he
  go_enter Tryz.func204,Tryz.ntmps204
  go_wp2_with fail
  go_ret
  exact ⟨none,0,rfl,World.ownsRow_nil _ _ _ _,Ext.refl _ _⟩
 | some ad =>
  have hx:Ext No w (w.alloc (.cells #[] 45)):=(Ext.refl No w).alloc _
  have hown0:=World.ownsRow_lit (base:=w.heap.size) (e:=45) (size:=4) w #[] 0 (Nat.le_refl _) (by decide) (by simp)
  obtain ⟨v',w2,hrun,hown2,hg⟩:=run_append_rd (w:=w.alloc (.cells #[] 45)) 37 37 w.heap.size 45 i0 _ 4 48 Tryz.underlying37 hti htz0 htz1 htz2 rfl (by decide) _ _ _ hown0 No (some ad) n c xs (hp.rd.ext hx) hp.e hp.one (by unfold maxLen;omega) (by omega) (by simp)
  have HO2:=Lib.hid hown2;have HG:=Lib.hid hg;have HRN:=Lib.hid hrun;have HX:=Lib.hid hx;have HO0:=Lib.hid hown0
  clear hp hlen hown2 hg hrun hx hown0
  have he:=fun w=>Lib.run_eql_slice_nil (P:=Tryz.prog) w 37 45 (some ad) n c 0 0 Tryz.underlying37
  simp only [Option.isNone_some] at he
  go_enter Tryz.func204,Tryz.ntmps204
  go_wp2_with (at_builtin;refine Lib.wpList_append_run _ rfl (.tmp 5) (.tmp 6) 37 37 rfl _ _ rfl rfl _ _ HRN.out ?_)
  obtain ⟨A',c',hv⟩:=own_form HO2.out
  subst hv
  go_wp2_with fail
  go_ret
  have hT:=HO2.out
  simp only [Nat.zero_add,List.nil_append] at hT ⊢
  exact ⟨A',c',rfl,by simpa using hT,HX.out.grown HG.out (own_bounds HO0.out (Nat.le_refl _))⟩
theorem clone_ints (p:Part) (w:World) (hp:p.Ok w 1) (hn:p.n < 100000) :
  Calls Tryz.prog 146 #[p.v] w (Row 3 1 w p.xs p.n):=by
 obtain ⟨i0,hti,htz0,htz1,htz2⟩:=info_parts Tryz.info3
 obtain ⟨A,n,c,xs⟩:=p
 have hlen:=hp.rd.1
 simp only [Part.v] at hn hlen ⊢
 cases A with
 | none =>
  have hc:c = 0:=hp.e rfl
  have hn0:n = 0:=by
   rcases Nat.eq_zero_or_pos n with h | h
   ·exact h
   ·obtain ⟨b,o,hA,_⟩:=hp.rd.2 h;cases hA
  subst hc;subst hn0
  have hx:xs = []:=List.eq_nil_of_length_eq_zero (by simpa using hlen)
  subst hx
  clear hp hlen
  have he:=fun w=>Lib.run_eql_slice_nil (P:=Tryz.prog) w 35 3 none 0 0 0 0 Tryz.underlying35
  simp only [Option.isNone_none] at he
  go_enter Tryz.func146,Tryz.ntmps146
  go_wp2_with fail
  go_ret
  exact ⟨none,0,rfl,World.ownsRow_nil _ _ _ _,Ext.refl _ _⟩
 | some ad =>
  have hx:Ext No w (w.alloc (.cells #[] 3)):=(Ext.refl No w).alloc _
  have hown0:=World.ownsRow_lit (base:=w.heap.size) (e:=3) (size:=1) w #[] 0 (Nat.le_refl _) (by decide) (by simp)
  obtain ⟨v',w2,hrun,hown2,hg⟩:=run_append_rd (w:=w.alloc (.cells #[] 3)) 35 35 w.heap.size 3 i0 _ 1 8 Tryz.underlying35 hti htz0 htz1 htz2 rfl (by decide) _ _ _ hown0 No (some ad) n c xs (hp.rd.ext hx) hp.e hp.one (by unfold maxLen;omega) (by omega) (by simp)
  have HO2:=Lib.hid hown2;have HG:=Lib.hid hg;have HRN:=Lib.hid hrun;have HX:=Lib.hid hx;have HO0:=Lib.hid hown0
  clear hp hlen hown2 hg hrun hx hown0
  have he:=fun w=>Lib.run_eql_slice_nil (P:=Tryz.prog) w 35 3 (some ad) n c 0 0 Tryz.underlying35
  simp only [Option.isNone_some] at he
  go_enter Tryz.func146,Tryz.ntmps146
  go_wp2_with (at_builtin;refine Lib.wpList_append_run _ rfl (.tmp 5) (.tmp 6) 35 35 rfl _ _ rfl rfl _ _ HRN.out ?_)
  obtain ⟨A',c',hv⟩:=own_form HO2.out
  subst hv
  go_wp2_with fail
  go_ret
  have hT:=HO2.out
  simp only [Nat.zero_add,List.nil_append] at hT ⊢
  exact ⟨A',c',rfl,by simpa using hT,HX.out.grown HG.out (own_bounds HO0.out (Nat.le_refl _))⟩
end Go.Proofs.YtccnemmlkcmceaaGreatDoor
