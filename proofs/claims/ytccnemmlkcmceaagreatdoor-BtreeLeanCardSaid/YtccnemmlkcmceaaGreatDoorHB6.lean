/- Proofs about the given program, joined out of the texts D6, F1, F2, G0, G1, G2, G3, K1, LG7, LG8. -/
import Derived.Test.YtccnemmlkcmceaaGreatDoorHB5
import Derived.Lib.AppendZeros
import Derived.Laws.AppendOwnNone
import Derived.Maps.AppendAt
import Derived.Lib.SliceRun
import Derived.Lib.AppendStr
import Derived.Deep.RegionLaw
set_option linter.unusedVariables false
set_option linter.unusedSimpArgs false
set_option maxRecDepth 100000
set_option maxHeartbeats 6400000
namespace Go.Proofs.YtccnemmlkcmceaaGreatDoor
open Go.RowKit
theorem decode_any (s : Bs) (w : World) (hs : s.length < 1000000) : Calls Tryz.prog 48 #[.string (str s)] w (Told w (dec s)) := by
 by_cases hl : s.length ≤ 500
 ·by_cases hk : (⟨s,false⟩ : Rst).byte.1 = 1
  ·exact dec_leaf s w hl hk
  ·exact dec_branch s w hl hk
 ·have hd : dec s = none := by simp [dec]; omega
  have hsz := str_size s
  have hl' : (500 : Int) < s.length := by omega
  rw [hd]
  clear hd hl
  go_enter Tryz.func48,Tryz.ntmps48
  go_wp2_with fail
  have br := (Blk.new w 40 #[.bool false,.slice none 0 0,.slice none 0 0,.slice none 0 0])
  refine dec_back w.heap.size _ br rfl rfl rfl rfl ?_
  exact Told.fail ((Ext.refl No w).alloc _) rfl
def Nd.out (n : Nd) : Bs × Nat := if n.ok = false then ([],2) else if 500 < n.size then ([],3) else (n.enc,0)
theorem encode_any (n : Nd) (w : World) (F : Nat → Prop) (A1 : Option Addr) (c1 : Nat) (A2 : Option Addr) (c2 : Nat) (A3 : Option Addr) (c3 : Nat) (hn : NodeAt w F A1 c1 A2 c2 A3 c3 n) (hf : n.fits) :
  Calls Tryz.prog 180 #[n.value A1 c1 A2 c2 A3 c3] w fun e w' => e = .returned (.tuple #[.string (str n.out.1),.int .i64 n.out.2]) ∧ Ext No w w' := by
 unfold Nd.out
 cases hok : n.ok
 ·simpa using enc_bad n w F A1 c1 A2 c2 A3 c3 hn hf hok
 ·by_cases hl : 500 < n.size
  ·simpa [hl] using enc_long n w F A1 c1 A2 c2 A3 c3 hn hf hok hl
  ·cases hlf : n.leaf
   ·simpa [hl] using enc_branch n w F A1 c1 A2 c2 A3 c3 hn hok (by omega) hlf
   ·simpa [hl] using enc_leaf n w F A1 c1 A2 c2 A3 c3 hn hok (by omega) hlf
theorem take_app (a b : Bs) (n : Nat) (h : a.length = n) : (⟨a ++ b,false⟩ : Rst).take n = (a,⟨b,false⟩) := by
 unfold Rst.take
 rw [if_neg (by simp; omega)]
 subst h
 simp
theorem byte_app (x : UInt8) (b : Bs) : (⟨x :: b,false⟩ : Rst).byte = (x.toNat,⟨b,false⟩) := by
 unfold Rst.byte
 have := take_app [x] b 1 rfl
 simp only [List.singleton_append] at this
 rw [this]; rfl
theorem text_app (s b : Bs) (h : s.length < 256) : (⟨txt s ++ b,false⟩ : Rst).text = (s,⟨b,false⟩) := by
 unfold Rst.text txt
 simp only [List.cons_append]
 rw [byte_app]
 have : (UInt8.ofNat s.length).toNat = s.length := by simp; omega
 simp only [this]
 exact take_app s b _ rfl
theorem four_app (n : Nat) (b : Bs) (h : n < 4294967296) : (⟨n4 n ++ b,false⟩ : Rst).four = (n,⟨b,false⟩) := by
 unfold Rst.four
 rw [take_app (n4 n) b 4 rfl]
 have := v4_n4 n h []
 simp only [List.append_nil] at this
 rw [this]
theorem cell_app (c : Cell) (b : Bs) (h : c.ok = true) : (⟨c.enc ++ b,false⟩ : Rst).cell = (c,⟨b,false⟩) := by
 have hb := Cell.ok_bounds h
 unfold Cell.enc Rst.cell
 by_cases ho : 0 < c.over
 ·rw [if_pos ho]
  simp only [List.append_assoc,List.cons_append]
  rw [text_app _ _ (by omega)]
  simp only [byte_app]
  rw [if_neg (by decide),if_pos (by decide),four_app _ _ (by omega)]
  simp only
  rw [four_app _ _ (by omega)]
  have hv : c.val = [] := by
   unfold Cell.ok at h
   rw [if_neg (by omega)] at h
   simp only [Bool.and_eq_true] at h
   simpa using h.2
  have : decide (c.over = 0) = false := by simp; omega
  simp only [this,Bool.or_self,← hv]
 ·rw [if_neg ho]
  simp only [List.append_assoc,List.cons_append]
  rw [text_app _ _ (by omega)]
  simp only [byte_app]
  rw [if_pos (by decide),text_app _ _ (by omega)]
  have h0 : c.over = 0 := by omega
  have hl : c.len = 0 := by
   unfold Cell.ok at h
   rw [if_pos h0] at h
   simp only [Bool.and_eq_true,decide_eq_true_eq] at h
   exact h.1.2
  simp only [← h0]
  cases c; simp at h0 hl; simp [h0,hl]
theorem loop_cells (cs : List Cell) : ∀ (cs0 : List Cell) (b : Bs),(∀ c ∈ cs,c.ok = true) → decLoop cs.length ⟨true,cs0,[],[]⟩ ⟨encCells cs ++ b,false⟩ = (⟨true,cs0 ++ cs,[],[]⟩,⟨b,false⟩) := by
 induction cs with
 | nil => intro cs0 b _; simp [decLoop,encCells]
 | cons c cs ih =>
  intro cs0 b h
  have h1 := h c (by simp)
  simp only [List.length_cons,decLoop,Bool.false_eq_true,if_false]
  have e : encCells (c :: cs) ++ b = c.enc ++ (encCells cs ++ b) := by simp [encCells]
  rw [e]
  have e1 : Nd.one ⟨true,cs0,[],[]⟩ ⟨c.enc ++ (encCells cs ++ b),false⟩ = (⟨true,cs0 ++ [c],[],[]⟩,⟨encCells cs ++ b,false⟩) := by
   unfold Nd.one
   rw [cell_app c _ h1]
   rfl
  rw [e1,ih _ _ (fun d hd => h d (by simp [hd]))]
  simp
theorem loop_keys (ks : List Bs) : ∀ (is : List Nat) (ks0 : List Bs) (is0 : List Nat) (b : Bs),is.length = ks.length → (∀ k ∈ ks,k.length < 256) → (∀ i ∈ is,i < 4294967296) →
  decLoop ks.length ⟨false,[],ks0,is0⟩ ⟨encKeys ks is ++ b,false⟩ = (⟨false,[],ks0 ++ ks,is0 ++ is⟩,⟨b,false⟩) := by
 induction ks with
 | nil =>
      intro is ks0 is0 b hl _ _; have : is = [] := by simpa using hl
      subst this; simp [decLoop,encKeys]
 | cons k ks ih =>
  intro is ks0 is0 b hl hk hi
  match is,hl with
  | i :: is,hl =>
   have h1 := hk k (by simp)
   have h2 := hi i (by simp)
   simp only [List.length_cons,decLoop,Bool.false_eq_true,if_false]
   have e : encKeys (k :: ks) (i :: is) ++ b = txt k ++ (n4 i ++ (encKeys ks is ++ b)) := by simp [encKeys]
   rw [e]
   have e1 : Nd.one ⟨false,[],ks0,is0⟩ ⟨txt k ++ (n4 i ++ (encKeys ks is ++ b)),false⟩ = (⟨false,[],ks0 ++ [k],is0 ++ [i]⟩,⟨encKeys ks is ++ b,false⟩) := by
    unfold Nd.one
    rw [text_app k _ h1]
    simp only
    rw [four_app i _ h2]
    rfl
   rw [e1,ih _ _ _ _ (by simpa using hl) (fun d hd => hk d (by simp [hd])) (fun d hd => hi d (by simp [hd]))]
   simp
theorem dec_enc (n : Nd) (hok : n.ok = true) (hl : n.enc.length ≤ 500) : dec n.enc = some n := by
 have hO := Nd.Ok.of hok
 cases hlf : n.leaf
 ·obtain ⟨h1,h2⟩ := hO.br hlf
  obtain ⟨lf,cs,ks,is⟩ := n
  simp only at hlf h1 h2
  subst hlf; subst h1
  match is,h2 with
  | i0 :: is,h2 =>
   have hi0 := hO.fits.i i0 (by simp)
   have hks : ks.length < 256 := by have := hO.a2; simp only at this; omega
   have hb : ∀ k ∈ ks,k.length < 256 := fun k hk => by have := keyOk_len (hO.k k hk); omega
   have hkt : (UInt8.ofNat ks.length).toNat = ks.length := by simp; omega
   have e : (⟨false,[],ks,i0 :: is⟩ : Nd).enc = 2 :: UInt8.ofNat ks.length :: (n4 i0 ++ (encKeys ks is ++ [])) := by simp [Nd.enc]
   rw [e] at hl ⊢
   have e1 : (⟨2 :: UInt8.ofNat ks.length :: (n4 i0 ++ (encKeys ks is ++ [])),false⟩ : Rst).byte = (2,⟨UInt8.ofNat ks.length :: (n4 i0 ++ (encKeys ks is ++ [])),false⟩) := byte_app _ _
   have e2 : (⟨UInt8.ofNat ks.length :: (n4 i0 ++ (encKeys ks is ++ [])),false⟩ : Rst).byte = (ks.length,⟨n4 i0 ++ (encKeys ks is ++ []),false⟩) := by rw [byte_app,hkt]
   have e3 := four_app i0 (encKeys ks is ++ []) hi0
   have e4 : (⟨2 :: UInt8.ofNat ks.length :: (n4 i0 ++ (encKeys ks is ++ [])),false⟩ : Rst).loop = (⟨false,[],ks,i0 :: is⟩,⟨[],false⟩) := by
    unfold Rst.loop Rst.head
    simp only [e1,e2,e3]
    rw [if_neg (by decide)]
    rw [loop_keys ks is [] [i0] [] (by simp at h2; omega) hb (fun i hi => hO.fits.i i (by simp [hi]))]
    simp
   unfold dec
   rw [if_neg (by omega)]
   simp only [e4,e1]
   simp [hok]
 ·obtain ⟨h1,h2⟩ := hO.lf hlf
  obtain ⟨lf,cs,ks,is⟩ := n
  simp only at hlf h1 h2
  subst hlf; subst h1; subst h2
  have hcs : cs.length < 256 := by have := hO.a1; simp only at this; omega
  have hkt : (UInt8.ofNat cs.length).toNat = cs.length := by simp; omega
  have e : (⟨true,cs,[],[]⟩ : Nd).enc = 1 :: UInt8.ofNat cs.length :: (encCells cs ++ []) := by simp [Nd.enc]
  rw [e] at hl ⊢
  have e1 : (⟨1 :: UInt8.ofNat cs.length :: (encCells cs ++ []),false⟩ : Rst).byte = (1,⟨UInt8.ofNat cs.length :: (encCells cs ++ []),false⟩) := byte_app _ _
  have e2 : (⟨UInt8.ofNat cs.length :: (encCells cs ++ []),false⟩ : Rst).byte = (cs.length,⟨encCells cs ++ [],false⟩) := by rw [byte_app,hkt]
  have e4 : (⟨1 :: UInt8.ofNat cs.length :: (encCells cs ++ []),false⟩ : Rst).loop = (⟨true,cs,[],[]⟩,⟨[],false⟩) := by
   unfold Rst.loop Rst.head
   simp only [e1,e2]
   simp only [if_true]
   rw [loop_cells cs [] [] hO.c]
   simp
  unfold dec
  rw [if_neg (by omega)]
  simp only [e4,e1]
  simp [hok]
theorem u8_tri (x y : UInt8) (h1 : ¬ x < y) (h2 : ¬ y < x) : x = y := by
 rw [UInt8.lt_iff_toNat_lt] at h1 h2
 exact UInt8.toNat_inj.1 (by omega)
theorem cmp_lt (a b : Bs) : Lib.compareBytes a b < 0 ↔ klt a b = true := by
 induction a generalizing b with
 | nil => cases b <;> simp [Lib.compareBytes,klt,Op.bytesLess]
 | cons x a ih =>
  match b with
  | [] => simp [Lib.compareBytes,klt,Op.bytesLess]
  | y :: b =>
   unfold Lib.compareBytes klt Op.bytesLess
   by_cases h1 : x < y
   ·simp [h1]
   ·by_cases h2 : y < x
    ·have : ¬ (x == y) = true := by intro e; have := eq_of_beq e; subst this; exact h1 h2
     simp [h1,h2,this]
    ·have : x = y := u8_tri x y h1 h2
     subst this
     simp [h1]
     exact ih b
theorem cmp_eq (a b : Bs) : Lib.compareBytes a b = 0 ↔ a = b := by
 induction a generalizing b with
 | nil => cases b <;> simp [Lib.compareBytes]
 | cons x a ih =>
  match b with
  | [] => simp [Lib.compareBytes]
  | y :: b =>
   unfold Lib.compareBytes
   by_cases h1 : x < y
   ·have : x ≠ y := by rintro rfl; exact absurd h1 (UInt8.lt_irrefl _)
    simp [h1,this]
   ·by_cases h2 : y < x
    ·have : x ≠ y := by rintro rfl; exact absurd h2 (UInt8.lt_irrefl _)
     simp [h1,h2,this]
    ·have : x = y := u8_tri x y h1 h2
     subst this
     simp [h1,ih]
theorem find1_any (c : Cell) (k : Bs) (w : World) :
  Calls Tryz.prog 137 #[c.agg,.string (str k)] w fun e w' => e = .returned (.int .i64 (Lib.compareBytes c.key k)) ∧ ∃ o,w' = w.alloc o := by
 have HC := Lib.hid (fun w => Tryz.strings_Compare (str c.key) (str k) w)
 simp only [str_toList] at HC
 go_enter Tryz.func137,Tryz.ntmps137
 simp only [Cell.agg]
 go_wp2_with fail
 refine (HC.out _).mono ?_
 rintro e w1 ⟨rfl,rfl⟩
 go_wp2_with fail
 go_ret
 exact ⟨rfl,_,rfl⟩
structure Place (ks : List Bs) (key : Bs) (i : Nat) : Prop where
 le : i ≤ ks.length
 at_ : ∀ (j : Nat) (k : Bs),ks[j]? = some k → klt k key = decide (j < i)
theorem bsf_any (cs : List Cell) (key : Bs) (i0 : Nat) (hp : Place (cs.map Cell.key) key i0) (w : World) (F : Nat → Prop) (A : Option Addr) (cap : Nat) (hr : Rd w F 4 A cs.length (cellVals cs)) (hb : cs.length < 65536) (hc : cs.length ≤ cap) :
  Calls Tryz.prog 136 #[.slice A cs.length cap,.string (str key),.func (.func 137) #[] #[]] w fun e w' => e = .returned (.tuple #[.int .i64 (i0 : Int),.bool (decide ((cs[i0]?).map Cell.key = some key))]) ∧ Ext No w w' := by
 have hil : i0 ≤ cs.length := by simpa using hp.le
 have HR := Lib.hid hr; have HP := Lib.hid hp
 clear hr hp
 go_enter Tryz.func136,Tryz.ntmps136
 go_wp2_with fail
 go_loopg [9,10] cs.length (fun gk vi vj wr => ∃ (i j : Nat),vi = .int .i64 (i : Int) ∧ vj = .int .i64 (j : Int) ∧ i ≤ i0 ∧ i0 ≤ j ∧ j ≤ cs.length ∧ gk + i = j ∧ Ext No w wr)
 case atStart => exact ⟨0,cs.length,rfl,rfl,by omega,by omega,by omega,by omega,Ext.refl _ _⟩
 case round =>
  obtain ⟨i,j,rfl,rfl,h1,h2,h3,h4,hE⟩ := hrel
  have H4 := Lib.hid h4; have HE := Lib.hid hE
  clear h4 hE
  by_cases hlt : i < j
  ·obtain ⟨h,hh⟩ : ∃ h,(i + j) / 2 = h := ⟨_,rfl⟩
   have hh1 : h < j := by omega
   have hh2 : i ≤ h := by omega
   obtain ⟨c,hc⟩ : ∃ c,cs[h]? = some c := ⟨_,List.getElem?_eq_getElem (by omega)⟩
   obtain ⟨b,o,hA,_,e0,e1,e2,e3⟩ := (HR.out.ext HE.out.of_no).cellAt hc
   subst hA
   have e1' : IntKind.i64.wrap (((i : Int) + j) / 2) = h := by rw [IntKind.wrap_i64]; omega
   have HF := Lib.hid (fun w => find1_any c key w)
   have hat := HP.out.at_ h c.key (by simp [hc])
   have hcmp := cmp_lt c.key key
   generalize Lib.compareBytes c.key key = cv at HF hcmp
   rw [hat] at hcmp
   have HC := Lib.hid hcmp
   have lb := World.block_lt_of_cell? wr _ e0
   simp only [Cell.agg] at HF
   clear hat hcmp hc
   go_wp2_with fail
   refine (HF.out _).mono ?_
   rintro e w1 ⟨rfl,o1,rfl⟩
   by_cases hlt2 : h < i0
   ·have hcv : cv < 0 := HC.out.2 (by simpa using hlt2)
    go_wp2_with fail
    go_roundg (gk - (h + 1 - i))
    case rel => exact ⟨h + 1,j,by go_num,rfl,by omega,h2,h3,by have := H4.out; omega,HE.out.alloc _⟩
    case measure => have := H4.out; omega
   ·have hcv : ¬ cv < 0 := fun h' => by have := HC.out.1 h'; simp at this; omega
    go_wp2_with fail
    go_roundg (gk - (j - h))
    case rel => exact ⟨i,h,rfl,rfl,h1,by omega,by omega,by have := H4.out; omega,HE.out.alloc _⟩
    case measure => have := H4.out; omega
  ·have hij : i = i0 := by omega
   subst hij
   by_cases hlt' : i < cs.length
   ·obtain ⟨c,hc⟩ : ∃ c,cs[i]? = some c := ⟨_,List.getElem?_eq_getElem hlt'⟩
    obtain ⟨b,o,hA,_,e0,e1,e2,e3⟩ := (HR.out.ext HE.out.of_no).cellAt hc
    subst hA
    have HF := Lib.hid (fun w => find1_any c key w)
    have hcmp := cmp_eq c.key key
    have hd : decide ((cs[i]?).map Cell.key = some key) = decide (c.key = key) := by simp [hc]
    have HDD := Lib.hid hd
    generalize Lib.compareBytes c.key key = cv at HF hcmp
    simp only [Cell.agg] at HF
    have HC := Lib.hid hcmp
    clear hcmp hd hc
    go_wp2_with fail
    refine (HF.out _).mono ?_
    rintro e w1 ⟨rfl,o1,rfl⟩
    go_wp2_with fail
    go_ret2
    refine ⟨?_,HE.out.alloc _⟩
    have hb : (cv == 0) = decide (c.key = key) := by rw [Bool.eq_iff_iff]; simpa using HC.out
    rw [HDD.out,← hb]
    rfl
   ·have hd : decide ((cs[i]?).map Cell.key = some key) = false := by rw [List.getElem?_eq_none (by omega)]; simp
    have HDD := Lib.hid hd
    clear hd
    go_wp2_with fail
    go_ret2
    exact ⟨by rw [HDD.out]; rfl,HE.out⟩
theorem less_any (a b : Bs) (w : World) : Calls Tryz.prog 178 #[.string (str a),.string (str b)] w fun e w' => e = .returned (.bool (klt a b)) ∧ w = w' := by
 go_enter Tryz.func178,Tryz.ntmps178
 go_wp2
 go_ret
 exact ⟨ret_bool (by simp),rfl⟩
theorem nan_any (a : Bs) (w : World) : Calls Tryz.prog 179 #[.string (str a)] w fun e w' => e = .returned (.bool false) ∧ w = w' := by
 go_enter Tryz.func179,Tryz.ntmps179
 go_wp2
 go_ret
 exact ⟨ret_bool (by simp),rfl⟩
theorem bs_any (ks : List Bs) (key : Bs) (i0 : Nat) (hp : Place ks key i0) (w : World) (F : Nat → Prop) (A : Option Addr) (cap : Nat) (hr : Rd w F 1 A ks.length (keyVals ks)) (hb : ks.length < 65536) (hc : ks.length ≤ cap) :
  Calls Tryz.prog 139 #[.slice A ks.length cap,.string (str key)] w fun e w' => e = .returned (.tuple #[.int .i64 (i0 : Int),.bool (decide (ks[i0]? = some key))]) ∧ Ext No w w' := by
 have hil : i0 ≤ ks.length := by simpa using hp.le
 have HR := Lib.hid hr; have HP := Lib.hid hp
 have HL := Lib.hid (fun a w => less_any a key w)
 clear hr hp
 go_enter Tryz.func139,Tryz.ntmps139
 go_wp2_with fail
 go_loopg [7,8] ks.length (fun gk vi vj wr => ∃ (i j : Nat),vi = .int .i64 (i : Int) ∧ vj = .int .i64 (j : Int) ∧ i ≤ i0 ∧ i0 ≤ j ∧ j ≤ ks.length ∧ gk + i = j ∧ Ext No w wr)
 case atStart => exact ⟨0,ks.length,rfl,rfl,by omega,by omega,by omega,by omega,Ext.refl _ _⟩
 case round =>
  obtain ⟨i,j,rfl,rfl,h1,h2,h3,h4,hE⟩ := hrel
  have H4 := Lib.hid h4; have HE := Lib.hid hE
  clear h4 hE
  by_cases hlt : i < j
  ·obtain ⟨h,hh⟩ : ∃ h,(i + j) / 2 = h := ⟨_,rfl⟩
   have hh1 : h < j := by omega
   have hh2 : i ≤ h := by omega
   obtain ⟨c,hc⟩ : ∃ c,ks[h]? = some c := ⟨_,List.getElem?_eq_getElem (by omega)⟩
   obtain ⟨b,o,hA,_,e0⟩ := (HR.out.ext HE.out.of_no).keyAt hc
   subst hA
   have e1' : IntKind.i64.wrap (((i : Int) + j) / 2) = h := by rw [IntKind.wrap_i64]; omega
   have hat := HP.out.at_ h c hc
   have lb := World.block_lt_of_cell? wr _ e0
   clear hc
   go_wp2_with fail
   refine (HL.out _ _).mono ?_
   rintro e w1 ⟨rfl,rfl⟩
   by_cases hlt2 : h < i0
   ·have hkl : klt c key = true := by simpa [hlt2] using hat
    simp only [hkl]
    clear hat
    go_wp2_with fail
    go_roundg (gk - (h + 1 - i))
    case rel => exact ⟨h + 1,j,by go_num,rfl,by omega,h2,h3,by have := H4.out; omega,HE.out⟩
    case measure => have := H4.out; omega
   ·have hkl : klt c key = false := by simpa [hlt2] using hat
    simp only [hkl]
    clear hat
    go_wp2_with fail
    go_roundg (gk - (j - h))
    case rel => exact ⟨i,h,rfl,rfl,h1,by omega,by omega,by have := H4.out; omega,HE.out⟩
    case measure => have := H4.out; omega
  ·have hij : i = i0 := by omega
   subst hij
   by_cases hlt' : i < ks.length
   ·obtain ⟨c,hc⟩ : ∃ c,ks[i]? = some c := ⟨_,List.getElem?_eq_getElem hlt'⟩
    obtain ⟨b,o,hA,_,e0⟩ := (HR.out.ext HE.out.of_no).keyAt hc
    subst hA
    have hd : decide (ks[i]? = some key) = decide (c = key) := by simp [hc]
    have HDD := Lib.hid hd
    clear hd hc
    by_cases hck : c = key
    ·have hd2 := Lib.hid (show decide (c = key) = true by simpa using hck)
     have hne : (c == key) = true := by simpa using hck
     clear hck
     go_wp2_with fail
     go_ret2
     exact ⟨by rw [HDD.out,hd2.out]; rfl,HE.out⟩
    ·have hd2 := Lib.hid (show decide (c = key) = false by simpa using hck)
     have hne : (c == key) = false := by simpa using hck
     go_wp2_with (go_at_call 179; refine (nan_any _ _).mono ?_; rintro e w1 ⟨rfl,rfl⟩)
     go_ret2
     exact ⟨by rw [HDD.out,hd2.out]; rfl,HE.out⟩
   ·have hd : decide (ks[i]? = some key) = false := by rw [List.getElem?_eq_none (by omega)]; simp
    have HDD := Lib.hid hd
    clear hd
    go_wp2_with fail
    go_ret2
    exact ⟨by rw [HDD.out]; rfl,HE.out⟩
theorem klt_cons (x y : UInt8) (a b : Bs) : klt (x :: a) (y :: b) = (decide (x < y) || (x == y && klt a b)) := rfl
theorem klt_nil_right (a : Bs) : klt a [] = false := by cases a <;> rfl
theorem klt_irrefl (a : Bs) : klt a a = false := by
 induction a with
 | nil => rfl
 | cons x a ih => rw [klt_cons,ih]; simp
theorem klt_trans {a b c : Bs} (h1 : klt a b = true) (h2 : klt b c = true) : klt a c = true := by
 induction a generalizing b c with
 | nil =>
  match b,c,h1,h2 with
  | [],_,h1,_ => cases h1
  | _ :: _,[],_,h2 => cases h2
  | _ :: _,_ :: _,_,_ => rfl
 | cons x a ih =>
  match b,c,h1,h2 with
  | [],_,h1,_ => cases h1
  | _ :: _,[],_,h2 => cases h2
  | y :: b,z :: c,h1,h2 =>
   rw [klt_cons] at *
   simp only [Bool.or_eq_true,decide_eq_true_eq,Bool.and_eq_true,beq_iff_eq] at *
   rcases h1 with h1 | ⟨rfl,h1⟩
   ·rcases h2 with h2 | ⟨rfl,h2⟩
    ·left; rw [UInt8.lt_iff_toNat_lt] at *; omega
    ·left; exact h1
   ·rcases h2 with h2 | ⟨rfl,h2⟩
    ·left; exact h2
    ·exact .inr ⟨rfl,ih h1 h2⟩
theorem klt_tri (a b : Bs) (h1 : klt a b = false) (h2 : klt b a = false) : a = b := by
 induction a generalizing b with
 | nil =>
  match b,h1 with
  | [],_ => rfl
  | _ :: _,h1 => cases h1
 | cons x a ih =>
  match b,h1,h2 with
  | [],_,h2 => cases h2
  | y :: b,h1,h2 =>
   rw [klt_cons] at *
   simp only [Bool.or_eq_false_iff,decide_eq_false_iff_not,Bool.and_eq_false_imp,beq_iff_eq] at *
   have := u8_tri x y h1.1 h2.1
   subst this
   rw [ih b (h1.2 rfl) (h2.2 rfl)]
theorem klt_asymm {a b : Bs} (h : klt a b = true) : klt b a = false := by
 cases h2 : klt b a
 ·rfl
 ·have := klt_trans h h2; rw [klt_irrefl] at this; cases this
theorem klt_ne {a b : Bs} (h : klt a b = true) : a ≠ b := by
 rintro rfl; rw [klt_irrefl] at h; cases h
theorem kle_trans {a b c : Bs} (h1 : klt b a = false) (h2 : klt b c = true) : klt a c = true := by
 cases h : klt a b
 ·have := klt_tri a b h h1; subst this; exact h2
 ·exact klt_trans h h2
abbrev Sorted (ks : List Bs) : Prop := ks.Pairwise fun a b => klt a b = true
def rank (ks : List Bs) (key : Bs) : Nat := (ks.takeWhile fun k => klt k key).length
theorem rank_le (ks : List Bs) (key : Bs) : rank ks key ≤ ks.length := by
 unfold rank
 exact (List.takeWhile_prefix _).length_le
theorem Place.of_sorted {ks : List Bs} (h : Sorted ks) (key : Bs) : Place ks key (rank ks key) := by
 refine ⟨rank_le _ _,?_⟩
 induction ks with
 | nil => intro j k hj; simp at hj
 | cons x ks ih =>
  rw [Sorted,List.pairwise_cons] at h
  intro j k hj
  cases hx : klt x key
  ·have hr : rank (x :: ks) key = 0 := by simp [rank,hx]
   rw [hr]
   match j,hj with
   | 0,hj => simp at hj; subst hj; rw [hx]; rfl
   | j + 1,hj =>
    have hk := List.mem_of_getElem? (by simpa using hj : ks[j]? = some k)
    have := h.1 k hk
    cases hkk : klt k key
    ·rfl
    ·have := klt_trans this hkk; rw [hx] at this; cases this
  ·have hr : rank (x :: ks) key = rank ks key + 1 := by simp [rank,hx]
   rw [hr]
   match j,hj with
   | 0,hj => simp at hj; subst hj; rw [hx]; simp
   | j + 1,hj =>
    rw [ih h.2 j k (by simpa using hj)]
    simp
theorem sorted_okK (ks : List Bs) : ∀ k,k ≤ ks.length → okK ks k = true → Sorted (ks.take k)
 | 0,_,_ => by simp
 | k + 1,hk,h => by
  simp only [okK,Bool.and_eq_true] at h
  have ih := sorted_okK ks k (by omega) h.1
  obtain ⟨x,hx⟩ : ∃ x,ks[k]? = some x := ⟨_,List.getElem?_eq_getElem (by omega)⟩
  have h2 := h.2
  rw [hx] at h2
  simp only [Bool.and_eq_true] at h2
  rw [List.take_add_one,hx,Sorted,List.pairwise_append]
  refine ⟨ih,by simp,?_⟩
  intro a ha b hb
  simp at hb
  subst hb
  match k,h2.2,ih,ha with
  | 0,_,_,ha => simp at ha
  | j + 1,h3,ih,ha =>
   obtain ⟨y,hj⟩ : ∃ y,ks[j]? = some y := ⟨_,List.getElem?_eq_getElem (by omega)⟩
   simp only [hj] at h3
   rw [List.take_add_one,hj,Sorted,List.pairwise_append] at ih
   rw [List.take_add_one,hj] at ha
   rcases List.mem_append.1 ha with ha | ha
   ·exact klt_trans (ih.2.2 a ha _ (by simp)) h3
   ·simp at ha; subst ha; exact h3
theorem sorted_okC (cs : List Cell) : ∀ k,k ≤ cs.length → okC cs k = true → Sorted ((cs.take k).map Cell.key)
 | 0,_,_ => by simp
 | k + 1,hk,h => by
  simp only [okC,Bool.and_eq_true] at h
  have ih := sorted_okC cs k (by omega) h.1
  obtain ⟨x,hx⟩ : ∃ x,cs[k]? = some x := ⟨_,List.getElem?_eq_getElem (by omega)⟩
  have h2 := h.2
  rw [hx] at h2
  simp only [Bool.and_eq_true] at h2
  rw [List.take_add_one,hx,Sorted,List.map_append,List.pairwise_append]
  refine ⟨ih,by simp,?_⟩
  intro a ha b hb
  simp at hb
  subst hb
  match k,h2.2,ih,ha with
  | 0,_,_,ha => simp at ha
  | j + 1,h3,ih,ha =>
   obtain ⟨y,hj⟩ : ∃ y,cs[j]? = some y := ⟨_,List.getElem?_eq_getElem (by omega)⟩
   simp only [hj] at h3
   rw [List.take_add_one,hj,Sorted,List.map_append,List.pairwise_append] at ih
   rw [List.take_add_one,hj,List.map_append] at ha
   rcases List.mem_append.1 ha with ha | ha
   ·exact klt_trans (ih.2.2 a ha _ (by simp)) h3
   ·simp at ha; subst ha; exact h3
theorem Nd.Ok.sortedK {n : Nd} (h : n.ok = true) : Sorted n.keys := by
 unfold Nd.ok at h
 simp only [Bool.and_eq_true] at h
 have := sorted_okK n.keys _ (Nat.le_refl _) h.1.2
 rwa [List.take_length] at this
theorem Nd.Ok.sortedC {n : Nd} (h : n.ok = true) : Sorted (n.cells.map Cell.key) := by
 unfold Nd.ok at h
 simp only [Bool.and_eq_true] at h
 have := sorted_okC n.cells _ (Nat.le_refl _) h.1.1.2
 rwa [List.take_length] at this
def Nd.find (n : Nd) (key : Bs) : Nat × Bool :=
 if n.leaf then (rank (n.cells.map Cell.key) key,decide ((n.cells[rank (n.cells.map Cell.key) key]?).map Cell.key = some key))
 else (rank n.keys key + (if n.keys[rank n.keys key]? = some key then 1 else 0),decide (n.keys[rank n.keys key]? = some key))
theorem find_any (n : Nd) (key : Bs) (w : World) (F : Nat → Prop) (A1 : Option Addr) (c1 : Nat) (A2 : Option Addr) (c2 : Nat) (A3 : Option Addr) (c3 : Nat) (hn : NodeAt w F A1 c1 A2 c2 A3 c3 n)
  (h1 : n.leaf = true → Sorted (n.cells.map Cell.key)) (h2 : n.leaf = false → Sorted n.keys) :
  Calls Tryz.prog 95 #[n.value A1 c1 A2 c2 A3 c3,.string (str key)] w fun e w' => e = .returned (.tuple #[.int .i64 ((n.find key).1 : Int),.bool (n.find key).2]) ∧ Ext No w w' := by
 cases hlf : n.leaf
 ·have HB := Lib.hid (fun w h => bs_any n.keys key _ (Place.of_sorted (h2 hlf) key) w F A2 c2 h hn.b2 hn.l2)
  have hf : n.find key = (rank n.keys key + (if n.keys[rank n.keys key]? = some key then 1 else 0),decide (n.keys[rank n.keys key]? = some key)) := by simp [Nd.find,hlf]
  rw [hf]
  have hrl := rank_le n.keys key
  have hb2 := hn.b2
  have HK := Lib.hid hn.keys
  generalize rank n.keys key = i at HB hrl
  by_cases he : n.keys[i]? = some key
  ·rw [if_pos he]
   have hd : decide (n.keys[i]? = some key) = true := by simpa using he
   rw [hd] at HB ⊢
   simp only [Nd.value,hlf]
   clear he hd hf hlf hn h1 h2
   go_enter Tryz.func95,Tryz.ntmps95
   go_wp2_with fail
   refine (HB.out _ (HK.out.ext ((Ext.refl _ w).alloc _))).mono ?_
   rintro e w1 ⟨rfl,hx⟩
   go_wp2_with fail
   go_ret2
   exact ⟨by go_num,((Ext.refl No w).alloc _).trans_ hx⟩
  ·rw [if_neg he]
   have hd : decide (n.keys[i]? = some key) = false := by simpa using he
   rw [hd] at HB ⊢
   simp only [Nd.value,hlf]
   clear he hd hf hlf hn h1 h2
   go_enter Tryz.func95,Tryz.ntmps95
   go_wp2_with fail
   refine (HB.out _ (HK.out.ext ((Ext.refl _ w).alloc _))).mono ?_
   rintro e w1 ⟨rfl,hx⟩
   go_wp2_with fail
   go_ret2
   exact ⟨rfl,((Ext.refl No w).alloc _).trans_ hx⟩
 ·have HB := Lib.hid (fun w h => bsf_any n.cells key _ (Place.of_sorted (h1 hlf) key) w F A1 c1 h hn.b1 hn.l1)
  have hf : n.find key = (rank (n.cells.map Cell.key) key,decide ((n.cells[rank (n.cells.map Cell.key) key]?).map Cell.key = some key)) := by simp [Nd.find,hlf]
  rw [hf]
  have HK := Lib.hid hn.cells
  generalize rank (n.cells.map Cell.key) key = i at HB
  generalize decide ((n.cells[i]?).map Cell.key = some key) = d at HB
  simp only [Nd.value,hlf]
  clear hf hlf hn h1 h2
  go_enter Tryz.func95,Tryz.ntmps95
  go_wp2_with fail
  refine (HB.out _ (HK.out.ext ((Ext.refl _ w).alloc _))).mono ?_
  rintro e w1 ⟨rfl,hx⟩
  go_wp2_with fail
  go_ret2
  exact ⟨rfl,((Ext.refl No w).alloc _).trans_ hx⟩
theorem run_append_rd {w : World} (t ty : TypeId) (base : Nat) (e : TypeId) (i : TypeInfo) (z : Value) (size bytes : Nat) (ht : Tryz.prog.underlying t = some (.slice e)) (hi : Tryz.prog.info? e = some i) (hz : i.zero = some z)
  (hsize : i.size = size) (hby : i.bytes = bytes) (hzs : z.cells.size = size) (hsz : 0 < size) (v : Value) (n : Nat) (xs : List Value) (hown : w.ownsRow base e size v n xs)
  (F : Nat → Prop) (A : Option Addr) (m c : Nat) (news : List Value) (hr : Rd w F size A m news) (hnil : A = none → c = 0) (h1 : ∀ u ∈ news,u.oneCell' = true) (h63 : n + m ≤ maxLen) (hbytes : (n + m) * bytes ≤ 140737488355328) (hbase : base ≤ w.heap.size) :
  ∃ v' w',(Builtin.append_ #[t,t] ty #[v,.slice A m c]).run Tryz.prog w = .ok v' w' ∧ w'.ownsRow base e size v' (n + m) (xs ++ news) ∧ w.grownBy w' v.ownBlock := by
 have go : ∀ ad,A = some ad → (∀ j u,news[j]? = some u → w.cell? (ad.add j) = some u) → ∃ v' w',(Builtin.append_ #[t,t] ty #[v,.slice A m c]).run Tryz.prog w = .ok v' w' ∧ w'.ownsRow base e size v' (n + m) (xs ++ news) ∧ w.grownBy w' v.ownBlock := by
  rintro ad rfl hnews
  obtain ⟨v',w',hrun,h2,h3,_,_⟩ := run_append_own_at (P := Tryz.prog) w base t ty e i z size bytes ht hi hz hsize hby hzs hsz v n xs hown ad m c news hr.1 hnews h1 h63 hbytes hbase
  exact ⟨v',w',hrun,h2,h3⟩
 rcases Nat.eq_zero_or_pos m with hm | hm
 ·have hn0 : news = [] := List.eq_nil_of_length_eq_zero (by rw [hr.1,hm,Nat.zero_mul])
  cases A with
  | none =>
   have hc := hnil rfl
   subst hm; subst hc; subst hn0
   exact ⟨v,w,run_append_owned_none (P := Tryz.prog) (w := w) base t ty e i size ht hi v n xs hown,by simpa using hown,⟨rfl,rfl,rfl,Nat.le_refl _,fun _ _ _ => rfl⟩⟩
  | some ad => exact go ad rfl (fun j u hu => by rw [hn0] at hu; simp at hu)
 ·obtain ⟨b,o,hA,_,hc⟩ := hr.2 hm
  refine go _ hA (fun j u hu => ?_)
  have hadd : (⟨b,o,none⟩ : Addr).add j = ⟨b,o + j,none⟩ := by
   unfold Addr.add; split
   ·rename_i h; have : j = 0 := by simpa using h
    subst this; rfl
   ·rfl
  rw [hadd]; exact hc j u hu
theorem own_form {w : World} {base : Nat} {e : TypeId} {sz n : Nat} {v : Value} {xs : List Value} (h : w.ownsRow base e sz v n xs) : ∃ A c,v = .slice A n c := by
 rcases h.2 with ⟨rfl,rfl⟩ | ⟨g,cap,cur,rfl,_⟩
 ·exact ⟨none,0,rfl⟩
 ·exact ⟨_,_,rfl⟩
theorem own_bounds {w : World} {base : Nat} {e : TypeId} {sz n : Nat} {v : Value} {xs : List Value} (h : w.ownsRow base e sz v n xs) {F : Nat → Prop} {B : Nat} (hB : B ≤ base) : ∀ g',v.ownBlock = some g' → F g' ∨ B ≤ g' := by
 intro g' e'
 have := h.lt g' e'
 exact .inr (by omega)
def Row (e : TypeId) (sz : Nat) (w : World) (xs : List Value) (n : Nat) (en : Ending) (w' : World) : Prop :=
 ∃ A c,en = .returned (.slice A n c) ∧ w'.ownsRow w.heap.size e sz (.slice A n c) n xs ∧ Ext No w w'
structure Part where
 A : Option Addr
 n : Nat
 c : Nat
 xs : List Value
structure Part.Ok (w : World) (sz : Nat) (p : Part) : Prop where
 rd : Rd w No sz p.A p.n p.xs
 e : p.A = none → p.c = 0
 one : ∀ u ∈ p.xs,u.oneCell' = true
 cap : p.n ≤ p.c
def Part.v (p : Part) : Value := .slice p.A p.n p.c
def total (ps : List Part) : Nat := (ps.map Part.n).sum
def joined (ps : List Part) : List Value := ps.flatMap Part.xs
theorem total_take (ps : List Part) (k : Nat) (p : Part) (h : ps[k]? = some p) : total (ps.take (k + 1)) = total (ps.take k) + p.n := by
 rw [List.take_add_one,h]; simp [total]
theorem joined_take (ps : List Part) (k : Nat) (p : Part) (h : ps[k]? = some p) : joined (ps.take (k + 1)) = joined (ps.take k) ++ p.xs := by
 rw [List.take_add_one,h]; simp [joined]
theorem total_le (ps : List Part) : ∀ k,total (ps.take k) ≤ total ps := by
 induction ps with
 | nil => intro k; simp
 | cons p ps ih =>
  intro k
  match k with
  | 0 => simp [total]
  | k + 1 => have := ih k; simp only [total,List.take_succ_cons,List.map_cons,List.sum_cons] at *; omega
theorem grow_strings (n : Nat) (w : World) (hn : n < 100000) :
  Calls Tryz.prog 176 #[.slice none 0 0,.int .i64 (n : Int)] w (Row 9 1 w [] 0) := by
 obtain ⟨i0,hti,htz0,htz1,htz2⟩ := info_parts Tryz.info9
 by_cases h0 : n = 0
 ·subst h0
  go_enter Tryz.func176,Tryz.ntmps176
  go_wp2_with fail
  go_ret
  exact ⟨none,0,rfl,World.ownsRow_nil _ _ _ _,Ext.refl _ _⟩
 ·have hp : 0 < n := by omega
  have hrun := fun (w : World) => Lib.run_append_nil_zeros (P := Tryz.prog) w 38 3 38 9 i0 _ .i64 .i64 Tryz.underlying38 Tryz.underlying3 hti htz0 n hp (by omega) (by omega) (by rw [htz2]; omega)
  have hge := grownCap_ge w n 0 9
  have hle := grownCap_le_maxLen w n 0 9 (by unfold maxLen; omega)
  have HG := Lib.hid hge
  have HR := Lib.hid hrun
  have HL := Lib.hid hle
  unfold maxLen at hle
  clear hrun h0
  generalize hcap : grownCap w n 0 9 = cp at hge hle
  have hcp : (0 : Int) ≤ (cp : Int) := by omega
  go_enter Tryz.func176,Tryz.ntmps176
  go_wp2_with (at_builtin; refine Lib.wpList_append_run _ rfl (.tmp 20) (.tmp 21) 38 3 rfl _ _ rfl rfl _ _ (HR.out _) ?_)
  go_ret
  refine ⟨some ⟨w.heap.size,0,none⟩,cp,rfl,⟨by simp,.inr ⟨w.heap.size,cp,_,rfl,Nat.le_refl _,heap_alloc_new w _,by omega,by rw [← hcap]; exact HL.out,?_,by simp⟩⟩,((Ext.refl No w).alloc _).drew⟩
  rw [Array.size_append,size_zeroCells,size_zeroCells]
  show n * 1 + (cp - n) * 1 = cp * 1
  omega
theorem concat_strings (ps : List Part) (b m cap : Nat) (w : World) (hm : ps.length = m) (hps : ∀ p ∈ ps,p.Ok w 1) (hsum : total ps < 100000) (hml : m < 100) (hmc : m ≤ cap)
  (hc : ∀ j p,ps[j]? = some p → w.cell? ⟨b,j,none⟩ = some p.v) :
  Calls Tryz.prog 135 #[.slice (some ⟨b,0,none⟩) m cap] w (Row 9 1 w (joined ps) (total ps)) := by
 obtain ⟨i0,hti,htz0,htz1,htz2⟩ := info_parts Tryz.info9
 have HP := Lib.hid hps; have HC := Lib.hid hc; have HM := Lib.hid hm
 have HGR := Lib.hid (fun w => grow_strings (total ps) w hsum)
 have HT := Lib.hid (fun k => total_le ps k)
 clear hps hc hm
 go_enter Tryz.func135,Tryz.ntmps135
 go_wp2_with fail
 go_loopg [3,11] m (fun gk s i wr => ∃ (k : Nat),k + gk = m ∧ i = .int .i64 (k : Int) ∧ s = .int .i64 (total (ps.take k) : Int) ∧ w = wr)
 case atStart => exact ⟨0,by omega,rfl,rfl,rfl⟩
 case round =>
  obtain ⟨k,hk0,rfl,rfl,rfl⟩ := hrel
  have HK0 := Lib.hid hk0
  have hk : k ≤ m := by omega
  clear hk0
  have ht := HT.out k
  by_cases hlt : k < m
  ·obtain ⟨p,hp⟩ : ∃ p,ps[k]? = some p := ⟨_,List.getElem?_eq_getElem (by rw [HM.out]; exact hlt)⟩
   have e0 := HC.out k p hp
   have HE := Lib.hid (total_take ps k p hp)
   have ht2 := HT.out (k + 1)
   rw [HE.out] at ht2
   generalize total (ps.take k) = s0 at ht ht2 HE ⊢
   clear hp
   unfold Part.v at e0
   go_wp2_with fail
   go_roundg (gk - 1)
   case rel => exact ⟨k + 1,by have := HK0.out; omega,by go_num,by rw [HE.out]; go_num,rfl⟩
   case measure => have := HK0.out; omega
  ·have hke : k = m := by omega
   have htk : total (ps.take k) = total ps := by rw [hke,← HM.out,List.take_length]
   rw [htk]
   clear htk hke ht
   go_wp2_with fail
   refine (HGR.out _).mono ?_
   rintro e w1 ⟨A,c,rfl,hown0,hx⟩
   have HO0 := Lib.hid hown0; have HX := Lib.hid hx
   have hsz := hx.size
   clear hown0 hx
   go_wp2_with fail
   go_loopg [6,27] m (fun gk v i wr => ∃ (k : Nat),k + gk = m ∧ i = .int .i64 (k : Int) ∧ wr.ownsRow w.heap.size 9 1 v (total (ps.take k)) (joined (ps.take k)) ∧ Ext No w wr)
   case atStart => exact ⟨0,by omega,rfl,by simpa [total,joined] using HO0.out,HX.out⟩
   case round =>
    obtain ⟨k,hk0,rfl,hown,hE⟩ := hrel
    have HK0 := Lib.hid hk0; have HO := Lib.hid hown; have HE := Lib.hid hE
    have hk : k ≤ m := by omega
    have hsz := hE.size
    clear hk0 hown hE
    have ht := HT.out k
    by_cases hlt : k < m
    ·obtain ⟨p,hp⟩ : ∃ p,ps[k]? = some p := ⟨_,List.getElem?_eq_getElem (by rw [HM.out]; exact hlt)⟩
     have e0 := cell_ext HE.out (HC.out k p hp) (fun h => h)
     have HE1 := Lib.hid (total_take ps k p hp)
     have HE2 := Lib.hid (joined_take ps k p hp)
     have ht2 := HT.out (k + 1)
     have hpo := HP.out p (List.mem_of_getElem? hp)
     rw [HE1.out] at ht2
     unfold Part.v at e0
     clear hp
     obtain ⟨v',w2,hrun,hown2,hg⟩ := run_append_rd 38 38 w.heap.size 9 i0 _ 1 16 Tryz.underlying38 hti htz0 htz1 htz2 rfl (by decide) _ _ _ HO.out No p.A p.n p.c p.xs (hpo.rd.ext HE.out) hpo.e hpo.one (by unfold maxLen; omega) (by omega) hsz
     have HO2 := Lib.hid hown2; have HG := Lib.hid hg; have HRN := Lib.hid hrun
     clear hown2 hg hpo hrun
     go_wp2_with (at_builtin; refine Lib.wpList_append_run _ rfl (.tmp 31) (.tmp 32) 38 38 rfl _ _ rfl rfl _ _ HRN.out ?_)
     go_wp2_with fail
     go_roundg (gk - 1)
     case rel => exact ⟨k + 1,by have := HK0.out; omega,by go_num,by rw [HE1.out,HE2.out]; exact HO2.out,HE.out.grown HG.out (own_bounds HO.out (Nat.le_refl _))⟩
     case measure => have := HK0.out; omega
    ·have hke : k = m := by omega
     have HKE := Lib.hid hke
     obtain ⟨A',c',hv⟩ := own_form HO.out
     subst hv
     clear hke ht
     go_wp2_with fail
     go_ret
     have hT := HO.out
     have e1 : ps.take k = ps := by rw [HKE.out,← HM.out,List.take_length]
     rw [e1] at hT ⊢
     exact ⟨A',c',rfl,hT,HE.out⟩
theorem grow_cells (n : Nat) (w : World) (hn : n < 100000) :
  Calls Tryz.prog 187 #[.slice none 0 0,.int .i64 (n : Int)] w (Row 45 4 w [] 0) := by
 obtain ⟨i0,hti,htz0,htz1,htz2⟩ := info_parts Tryz.info45
 by_cases h0 : n = 0
 ·subst h0
  go_enter Tryz.func187,Tryz.ntmps187
  go_wp2_with fail
  go_ret
  exact ⟨none,0,rfl,World.ownsRow_nil _ _ _ _,Ext.refl _ _⟩
 ·have hp : 0 < n := by omega
  have hrun := fun (w : World) => Lib.run_append_nil_zeros (P := Tryz.prog) w 37 3 37 45 i0 _ .i64 .i64 Tryz.underlying37 Tryz.underlying3 hti htz0 n hp (by omega) (by omega) (by rw [htz2]; omega)
  have hge := grownCap_ge w n 0 45
  have hle := grownCap_le_maxLen w n 0 45 (by unfold maxLen; omega)
  have HG := Lib.hid hge
  have HR := Lib.hid hrun
  have HL := Lib.hid hle
  unfold maxLen at hle
  clear hrun h0
  generalize hcap : grownCap w n 0 45 = cp at hge hle
  have hcp : (0 : Int) ≤ (cp : Int) := by omega
  go_enter Tryz.func187,Tryz.ntmps187
  go_wp2_with (at_builtin; refine Lib.wpList_append_run _ rfl (.tmp 20) (.tmp 21) 37 3 rfl _ _ rfl rfl _ _ (HR.out _) ?_)
  go_ret
  refine ⟨some ⟨w.heap.size,0,none⟩,cp,rfl,⟨by simp,.inr ⟨w.heap.size,cp,_,rfl,Nat.le_refl _,heap_alloc_new w _,by omega,by rw [← hcap]; exact HL.out,?_,by simp⟩⟩,((Ext.refl No w).alloc _).drew⟩
  rw [Array.size_append,size_zeroCells,size_zeroCells]
  show n * 4 + (cp - n) * 4 = cp * 4
  omega
theorem concat_cells (ps : List Part) (b m cap : Nat) (w : World) (hm : ps.length = m) (hps : ∀ p ∈ ps,p.Ok w 4) (hsum : total ps < 100000) (hml : m < 100) (hmc : m ≤ cap)
  (hc : ∀ j p,ps[j]? = some p → w.cell? ⟨b,j,none⟩ = some p.v) :
  Calls Tryz.prog 147 #[.slice (some ⟨b,0,none⟩) m cap] w (Row 45 4 w (joined ps) (total ps)) := by
 obtain ⟨i0,hti,htz0,htz1,htz2⟩ := info_parts Tryz.info45
 have HP := Lib.hid hps; have HC := Lib.hid hc; have HM := Lib.hid hm
 have HGR := Lib.hid (fun w => grow_cells (total ps) w hsum)
 have HT := Lib.hid (fun k => total_le ps k)
 clear hps hc hm
 go_enter Tryz.func147,Tryz.ntmps147
 go_wp2_with fail
 go_loopg [3,11] m (fun gk s i wr => ∃ (k : Nat),k + gk = m ∧ i = .int .i64 (k : Int) ∧ s = .int .i64 (total (ps.take k) : Int) ∧ w = wr)
 case atStart => exact ⟨0,by omega,rfl,rfl,rfl⟩
 case round =>
  obtain ⟨k,hk0,rfl,rfl,rfl⟩ := hrel
  have HK0 := Lib.hid hk0
  have hk : k ≤ m := by omega
  clear hk0
  have ht := HT.out k
  by_cases hlt : k < m
  ·obtain ⟨p,hp⟩ : ∃ p,ps[k]? = some p := ⟨_,List.getElem?_eq_getElem (by rw [HM.out]; exact hlt)⟩
   have e0 := HC.out k p hp
   have HE := Lib.hid (total_take ps k p hp)
   have ht2 := HT.out (k + 1)
   rw [HE.out] at ht2
   generalize total (ps.take k) = s0 at ht ht2 HE ⊢
   clear hp
   unfold Part.v at e0
   go_wp2_with fail
   go_roundg (gk - 1)
   case rel => exact ⟨k + 1,by have := HK0.out; omega,by go_num,by rw [HE.out]; go_num,rfl⟩
   case measure => have := HK0.out; omega
  ·have hke : k = m := by omega
   have htk : total (ps.take k) = total ps := by rw [hke,← HM.out,List.take_length]
   rw [htk]
   clear htk hke ht
   go_wp2_with fail
   refine (HGR.out _).mono ?_
   rintro e w1 ⟨A,c,rfl,hown0,hx⟩
   have HO0 := Lib.hid hown0; have HX := Lib.hid hx
   have hsz := hx.size
   clear hown0 hx
   go_wp2_with fail
   go_loopg [6,27] m (fun gk v i wr => ∃ (k : Nat),k + gk = m ∧ i = .int .i64 (k : Int) ∧ wr.ownsRow w.heap.size 45 4 v (total (ps.take k)) (joined (ps.take k)) ∧ Ext No w wr)
   case atStart => exact ⟨0,by omega,rfl,by simpa [total,joined] using HO0.out,HX.out⟩
   case round =>
    obtain ⟨k,hk0,rfl,hown,hE⟩ := hrel
    have HK0 := Lib.hid hk0; have HO := Lib.hid hown; have HE := Lib.hid hE
    have hk : k ≤ m := by omega
    have hsz := hE.size
    clear hk0 hown hE
    have ht := HT.out k
    by_cases hlt : k < m
    ·obtain ⟨p,hp⟩ : ∃ p,ps[k]? = some p := ⟨_,List.getElem?_eq_getElem (by rw [HM.out]; exact hlt)⟩
     have e0 := cell_ext HE.out (HC.out k p hp) (fun h => h)
     have HE1 := Lib.hid (total_take ps k p hp)
     have HE2 := Lib.hid (joined_take ps k p hp)
     have ht2 := HT.out (k + 1)
     have hpo := HP.out p (List.mem_of_getElem? hp)
     rw [HE1.out] at ht2
     unfold Part.v at e0
     clear hp
     obtain ⟨v',w2,hrun,hown2,hg⟩ := run_append_rd 37 37 w.heap.size 45 i0 _ 4 48 Tryz.underlying37 hti htz0 htz1 htz2 rfl (by decide) _ _ _ HO.out No p.A p.n p.c p.xs (hpo.rd.ext HE.out) hpo.e hpo.one (by unfold maxLen; omega) (by omega) hsz
     have HO2 := Lib.hid hown2; have HG := Lib.hid hg; have HRN := Lib.hid hrun
     clear hown2 hg hpo hrun
     go_wp2_with (at_builtin; refine Lib.wpList_append_run _ rfl (.tmp 31) (.tmp 32) 37 37 rfl _ _ rfl rfl _ _ HRN.out ?_)
     go_wp2_with fail
     go_roundg (gk - 1)
     case rel => exact ⟨k + 1,by have := HK0.out; omega,by go_num,by rw [HE1.out,HE2.out]; exact HO2.out,HE.out.grown HG.out (own_bounds HO.out (Nat.le_refl _))⟩
     case measure => have := HK0.out; omega
    ·have hke : k = m := by omega
     have HKE := Lib.hid hke
     obtain ⟨A',c',hv⟩ := own_form HO.out
     subst hv
     clear hke ht
     go_wp2_with fail
     go_ret
     have hT := HO.out
     have e1 : ps.take k = ps := by rw [HKE.out,← HM.out,List.take_length]
     rw [e1] at hT ⊢
     exact ⟨A',c',rfl,hT,HE.out⟩
theorem grow_ints (n : Nat) (w : World) (hn : n < 100000) :
  Calls Tryz.prog 225 #[.slice none 0 0,.int .i64 (n : Int)] w (Row 3 1 w [] 0) := by
 obtain ⟨i0,hti,htz0,htz1,htz2⟩ := info_parts Tryz.info3
 by_cases h0 : n = 0
 ·subst h0
  go_enter Tryz.func225,Tryz.ntmps225
  go_wp2_with fail
  go_ret
  exact ⟨none,0,rfl,World.ownsRow_nil _ _ _ _,Ext.refl _ _⟩
 ·have hp : 0 < n := by omega
  have hrun := fun (w : World) => Lib.run_append_nil_zeros (P := Tryz.prog) w 35 3 35 3 i0 _ .i64 .i64 Tryz.underlying35 Tryz.underlying3 hti htz0 n hp (by omega) (by omega) (by rw [htz2]; omega)
  have hge := grownCap_ge w n 0 3
  have hle := grownCap_le_maxLen w n 0 3 (by unfold maxLen; omega)
  have HG := Lib.hid hge
  have HR := Lib.hid hrun
  have HL := Lib.hid hle
  unfold maxLen at hle
  clear hrun h0
  generalize hcap : grownCap w n 0 3 = cp at hge hle
  have hcp : (0 : Int) ≤ (cp : Int) := by omega
  go_enter Tryz.func225,Tryz.ntmps225
  go_wp2_with (at_builtin; refine Lib.wpList_append_run _ rfl (.tmp 20) (.tmp 21) 35 3 rfl _ _ rfl rfl _ _ (HR.out _) ?_)
  go_ret
  refine ⟨some ⟨w.heap.size,0,none⟩,cp,rfl,⟨by simp,.inr ⟨w.heap.size,cp,_,rfl,Nat.le_refl _,heap_alloc_new w _,by omega,by rw [← hcap]; exact HL.out,?_,by simp⟩⟩,((Ext.refl No w).alloc _).drew⟩
  rw [Array.size_append,size_zeroCells,size_zeroCells]
  show n * 1 + (cp - n) * 1 = cp * 1
  omega
theorem concat_ints (ps : List Part) (b m cap : Nat) (w : World) (hm : ps.length = m) (hps : ∀ p ∈ ps,p.Ok w 1) (hsum : total ps < 100000) (hml : m < 100) (hmc : m ≤ cap)
  (hc : ∀ j p,ps[j]? = some p → w.cell? ⟨b,j,none⟩ = some p.v) :
  Calls Tryz.prog 207 #[.slice (some ⟨b,0,none⟩) m cap] w (Row 3 1 w (joined ps) (total ps)) := by
 obtain ⟨i0,hti,htz0,htz1,htz2⟩ := info_parts Tryz.info3
 have HP := Lib.hid hps; have HC := Lib.hid hc; have HM := Lib.hid hm
 have HGR := Lib.hid (fun w => grow_ints (total ps) w hsum)
 have HT := Lib.hid (fun k => total_le ps k)
 clear hps hc hm
 go_enter Tryz.func207,Tryz.ntmps207
 go_wp2_with fail
 go_loopg [3,11] m (fun gk s i wr => ∃ (k : Nat),k + gk = m ∧ i = .int .i64 (k : Int) ∧ s = .int .i64 (total (ps.take k) : Int) ∧ w = wr)
 case atStart => exact ⟨0,by omega,rfl,rfl,rfl⟩
 case round =>
  obtain ⟨k,hk0,rfl,rfl,rfl⟩ := hrel
  have HK0 := Lib.hid hk0
  have hk : k ≤ m := by omega
  clear hk0
  have ht := HT.out k
  by_cases hlt : k < m
  ·obtain ⟨p,hp⟩ : ∃ p,ps[k]? = some p := ⟨_,List.getElem?_eq_getElem (by rw [HM.out]; exact hlt)⟩
   have e0 := HC.out k p hp
   have HE := Lib.hid (total_take ps k p hp)
   have ht2 := HT.out (k + 1)
   rw [HE.out] at ht2
   generalize total (ps.take k) = s0 at ht ht2 HE ⊢
   clear hp
   unfold Part.v at e0
   go_wp2_with fail
   go_roundg (gk - 1)
   case rel => exact ⟨k + 1,by have := HK0.out; omega,by go_num,by rw [HE.out]; go_num,rfl⟩
   case measure => have := HK0.out; omega
  ·have hke : k = m := by omega
   have htk : total (ps.take k) = total ps := by rw [hke,← HM.out,List.take_length]
   rw [htk]
   clear htk hke ht
   go_wp2_with fail
   refine (HGR.out _).mono ?_
   rintro e w1 ⟨A,c,rfl,hown0,hx⟩
   have HO0 := Lib.hid hown0; have HX := Lib.hid hx
   have hsz := hx.size
   clear hown0 hx
   go_wp2_with fail
   go_loopg [6,27] m (fun gk v i wr => ∃ (k : Nat),k + gk = m ∧ i = .int .i64 (k : Int) ∧ wr.ownsRow w.heap.size 3 1 v (total (ps.take k)) (joined (ps.take k)) ∧ Ext No w wr)
   case atStart => exact ⟨0,by omega,rfl,by simpa [total,joined] using HO0.out,HX.out⟩
   case round =>
    obtain ⟨k,hk0,rfl,hown,hE⟩ := hrel
    have HK0 := Lib.hid hk0; have HO := Lib.hid hown; have HE := Lib.hid hE
    have hk : k ≤ m := by omega
    have hsz := hE.size
    clear hk0 hown hE
    have ht := HT.out k
    by_cases hlt : k < m
    ·obtain ⟨p,hp⟩ : ∃ p,ps[k]? = some p := ⟨_,List.getElem?_eq_getElem (by rw [HM.out]; exact hlt)⟩
     have e0 := cell_ext HE.out (HC.out k p hp) (fun h => h)
     have HE1 := Lib.hid (total_take ps k p hp)
     have HE2 := Lib.hid (joined_take ps k p hp)
     have ht2 := HT.out (k + 1)
     have hpo := HP.out p (List.mem_of_getElem? hp)
     rw [HE1.out] at ht2
     unfold Part.v at e0
     clear hp
     obtain ⟨v',w2,hrun,hown2,hg⟩ := run_append_rd 35 35 w.heap.size 3 i0 _ 1 8 Tryz.underlying35 hti htz0 htz1 htz2 rfl (by decide) _ _ _ HO.out No p.A p.n p.c p.xs (hpo.rd.ext HE.out) hpo.e hpo.one (by unfold maxLen; omega) (by omega) hsz
     have HO2 := Lib.hid hown2; have HG := Lib.hid hg; have HRN := Lib.hid hrun
     clear hown2 hg hpo hrun
     go_wp2_with (at_builtin; refine Lib.wpList_append_run _ rfl (.tmp 31) (.tmp 32) 35 35 rfl _ _ rfl rfl _ _ HRN.out ?_)
     go_wp2_with fail
     go_roundg (gk - 1)
     case rel => exact ⟨k + 1,by have := HK0.out; omega,by go_num,by rw [HE1.out,HE2.out]; exact HO2.out,HE.out.grown HG.out (own_bounds HO.out (Nat.le_refl _))⟩
     case measure => have := HK0.out; omega
    ·have hke : k = m := by omega
     have HKE := Lib.hid hke
     obtain ⟨A',c',hv⟩ := own_form HO.out
     subst hv
     clear hke ht
     go_wp2_with fail
     go_ret
     have hT := HO.out
     have e1 : ps.take k = ps := by rw [HKE.out,← HM.out,List.take_length]
     rw [e1] at hT ⊢
     exact ⟨A',c',rfl,hT,HE.out⟩
theorem clone_strings (p : Part) (w : World) (hp : p.Ok w 1) (hn : p.n < 100000) :
  Calls Tryz.prog 124 #[p.v] w (Row 9 1 w p.xs p.n) := by
 obtain ⟨i0,hti,htz0,htz1,htz2⟩ := info_parts Tryz.info9
 obtain ⟨A,n,c,xs⟩ := p
 have hlen := hp.rd.1
 simp only [Part.v] at hn hlen ⊢
 cases A with
 | none =>
  have hc : c = 0 := hp.e rfl
  have hn0 : n = 0 := by
   rcases Nat.eq_zero_or_pos n with h | h
   ·exact h
   ·obtain ⟨b,o,hA,_⟩ := hp.rd.2 h; cases hA
  subst hc; subst hn0
  have hx : xs = [] := List.eq_nil_of_length_eq_zero (by simpa using hlen)
  subst hx
  clear hp hlen
  have he := fun w => Lib.run_eql_slice_nil (P := Tryz.prog) w 38 9 none 0 0 0 0 Tryz.underlying38
  simp only [Option.isNone_none] at he
  go_enter Tryz.func124,Tryz.ntmps124
  go_wp2_with fail
  go_ret
  exact ⟨none,0,rfl,World.ownsRow_nil _ _ _ _,Ext.refl _ _⟩
 | some ad =>
  have hx : Ext No w (w.alloc (.cells #[] 9)) := (Ext.refl No w).alloc _
  have hown0 := World.ownsRow_lit (base := w.heap.size) (e := 9) (size := 1) w #[] 0 (Nat.le_refl _) (by decide) (by simp)
  obtain ⟨v',w2,hrun,hown2,hg⟩ := run_append_rd (w := w.alloc (.cells #[] 9)) 38 38 w.heap.size 9 i0 _ 1 16 Tryz.underlying38 hti htz0 htz1 htz2 rfl (by decide) _ _ _ hown0 No (some ad) n c xs (hp.rd.ext hx) hp.e hp.one (by unfold maxLen; omega) (by omega) (by simp)
  have HO2 := Lib.hid hown2; have HG := Lib.hid hg; have HRN := Lib.hid hrun; have HX := Lib.hid hx; have HO0 := Lib.hid hown0
  clear hp hlen hown2 hg hrun hx hown0
  have he := fun w => Lib.run_eql_slice_nil (P := Tryz.prog) w 38 9 (some ad) n c 0 0 Tryz.underlying38
  simp only [Option.isNone_some] at he
  go_enter Tryz.func124,Tryz.ntmps124
  go_wp2_with (at_builtin; refine Lib.wpList_append_run _ rfl (.tmp 5) (.tmp 6) 38 38 rfl _ _ rfl rfl _ _ HRN.out ?_)
  obtain ⟨A',c',hv⟩ := own_form HO2.out
  subst hv
  go_wp2_with fail
  go_ret
  have hT := HO2.out
  simp only [Nat.zero_add,List.nil_append] at hT ⊢
  exact ⟨A',c',rfl,by simpa using hT,HX.out.grown HG.out (own_bounds HO0.out (Nat.le_refl _))⟩
theorem clone_cells (p : Part) (w : World) (hp : p.Ok w 4) (hn : p.n < 100000) :
  Calls Tryz.prog 204 #[p.v] w (Row 45 4 w p.xs p.n) := by
 obtain ⟨i0,hti,htz0,htz1,htz2⟩ := info_parts Tryz.info45
 obtain ⟨A,n,c,xs⟩ := p
 have hlen := hp.rd.1
 simp only [Part.v] at hn hlen ⊢
 cases A with
 | none =>
  have hc : c = 0 := hp.e rfl
  have hn0 : n = 0 := by
   rcases Nat.eq_zero_or_pos n with h | h
   ·exact h
   ·obtain ⟨b,o,hA,_⟩ := hp.rd.2 h; cases hA
  subst hc; subst hn0
  have hx : xs = [] := List.eq_nil_of_length_eq_zero (by simpa using hlen)
  subst hx
  clear hp hlen
  have he := fun w => Lib.run_eql_slice_nil (P := Tryz.prog) w 37 45 none 0 0 0 0 Tryz.underlying37
  simp only [Option.isNone_none] at he
  go_enter Tryz.func204,Tryz.ntmps204
  go_wp2_with fail
  go_ret
  exact ⟨none,0,rfl,World.ownsRow_nil _ _ _ _,Ext.refl _ _⟩
 | some ad =>
  have hx : Ext No w (w.alloc (.cells #[] 45)) := (Ext.refl No w).alloc _
  have hown0 := World.ownsRow_lit (base := w.heap.size) (e := 45) (size := 4) w #[] 0 (Nat.le_refl _) (by decide) (by simp)
  obtain ⟨v',w2,hrun,hown2,hg⟩ := run_append_rd (w := w.alloc (.cells #[] 45)) 37 37 w.heap.size 45 i0 _ 4 48 Tryz.underlying37 hti htz0 htz1 htz2 rfl (by decide) _ _ _ hown0 No (some ad) n c xs (hp.rd.ext hx) hp.e hp.one (by unfold maxLen; omega) (by omega) (by simp)
  have HO2 := Lib.hid hown2; have HG := Lib.hid hg; have HRN := Lib.hid hrun; have HX := Lib.hid hx; have HO0 := Lib.hid hown0
  clear hp hlen hown2 hg hrun hx hown0
  have he := fun w => Lib.run_eql_slice_nil (P := Tryz.prog) w 37 45 (some ad) n c 0 0 Tryz.underlying37
  simp only [Option.isNone_some] at he
  go_enter Tryz.func204,Tryz.ntmps204
  go_wp2_with (at_builtin; refine Lib.wpList_append_run _ rfl (.tmp 5) (.tmp 6) 37 37 rfl _ _ rfl rfl _ _ HRN.out ?_)
  obtain ⟨A',c',hv⟩ := own_form HO2.out
  subst hv
  go_wp2_with fail
  go_ret
  have hT := HO2.out
  simp only [Nat.zero_add,List.nil_append] at hT ⊢
  exact ⟨A',c',rfl,by simpa using hT,HX.out.grown HG.out (own_bounds HO0.out (Nat.le_refl _))⟩
theorem clone_ints (p : Part) (w : World) (hp : p.Ok w 1) (hn : p.n < 100000) :
  Calls Tryz.prog 146 #[p.v] w (Row 3 1 w p.xs p.n) := by
 obtain ⟨i0,hti,htz0,htz1,htz2⟩ := info_parts Tryz.info3
 obtain ⟨A,n,c,xs⟩ := p
 have hlen := hp.rd.1
 simp only [Part.v] at hn hlen ⊢
 cases A with
 | none =>
  have hc : c = 0 := hp.e rfl
  have hn0 : n = 0 := by
   rcases Nat.eq_zero_or_pos n with h | h
   ·exact h
   ·obtain ⟨b,o,hA,_⟩ := hp.rd.2 h; cases hA
  subst hc; subst hn0
  have hx : xs = [] := List.eq_nil_of_length_eq_zero (by simpa using hlen)
  subst hx
  clear hp hlen
  have he := fun w => Lib.run_eql_slice_nil (P := Tryz.prog) w 35 3 none 0 0 0 0 Tryz.underlying35
  simp only [Option.isNone_none] at he
  go_enter Tryz.func146,Tryz.ntmps146
  go_wp2_with fail
  go_ret
  exact ⟨none,0,rfl,World.ownsRow_nil _ _ _ _,Ext.refl _ _⟩
 | some ad =>
  have hx : Ext No w (w.alloc (.cells #[] 3)) := (Ext.refl No w).alloc _
  have hown0 := World.ownsRow_lit (base := w.heap.size) (e := 3) (size := 1) w #[] 0 (Nat.le_refl _) (by decide) (by simp)
  obtain ⟨v',w2,hrun,hown2,hg⟩ := run_append_rd (w := w.alloc (.cells #[] 3)) 35 35 w.heap.size 3 i0 _ 1 8 Tryz.underlying35 hti htz0 htz1 htz2 rfl (by decide) _ _ _ hown0 No (some ad) n c xs (hp.rd.ext hx) hp.e hp.one (by unfold maxLen; omega) (by omega) (by simp)
  have HO2 := Lib.hid hown2; have HG := Lib.hid hg; have HRN := Lib.hid hrun; have HX := Lib.hid hx; have HO0 := Lib.hid hown0
  clear hp hlen hown2 hg hrun hx hown0
  have he := fun w => Lib.run_eql_slice_nil (P := Tryz.prog) w 35 3 (some ad) n c 0 0 Tryz.underlying35
  simp only [Option.isNone_some] at he
  go_enter Tryz.func146,Tryz.ntmps146
  go_wp2_with (at_builtin; refine Lib.wpList_append_run _ rfl (.tmp 5) (.tmp 6) 35 35 rfl _ _ rfl rfl _ _ HRN.out ?_)
  obtain ⟨A',c',hv⟩ := own_form HO2.out
  subst hv
  go_wp2_with fail
  go_ret
  have hT := HO2.out
  simp only [Nat.zero_add,List.nil_append] at hT ⊢
  exact ⟨A',c',rfl,by simpa using hT,HX.out.grown HG.out (own_bounds HO0.out (Nat.le_refl _))⟩
theorem Tryz.info5b : (Tryz.prog.info? 5).map (fun i => (i.zero,i.size,i.bytes)) = some (some (.int .u8 0),1,1) := by kernel_rfl
theorem clone_bytes (p : Part) (w : World) (hp : p.Ok w 1) (hn : p.n < 5000000) :
  Calls Tryz.prog 113 #[p.v] w (Row 5 1 w p.xs p.n) := by
 obtain ⟨i0,hti,htz0,htz1,htz2⟩ := info_parts Tryz.info5b
 obtain ⟨A,n,c,xs⟩ := p
 have hlen := hp.rd.1
 simp only [Part.v] at hn hlen ⊢
 cases A with
 | none =>
  have hc : c = 0 := hp.e rfl
  have hn0 : n = 0 := by
   rcases Nat.eq_zero_or_pos n with h | h
   ·exact h
   ·obtain ⟨b,o,hA,_⟩ := hp.rd.2 h; cases hA
  subst hc; subst hn0
  have hx : xs = [] := List.eq_nil_of_length_eq_zero (by simpa using hlen)
  subst hx
  clear hp hlen
  have he := fun w => Lib.run_eql_slice_nil (P := Tryz.prog) w 98 5 none 0 0 0 0 Tryz.underlying98
  simp only [Option.isNone_none] at he
  go_enter Tryz.func113,Tryz.ntmps113
  go_wp2_with fail
  go_ret
  exact ⟨none,0,rfl,World.ownsRow_nil _ _ _ _,Ext.refl _ _⟩
 | some ad =>
  have hx : Ext No w (w.alloc (.cells #[] 5)) := (Ext.refl No w).alloc _
  have hown0 := World.ownsRow_lit (base := w.heap.size) (e := 5) (size := 1) w #[] 0 (Nat.le_refl _) (by decide) (by simp)
  obtain ⟨v',w2,hrun,hown2,hg⟩ := run_append_rd (w := w.alloc (.cells #[] 5)) 98 98 w.heap.size 5 i0 _ 1 1 Tryz.underlying98 hti htz0 htz1 htz2 rfl (by decide) _ _ _ hown0 No (some ad) n c xs (hp.rd.ext hx) hp.e hp.one (by unfold maxLen; omega) (by omega) (by simp)
  have HO2 := Lib.hid hown2; have HG := Lib.hid hg; have HRN := Lib.hid hrun; have HX := Lib.hid hx; have HO0 := Lib.hid hown0
  clear hp hlen hown2 hg hrun hx hown0
  have he := fun w => Lib.run_eql_slice_nil (P := Tryz.prog) w 98 5 (some ad) n c 0 0 Tryz.underlying98
  simp only [Option.isNone_some] at he
  go_enter Tryz.func113,Tryz.ntmps113
  go_wp2_with (at_builtin; refine Lib.wpList_append_run _ rfl (.tmp 5) (.tmp 6) 98 98 rfl _ _ rfl rfl _ _ HRN.out ?_)
  obtain ⟨A',c',hv⟩ := own_form HO2.out
  subst hv
  go_wp2_with fail
  go_ret
  have hT := HO2.out
  simp only [Nat.zero_add,List.nil_append] at hT ⊢
  exact ⟨A',c',rfl,by simpa using hT,HX.out.grown HG.out (own_bounds HO0.out (Nat.le_refl _))⟩
theorem Own.part {w : World} {D : Nat → Prop} {x n c : Nat} {e : TypeId} {A : Option Addr} {xs : List Value} (h : Own w D x e (.slice A n c) n xs) (h1 : ∀ u ∈ xs,u.oneCell' = true) : Part.Ok w 1 ⟨A,n,c,xs⟩ :=
 ⟨(Rd.own_lo h.row (by decide)).mono (by decide) (fun b _ hb => hb.elim),own_nilcap h.row,h1,own_cap h.row⟩
theorem own_at {w : World} {base n c : Nat} {e : TypeId} {A : Option Addr} {xs : List Value} (h : w.ownsRow base e 1 (.slice A n c) n xs) (hn : 0 < n) : ∃ g,A = some ⟨g,0,none⟩ ∧ base ≤ g ∧ g < w.heap.size ∧ n ≤ c ∧ ∀ j u,xs[j]? = some u → w.cell? ⟨g,j,none⟩ = some u := by
 rcases h.2 with ⟨h0,_⟩ | ⟨g,cap,cur,e1,hb,hg,hnc,_⟩
 ·cases h0; omega
 ·injection e1 with e1 e2 e3
  subst e1
  refine ⟨g,rfl,hb,?_,by omega,fun j u hu => ?_⟩
  ·rcases Nat.lt_or_ge g w.heap.size with h1 | h1
   ·exact h1
   ·rw [Array.getElem?_eq_none h1] at hg; cases hg
  ·have := h.cells (g := g) rfl j u hu
   rw [Addr.add_none,Nat.zero_add] at this
   exact this
theorem own_base0 {w : World} {base n : Nat} {e : TypeId} {v : Value} {xs : List Value} (h : w.ownsRow base e 1 v n xs) : w.ownsRow 0 e 1 v n xs := by
 refine ⟨h.1,?_⟩
 rcases h.2 with h0 | ⟨g,cap,cur,e1,hb,r⟩
 ·exact .inl h0
 ·exact .inr ⟨g,cap,cur,e1,Nat.zero_le _,r⟩
def Newer (w : World) (D D' : Nat → Prop) : Prop := ∀ b,D' b → D b ∨ w.heap.size ≤ b
def syncOf (cr : Bs → Nat) (k : Dk) (l : Lg) (rec : Bs) : Nat × Dk :=
 if (k.logLay l.bytes (l.bytes ++ frameOf cr rec)).1 ≠ 0 then k.logLay l.bytes (l.bytes ++ frameOf cr rec) else (k.logLay l.bytes (l.bytes ++ frameOf cr rec)).2.logHead cr l.epoch (l.bytes ++ frameOf cr rec).length
structure Synced (w : World) (D Dd : Nat → Prop) (x d m kb : Nat) (l : Lg) (R : Nat × Dk) (l9 : Lg) (e : Ending) (w' : World) : Prop where
 e : e = .returned (.int .i64 (R.1 : Int))
 at_ : ∃ Dd' D',DiskAt w' Dd' d kb R.2 ∧ (R.1 = 0 → LogAt w' D' x d m l9) ∧ (∀ b,D' b → ¬ Dd' b) ∧ Newer w Dd Dd' ∧ Newer w D D'
 x : Ext (fun b => Dd b ∨ D b) w w'
theorem lg_sync {w : World} {D Dd : Nat → Prop} {x d m kb : Nat} {l : Lg} {k : Dk} {T : Nat → Nat} (h : LogAt w D x d m l) (hd : DiskAt w Dd d kb k) (hT : Half w T) (h0 : ¬ Dd 0) (h0' : ¬ D 0) (hap : ∀ b,D b → ¬ Dd b) (hk : k.Near (2^27)) (he : l.epoch < 2^59) (hl : l.lost = false) (rec : Bs) (hp : l.pend = [rec])
  (hrl : rec.length ≤ 65536) (hfit : l.bytes.length + (rec.length + 8) ≤ 64 * (m - 1)) (hmn : m ≤ k.n) (hnr : l.recs.length < 2^20) (hnear : (k.logLay l.bytes (l.bytes ++ frameOf (crc T) rec)).2.Near (2^29)) :
  Calls Tryz.prog 72 #[.pointer (some ⟨x,0,none⟩)] w (Synced w D Dd x d m kb l (syncOf (crc T) k l rec) { l with bytes := l.bytes ++ frameOf (crc T) rec,recs := l.recs ++ [rec],pend := [] }) := by
 obtain ⟨F,hF⟩ : ∃ F,F = frameOf (crc T) rec := ⟨_,rfl⟩
 have hFl : F.length = rec.length + 8 := by rw [hF]; simp only [frameOf,List.length_append,n4_len]; omega
 have HFR := Lib.hid (fun w hT => lg_frame T w hT rec (by omega))
 rw [← hF] at HFR
 obtain ⟨all,hall⟩ : ∃ all,all = l.bytes ++ F := ⟨_,rfl⟩
 have hal : all.length = l.bytes.length + F.length := by rw [hall,List.length_append]
 obtain ⟨S,hS⟩ : ∃ S,S = k.logLay l.bytes all := ⟨_,rfl⟩
 obtain ⟨R,hR⟩ : ∃ R,R = syncOf (crc T) k l rec := ⟨_,rfl⟩
 have hR2 : R = if S.1 ≠ 0 then S else S.2.logHead (crc T) l.epoch all.length := by rw [hR]; unfold syncOf; rw [← hF,← hall,← hS]
 rw [← hF,← hall,← hS] at hnear
 rw [← hR]
 obtain ⟨l9,h9⟩ : ∃ l9 : Lg,l9 = { l with bytes := l.bytes ++ frameOf (crc T) rec,recs := l.recs ++ [rec],pend := [] } := ⟨_,rfl⟩
 rw [← h9]
 rw [← hF,← hall] at h9
 have H9 := Lib.hid h9
 obtain ⟨Q,hQ⟩ : ∃ Q,Q = Synced w D Dd x d m kb l R l9 := ⟨_,rfl⟩
 rw [← hQ]
 have HQ := Lib.hid hQ
 have HU := Lib.hid (lg_up h)
 rw [hl] at HU
 obtain ⟨Ab,cb,Ar,cr,Ap,cp,hb,ob,or_,op,hdj⟩ := h.cells
 have hblt : l.bytes.length < 5000000 := by have := h.m2; omega
 have HCL := Lib.hid (clone_bytes ⟨Ab,l.bytes.length,cb,bcs l.bytes⟩ w (ob.part (fun u hu => bcs_one u hu)) hblt)
 simp only [Part.v] at HCL
 rw [hp] at op
 obtain ⟨gp,hAp,_,hgpl,_,hgpc⟩ := own_at op.row (by simp)
 subst hAp
 have HPC : Hid (w.cell? ⟨gp,0,none⟩ = some (.string (str rec))) := Lib.hid (hgpc 0 _ rfl)
 have c4 : w.cell? ⟨x,4,none⟩ = some (.slice Ab l.bytes.length cb) := hb.cell 4
 have c6 : w.cell? ⟨x,6,none⟩ = some (.slice (some ⟨gp,0,none⟩) l.pend.length cp) := hb.cell 6
 rw [hp] at c6
 have hxl := hb.lt
 have HC6 := Lib.hid c6
 have HL := Lib.hid h; have HD := Lib.hid hd; have HT := Lib.hid hT; have H0 := Lib.hid h0; have H0' := Lib.hid h0'; have HAP := Lib.hid hap; have HK := Lib.hid hk; have HE := Lib.hid he; have HLL := Lib.hid hl; have HP := Lib.hid hp
 have HN := Lib.hid hnear; have HR2 := Lib.hid hR2; have HSS := Lib.hid hS; have HALL := Lib.hid hall
 have HFIT : Hid (all.length ≤ 64 * (m - 1) ∧ all.length = l.bytes.length + F.length ∧ F.length = rec.length + 8 ∧ rec.length ≤ 65536 ∧ m ≤ k.n ∧ m ≤ 65536 ∧ l.recs.length < 2^20 ∧ 2 ≤ m) := Lib.hid ⟨by omega,hal,hFl,hrl,hmn,h.m2,hnr,h.m1⟩
 have hcp : 1 ≤ cp := own_cap op.row
 obtain ⟨i0,hti,htz0,htz1,htz2⟩ := info_parts Tryz.info5b
 obtain ⟨L,hL⟩ : ∃ L,L = l.bytes.length := ⟨_,rfl⟩
 have HLEN := Lib.hid hL
 rw [← hL] at HCL c4 hblt
 clear h hd hT h0 h0' hap hk he hl hp hrl hfit hmn hnr hnear hR hR2 hS hall hal hFl hF h9 hQ hb ob or_ op hdj hgpc hL
 go_enter Tryz.func72,Tryz.ntmps72
 go_wp2_with fail
 refine (HU.out).mono ?_
 rintro e w1 ⟨rfl,rfl⟩
 go_wp2_with fail
 refine (HCL.out).mono ?_
 rintro e w1 ⟨A1,c1,rfl,hown1,hx1⟩
 have HO1 := Lib.hid hown1; have HX1 := Lib.hid hx1
 have c61 := cell_ext hx1 HC6.out (fun h => h)
 have hxl1 : x < w1.heap.size := by have := hx1.size; omega
 clear hown1 hx1 c4 c6 HCL HU
 go_wp2_with fail
 go_loopg [4,30] 1 (fun gk q4 q30 wr => ∃ (j n c : Nat) (A : Option Addr) (bs : Bs),j + gk = 1 ∧ q30 = .int .i64 (j : Int) ∧ q4 = .slice A n c ∧ Hid (n = bs.length) ∧ Hid (wr.ownsRow w.heap.size 5 1 (.slice A n c) n (bcs bs)) ∧ Hid (Ext No w wr) ∧ Hid (bs = if j = 0 then l.bytes else all))
 case atStart => exact ⟨0,L,c1,A1,l.bytes,by omega,rfl,rfl,HLEN,HO1,HX1,Lib.hid rfl⟩
 case round =>
  obtain ⟨j,n,c,A,bs,hj,rfl,rfl,HNN,HOW,HX,HBS⟩ := hrel
  by_cases hj0 : j = 0
  ·subst hj0
   have hg : gk = 1 := by omega
   subst hg
   have k0 := cell_ext HX.out HPC.out (fun h => h)
   have hgl := World.block_lt_of_cell? wr _ k0
   simp only at hgl
   have HFR1 := Lib.hid (HFR.out wr (HT.out.ext HX.out (fun h => h)))
   have hbl : n < 5000000 := by rw [HNN.out,HBS.out,if_pos rfl]; have := HLEN.out; omega
   have hfl : F.length < 100000 := by have := HFIT.out; omega
   clear hj
   go_wp2_with fail
   refine (HFR1.out).mono ?_
   rintro e w2 ⟨rfl,hx2⟩
   have HX2 := Lib.hid (HX.out.trans_ hx2)
   have HOW2 := Lib.hid (own_ext HOW.out hx2 (fun _ _ h => h))
   have hsz2 := HX2.out.size
   clear hx2 k0
   go_wp2_with (at_builtin; refine Lib.wpList_append_own_string _ (by rfl) _ _ 98 9 (by rfl) w.heap.size 5 i0 Tryz.underlying98 Tryz.underlying9 hti htz0 htz1 htz2 (.slice A n c) n (bcs bs) (by rfl) HOW2.out (str F) (by rfl) (by rw [str_size]; unfold maxLen; omega) (by rw [str_size]; omega) hsz2 ?_)
   intro v' w3 hown3 hg3 _
   obtain ⟨A3,c3,hv⟩ := own_form hown3
   subst hv
   have HX3 := Lib.hid (HX2.out.grown hg3 (own_bounds HOW2.out (Nat.le_refl _)))
   rw [strCells_str] at hown3
   obtain ⟨n3,hn3⟩ : ∃ n3,n3 = n + F.length := ⟨_,rfl⟩
   have HN3 : Hid (n3 = all.length) := Lib.hid (by have h1 := HBS.out; simp only [if_true] at h1; rw [hn3,HNN.out,h1]; exact HFIT.out.2.1.symm)
   rw [← hn3] at hown3 ⊢
   have HO3 : Hid (w3.ownsRow w.heap.size 5 1 (.slice A3 n3 c3) n3 (bcs all)) := Lib.hid (by
    have e : bcs bs ++ bcs F = bcs all := by have h1 := HBS.out; simp only [if_true] at h1; rw [← bcs_append,h1,HALL.out]
    rw [← e]; exact hown3)
   clear hown3 hg3 hn3
   go_wp2_with fail
   go_roundg 0
   case rel => exact ⟨1,n3,c3,A3,all,by omega,by go_num,rfl,HN3,HO3,HX3,Lib.hid rfl⟩
   case measure => omega
  ·have hj1 : j = 1 := by omega
   subst hj1
   have hn : n = all.length := by rw [HNN.out,HBS.out,if_neg (by omega)]
   have hba : bs = all := by rw [HBS.out,if_neg (by omega)]
   subst hba
   obtain ⟨f1,f2,f3,f4,f5,f6,f7,f8⟩ := HFIT.out
   have hnp : 0 < n := by omega
   obtain ⟨g,hA,hgb,hgl,hgc,hcells⟩ := own_at HOW.out hnp
   subst hA
   subst hn
   have HL1 := Lib.hid (HL.out.ext HX.out (fun _ _ h => h))
   have HD1 := Lib.hid (HD.out.ext HX.out (fun _ _ h => h))
   have hxs := HX.out.size
   have HLAY := Lib.hid (lg_lay HL1.out HD1.out HAP.out (HK.out.mono (by decide)) bs hcells (fun hg => by have := HD.out.old g hg; omega) hgl hgc f1 (by omega) f5)
   rw [← HSS.out] at HLAY
   have HGB := Lib.hid (And.intro hgb (And.intro hgl hgc))
   have hbl : (bs.length : Int) < 4294967296 := by omega
   clear hj hj0 hnp hcells hgb hgl hgc f1 f2 f3 f4 f5 f6 f7 f8
   go_wp2_with fail
   refine (HLAY.out).mono ?_
   rintro e w3 ⟨rfl,hd3,hx3⟩
   have HD3 := Lib.hid hd3; have HX3 := Lib.hid hx3
   have HL3 := Lib.hid (HL1.out.ext hx3 HAP.out)
   have HLO := Lib.hid (lg_lose HL3.out S.1 HLL.out)
   clear hd3 hx3
   go_wp2_with fail
   refine (HLO.out).mono ?_
   rintro e w4 ⟨rfl,hl4,hx4⟩
   have HL4 := Lib.hid hl4
   have HXL := Lib.hid (HL.out.old x HL.out.xx)
   have hnd4 : ∀ b,Grow Dd wr w3 b → ¬ On x b := fun b hb e => by
    have e' : b = x := e
    subst e'
    rcases hb with hb | hb
    ·exact HAP.out b HL.out.xx hb
    ·have := HXL.out; omega
   have HD4 := Lib.hid (HD3.out.ext hx4 hnd4)
   have HXR4 : Hid (Ext (fun b => Dd b ∨ D b) wr w4) := Lib.hid ((HX3.out.mono (fun b _ hb => .inl hb)).trans_ (hx4.mono (fun b _ hb => .inr (by have e' : b = x := hb; rw [e']; exact HL.out.xx))))
   have HX4 : Hid (Ext (fun b => Dd b ∨ D b) w w4) := Lib.hid ((HX.out.of_no).trans_ HXR4.out)
   have hs3 := HX3.out.size
   have hs4 := hx4.size
   have HSZ := Lib.hid (And.intro hs3 hs4)
   have HND4 := Lib.hid hnd4
   clear hl4 hx4 hnd4 hs3 hs4
   by_cases hc : S.1 = 0
   ·have hc0 : (S.1 : Int) = 0 := by omega
    have HCC := Lib.hid hc
    have HR3 : Hid (R = S.2.logHead (crc T) l.epoch bs.length) := Lib.hid (by rw [HR2.out,if_neg (by have := HCC.out; omega)])
    have HL5 : Hid (LogAt w4 D x d m l) := Lib.hid (by
     have := HL4.out
     rw [hc] at this
     have e : ({ l with lost := decide ((0 : Nat) ≠ 0) } : Lg) = l := by
      have := HLL.out
      cases l; simp_all
     rw [e] at this
     exact this)
    obtain ⟨_,_,_,_,_,_,_,_,_,_,y3,_,_,_,_,ylt,_⟩ := HL5.out.c
    have hHT4 : Half w4 T := HT.out.ext HX4.out (fun h => by rcases h with h | h; exact H0.out h; exact H0'.out h)
    have HAP4 := Lib.hid (show ∀ b,D b → ¬ Grow Dd wr w3 b from fun b hb hg => by
     rcases hg with hg | hg
     ·exact HAP.out b hb hg
     ·have := HL.out.old b hb; have := HX.out.size; omega)
    have HWR := Lib.hid (lg_write HL5.out HD4.out hHT4 HAP4.out HN.out l.epoch bs.length (by have := HE.out; omega) (by have := HFIT.out; omega))
    rw [← HR3.out] at HWR
    rw [hc0]
    clear hc hc0 hHT4
    go_wp2_with fail
    refine (HWR.out).mono ?_
    rintro e w5 ⟨rfl,hd5,hx5⟩
    have HD5 := Lib.hid hd5; have HX5 := Lib.hid hx5
    have HL6 := Lib.hid (HL5.out.ext hx5 HAP4.out)
    have HLO6 := Lib.hid (lg_lose HL6.out R.1 HLL.out)
    clear hd5 hx5 y3 ylt
    go_wp2_with fail
    refine (HLO6.out).mono ?_
    rintro e w6 ⟨rfl,hl6,hx6⟩
    have HL7 := Lib.hid hl6
    have hnd6 : ∀ b,Grow (Grow Dd wr w3) w4 w5 b → ¬ On x b := fun b hb e => by
     have e' : b = x := e
     subst e'
     rcases hb with hb | hb
     ·exact HAP4.out b HL.out.xx hb
     ·have := HL5.out.old b HL.out.xx; omega
    have HD6 := Lib.hid (HD5.out.ext hx6 hnd6)
    have HXR6 : Hid (Ext (fun b => Dd b ∨ D b) wr w6) := Lib.hid ((HXR4.out.trans HX5.out (fun b hb hg => by
     rcases hg with hg | hg
     ·exact .inl hg
     ·omega)).trans_ (hx6.mono (fun b _ hb => .inr (by have e' : b = x := hb; rw [e']; exact HL.out.xx))))
    have HX6 : Hid (Ext (fun b => Dd b ∨ D b) w w6) := Lib.hid ((HX.out.of_no).trans_ HXR6.out)
    have HNW : Hid (Newer w Dd (Grow (Grow Dd wr w3) w4 w5)) := Lib.hid (fun b hb => by
     have h1 := HX.out.size
     have h2 := HX4.out.size
     rcases hb with (hb | hb) | hb
     ·exact .inl hb
     ·exact .inr (by omega)
     ·exact .inr (by omega))
    have HSZ6 := Lib.hid (And.intro HX5.out.size hx6.size)
    clear hl6 hx6 hnd6
    by_cases hc : R.1 = 0
    ·have hc0 : (R.1 : Int) = 0 := by omega
     have HCC := Lib.hid hc
     have HL8 : Hid (LogAt w6 D x d m l) := Lib.hid (by
      have := HL7.out
      rw [hc] at this
      have e : ({ l with lost := decide ((0 : Nat) ≠ 0) } : Lg) = l := by
       have := HLL.out
       cases l; simp_all
      rw [e] at this
      exact this)
     obtain ⟨Ab6,cb6,Ar6,cr6,Ap6,cp6,hb6,ob6,or6,op6,hdj6⟩ := HL8.out.cells
     rw [HP.out] at op6
     obtain ⟨gq,hAq,_,hgql,hgqc,hgq⟩ := own_at op6.row (by simp)
     subst hAq
     have q4 := hb6.cell 4
     have q5 := hb6.cell 5
     have q6 := hb6.cell 6
     simp only [Lg.cells,HP.out] at q4 q5 q6
     simp at q4 q5 q6
     have f4 := hb6.frozen 4
     have f5 := hb6.frozen 5
     have f6 := hb6.frozen 6
     have lx6 := hb6.lt
     obtain ⟨i9,hti9,htz09,htz19,htz29⟩ := info_parts Tryz.info9
     have HOR := Lib.hid or6.row
     have HNEW := Lib.hid hgq
     have hne6 : (Value.slice Ar6 l.recs.length cr6).ownBlock ≠ some x := fun e => (or6.at_ x e).2 rfl
     have hnr1 : l.recs.length + 1 ≤ maxLen := by have := HFIT.out; unfold maxLen; omega
     have hnr2 : (l.recs.length + 1) * 16 ≤ 140737488355328 := by have := HFIT.out; omega
     have HDONE : Hid (∀ (w7 : World) (g2 cap2 : Nat),w7.ownsRow 0 9 1 (.slice (some ⟨g2,0,none⟩) (l.recs.length + 1) cap2) (l.recs.length + 1) (strs l.recs ++ [.string (str rec)]) → w6.grownBy w7 (Value.slice Ar6 l.recs.length cr6).ownBlock →
       ((Value.slice Ar6 l.recs.length cr6).ownBlock = some g2 ∨ g2 = w6.heap.size) → g2 < w7.heap.size → w7.frozen? ⟨x,4,none⟩ = false ∧ w7.frozen? ⟨x,5,none⟩ = false ∧ w7.frozen? ⟨x,6,none⟩ = false ∧ (w7.cell? ⟨x,4,none⟩).isSome = true ∧ (w7.cell? ⟨x,5,none⟩).isSome = true ∧ (w7.cell? ⟨x,6,none⟩).isSome = true ∧ x < w7.heap.size ∧
       Q (.returned (.int .i64 0)) (((w7.setCell ⟨x,4,none⟩ (.slice (some ⟨g,0,none⟩) bs.length c)).setCell ⟨x,5,none⟩ (.slice (some ⟨g2,0,none⟩) (l.recs.length + 1) cap2)).setCell ⟨x,6,none⟩ (.slice none 0 0))) := Lib.hid (by
      intro w7 g2 cap2 hown7 hg7 ha7 hlt7
      have hb7 : Blk w7 x 179 (l.cells d m Ab6 cb6 Ar6 cr6 (some ⟨gq,0,none⟩) cp6) := (hg7.block x lx6 (fun e => hne6 e.symm)).trans hb6
      have hx7 : Ext (fun b => (Value.slice Ar6 l.recs.length cr6).ownBlock = some b) w6 w7 := ⟨hg7.os,hg7.tape,hg7.output,hg7.size,fun b hbl hne => hg7.block b hbl (fun e => hne e.symm)⟩
      have hz6 := HSZ6.out
      have hz4 := HSZ.out
      have hzx := HX.out.size
      have hzr := HXR4.out.size
      have hgg := HGB.out
      have hg2x : g2 ≠ x := by
       rcases ha7 with ha | ha
       ·exact (or6.at_ g2 ha).2
       ·omega
      have hg2D : D g2 ∨ g2 = w6.heap.size := by
       rcases ha7 with ha | ha
       ·exact .inl (or6.at_ g2 ha).1
       ·exact .inr ha
      have hxw := HXL.out
      have hDw : ∀ b,D b → b < w.heap.size := HL.out.old
      have hs7 := hg7.size
      obtain ⟨wf,hwf⟩ : ∃ wf,wf = (((w7.setCell ⟨x,4,none⟩ (.slice (some ⟨g,0,none⟩) bs.length c)).setCell ⟨x,5,none⟩ (.slice (some ⟨g2,0,none⟩) (l.recs.length + 1) cap2)).setCell ⟨x,6,none⟩ (.slice none 0 0)) := ⟨_,rfl⟩
      have hxf : Ext (On x) w7 wf := by rw [hwf]; exact (((Ext.refl _ _).setF (F := On x) rfl 4 _).setF (F := On x) rfl 5 _).setF (F := On x) rfl 6 _
      have hbf : Blk wf x 179 ((((l.cells d m Ab6 cb6 Ar6 cr6 (some ⟨gq,0,none⟩) cp6).setIfInBounds 4 (.slice (some ⟨g,0,none⟩) bs.length c)).setIfInBounds 5 (.slice (some ⟨g2,0,none⟩) (l.recs.length + 1) cap2)).setIfInBounds 6 (.slice none 0 0)) := by rw [hwf]; exact ((hb7.set_ 4 _).set_ 5 _).set_ 6 _
      have hE : Ext D w6 wf := (hx7.mono (fun b _ hb => (or6.at_ b hb).1)).trans_ (hxf.mono (fun b _ hb => by have e' : b = x := hb; rw [e']; exact HL.out.xx))
      have hsf := hxf.size
      refine ⟨hb7.frozen 4,hb7.frozen 5,hb7.frozen 6,by rw [hb7.cell 4]; rfl,by rw [hb7.cell 5]; rfl,by rw [hb7.cell 6]; rfl,by omega,?_⟩
      rw [← hwf,HQ.out]
      refine ⟨by rw [HCC.out]; rfl,⟨Grow (Grow Dd wr w3) w4 w5,fun b => D b ∨ b = g ∨ b = g2,?_,fun _ => ?_,?_,HNW.out,?_⟩,?_⟩
      ·refine HD6.out.ext hE (fun b hb hd => ?_)
       rcases hb with hb | hb
       ·exact HAP4.out b hd hb
       ·have := hDw b hd; omega
      ·rw [H9.out]
       refine ⟨⟨some ⟨g,0,none⟩,c,some ⟨g2,0,none⟩,cap2,none,0,?_,?_,?_,?_,?_⟩,.inl HL.out.xx,?_,HL.out.m1,HL.out.m2⟩
       ·have e : ({ l with bytes := bs,recs := l.recs ++ [rec],pend := [] } : Lg).cells d m (some ⟨g,0,none⟩) c (some ⟨g2,0,none⟩) cap2 none 0 = ((((l.cells d m Ab6 cb6 Ar6 cr6 (some ⟨gq,0,none⟩) cp6).setIfInBounds 4 (.slice (some ⟨g,0,none⟩) bs.length c)).setIfInBounds 5 (.slice (some ⟨g2,0,none⟩) (l.recs.length + 1) cap2)).setIfInBounds 6 (.slice none 0 0)) := by
         have e1 : (l.recs ++ [rec]).length = l.recs.length + 1 := by simp
         unfold Lg.cells
         simp only [e1]
         rfl
        rw [e]; exact hbf
       ·refine ⟨?_,fun b hb => ?_⟩
        ·have h1 := owns_ext (own_base0 HOW.out) (HXR6.out.trans (hE.mono (fun b _ hb => .inr hb)) (fun b _ h => h)) (fun b hb hF => by
          have hb' : g = b := by simpa [Value.ownBlock] using hb
          subst hb'
          rcases hF with hF | hF
          ·have := HD.out.old _ hF; omega
          ·have := hDw _ hF; omega)
         exact h1
        ·have hb' : g = b := by simpa [Value.ownBlock] using hb
         subst hb'
         exact ⟨.inr (.inl rfl),by omega⟩
       ·refine ⟨?_,fun b hb => ?_⟩
        ·have h1 := owns_ext hown7 hxf (fun b hb hF => by
          have hb' : g2 = b := by simpa [Value.ownBlock] using hb
          have e' : b = x := hF
          omega)
         have e1 : (l.recs ++ [rec]).length = l.recs.length + 1 := by simp
         have e2 : strs (l.recs ++ [rec]) = strs l.recs ++ [.string (str rec)] := by simp [strs]
         show wf.ownsRow 0 9 1 (.slice (some ⟨g2,0,none⟩) (l.recs ++ [rec]).length cap2) (l.recs ++ [rec]).length (strs (l.recs ++ [rec]))
         rw [e1,e2]
         exact h1
        ·have hb' : g2 = b := by simpa [Value.ownBlock] using hb
         subst hb'
         exact ⟨.inr (.inr rfl),hg2x⟩
       ·exact ⟨⟨rfl,.inl ⟨rfl,rfl⟩⟩,fun b hb => by cases hb⟩
       ·intro b _ hb; cases hb
       ·intro b hb
        rcases hb with hb | hb | hb
        ·have := hDw b hb; omega
        ·omega
        ·omega
      ·intro b hb hg
       rcases hb with hb | hb | hb
       ·rcases hg with hg | hg
        ·exact HAP4.out b hb hg
        ·have := hDw b hb; omega
       ·subst hb
        rcases hg with (hg | hg) | hg
        ·have := HD.out.old _ hg; omega
        ·omega
        ·omega
       ·subst hb
        rcases hg2D with h1 | h1
        ·rcases hg with hg | hg
         ·exact HAP4.out _ h1 hg
         ·have := hDw _ h1; omega
        ·rcases hg with (hg | hg) | hg
         ·have := HD.out.old _ hg; omega
         ·omega
         ·omega
      ·intro b hb
       rcases hb with hb | hb | hb
       ·exact .inl hb
       ·exact .inr (by omega)
       ·rcases hg2D with h1 | h1
        ·rw [hb]; exact .inl h1
        ·exact .inr (by omega)
      ·exact HX6.out.trans_ (hE.mono (fun b _ hb => .inr hb)))
     clear op6 or6 ob6 hb6 hdj6 hgq
     rw [hc0]
     clear hc hc0
     go_wp2_with fail
     go_region_law (refine step_append_lies _ (by rfl) _ _ 38 (by rfl) 0 9 i9 (.string ⟨#[]⟩) 1 16 Tryz.underlying38 hti9 htz09 htz19 htz29 (by rfl) (by decide) (.slice Ar6 l.recs.length cr6) l.recs.length (strs l.recs) (by rfl) (by exact HOR.out) ⟨gq,0,none⟩ 1 cp6 [.string (str rec)] (by rfl) (by rfl) (by intro j u hu; rw [Addr.add_none,Nat.zero_add]; exact HNEW.out j u hu) (fun u hu => by rw [List.mem_singleton.1 hu]; rfl) (by decide) hnr1 hnr2 (Nat.zero_le _) w6.heap.size (by rfl) ?_; intro g2 cap2 w7 hown7 hg7 ha7 hlt7; obtain ⟨a4,a5,a6,b4,b5,b6,lx7,hqq⟩ := HDONE.out w7 g2 cap2 hown7 ⟨hg7.os,hg7.tape,hg7.output,hg7.size,hg7.block⟩ ha7 hlt7; have HQQ := Lib.hid hqq; obtain ⟨z4,y4⟩ := Option.isSome_iff_exists.1 b4; obtain ⟨z5,y5⟩ := Option.isSome_iff_exists.1 b5; obtain ⟨z6,y6⟩ := Option.isSome_iff_exists.1 b6; clear hqq hown7 hg7 ha7 hlt7 b4 b5 b6)
     all_goals (go_wp2_with fail; exact HQQ.out)
    ·have hc1 : ((R.1 : Int) != 0) = true := by simp; omega
     have HRC := Lib.hid hc
     clear hc
     go_wp2_with fail
     rw [HQ.out]
     exact ⟨rfl,⟨_,D,HD6.out,fun h => absurd h HRC.out,fun b hb hg => by
      rcases hg with hg | hg
      ·exact HAP4.out b hb hg
      ·have := HL5.out.old b hb; omega,HNW.out,fun b hb => .inl hb⟩,HX6.out⟩
   ·have hc1 : ((S.1 : Int) != 0) = true := by simp; omega
    have HRS : Hid (R = S) := Lib.hid (by rw [HR2.out,if_pos hc])
    have HSC := Lib.hid hc
    clear hc
    go_wp2_with fail
    rw [HQ.out,HRS.out]
    refine ⟨rfl,⟨_,D,HD4.out,fun h => absurd h HSC.out,fun b hb hg => ?_,fun b hb => ?_,fun b hb => .inl hb⟩,HX4.out⟩
    ·rcases hg with hg | hg
     ·exact HAP.out b hb hg
     ·have := HL.out.old b hb; have := HX.out.size; omega
    ·rcases hb with hb | hb
     ·exact .inl hb
     ·exact .inr (by have := HX.out.size; omega)
end Go.Proofs.YtccnemmlkcmceaaGreatDoor
