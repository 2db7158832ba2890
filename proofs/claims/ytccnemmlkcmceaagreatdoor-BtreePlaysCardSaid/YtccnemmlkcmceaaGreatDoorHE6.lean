/- Proofs about the given program, joined out of the texts S5, D1, D2, S6, Z3, N1, N2. -/
import Derived.Test.YtccnemmlkcmceaaGreatDoorHE2
import Derived.Test.YtccnemmlkcmceaaGreatDoorHE5
set_option linter.unusedVariables false
set_option linter.unusedSimpArgs false
set_option maxRecDepth 100000
set_option maxHeartbeats 6400000
namespace Go.Proofs.YtccnemmlkcmceaaGreatDoor
open Go.RowKit
def txt (s:Bs):Bs:=UInt8.ofNat s.length :: s
def Cell.enc (c:Cell):Bs:=txt c.key ++ (if 0 < c.over then 1 :: (n4 c.len ++ n4 c.over) else 0 :: txt c.val)
def encCells (cs:List Cell):Bs:=cs.flatMap Cell.enc
def encKeys:List Bs → List Nat → Bs
 | k :: ks,i :: is=>txt k ++ n4 i ++ encKeys ks is
 | _,_=>[]
def Nd.enc (n:Nd):Bs :=
 if n.leaf then 1 :: UInt8.ofNat n.cells.length :: encCells n.cells
 else 2 :: UInt8.ofNat n.keys.length :: (n4 (n.kids.headD 0) ++ encKeys n.keys n.kids.tail)
theorem okC_all (cs:List Cell):∀ k,okC cs k = true → ∀ c ∈ cs.take k,c.ok = true
 | 0,_,c,hc=>by simp at hc
 | k + 1,h,c,hc=>by
  simp only [okC,Bool.and_eq_true] at h
  obtain ⟨h1,h2⟩:=h
  cases hk:cs[k]? with
  | none =>
   rw [hk] at h2;simp at h2
  | some d =>
   rw [hk] at h2
   simp only [Bool.and_eq_true] at h2
   rw [List.take_add_one,hk] at hc
   rcases List.mem_append.1 hc with hc | hc
   ·exact okC_all cs k h1 c hc
   ·simp at hc;subst hc;exact h2.1
theorem okK_all (cs:List Bs):∀ k,okK cs k = true → ∀ c ∈ cs.take k,keyOk c = true
 | 0,_,c,hc=>by simp at hc
 | k + 1,h,c,hc=>by
  simp only [okK,Bool.and_eq_true] at h
  obtain ⟨h1,h2⟩:=h
  cases hk:cs[k]? with
  | none =>
   rw [hk] at h2;simp at h2
  | some d =>
   rw [hk] at h2
   simp only [Bool.and_eq_true] at h2
   rw [List.take_add_one,hk] at hc
   rcases List.mem_append.1 hc with hc | hc
   ·exact okK_all cs k h1 c hc
   ·simp at hc;subst hc;exact h2.1
theorem keyOk_len {k:Bs} (h:keyOk k = true):1 ≤ k.length ∧ k.length ≤ 140:=by simpa [keyOk] using h
theorem Cell.ok_bounds {c:Cell} (h:c.ok = true):1 ≤ c.key.length ∧ c.key.length ≤ 140 ∧ c.val.length ≤ 157 ∧ c.len ≤ 16384 ∧ c.over ≤ 2147483647:=by
 unfold Cell.ok at h
 split at h
 ·rename_i ho
  simp only [Bool.and_eq_true,decide_eq_true_eq] at h
  obtain ⟨⟨h1,h2⟩,h3⟩:=h
  obtain ⟨k1,k2⟩:=keyOk_len h1
  unfold Cell.size at h3
  rw [if_neg (by omega)] at h3
  omega
 ·simp only [Bool.and_eq_true,decide_eq_true_eq] at h
  obtain ⟨⟨⟨h1,h2⟩,h3⟩,h4⟩:=h
  obtain ⟨k1,k2⟩:=keyOk_len h1
  have:c.val = []:=by simpa using h4
  simp only [idOk,decide_eq_true_eq] at h2
  rw [this];simp;omega
structure Nd.Ok (n:Nd):Prop where
 a1:n.cells.length ≤ 255
 a2:n.keys.length ≤ 255
 lf:n.leaf = true → n.keys = [] ∧ n.kids = []
 br:n.leaf = false → n.cells = [] ∧ n.kids.length = n.keys.length + 1
 c:∀ c ∈ n.cells,c.ok = true
 k:∀ k ∈ n.keys,keyOk k = true
 i:∀ i ∈ n.kids,idOk i = true
theorem Nd.Ok.of {n:Nd} (h:n.ok = true):n.Ok:=by
 unfold Nd.ok at h
 simp only [Bool.and_eq_true] at h
 obtain ⟨⟨⟨h1,h2⟩,h3⟩,h4⟩:=h
 unfold Nd.shape at h1
 simp only [Bool.and_eq_true,decide_eq_true_eq] at h1
 obtain ⟨⟨h5,h6⟩,h7⟩:=h1
 refine ⟨h5,h6,fun hl=>?_,fun hl=>?_,fun c hc=>okC_all _ _ h2 c (by rwa [List.take_length]),fun c hc=>okK_all _ _ h3 c (by rwa [List.take_length]),fun i hi=>(List.all_eq_true.1 h4) i hi⟩
 ·rw [hl] at h7;simpa using h7
 ·rw [hl] at h7;simpa using h7
theorem Nd.Ok.fits {n:Nd} (h:n.Ok):n.fits:=by
 refine ⟨fun c hc=>?_,fun k hk=>?_,fun i hi=>?_⟩
 ·have:=Cell.ok_bounds (h.c c hc);exact ⟨by omega,by omega,by omega,by omega⟩
 ·have:=keyOk_len (h.k k hk);omega
 ·have:=h.i i hi;simp [idOk] at this;omega
theorem enc_bad (n:Nd) (w:World) (F:Nat → Prop) (A1:Option Addr) (c1:Nat) (A2:Option Addr) (c2:Nat) (A3:Option Addr) (c3:Nat) (hn:NodeAt w F A1 c1 A2 c2 A3 c3 n) (hf:n.fits) (hno:n.ok = false) :
  Calls Tryz.prog 180 #[n.value A1 c1 A2 c2 A3 c3] w fun e w'=>e = .returned (.tuple #[.string (str []),.int .i64 2]) ∧ Ext No w w':=by
 have HC:=Lib.hid (fun w hn=>check_any n w F A1 c1 A2 c2 A3 c3 hn hf)
 rw [Nd.chk_bad hno] at HC
 clear hno
 go_enter Tryz.func180,Tryz.ntmps180
 simp only [Nd.value]
 go_wp2_with fail
 refine (HC.out _ (hn.ext ((Ext.refl _ w).alloc _))).mono ?_
 rintro e w1 ⟨rfl,hb1⟩
 go_wp2_with fail
 go_ret2
 exact ⟨rfl,by (repeat' (first | exact Ext.refl _ _ | assumption | apply Ext.alloc | apply Ext.drewN | apply Ext.drew | refine Ext.setNew ?_ (by first | omega | (simp;omega) | simp) _ _ | refine Ext.setF ?_ (by first | exact Or.inl rfl | exact Or.inr rfl | rfl) _ _ | refine Ext.trans_ ?_ (by assumption) | refine Ext.trans_ ?_ (Ext.of_no (by assumption))))⟩
theorem enc_long (n:Nd) (w:World) (F:Nat → Prop) (A1:Option Addr) (c1:Nat) (A2:Option Addr) (c2:Nat) (A3:Option Addr) (c3:Nat) (hn:NodeAt w F A1 c1 A2 c2 A3 c3 n) (hf:n.fits) (hno:n.ok = true) (hl:500 < n.size) :
  Calls Tryz.prog 180 #[n.value A1 c1 A2 c2 A3 c3] w fun e w'=>e = .returned (.tuple #[.string (str []),.int .i64 3]) ∧ Ext No w w':=by
 have HC:=Lib.hid (fun w hn=>check_any n w F A1 c1 A2 c2 A3 c3 hn hf)
 have HS:=Lib.hid (fun w hn=>size_any n w F A1 c1 A2 c2 A3 c3 hn hf)
 rw [Nd.chk_ok hno] at HC
 clear hno
 have hl':(500:Int) < n.size:=by omega
 go_enter Tryz.func180,Tryz.ntmps180
 simp only [Nd.value]
 go_wp2_with fail
 refine (HC.out _ (hn.ext ((Ext.refl _ w).alloc _))).mono ?_
 rintro e w1 ⟨rfl,hb1⟩
 have bb:=(Blk.new w 40 #[.bool n.leaf,.slice A1 n.cells.length c1,.slice A2 n.keys.length c2,.slice A3 n.kids.length c3]).ext hb1 (fun h=>h)
 have q0:=bb.cell 0
 have q1:=bb.cell 1
 have q2:=bb.cell 2
 have q3:=bb.cell 3
 have bl:=bb.lt
 simp at q0 q1 q2 q3
 go_wp2_with fail
 refine (HS.out _ (hn.ext (((Ext.refl _ w).alloc _).trans_ hb1.of_no))).mono ?_
 rintro e w2 ⟨rfl,hb2⟩
 go_wp2_with fail
 go_ret2
 exact ⟨rfl,by (repeat' (first | exact Ext.refl _ _ | assumption | apply Ext.alloc | apply Ext.drewN | apply Ext.drew | refine Ext.setNew ?_ (by first | omega | (simp;omega) | simp) _ _ | refine Ext.setF ?_ (by first | exact Or.inl rfl | exact Or.inr rfl | rfl) _ _ | refine Ext.trans_ ?_ (by assumption) | refine Ext.trans_ ?_ (Ext.of_no (by assumption))))⟩
structure Rst where
 s:Bs
 bad:Bool
def Rst.take (r:Rst) (n:Nat):Bs × Rst:=if r.s.length < n then (List.replicate n 0,⟨[],true⟩) else (r.s.take n,⟨r.s.drop n,r.bad⟩)
def RestAt (w:World) (p:Nat) (r:Rst):Prop:=Blk w p 155 #[.string (str r.s),.bool r.bad]
def On (p:Nat):Nat → Prop:=fun b=>b = p
theorem Rst.take_len (r:Rst) (n:Nat):(r.take n).1.length = n:=by
 unfold Rst.take;split
 ·simp
 ·rw [List.length_take];omega
theorem Rst.take_le (r:Rst) (n:Nat):(r.take n).2.s.length ≤ r.s.length:=by
 unfold Rst.take;split
 ·simp
 ·simp
theorem bytes_eq (a b:ByteArray) (h:a.data.toList = b.data.toList):a = b:=by
 cases a;cases b;simp at h;congr
theorem str_take (s:Bs) (n:Nat):(str s).extract 0 n = str (s.take n):=by
 refine bytes_eq _ _ ?_
 simp [str]
theorem str_drop (s:Bs) (n:Nat):(str s).extract n s.length = str (s.drop n):=by
 refine bytes_eq _ _ ?_
 simp [str]
 exact List.take_of_length_le (by simp)
theorem repeat0 (n:Nat):(⟨(Lib.repeatL [0] n).toArray⟩:ByteArray) = str (List.replicate n 0):=by
 refine bytes_eq _ _ ?_
 simp
 induction n with
 | zero=>rfl
 | succ n ih=>rw [Lib.repeatL,ih];rfl
theorem RestAt.lt {w:World} {p:Nat} {r:Rst} (h:RestAt w p r):p < w.heap.size:=Blk.lt h
theorem take_any (r:Rst) (n:Nat) (hn:n < 1000000) (hs:r.s.length < 1000000) (p:Nat) (w:World) (h:RestAt w p r) :
  Calls Tryz.prog 129 #[.pointer (some ⟨p,0,none⟩),.int .i64 (n:Int)] w fun e w'=>e = .returned (.string (str (r.take n).1)) ∧ RestAt w' p (r.take n).2 ∧ Ext (On p) w w':=by
 have c0:=h.cell 0
 have c1:=h.cell 1
 have f0:=h.frozen 0
 have f1:=h.frozen 1
 have bl:=h.lt
 simp at c0 c1
 have hsz:=str_size r.s
 by_cases hlt:r.s.length < n
 ·have e:r.take n = (List.replicate n 0,⟨[],true⟩):=by unfold Rst.take;rw [if_pos hlt]
  rw [e]
  clear e
  have HR:=Lib.hid (fun w=>Tryz.strings_Repeat ⟨#[0]⟩ n w (by omega) (by show 1 * n ≤ _;omega))
  have hlt':(r.s.length:Int) < n:=by omega
  go_enter Tryz.func129,Tryz.ntmps129
  go_wp2_with fail
  refine (HR.out _).mono ?_
  rintro e w1 ⟨rfl,hb⟩
  go_wp2_with fail
  go_ret
  have h2:RestAt ((w.setCell ⟨p,1,none⟩ (.bool true)).setCell ⟨p,0,none⟩ (.string (str []))) p ⟨[],true⟩:=(Blk.set_ (Blk.set_ h 1 (.bool true)) 0 (.string (str [])))
  refine ⟨by simp only;rw [← repeat0];rfl,Blk.ext h2 (Ext.of_below hb No) (fun h=>h),?_⟩
  have h3:Ext (On p) w ((w.setCell ⟨p,1,none⟩ (.bool true)).setCell ⟨p,0,none⟩ (.string (str []))):=Ext.setF (Ext.setF (Ext.refl (On p) w) (show On p p from rfl) _ _) (show On p p from rfl) _ _
  exact h3.trans_ (Ext.of_no (Ext.of_below hb No))
 ·have e:r.take n = (r.s.take n,⟨r.s.drop n,r.bad⟩):=by unfold Rst.take;rw [if_neg hlt]
  rw [e]
  clear e
  have hlt':¬ (r.s.length:Int) < n:=by omega
  go_enter Tryz.func129,Tryz.ntmps129
  go_wp2_with fail
  rw [str_take,str_drop]
  go_ret
  exact ⟨rfl,Blk.set_ h 0 _,Ext.setF (Ext.refl (On p) w) (show On p p from rfl) _ _⟩
def Rst.byte (r:Rst):Nat × Rst:=(((r.take 1).1.headD 0).toNat,(r.take 1).2)
def Rst.four (r:Rst):Nat × Rst:=(v4 (str (r.take 4).1),(r.take 4).2)
def Rst.text (r:Rst):Bs × Rst:=r.byte.2.take r.byte.1
def Rst.cell (r:Rst):Cell × Rst :=
 if r.text.2.byte.1 = 0 then (⟨r.text.1,r.text.2.byte.2.text.1,0,0⟩,r.text.2.byte.2.text.2)
 else if r.text.2.byte.1 = 1 then (⟨r.text.1,[],r.text.2.byte.2.four.2.four.1,r.text.2.byte.2.four.1⟩,⟨r.text.2.byte.2.four.2.four.2.s,r.text.2.byte.2.four.2.four.2.bad || decide (r.text.2.byte.2.four.2.four.1 = 0)⟩)
 else (⟨r.text.1,[],0,0⟩,⟨r.text.2.byte.2.s,true⟩)
theorem Rst.byte_lt (r:Rst):r.byte.1 < 256:=UInt8.toNat_lt _
theorem Rst.byte_le (r:Rst):r.byte.2.s.length ≤ r.s.length:=r.take_le 1
theorem Rst.four_lt (r:Rst):r.four.1 < 4294967296:=v4_lt _
theorem Rst.four_le (r:Rst):r.four.2.s.length ≤ r.s.length:=r.take_le 4
theorem Rst.text_len (r:Rst):r.text.1.length < 256:=by unfold Rst.text;rw [Rst.take_len];exact r.byte_lt
theorem Rst.text_le (r:Rst):r.text.2.s.length ≤ r.s.length:=Nat.le_trans (Rst.take_le _ _) r.byte_le
theorem Rst.cell_le (r:Rst):r.cell.2.s.length ≤ r.s.length:=by
 have h1:=r.text_le
 have h2:=r.text.2.byte_le
 unfold Rst.cell
 split
 ·have:=r.text.2.byte.2.text_le
  simp only;omega
 ·split
  ·have:=r.text.2.byte.2.four_le
   have:=r.text.2.byte.2.four.2.four_le
   simp only;omega
  ·simp only;omega
theorem byte_any (r:Rst) (hs:r.s.length < 1000000) (p:Nat) (w:World) (h:RestAt w p r) :
  Calls Tryz.prog 87 #[.pointer (some ⟨p,0,none⟩)] w fun e w'=>e = .returned (.int .i64 (r.byte.1:Int)) ∧ RestAt w' p r.byte.2 ∧ Ext (On p) w w':=by
 have HT:=Lib.hid (fun w h=>take_any r 1 (by omega) hs p w h)
 have hl:=r.take_len 1
 have HB:=Lib.hid r.byte_lt
 obtain ⟨s,hsx⟩:∃ s,str (r.take 1).1 = s:=⟨_,rfl⟩
 have hsl:s.size = 1:=by rw [← hsx];simp [hl]
 have hbt:bt s 0 = r.byte.1:=by
  rw [← hsx]
  match h:(r.take 1).1,hl with
  | [b],_=>simp [bt,Rst.byte,h]
 have i0:∀ w,(Instr.index 9 (.string s) (.int .i64 0)).run Tryz.prog w = .ok (.int .u8 (bt s 0:Int)) w:=fun w=>idx9 s 0 (by omega) w
 rw [hsx] at HT
 rw [hbt] at i0
 have HH:=Lib.hid (show r.byte.2 = (r.take 1).2 from rfl)
 clear hl hsx hbt hsl
 have hlt:=HB.out
 go_enter Tryz.func87,Tryz.ntmps87
 go_wp2_with fail
 refine (HT.out _ h).mono ?_
 rintro e w1 ⟨rfl,hr,hx⟩
 go_wp2_with fail
 go_ret
 exact ⟨rfl,by rw [HH.out];exact hr,hx⟩
theorem four_take (r:Rst) (hs:r.s.length < 1000000) (p:Nat) (w:World) (h:RestAt w p r) :
  Calls Tryz.prog 88 #[.pointer (some ⟨p,0,none⟩)] w fun e w'=>e = .returned (.int .i64 (r.four.1:Int)) ∧ RestAt w' p r.four.2 ∧ Ext (On p) w w':=by
 have HT:=Lib.hid (fun w h=>take_any r 4 (by omega) hs p w h)
 have hl:=r.take_len 4
 obtain ⟨s,hsx⟩:∃ s,str (r.take 4).1 = s:=⟨_,rfl⟩
 have hsl:s.size = 4:=by rw [← hsx];simp [hl]
 have HV:=Lib.hid (show r.four.1 = v4 s by rw [← hsx];rfl)
 have HV2:=Lib.hid (show r.four.2 = (r.take 4).2 from rfl)
 rw [hsx] at HT
 clear hl hsx
 have i0:∀ w,(Instr.index 9 (.string s) (.int .i64 0)).run Tryz.prog w = .ok (.int .u8 (bt s 0:Int)) w:=fun w=>idx9 s 0 (by omega) w
 have i1:∀ w,(Instr.index 9 (.string s) (.int .i64 1)).run Tryz.prog w = .ok (.int .u8 (bt s 1:Int)) w:=fun w=>idx9 s 1 (by omega) w
 have i2:∀ w,(Instr.index 9 (.string s) (.int .i64 2)).run Tryz.prog w = .ok (.int .u8 (bt s 2:Int)) w:=fun w=>idx9 s 2 (by omega) w
 have i3:∀ w,(Instr.index 9 (.string s) (.int .i64 3)).run Tryz.prog w = .ok (.int .u8 (bt s 3:Int)) w:=fun w=>idx9 s 3 (by omega) w
 have hor:=Lib.hid (or4 (bt s 0) (bt s 1) (bt s 2) (bt s 3) (bt_lt s 0) (bt_lt s 1) (bt_lt s 2) (bt_lt s 3))
 clear hsl
 go_enter Tryz.func88,Tryz.ntmps88
 go_wp2_with fail
 refine (HT.out _ h).mono ?_
 rintro e w1 ⟨rfl,hr,hx⟩
 go_wp2_with fail
 go_quiet (fail)
 go_wp2_with fail
 go_ret
 refine ⟨ret_int ?_,Blk.drewN (by rw [HV2.out];exact hr) _,hx.drewN _⟩
 rw [HV.out]
 simp only [← wrapEq];exact hor.out
theorem text_take (r:Rst) (hs:r.s.length < 1000000) (p:Nat) (w:World) (h:RestAt w p r) :
  Calls Tryz.prog 90 #[.pointer (some ⟨p,0,none⟩)] w fun e w'=>e = .returned (.string (str r.text.1)) ∧ RestAt w' p r.text.2 ∧ Ext (On p) w w':=by
 have h1:=r.byte_lt
 have h2:=r.byte_le
 have HB:=Lib.hid (fun w h=>byte_any r hs p w h)
 have HT:=Lib.hid (fun w h=>take_any r.byte.2 r.byte.1 (by omega) (by omega) p w h)
 clear h1 h2 
 go_enter Tryz.func90,Tryz.ntmps90
 go_wp2_with fail
 refine (HB.out _ h).mono ?_
 rintro e w1 ⟨rfl,hr,hx⟩
 go_wp2_with fail
 refine (HT.out _ hr).mono ?_
 rintro e w2 ⟨rfl,hr2,hx2⟩
 go_wp2_with fail
 go_ret
 exact ⟨rfl,hr2,hx.trans_ hx2⟩
theorem Blk.p4 {w:World} {g:Nat} {t:TypeId} {a b c d:Value} (h:Blk w g t #[a,b,c,d]) :
  w.cell? ⟨g,0,none⟩ = some a ∧ w.cell? ⟨g,1,none⟩ = some b ∧ w.cell? ⟨g,2,none⟩ = some c ∧ w.cell? ⟨g,3,none⟩ = some d ∧
  w.frozen? ⟨g,0,none⟩ = false ∧ w.frozen? ⟨g,1,none⟩ = false ∧ w.frozen? ⟨g,2,none⟩ = false ∧ w.frozen? ⟨g,3,none⟩ = false ∧ g < w.heap.size :=
 ⟨h.cell 0,h.cell 1,h.cell 2,h.cell 3,h.frozen 0,h.frozen 1,h.frozen 2,h.frozen 3,h.lt⟩
theorem Blk.put4 {w:World} {g:Nat} {t:TypeId} {a b c d:Value} (h:Blk w g t #[a,b,c,d]) (a' b' c' d':Value) :
  Blk ((((w.setCell ⟨g,0,none⟩ a').setCell ⟨g,1,none⟩ b').setCell ⟨g,2,none⟩ c').setCell ⟨g,3,none⟩ d') g t #[a',b',c',d']:=(((h.set_ 0 a').set_ 1 b').set_ 2 c').set_ 3 d'
theorem Blk.far4 {w:World} {g g':Nat} {t:TypeId} {cs:Array Value} (h:Blk w g t cs) (hne:g ≠ g') (a' b' c' d':Value) :
  Blk ((((w.setCell ⟨g',0,none⟩ a').setCell ⟨g',1,none⟩ b').setCell ⟨g',2,none⟩ c').setCell ⟨g',3,none⟩ d') g t cs:=(((h.far hne a').far hne b').far hne c').far hne d'
theorem not_on {p b:Nat} (h:p < b):¬ On p b:=fun e=>by unfold On at e;omega
theorem cell_take (r:Rst) (hs:r.s.length < 1000000) (p:Nat) (w:World) (h:RestAt w p r) :
  Calls Tryz.prog 89 #[.pointer (some ⟨p,0,none⟩)] w fun e w'=>e = .returned r.cell.1.agg ∧ RestAt w' p r.cell.2 ∧ Ext (On p) w w':=by
 have lp:=h.lt
 have h1:=r.text_le
 have h2:=r.text.2.byte_le
 have h3:=r.text.2.byte.2.four_le
 have HT:=Lib.hid (fun w h=>text_take r hs p w h)
 have HB:=Lib.hid (fun w h=>byte_any r.text.2 (by omega) p w h)
 have HT2:=Lib.hid (fun w h=>text_take r.text.2.byte.2 (by omega) p w h)
 have HF:=Lib.hid (fun w h=>four_take r.text.2.byte.2 (by omega) p w h)
 have HF2:=Lib.hid (fun w h=>four_take r.text.2.byte.2.four.2 (by omega) p w h)
 have HX:Hid (r.cell = if r.text.2.byte.1 = 0 then (⟨r.text.1,r.text.2.byte.2.text.1,0,0⟩,r.text.2.byte.2.text.2)
  else if r.text.2.byte.1 = 1 then (⟨r.text.1,[],r.text.2.byte.2.four.2.four.1,r.text.2.byte.2.four.1⟩,⟨r.text.2.byte.2.four.2.four.2.s,r.text.2.byte.2.four.2.four.2.bad || decide (r.text.2.byte.2.four.2.four.1 = 0)⟩)
  else (⟨r.text.1,[],0,0⟩,⟨r.text.2.byte.2.s,true⟩)):=Lib.hid rfl
 clear h1 h2 h3
 obtain ⟨tag,htag⟩:∃ tag,r.text.2.byte.1 = tag:=⟨_,rfl⟩
 rw [htag] at HX HB
 clear htag
 generalize r.text.2.byte.2 = r2 at HX HB HT2 HF HF2
 generalize r.text.2 = r1 at HX HB HT
 generalize r.text.1 = k0 at HX HT
 generalize hcell:r.cell = cl at HX
 clear hcell
 go_enter Tryz.func89,Tryz.ntmps89
 go_wp2_with fail
 refine (HT.out _ (h.alloc _)).mono ?_
 rintro e w1 ⟨rfl,hr1,hx1⟩
 have b2:Blk w1 w.heap.size 45 #[.string (str []),.string (str []),.int .i64 0,.int .i64 0]:=(Blk.new w 45 #[.string (str []),.string (str []),.int .i64 0,.int .i64 0]).ext hx1 (not_on lp)
 have l2:=b2.lt
 go_wp2_with fail
 refine (HB.out _ (hr1.alloc _)).mono ?_
 rintro e w2 ⟨rfl,hr2,hx2⟩
 have b3:Blk w2 w1.heap.size 45 #[.string (str k0),.string (str []),.int .i64 0,.int .i64 0]:=(Blk.new w1 45 #[.string (str k0),.string (str []),.int .i64 0,.int .i64 0]).ext hx2 (not_on (by omega))
 have b2:Blk w2 w.heap.size 45 #[.string (str []),.string (str []),.int .i64 0,.int .i64 0]:=(b2.alloc _).ext hx2 (not_on lp)
 have l2:=b2.lt
 have l3:=b3.lt
 have hE2:Ext (On p) w w2:=((((Ext.refl (On p) w).alloc _).trans_ hx1).alloc _).trans_ hx2
 by_cases ht0:tag = 0
 ·subst ht0
  rw [if_pos rfl] at HX
  have f0:=b3.frozen 1
  go_wp2_with fail
  refine (HT2.out _ hr2).mono ?_
  rintro e w3 ⟨rfl,hr3,hx3⟩
  have b3:=b3.ext hx3 (not_on (by omega))
  have b2:=b2.ext hx3 (not_on lp)
  obtain ⟨q0,q1,q2,q3,f0,f1,f2,f3,l3⟩:=b3.p4
  obtain ⟨p0,p1,p2,p3,g0,g1,g2,g3,l2⟩:=b2.p4
  go_wp2_with fail
  have HRES:=(b2.far (p:=⟨w1.heap.size,1,none⟩) (by show w.heap.size ≠ w1.heap.size;omega) (.string (str r2.text.1))).put4 (.string (str k0)) (.string (str r2.text.1)) (.int .i64 0) (.int .i64 0)
  refine bodyPost_ret (results_cell_row (P:=Tryz.prog) rfl _ _ w.heap.size 45 _ (0,0) _ rfl HRES Tryz.underlying45 rfl (by kernel_rfl)) rfl ?_
  rw [HX.out]
  refine ⟨rfl,?_,?_⟩
  ·exact (hr3.far (p:=⟨w1.heap.size,1,none⟩) (by show p ≠ w1.heap.size;omega) _).far4 (by omega) _ _ _ _
  ·(repeat' (first | exact Ext.refl _ _ | assumption | apply Ext.alloc | apply Ext.drewN | apply Ext.drew | refine Ext.setNew ?_ (by first | omega | (simp;omega) | simp) _ _ | refine Ext.setF ?_ (by first | exact Or.inl rfl | exact Or.inr rfl | rfl) _ _ | refine Ext.trans_ ?_ (by assumption) | refine Ext.trans_ ?_ (Ext.of_no (by assumption))))
 ·by_cases ht1:tag = 1
  ·subst ht1
   rw [if_neg (by omega),if_pos rfl] at HX
   clear ht0
   go_wp2_with fail
   refine (HF.out _ hr2).mono ?_
   rintro e w3 ⟨rfl,hr3,hx3⟩
   have b3:=b3.ext hx3 (not_on (by omega))
   have b2:=b2.ext hx3 (not_on lp)
   obtain ⟨q0,q1,q2,q3,f0,f1,f2,f3,l3⟩:=b3.p4
   go_wp2_with fail
   refine (HF2.out _ (hr3.far (p:=⟨w1.heap.size,3,none⟩) (by show p ≠ w1.heap.size;omega) _)).mono ?_
   rintro e w4 ⟨rfl,hr4,hx4⟩
   have b3:=(b3.set_ 3 (.int .i64 (r2.four.1:Int))).ext hx4 (not_on (by omega))
   have b2:=(b2.far (p:=⟨w1.heap.size,3,none⟩) (by show w.heap.size ≠ w1.heap.size;omega) _).ext hx4 (not_on lp)
   have b3:Blk w4 w1.heap.size 45 #[.string (str k0),.string (str []),.int .i64 0,.int .i64 (r2.four.1:Int)]:=b3
   obtain ⟨q0,q1,q2,q3,f0,f1,f2,f3,l3⟩:=b3.p4
   obtain ⟨p0,p1,p2,p3,g0,g1,g2,g3,l2⟩:=b2.p4
   have c1:=hr4.cell 1
   have cf1:=hr4.frozen 1
   have l4:=hr4.lt
   simp at c1
   by_cases hbad:r2.four.2.four.2.bad = true
   ·have HBD:=Lib.hid hbad
    rw [hbad] at c1
    clear hbad
    go_wp2_with fail
    have HRES:=((b2.far (p:=⟨w1.heap.size,2,none⟩) (by show w.heap.size ≠ w1.heap.size;omega) (.int .i64 (r2.four.2.four.1:Int))).far (p:=⟨p,1,none⟩) (by show w.heap.size ≠ p;omega) (.bool true)).put4 (.string (str k0)) (.string (str [])) (.int .i64 (r2.four.2.four.1:Int)) (.int .i64 (r2.four.1:Int))
    refine bodyPost_ret (results_cell_row (P:=Tryz.prog) rfl _ _ w.heap.size 45 _ (0,0) _ rfl HRES Tryz.underlying45 rfl (by kernel_rfl)) rfl ?_
    rw [HX.out]
    refine ⟨rfl,?_,?_⟩
    ·have hq:=(((Blk.far hr4 (p:=⟨w1.heap.size,2,none⟩) (by show p ≠ w1.heap.size;omega) (.int .i64 (r2.four.2.four.1:Int))).set_ 1 (.bool true))).far4 (g':=w.heap.size) (by omega) (.string (str k0)) (.string (str [])) (.int .i64 (r2.four.2.four.1:Int)) (.int .i64 (r2.four.1:Int))
     simp only [HBD.out]
     simp only [Bool.true_or];exact hq
    ·exact ((((((((hE2.trans_ hx3).setNew (by omega) _ _).trans_ hx4).setNew (by omega) _ _).setF (show On p p from rfl) _ _).setNew (by omega) _ _).setNew (by omega) _ _).setNew (by omega) _ _).setNew (by omega) _ _
   ·have hbad:r2.four.2.four.2.bad = false:=by simpa using hbad
    have HBD:=Lib.hid hbad
    rw [hbad] at c1
    clear hbad
    go_wp2_with fail
    have HRES:=((b2.far (p:=⟨w1.heap.size,2,none⟩) (by show w.heap.size ≠ w1.heap.size;omega) (.int .i64 (r2.four.2.four.1:Int))).far (p:=⟨p,1,none⟩) (by show w.heap.size ≠ p;omega) (.bool ((r2.four.2.four.1:Int) == 0))).put4 (.string (str k0)) (.string (str [])) (.int .i64 (r2.four.2.four.1:Int)) (.int .i64 (r2.four.1:Int))
    refine bodyPost_ret (results_cell_row (P:=Tryz.prog) rfl _ _ w.heap.size 45 _ (0,0) _ rfl HRES Tryz.underlying45 rfl (by kernel_rfl)) rfl ?_
    rw [HX.out]
    refine ⟨rfl,?_,?_⟩
    ·have hq:=(((Blk.far hr4 (p:=⟨w1.heap.size,2,none⟩) (by show p ≠ w1.heap.size;omega) (.int .i64 (r2.four.2.four.1:Int))).set_ 1 (.bool ((r2.four.2.four.1:Int) == 0)))).far4 (g':=w.heap.size) (by omega) (.string (str k0)) (.string (str [])) (.int .i64 (r2.four.2.four.1:Int)) (.int .i64 (r2.four.1:Int))
     simp only [HBD.out]
     have e:decide (r2.four.2.four.1 = 0) = ((r2.four.2.four.1:Int) == 0):=by
      rw [Bool.eq_iff_iff];simp
     simp only [Bool.false_or];rw [e];exact hq
    ·exact ((((((((hE2.trans_ hx3).setNew (by omega) _ _).trans_ hx4).setNew (by omega) _ _).setF (show On p p from rfl) _ _).setNew (by omega) _ _).setNew (by omega) _ _).setNew (by omega) _ _).setNew (by omega) _ _
  ·have h0':((tag:Int) == 0) = false:=by simp;omega
   have h1':((tag:Int) == 1) = false:=by simp;omega
   rw [if_neg ht0,if_neg ht1] at HX
   clear ht0 ht1
   have cf1:=hr2.frozen 1
   have c1:=hr2.cell 1
   simp at c1
   have l4:=hr2.lt
   obtain ⟨q0,q1,q2,q3,f0,f1,f2,f3,l3⟩:=b3.p4
   obtain ⟨p0,p1,p2,p3,g0,g1,g2,g3,l2⟩:=b2.p4
   go_wp2_with fail
   have HRES:=(b2.far (p:=⟨p,1,none⟩) (by show w.heap.size ≠ p;omega) (.bool true)).put4 (.string (str k0)) (.string (str [])) (.int .i64 0) (.int .i64 0)
   refine bodyPost_ret (results_cell_row (P:=Tryz.prog) rfl _ _ w.heap.size 45 _ (0,0) _ rfl HRES Tryz.underlying45 rfl (by kernel_rfl)) rfl ?_
   rw [HX.out]
   refine ⟨rfl,?_,?_⟩
   ·exact (Blk.set_ hr2 1 _).far4 (by omega) _ _ _ _
   ·exact (((((hE2.setF (show On p p from rfl) _ _).setNew (by omega) _ _).setNew (by omega) _ _).setNew (by omega) _ _).setNew (by omega) _ _)
theorem cell_grown {w w':World} {row:Option Nat} (h:w.grownBy w' row) {g i:Nat} {u:Value} (hc:w.cell? ⟨g,i,none⟩ = some u) (hg:some g ≠ row):w'.cell? ⟨g,i,none⟩ = some u:=h.cell hc hg
theorem wrap_u8_small (n:Nat) (h:n < 256):IntKind.u8.wrap (n:Int) = n:=by
 unfold IntKind.wrap;simp [IntKind.bits,IntKind.signed];omega
theorem encKeys_take (ks:List Bs):∀ (is:List Nat) (k:Nat) (x:Bs) (i:Nat),ks[k]? = some x → is[k]? = some i →
  encKeys (ks.take (k + 1)) (is.take (k + 1)) = encKeys (ks.take k) (is.take k) ++ txt x ++ n4 i:=by
 induction ks with
 | nil=>intro is k x i h;simp at h
 | cons y ks ih =>
  intro is k x i hx hi
  match is,k with
  | [],_=>simp at hi
  | j :: is,0 =>
   simp at hx hi;subst hx;subst hi
   simp [encKeys]
  | j :: is,k + 1 =>
   simp only [List.getElem?_cons_succ] at hx hi
   simp only [List.take_succ_cons,encKeys]
   rw [ih is k x i hx hi]
   simp [List.append_assoc]
theorem encKeys_len (ks:List Bs):∀ (is:List Nat),(∀ k ∈ ks,k.length ≤ 140) → (encKeys ks is).length ≤ ks.length * 145:=by
 induction ks with
 | nil=>intro is _;simp [encKeys]
 | cons y ks ih =>
  intro is h
  match is with
  | []=>simp [encKeys]
  | j :: is =>
   have h1:=h y (by simp)
   have h2:=ih is (fun k hk=>h k (by simp [hk]))
   simp only [encKeys,List.length_append,txt,List.length_cons,n4_len]
   omega
theorem enc_branch (n:Nd) (w:World) (F:Nat → Prop) (A1:Option Addr) (c1:Nat) (A2:Option Addr) (c2:Nat) (A3:Option Addr) (c3:Nat) (hn:NodeAt w F A1 c1 A2 c2 A3 c3 n) (hno:n.ok = true) (hl:n.size ≤ 500) (hlf:n.leaf = false) :
  Calls Tryz.prog 180 #[n.value A1 c1 A2 c2 A3 c3] w fun e w'=>e = .returned (.tuple #[.string (str n.enc),.int .i64 0]) ∧ Ext No w w':=by
 have hO:=Nd.Ok.of hno
 have hf:=hO.fits
 have HC:=Lib.hid (fun w hn=>check_any n w F A1 c1 A2 c2 A3 c3 hn hf)
 have HS:=Lib.hid (fun w hn=>size_any n w F A1 c1 A2 c2 A3 c3 hn hf)
 rw [Nd.chk_ok hno] at HC
 clear hno
 have hl':¬ ((500:Int) < n.size):=by omega
 obtain ⟨hbr,hkl⟩:=hO.br hlf
 obtain ⟨i0,hi0⟩:∃ i0,n.kids[0]? = some i0:=⟨_,List.getElem?_eq_getElem (by omega)⟩
 have hi0b:i0 < 4294967296:=hf.i i0 (List.mem_of_getElem? hi0)
 obtain ⟨kb,ko,hA3,_,e0⟩:=hn.kids.kidAt hi0
 subst hA3
 simp only [Nat.add_zero] at e0
 have lkb:=World.block_lt_of_cell? w _ e0
 have hkpos:0 < n.kids.length:=by omega
 have hkp':(0:Int) < n.kids.length:=by omega
 have HBR:=Lib.hid hbr;have HKL:=Lib.hid hkl;have HI0:=Lib.hid hi0;have HLF:=Lib.hid hlf
 clear hbr hkl hi0
 go_enter Tryz.func180,Tryz.ntmps180
 simp only [Nd.value,hlf]
 simp only [Nd.value,hlf] at HC HS
 clear hlf
 go_wp2_with fail
 refine (HC.out _ (hn.ext ((Ext.refl _ w).alloc _))).mono ?_
 rintro e w1 ⟨rfl,hb1⟩
 have bb:=(Blk.new w 40 #[.bool false,.slice A1 n.cells.length c1,.slice A2 n.keys.length c2,.slice (some ⟨kb,ko,none⟩) n.kids.length c3]).ext hb1 (fun h=>h)
 have q0:=bb.cell 0
 have q1:=bb.cell 1
 have q2:=bb.cell 2
 have q3:=bb.cell 3
 have bl:=bb.lt
 simp at q0 q1 q2 q3
 go_wp2_with fail
 refine (HS.out _ (hn.ext (((Ext.refl _ w).alloc _).trans_ hb1.of_no))).mono ?_
 rintro e w2 ⟨rfl,hb2⟩
 have hE2:Ext No w w2:=by (repeat' (first | exact Ext.refl _ _ | assumption | apply Ext.alloc | apply Ext.drewN | apply Ext.drew | refine Ext.setNew ?_ (by first | omega | (simp;omega) | simp) _ _ | refine Ext.setF ?_ (by first | exact Or.inl rfl | exact Or.inr rfl | rfl) _ _ | refine Ext.trans_ ?_ (by assumption) | refine Ext.trans_ ?_ (Ext.of_no (by assumption))))
 have bb:=bb.ext hb2 (fun h=>h)
 have q0:=bb.cell 0
 have q2:=bb.cell 2
 have q3:=bb.cell 3
 have bl:=bb.lt
 simp at q0 q2 q3
 have e0':=cell_ext hE2 e0 (fun h=>h)
 have hwl:w.heap.size < w2.heap.size:=by omega
 have HE2:=Lib.hid hE2
 go_wp2_with fail
 have hk255:(n.keys.length:Int) % 256 = n.keys.length:=by have:=hO.a2;omega
 have hwr:=wrap_u8_small n.keys.length (by have:=hO.a2;omega)
 have HB2:Hid (bcs [2,UInt8.ofNat n.keys.length] = [.int .u8 2,.int .u8 (n.keys.length:Int)]):=by
  have:=ofNat_lt n.keys.length (by have:=hO.a2;omega)
  show bcs _ = _
  simp only [bcs,List.map_cons,List.map_nil,this];rfl
 go_region_held3 (fun w'=>w'.cell? ⟨w.heap.size,2,none⟩ = some (.slice A2 n.keys.length c2) ∧ w'.cell? ⟨w.heap.size,3,none⟩ = some (.slice (some ⟨kb,ko,none⟩) n.kids.length c3) ∧ w'.cell? ⟨kb,ko,none⟩ = some (.int .i64 (i0:Int))) (go_keep)
  ((go_at_call 202;refine (four_any (w.heap.size + 1) _ [2,UInt8.ofNat n.keys.length] i0 hi0b _ (by have h:=World.ownsRow_lit (base:=w.heap.size + 1) (e:=5) (size:=1) w2 #[.int .u8 2,.int .u8 (n.keys.length:Int)] 2 (by omega) (by decide) rfl;rw [HB2.out];exact h) (by simp;omega) (by simp)).mono ?_;rintro e w3 ⟨g,cap,rfl,hown3,hgrow3,hat3⟩;generalize hL:([2,UInt8.ofNat n.keys.length] ++ n4 i0:Bs) = L0 at hown3 ⊢;have HL0:=Lib.hid hL;clear hL;have k2:=cell_grown hgrow3 (g:=w.heap.size) (i:=2) (u:=.slice A2 n.keys.length c2) (by go_simp) (by simp [Value.ownBlock];omega);have k3:=cell_grown hgrow3 (g:=w.heap.size) (i:=3) (u:=.slice (some ⟨kb,ko,none⟩) n.kids.length c3) (by go_simp) (by simp [Value.ownBlock];omega);have k4:=cell_grown hgrow3 (g:=kb) (i:=ko) (u:=.int .i64 (i0:Int)) (by go_simp) (by simp [Value.ownBlock];omega)))
 have bb3:Blk w3 w.heap.size 40 #[.bool false,.slice A1 n.cells.length c1,.slice A2 n.keys.length c2,.slice (some ⟨kb,ko,none⟩) n.kids.length c3] :=
  (hgrow3.block w.heap.size (by simp;omega) (by simp [Value.ownBlock];omega)).trans ((bb.alloc _))
 have hE3:Ext No w w3:=Ext.grown ((HE2.out.alloc _).drew) hgrow3 (fun g' hg'=>by simp [Value.ownBlock] at hg';exact .inr (by omega))
 have HK:=Lib.hid (hn.keys)
 have HI:=Lib.hid (hn.kids)
 clear hn hgrow3 hat3 HC HS hb1 hb2 hE2 bb q0 q2 q3 e0' HE2 hl'
 have hkeyb:=hO.k
 have hfi:=hf.i
 have ha2:=hO.a2
 obtain ⟨wo,rfl⟩:∃ wo:World,wo = w3:=⟨_,rfl⟩
 have hL0len:L0.length = 6:=by rw [← HL0.out];simp [n4]
 have HLL:=Lib.hid hL0len
 clear hL0len
 go_wp2_with fail
 go_loopg [4,34] n.keys.length (fun gk v i wr=>∃ (k:Nat) (g cap:Nat) (L:Bs),k + gk = n.keys.length ∧ i = .int .i64 (k:Int) ∧ v = .slice (some ⟨g,0,none⟩) L.length cap ∧ wr.ownsRow (w.heap.size + 1) 5 1 (.slice (some ⟨g,0,none⟩) L.length cap) L.length (bcs L) ∧ L = L0 ++ encKeys (n.keys.take k) (n.kids.tail.take k) ∧ Ext No w wr ∧ Blk wr w.heap.size 40 #[.bool false,.slice A1 n.cells.length c1,.slice A2 n.keys.length c2,.slice (some ⟨kb,ko,none⟩) n.kids.length c3])
 case atStart=>exact ⟨0,g,cap,L0,by omega,rfl,rfl,hown3,by simp [encKeys],hE3,bb3⟩
 case round =>
  clear hown3 hE3 bb3 k2 k3 k4
  obtain ⟨k,g,cap,L,hk0,rfl,rfl,hown,hL,hE,bb⟩:=hrel
  have hk:k ≤ n.keys.length:=by omega
  have HK0:=Lib.hid hk0;have HL:=Lib.hid hL;have HO:=Lib.hid hown
  have hLb:L.length ≤ 6 + k * 145:=by
   have h1:=encKeys_len (n.keys.take k) (n.kids.tail.take k) (fun x hx=>(keyOk_len (hkeyb x (List.mem_of_mem_take hx))).2)
   have h2:(n.keys.take k).length ≤ k:=List.length_take_le _ _
   have h3:=HLL.out
   have h4:=Nat.mul_le_mul_right 145 h2
   rw [hL,List.length_append];omega
  clear hk0 hL hown
  have HE:=Lib.hid hE
  have q2:=bb.cell 2
  have q3:=bb.cell 3
  have bl:=bb.lt
  simp at q2 q3
  by_cases hlt:k < n.keys.length
  ·obtain ⟨x,hx⟩:∃ x,n.keys[k]? = some x:=⟨_,List.getElem?_eq_getElem hlt⟩
   obtain ⟨i,hi⟩:∃ i,n.kids[k + 1]? = some i:=⟨_,List.getElem?_eq_getElem (by have:=HKL.out;omega)⟩
   have hxl:=keyOk_len (hkeyb x (List.mem_of_getElem? hx))
   have hib:=hfi i (List.mem_of_getElem? hi)
   obtain ⟨b,o,hA,_,e1⟩:=(HK.out.ext hE.of_no).keyAt hx
   subst hA
   obtain ⟨b',o',hA',_,e2⟩:=(HI.out.ext hE.of_no).kidAt hi
   injection hA' with hA';injection hA' with hA1 hA2
   subst hA1;subst hA2
   have hbw:b < w.heap.size:=by
    obtain ⟨bw,ow,hAw,_,ew⟩:=HK.out.keyAt hx
    injection hAw with hAw;injection hAw with hA1 hA2
    rw [hA1];exact World.block_lt_of_cell? w _ ew
   have hgl:=HO.out.lt g rfl
   obtain ⟨hg1,hg2⟩:=hgl
   have lkw:kb < wr.heap.size:=by omega
   have hbw':b < wr.heap.size:=World.block_lt_of_cell? wr _ e1
   have w1:IntKind.i64.wrap ((k:Int) + 1) = (k:Int) + 1:=IntWalk.i64_in _ (by omega)
   have w2:(0:Int) ≤ (k:Int) + 1:=by omega
   have w3:((k:Int) + 1).toNat = k + 1:=by omega
   have w4:(k:Int) + 1 < n.kids.length:=by have:=HKL.out;omega
   have HX:=Lib.hid hx;have HII:=Lib.hid hi
   clear hx hi
   go_wp2_with fail
   go_region_held3 (fun w'=>w'.cell? ⟨w.heap.size,3,none⟩ = some (.slice (some ⟨kb,ko,none⟩) n.kids.length c3) ∧ w'.cell? ⟨kb,ko + (k + 1),none⟩ = some (.int .i64 (i:Int))) (go_keep)
    (first
     | (go_at_call 203;refine (text_any (w.heap.size + 1) _ L x (by omega) _ (by exact HO.out) (by simp;omega) (by omega)).mono ?_;rintro e w5 ⟨g1,cap1,rfl,hown1,hgrow1,hat1⟩;generalize hL1:(L ++ UInt8.ofNat x.length :: x:Bs) = L1 at hown1 ⊢;have HL1:=Lib.hid hL1;have HO1:=Lib.hid hown1;clear hL1 hown1;have k3:=cell_grown hgrow1 (g:=w.heap.size) (i:=3) (u:=.slice (some ⟨kb,ko,none⟩) n.kids.length c3) (by go_simp) (by simp [Value.ownBlock];omega);have k4:=cell_grown hgrow1 (g:=kb) (i:=ko + (k + 1)) (u:=.int .i64 (i:Int)) (by go_simp) (by simp [Value.ownBlock];omega))
     | (go_at_call 202;refine (four_any (w.heap.size + 1) _ L1 i hib _ (by exact HO1.out) (by have:=hgrow1.size;simp at this;omega) (by rw [← HL1.out];simp;omega)).mono ?_;rintro e w6 ⟨g2,cap2,rfl,hown2,hgrow2,hat2⟩;generalize hL2:(L1 ++ n4 i:Bs) = L2 at hown2 ⊢;have HL2:=Lib.hid hL2;have HO2:=Lib.hid hown2;clear hL2 hown2;have hg1':=(HO1.out.lt g1 rfl).1;have k3:=cell_grown hgrow2 (g:=w.heap.size) (i:=3) (u:=.slice (some ⟨kb,ko,none⟩) n.kids.length c3) (by go_simp) (by simp [Value.ownBlock];omega);have k4:=cell_grown hgrow2 (g:=kb) (i:=ko + (k + 1)) (u:=.int .i64 (i:Int)) (by go_simp) (by simp [Value.ownBlock];omega)))
   go_wp2_with fail
   go_roundg (gk - 1)
   case rel =>
    refine ⟨k + 1,g2,cap2,L2,by have:=HK0.out;omega,by go_num,rfl,HO2.out,?_,?_,?_⟩
    ·rw [← HL2.out,← HL1.out,HL.out,encKeys_take n.keys n.kids.tail k x i HX.out (by rw [List.getElem?_tail];exact HII.out)]
     simp [txt,List.append_assoc]
    ·exact Ext.grown (Ext.grown HE.out.drew hgrow1 (fun g' hg'=>by simp [Value.ownBlock] at hg';exact .inr (by omega))) hgrow2 (fun g' hg'=>by simp [Value.ownBlock] at hg';exact .inr (by omega))
    ·exact (hgrow2.block _ (by have:=hgrow1.size;simp at this;omega) (by simp [Value.ownBlock];omega)).trans ((hgrow1.block _ (by simp;omega) (by simp [Value.ownBlock];omega)).trans bb)
   case measure=>have:=HK0.out;omega
  ·have hke:k = n.keys.length:=by omega
   have HKE:=Lib.hid hke
   clear hke
   have hconv:(convert 98 9 (.slice (some ⟨g,0,none⟩) L.length cap)).run Tryz.prog wr = .ok (.string (str L)) wr :=
    run_convert_bytes_back (P:=Tryz.prog) wr 98 9 5 ⟨g,0,none⟩ cap L Tryz.underlying98 Tryz.underlying5 Tryz.underlying9 (fun j hj=>HO.out.cells (g:=g) rfl j _ (by simp [bcs,hj]))
   go_wp2_with fail
   go_ret2
   refine ⟨?_,HE.out⟩
   have hfin:L = n.enc:=by
    have htl:n.kids.tail.length = n.keys.length:=by have:=HKL.out;simp;omega
    rw [HL.out,HKE.out,List.take_length,← htl,List.take_length,← HL0.out]
    unfold Nd.enc
    rw [HLF.out,if_neg (by simp)]
    have hhd:n.kids.headD 0 = i0:=by have:=HI0.out;cases hkk:n.kids with | nil=>rw [hkk] at this;simp at this | cons a b=>rw [hkk] at this;simpa using this
    rw [hhd];simp
   rw [hfin]
   rfl
theorem repeat_zs (n:Nat):(⟨(Lib.repeatL [0] n).toArray⟩:ByteArray) = str (zs n):=by
 induction n with
 | zero=>rfl
 | succ n ih =>
  have h:=congrArg (fun s:ByteArray=>s.data.toList) ih
  simp only [str] at h ⊢
  congr 1
  simp only [Lib.repeatL,zs,List.replicate_succ] at h ⊢
  simp at h ⊢
  exact h
def logCells (d n:Nat):Array Value:=#[.pointer (some ⟨d,0,none⟩),.int .i64 0,.int .i64 (n:Int),.int .i64 0,.slice none 0 0,.slice none 0 0,.slice none 0 0,.bool false]
theorem wal_new (d kb n m:Nat) (hm:2 ≤ m) (hmn:m ≤ n) (hn:n ≤ 65536) (w:World) (h:Blk w d 140 (diskCells kb n)) (hk:Blk w kb 142 (madeCells zero64 (n * 64))) :
  Calls Tryz.prog 80 #[.pointer (some ⟨d,0,none⟩),.int .i64 0,.int .i64 (m:Int)] w fun e w'=>e = .returned (.tuple #[.pointer (some ⟨w.heap.size,0,none⟩),.int .i64 0]) ∧
   Blk w' w.heap.size 179 (logCells d m) ∧ Ext No w w':=by
 have c0:=h.cell 0
 have c2:=h.cell 2
 simp [diskCells] at c0 c2
 have HD:=Lib.hid h;have HK:=Lib.hid hk
 have HS:=Lib.hid (fun w c0=>dsize_any d n ⟨kb,0,none⟩ w c0 (by omega))
 have HW:=Lib.hid (fun w c0 c2=>ddown_any d n ⟨kb,0,none⟩ w false c0 (by omega) c2)
 have HR:=Lib.hid (fun w h hk=>disk_read d kb n 0 (by omega) hn w h hk)
 have HP:=Lib.hid (fun w=>Tryz.strings_Repeat ⟨#[0]⟩ 64 w (by omega) (by show 1 * 64 ≤ _;omega))
 have hrep:(⟨(Lib.repeatL (⟨#[0]⟩:ByteArray).data.toList 64).toArray⟩:ByteArray) = str (zs 64):=repeat_zs 64
 rw [hrep] at HP
 obtain ⟨z,hz⟩:∃ z,z = str (zs 64):=⟨_,rfl⟩
 rw [← hz] at HR HP
 have g1:¬ ((m:Int) < 2):=by omega
 have g2:¬ ((n:Int) < m):=by omega
 have g3:((n:Int) == 0) = false:=by simpa using (by omega:¬ (n:Int) = 0)
 have g4:¬ ((n:Int) < 0):=by omega
 have hlt:=h.lt
 clear h hk hrep hz
 go_enter Tryz.func80,Tryz.ntmps80
 go_wp2_with (first | (go_at_call 93;refine (HS.out _ c0).mono ?_;rintro e w' ⟨rfl,rfl⟩) | (go_at_call 40;refine (HW.out _ c0 c2).mono ?_;rintro e w' ⟨rfl,rfl⟩))
 have hb:=Blk.new w 179 (logCells d m)
 refine (HR.out _ (HD.out.alloc _) (HK.out.alloc _)).mono ?_
 rintro e w1 ⟨rfl,hx1⟩
 have hb1:=hb.ext hx1 (fun h=>h)
 go_wp2_with fail
 refine (HP.out _).mono ?_
 rintro e w2 ⟨rfl,hx2⟩
 have hx2':=Ext.of_below hx2 No
 have hb2:=hb1.ext hx2' (fun h=>h)
 go_wp2_with fail
 go_ret2
 exact ⟨rfl,hb2,(((Ext.refl No w).alloc _).trans_ hx1).trans_ hx2'⟩
inductive NoTree (w:World):Value → Prop
 | nil:NoTree w (.pointer none)
 | tx (gx:Nat) (i:Value) (h:Blk w gx 70 #[.pointer none,i]):NoTree w (.pointer (some ⟨gx,0,none⟩))
theorem survey_back {Q:Ending → World → Prop} {a:Act} {w:World} (b:Nat) (cs:Array Value) (hb:Blk w b 118 cs) {v:Value} (hs:some 2 = some cs.size) (hp:a.tmps.getD 2 undef = .pointer (some ⟨b,0,none⟩)) (h3:a.tmps.getD 3 undef = v) (hd:a.defers = [])
  (h:Q (.returned (.tuple #[.agg cs,v])) w):bodyPost Tryz.prog Tryz.f58 Q Exit.ret a w:=by
 refine bodyPost_ret (v:=.tuple #[.agg cs,v]) (w:=w) ?_ hd h
 have hl:=run_loadVar_row w b 118 118 cs (0,0) _ hb Tryz.underlying118 rfl (by rw [← hs];kernel_rfl)
 rw [results_cell_tmp rfl,hp,h3]
 simp [asAddr,Result.andThen,hl]
structure Shut (w:World) (s:Sys):Prop where
 t0:w.cell? ⟨s.t,0,none⟩ = some (.pointer (some ⟨s.x,0,none⟩))
 x10:w.cell? ⟨s.x,10,none⟩ = some (.pointer none)
theorem end_any (s:Sys) (hs:s.Ok) (w:World) (v:V) (h:TxAt w s v) (hf:w.frozen? ⟨s.x,10,none⟩ = false) :
  Calls Tryz.prog 66 #[.pointer (some ⟨s.t,0,none⟩)] w fun e w'=>e = .returned (.tuple #[]) ∧ w' = w.setCell ⟨s.x,10,none⟩ (.pointer none):=by
 have t0:=h.c0
 have x10:=hs.x10 w h.db
 go_enter Tryz.func66,Tryz.ntmps66
 go_wp2_with fail
 go_end0
 exact ⟨rfl,rfl⟩
end Go.Proofs.YtccnemmlkcmceaaGreatDoor
