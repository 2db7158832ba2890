/- Proofs about the given program, joined out of the texts PG1, BA, W2, W3, W4. -/
import Derived.Test.YtccnemmlkcmceaaGreatDoorHE5
set_option linter.unusedVariables false
set_option linter.unusedSimpArgs false
set_option maxRecDepth 100000
set_option maxHeartbeats 6400000
namespace Go.Proofs.YtccnemmlkcmceaaGreatDoor
open Go.RowKit
def patch (L:Bs) (o:Nat) (s:Bs):Bs:=L.take o ++ (s ++ L.drop (o + s.length))
theorem patch_len {L:Bs} {o:Nat} {s:Bs} (h:o + s.length ≤ L.length):(patch L o s).length = L.length:=by
 unfold patch
 rw [List.length_append,List.length_append,List.length_take,List.length_drop];omega
theorem patch_get {L:Bs} {o:Nat} {s:Bs} (h:o + s.length ≤ L.length) (i:Nat):(patch L o s)[i]? = if o ≤ i ∧ i < o + s.length then s[i - o]? else L[i]?:=by
 unfold patch
 by_cases h1:i < o
 ·rw [if_neg (by omega),List.getElem?_append_left (by rw [List.length_take];omega),List.getElem?_take,if_pos h1]
 ·rw [List.getElem?_append_right (by rw [List.length_take];omega),List.length_take,Nat.min_eq_left (by omega)]
  by_cases h2:i < o + s.length
  ·rw [if_pos (by omega),List.getElem?_append_left (by omega)]
  ·rw [if_neg (by omega),List.getElem?_append_right (by omega),List.getElem?_drop]
   congr 1;omega
theorem bcs_get (L:Bs) (i:Nat):(bcs L).toArray[i]? = (L[i]?).map fun b=>.int .u8 (b.toNat:Int):=by simp [bcs]
theorem bcs_set (L:Bs) (i:Nat) (b:UInt8):(bcs L).toArray.setIfInBounds i (.int .u8 (b.toNat:Int)) = (bcs (L.set i b)).toArray:=by
 apply Array.ext_getElem?
 intro j
 rw [Array.getElem?_setIfInBounds,bcs_get,bcs_get,List.getElem?_set]
 have hs:(bcs L).toArray.size = L.length:=by simp [bcs]
 by_cases h:i = j
 ·subst h
  rw [if_pos rfl,if_pos rfl,hs]
  by_cases hl:i < L.length
  ·rw [if_pos hl,if_pos hl];rfl
  ·rw [if_neg hl,if_neg hl];rfl
 ·rw [if_neg h,if_neg h]
theorem set4_patch {L:Bs} {o:Nat} (h:o + 4 ≤ L.length) (a b c d:UInt8):(((L.set o a).set (o + 1) b).set (o + 2) c).set (o + 3) d = patch L o [a,b,c,d]:=by
 apply List.ext_getElem?
 intro i
 rw [patch_get (by simpa using h)]
 simp only [List.getElem?_set,List.length_set,List.length_cons,List.length_nil]
 by_cases h0:i = o
 ·subst h0
  simp [show i < L.length by omega]
 ·by_cases h1:i = o + 1
  ·subst h1;simp [show o + 1 < L.length by omega]
  ·by_cases h2:i = o + 2
   ·subst h2;simp [show o + 2 < L.length by omega]
   ·by_cases h3:i = o + 3
    ·subst h3;simp [show o + 3 < L.length by omega]
    ·rw [if_neg (by omega),if_neg (by omega),if_neg (by omega),if_neg (by omega),if_neg (by omega)]
theorem pis_any (id:Nat) (h:id < 2147483648) (w:World):Calls Tryz.prog 128 #[.int .i64 (id:Int)] w fun e w'=>e = .returned (.bool true) ∧ w = w':=by
 have h1:(0:Int) ≤ id:=by omega
 have h2:(id:Int) < 2147483648:=by omega
 go_enter Tryz.func128,Tryz.ntmps128
 go_wp2_with fail
 go_ret
 exact ⟨rfl,rfl⟩
theorem byte_div (x k:Nat):((UInt8.ofNat (x / k % 256)).toNat:Int) = (x:Int) / k % 256:=by
 rw [UInt8.toNat_ofNat',Int.natCast_emod,Int.natCast_emod,Int.natCast_ediv];omega
theorem pput_any (x:Nat) (hx:x < 4294967296) (w:World) (g o n c:Nat) (L:Bs) (h:Blk w g 218 (bcs L).toArray) (ho:o + 4 ≤ L.length) (hn:4 ≤ n) (hc:n ≤ c) (hoL:L.length < 100000) :
  Calls Tryz.prog 154 #[.slice (some ⟨g,o,none⟩) n c,.int .u32 (x:Int)] w fun e w'=>e = .returned (.tuple #[]) ∧ Blk w' g 218 (bcs (patch L o (n4 x))).toArray ∧ Ext (fun b=>b = g) w w':=by
 obtain ⟨L4,hL4⟩:∃ L4,L4 = patch L o (n4 x):=⟨_,rfl⟩
 rw [← hL4]
 have H4:=Lib.hid hL4
 have lg:=h.lt
 have f:=h.frozen
 have HB:=Lib.hid h
 have hc0:(4:Int) ≤ n:=by omega
 have s0:(w.cell? ⟨g,o,none⟩).isSome = true:=by rw [h.cell,bcs_get];simp;omega
 have s1:(w.cell? ⟨g,o + 1,none⟩).isSome = true:=by rw [h.cell,bcs_get];simp;omega
 have s2:(w.cell? ⟨g,o + 2,none⟩).isSome = true:=by rw [h.cell,bcs_get];simp;omega
 have s3:(w.cell? ⟨g,o + 3,none⟩).isSome = true:=by rw [h.cell,bcs_get];simp;omega
 obtain ⟨v0,k0⟩:=Option.isSome_iff_exists.1 s0
 obtain ⟨v1,k1⟩:=Option.isSome_iff_exists.1 s1
 obtain ⟨v2,k2⟩:=Option.isSome_iff_exists.1 s2
 obtain ⟨v3,k3⟩:=Option.isSome_iff_exists.1 s3
 clear h hL4 s0 s1 s2 s3
 go_enter Tryz.func154,Tryz.ntmps154
 go_wp2_with fail
 go_end0
 refine ⟨rfl,?_,((((Ext.refl (fun b=>b = g) w).setF (b:=g) rfl _ _).setF (b:=g) rfl _ _).setF (b:=g) rfl _ _).setF (b:=g) rfl _ _⟩
 have e0:((x:Int) % 256) = ((UInt8.ofNat (x % 256)).toNat:Int):=by rw [UInt8.toNat_ofNat'];omega
 have e3:((x:Int) / 16777216) = ((UInt8.ofNat (x / 16777216 % 256)).toNat:Int):=by rw [UInt8.toNat_ofNat'];omega
 have e1:((x:Int) / 256 % 256) = ((UInt8.ofNat (x / 256 % 256)).toNat:Int):=(byte_div x 256).symm
 have e2:((x:Int) / 65536 % 256) = ((UInt8.ofNat (x / 65536 % 256)).toNat:Int):=(byte_div x 65536).symm
 rw [e0,e1,e2,e3]
 have:=(((HB.out.set_ o (.int .u8 ((UInt8.ofNat (x % 256)).toNat:Int))).set_ (o + 1) (.int .u8 ((UInt8.ofNat (x / 256 % 256)).toNat:Int))).set_ (o + 2) (.int .u8 ((UInt8.ofNat (x / 65536 % 256)).toNat:Int))).set_ (o + 3) (.int .u8 ((UInt8.ofNat (x / 16777216 % 256)).toNat:Int))
 rw [bcs_set,bcs_set,bcs_set,bcs_set,set4_patch ho] at this
 rw [H4.out]
 exact this
theorem wrap_small32 (a:Nat) (h:a < 4294967296):IntKind.u32.wrap (a:Int) = (a:Int):=by
 rw [IntKind.wrap_u32'];omega
def V.link (v:V) (id:Nat):Option (Nat × Bs) :=
 if v.err id = 0 then (if (v.pg id).kind = 3 ∧ 4 < (v.pg id).body.length then some (v4 (str (v.pg id).body),(v.pg id).body.drop 4) else none) else none
def V.valLoop (v:V) (len:Nat):Nat → Nat → Bs → Option Bs
 | 0,_,b=>some b
 | k + 1,id,b=>if id = 0 ∨ len < b.length then some b else match v.link id with
  | none=>none
  | some (n,s)=>v.valLoop len k n (b ++ s)
def V.value (v:V) (c:Cell):Option Bs :=
 if c.over = 0 then some c.val else match v.valLoop c.len (c.len + 2) c.over [] with
  | none=>none
  | some b=>if b.length = c.len then some b else none
def chainLoop (cap:Nat) (val:Bs):Nat → Nat → V → Nat × Nat × V
 | 0,next,v=>(next,0,v)
 | k + 1,next,v =>
  if (v.alloc cap).2.1 = 0 then
   (if ((v.alloc cap).2.2.set (v.alloc cap).1 3 (n4 next ++ (val.drop (k * 496)).take 496)).1 = 0 then chainLoop cap val k (v.alloc cap).1 ((v.alloc cap).2.2.set (v.alloc cap).1 3 (n4 next ++ (val.drop (k * 496)).take 496)).2
   else (0,((v.alloc cap).2.2.set (v.alloc cap).1 3 (n4 next ++ (val.drop (k * 496)).take 496)).1,((v.alloc cap).2.2.set (v.alloc cap).1 3 (n4 next ++ (val.drop (k * 496)).take 496)).2))
  else (0,(v.alloc cap).2.1,(v.alloc cap).2.2)
def V.chain (cap:Nat) (v:V) (val:Bs):Nat × Nat × V:=chainLoop cap val ((val.length - 1) / 496 + 1) 0 v
def V.dropLoop:Nat → Nat → V → Nat × V
 | 0,_,v=>(0,v)
 | k + 1,id,v=>if id = 0 then (0,v) else match v.link id with
  | none=>(5,v)
  | some (n,_)=>if (v.drop id).1 = 0 then V.dropLoop k n (v.drop id).2 else v.drop id
def V.letGo (v:V) (c:Cell):Nat × V:=V.dropLoop (v.high + 1) c.over v
def V.mkCell (cap:Nat) (v:V) (key val:Bs):Cell × Nat × V :=
 if 3 + key.length + val.length ≤ 160 then (⟨key,val,0,0⟩,0,v) else (⟨key,[],(v.chain cap val).1,val.length⟩,(v.chain cap val).2.1,(v.chain cap val).2.2)
theorem V.good_bd {v:V} (h:v.Good) {id:Nat} (he:v.err id = 0):(v.pg id).body.length ≤ 500:=by
 obtain ⟨l,h⟩:=h
 obtain ⟨h1,h2,_⟩:=V.err_ok he
 exact h.bd id h1 h2
theorem ret_l3 {a b:Int} {x y:Value} (h:a = b):Ending.returned (.tuple #[.int .i64 a,x,y]) = .returned (.tuple #[.int .i64 b,x,y]):=by rw [h]
def linkOut (o:Option (Nat × List UInt8)):Value:=match o with
 | none=>.tuple #[.int .i64 0,.string (str []),.int .i64 5]
 | some (n,b)=>.tuple #[.int .i64 (n:Int),.string (str b),.int .i64 0]
theorem link_any (s:Sys) (hs:s.Ok) (w:World) (v:V) (h:TxAt w s v) (gx i:Nat) (hx:Blk w gx 70 (treeCells s i)) (id:Nat) :
  Calls Tryz.prog 50 #[.pointer (some ⟨gx,0,none⟩),.int .i64 (id:Int)] w fun e w'=>e = .returned (linkOut (v.link id)) ∧ Ext No w w':=by
 have HR:=Lib.hid (read_any s hs w v h id)
 have c0:=hx.cell 0
 simp [treeCells] at c0
 unfold V.link
 by_cases he:v.err id = 0
 ·have hr:v.read id = ((v.pg id).kind,(v.pg id).body,0):=by simp [V.read,he]
  rw [if_pos he]
  rw [hr] at HR
  clear hr he
  generalize (v.pg id).kind = k at *
  generalize (v.pg id).body = b at *
  have hb:=str_size b
  have HB:=Lib.hid hb
  by_cases hk:k = 3
  ·subst hk
   by_cases hl:4 < b.length
   ·rw [if_pos ⟨rfl,hl⟩]
    have hl':4 < (str b).size:=by omega
    have i0:∀ w,(Instr.index 9 (.string (str b)) (.int .i64 0)).run Tryz.prog w = .ok (.int .u8 (bt (str b) 0:Int)) w:=fun w=>idx9 (str b) 0 (by omega) w
    have i1:∀ w,(Instr.index 9 (.string (str b)) (.int .i64 1)).run Tryz.prog w = .ok (.int .u8 (bt (str b) 1:Int)) w:=fun w=>idx9 (str b) 1 (by omega) w
    have i2:∀ w,(Instr.index 9 (.string (str b)) (.int .i64 2)).run Tryz.prog w = .ok (.int .u8 (bt (str b) 2:Int)) w:=fun w=>idx9 (str b) 2 (by omega) w
    have i3:∀ w,(Instr.index 9 (.string (str b)) (.int .i64 3)).run Tryz.prog w = .ok (.int .u8 (bt (str b) 3:Int)) w:=fun w=>idx9 (str b) 3 (by omega) w
    have hor:=Lib.hid (or4 (bt (str b) 0) (bt (str b) 1) (bt (str b) 2) (bt (str b) 3) (bt_lt _ 0) (bt_lt _ 1) (bt_lt _ 2) (bt_lt _ 3))
    have hg:¬ ((b.length:Int) ≤ 4):=by omega
    go_enter Tryz.func50,Tryz.ntmps50
    go_wp2_with fail
    refine (HR.out).mono ?_
    rintro e w1 ⟨rfl,hx1⟩
    go_wp2_with fail
    go_quiet (fail)
    go_wp2_with fail
    have hsl:(str b).extract 4 b.length = str (b.drop 4):=by
     apply ByteArray.ext
     simp [str,ByteArray.data_extract,← List.toArray_drop,List.extract_toArray]
     exact List.take_of_length_le (by simp)
    rw [hsl]
    go_ret3
    exact ⟨ret_l3 (by simp only [← wrapEq];exact hor.out),by (repeat' (first | exact Ext.refl _ _ | assumption | apply Ext.alloc | apply Ext.drewN | apply Ext.drew | refine Ext.setNew ?_ (by first | omega | (simp;omega) | simp) _ _ | refine Ext.setF ?_ (by first | exact Or.inl rfl | exact Or.inr rfl | rfl) _ _ | refine Ext.trans_ ?_ (by assumption) | refine Ext.trans_ ?_ (Ext.of_no (by assumption))))⟩
   ·rw [if_neg (by omega)]
    have hg:(b.length:Int) ≤ 4:=by omega
    go_enter Tryz.func50,Tryz.ntmps50
    go_wp2_with fail
    refine (HR.out).mono ?_
    rintro e w1 ⟨rfl,hx1⟩
    go_wp2_with fail
    go_ret3
    exact ⟨rfl,hx1⟩
  ·rw [if_neg (by omega)]
   have hk':((k:Int) != 3) = true:=by simpa using (by omega:¬ (k:Int) = 3)
   clear hk
   go_enter Tryz.func50,Tryz.ntmps50
   go_wp2_with fail
   refine (HR.out).mono ?_
   rintro e w1 ⟨rfl,hx1⟩
   go_wp2_with fail
   go_ret3
   exact ⟨rfl,hx1⟩
 ·have hr:v.read id = (0,[],v.err id):=by simp [V.read,he]
  rw [if_neg he]
  rw [hr] at HR
  have he':v.err id = 2 ∨ v.err id = 8:=by
   rcases V.err_cases he with ⟨h,_⟩ | ⟨h,_⟩
   ·exact .inl h
   ·exact .inr h
  clear hr he
  generalize v.err id = k at *
  rcases he' with rfl | rfl
  all_goals
   go_enter Tryz.func50,Tryz.ntmps50
   go_wp2_with fail
   refine (HR.out).mono ?_
   rintro e w1 ⟨rfl,hx1⟩
   go_wp2_with fail
   go_ret3
   exact ⟨rfl,hx1⟩
theorem drop_stop (k:Nat) (v:V):V.dropLoop k 0 v = (0,v):=by cases k <;> simp [V.dropLoop]
theorem letgo_any (s:Sys) (hs:s.Ok) (w:World) (v:V) (h:TxAt w s v) (hg:v.Good) (gx i:Nat) (hx:Blk w gx 70 (treeCells s i)) (c:Cell) :
  Calls Tryz.prog 99 #[.pointer (some ⟨gx,0,none⟩),c.agg] w fun e w'=>e = .returned (.int .i64 ((v.letGo c).1:Int)) ∧ TxAt w' s (v.letGo c).2 ∧ (v.letGo c).2.Good ∧ Ext s.F w w':=by
 have HL:=Lib.hid (fun w v (h:TxAt w s v) (hx:Blk w gx 70 (treeCells s i)) id=>link_any s hs w v h gx i hx id)
 have HF:=Lib.hid (fun w v (h:TxAt w s v) hg id=>free_any s hs w v h hg id)
 have hE0:Ext s.F w (w.alloc (.cells #[.string (str c.key),.string (str c.val),.int .i64 (c.over:Int),.int .i64 (c.len:Int)] 45)):=(Ext.refl _ w).alloc _
 have hT0:TxAt (w.alloc (.cells #[.string (str c.key),.string (str c.val),.int .i64 (c.over:Int),.int .i64 (c.len:Int)] 45)) s v:=h.no hs ((Ext.refl _ w).alloc _)
 have hX0:=hx.alloc (.cells #[.string (str c.key),.string (str c.val),.int .i64 (c.over:Int),.int .i64 (c.len:Int)] 45)
 obtain ⟨D,hD⟩:∃ D,D = v.letGo c:=⟨_,rfl⟩
 rw [← hD]
 unfold V.letGo at hD
 have HD:=Lib.hid hD
 have HG:=Lib.hid hg
 clear hD hg h hx
 simp only [Cell.agg]
 go_enter Tryz.func99,Tryz.ntmps99
 go_wp2_with fail
 go_loopg [5] (v.high + 1) (fun gk id wr=>∃ (ID:Nat) (v':V),id = .int .i64 (ID:Int) ∧ TxAt wr s v' ∧ v'.Good ∧ Blk wr gx 70 (treeCells s i) ∧ Hid (v'.high + 1 ≤ gk + v'.cnt) ∧ Hid (V.dropLoop gk ID v' = D) ∧ Ext s.F w wr)
 case atStart=>exact ⟨c.over,v,rfl,hT0,HG.out,hX0,Lib.hid (by omega),Lib.hid HD.out.symm,hE0⟩
 case round =>
  clear hT0 hX0 hE0 HG HD
  obtain ⟨ID,v',rfl,hT,hG,hX,hm,hd,hE⟩:=hrel
  have HT:=Lib.hid hT;have HG:=Lib.hid hG;have HX:=Lib.hid hX;have HE:=Lib.hid hE
  have c0:=hX.cell 0
  simp [treeCells] at c0
  obtain ⟨j,hj⟩:∃ j,gk = j + 1:=⟨gk - 1,by
   obtain ⟨l,hl⟩:=hG
   have:=hl.lt;have:=hl.cnt;have:=hm.out
   omega⟩
  clear hT hG hX hE
  have HJ:=Lib.hid hj
  by_cases h0:ID = 0
  ·subst h0
   have hdd:=hd.out
   rw [drop_stop] at hdd
   have HDD:=Lib.hid hdd
   clear hj hdd
   go_wp2_with fail
   go_ret
   exact ⟨by rw [← HDD.out];rfl,by rw [← HDD.out];exact HT.out,by rw [← HDD.out];exact HG.out,HE.out⟩
  ·have h0':((ID:Int) != 0) = true:=by simpa using (by omega:¬ (ID:Int) = 0)
   have hdd:=hd.out
   rw [hj] at hdd
   simp only [V.dropLoop,if_neg h0] at hdd
   have HLK:=Lib.hid (HL.out _ v' HT.out HX.out ID)
   have HFK:=Lib.hid (fun w h=>HF.out w v' h HG.out ID)
   have HGD:=Lib.hid (HG.out.drop ID)
   have HTR:=Lib.hid (fun (w':World) (h:Ext No wr w')=>HT.out.no hs h)
   cases hl:v'.link ID with
   | none =>
    rw [hl] at hdd HLK
    simp only [linkOut] at HLK
    have HDD:=Lib.hid hdd
    clear h0 hj hl hdd
    go_wp2_with fail
    refine HLK.out.mono ?_
    rintro e w1 ⟨rfl,hx1⟩
    go_wp2_with fail
    go_ret
    exact ⟨by rw [← HDD.out];rfl,by rw [← HDD.out];exact HT.out.no hs hx1,by rw [← HDD.out];exact HG.out,HE.out.trans_ hx1.of_no⟩
   | some r =>
    obtain ⟨n,b⟩:=r
    rw [hl] at hdd HLK
    simp only [linkOut] at HLK
    simp only at hdd
    by_cases hde:(v'.drop ID).1 = 0
    ·rw [if_pos hde] at hdd
     have HDD:=Lib.hid hdd
     have hcn:(v'.drop ID).2.high = v'.high ∧ (v'.drop ID).2.cnt = v'.cnt + 1:=by
      unfold V.drop at hde ⊢
      split
      ·exact ⟨rfl,rfl⟩
      ·rename_i hz;rw [if_neg hz] at hde;exact absurd hde hz
     rw [hde] at HFK
     have HCN:=Lib.hid hcn
     clear h0 hj hl hdd hde hcn
     go_wp2_with fail
     refine HLK.out.mono ?_
     rintro e w1 ⟨rfl,hx1⟩
     have c1:=cell_ext hx1 c0 (fun h=>h)
     have hX1:=HX.out.ext hx1 (fun h=>h)
     have HX1:=Lib.hid hX1
     have HE1:=Lib.hid hx1
     clear hX1
     go_wp2_with fail
     refine (HFK.out _ (HTR.out _ hx1)).mono ?_
     rintro e w2 ⟨rfl,hT2,hx2⟩
     have HT2:=Lib.hid hT2;have HX2:=Lib.hid hx2
     clear hT2 hx2
     go_wp2_with fail
     go_roundg j
     case rel =>
      have h1:=HTR.out _ HE1.out
      exact ⟨n,(v'.drop ID).2,rfl,HT2.out,HGD.out,tree_ext h1 HX1.out HX2.out,Lib.hid (by have:=hm.out;have:=HJ.out;have:=HCN.out;omega),Lib.hid HDD.out,(HE.out.trans_ HE1.out.of_no).trans_ HX2.out⟩
     case measure=>have:=HJ.out;omega
    ·rw [if_neg hde] at hdd
     have hde':(((v'.drop ID).1:Int) != 0) = true:=by simpa using (by omega:¬ ((v'.drop ID).1:Int) = 0)
     rw [hdd] at HFK HGD hde'
     generalize hdv:D.1 = d at HFK hde'
     have HDV:=Lib.hid hdv
     clear h0 hj hl hde hdd hdv
     go_wp2_with fail
     refine HLK.out.mono ?_
     rintro e w1 ⟨rfl,hx1⟩
     have c1:=cell_ext hx1 c0 (fun h=>h)
     go_wp2_with fail
     refine (HFK.out _ (HTR.out _ hx1)).mono ?_
     rintro e w2 ⟨rfl,hT2,hx2⟩
     go_wp2_with fail
     go_ret
     exact ⟨by rw [HDV.out];rfl,hT2,HGD.out,(HE.out.trans_ hx1.of_no).trans_ hx2⟩
theorem cell_back {Q:Ending → World → Prop} {a:Act} {w:World} (b:Nat) (cs:Array Value) (hb:Blk w b 45 cs) {v:Value} (hs:some 4 = some cs.size) (hp:a.tmps.getD 6 undef = .pointer (some ⟨b,0,none⟩)) (h3:a.tmps.getD 7 undef = v) (hd:a.defers = [])
  (h:Q (.returned (.tuple #[.agg cs,v])) w):bodyPost Tryz.prog Tryz.f97 Q Exit.ret a w:=by
 refine bodyPost_ret (v:=.tuple #[.agg cs,v]) (w:=w) ?_ hd h
 have hl:=run_loadVar_row w b 45 45 cs (0,0) _ hb Tryz.underlying45 rfl (by rw [← hs];kernel_rfl)
 rw [results_cell_tmp rfl,hp,h3]
 simp [asAddr,Result.andThen,hl]
theorem cell_small (key val:List UInt8) (gx:Value) (w:World) (hl:3 + key.length + val.length ≤ 160) :
  Calls Tryz.prog 97 #[gx,.string (str key),.string (str val)] w fun e w'=>e = .returned (.tuple #[(⟨key,val,0,0⟩:Cell).agg,.int .i64 0]) ∧ Ext No w w':=by
 have hk:=str_size key
 have hv:=str_size val
 have hi:((3:Int) + key.length + val.length ≤ 160):=by omega
 have hi1:IntKind.i64.wrap ((3:Int) + key.length) = (3:Int) + key.length:=IntWalk.i64_in _ (by omega)
 have hi2:IntKind.i64.wrap ((3:Int) + key.length + val.length) = (3:Int) + key.length + val.length:=IntWalk.i64_in _ (by omega)
 go_enter Tryz.func97,Tryz.ntmps97
 go_wp2_with fail
 exact cell_back w.heap.size _ (Blk.new w 45 _) rfl rfl rfl rfl ⟨rfl,(Ext.refl No w).alloc _⟩
end Go.Proofs.YtccnemmlkcmceaaGreatDoor
