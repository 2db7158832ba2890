/- Proofs about the given program, joined out of the texts LG1, LG2, LG3, LG4, LG5. -/
import Derived.Test.YtccnemmlkcmceaaGreatDoorHE11
import Derived.Lib.AtoiErrMem
import Derived.Deep.OwnRows
set_option linter.unusedVariables false
set_option linter.unusedSimpArgs false
set_option maxRecDepth 100000
set_option maxHeartbeats 6400000
namespace Go.Proofs.YtccnemmlkcmceaaGreatDoor
open Go.RowKit
structure Lg where
 epoch:Nat
 bytes:Bs
 recs:List Bs
 pend:List Bs
 lost:Bool
def strs (l:List Bs):List Value:=l.map fun s=>.string (str s)
structure Own (w:World) (D:Nat → Prop) (x:Nat) (e:TypeId) (v:Value) (n:Nat) (xs:List Value):Prop where
 row:w.ownsRow 0 e 1 v n xs
 at_:∀ g,v.ownBlock = some g → D g ∧ g ≠ x
theorem Own.ext {w w':World} {D F:Nat → Prop} {x:Nat} {e:TypeId} {v:Value} {n:Nat} {xs:List Value} (h:Own w D x e v n xs) (hx:Ext F w w') (hF:∀ b,D b → b ≠ x → ¬ F b):Own w' D x e v n xs :=
 ⟨owns_ext h.row hx (fun g hg=>hF g (h.at_ g hg).1 (h.at_ g hg).2),h.at_⟩
theorem Own.mono {w:World} {D D':Nat → Prop} {x:Nat} {e:TypeId} {v:Value} {n:Nat} {xs:List Value} (h:Own w D x e v n xs) (hD:∀ b,D b → D' b):Own w D' x e v n xs :=
 ⟨h.row,fun g hg=>⟨hD g (h.at_ g hg).1,(h.at_ g hg).2⟩⟩
def Lg.cells (l:Lg) (d m:Nat) (Ab:Option Addr) (cb:Nat) (Ar:Option Addr) (cr:Nat) (Ap:Option Addr) (cp:Nat):Array Value :=
 #[.pointer (some ⟨d,0,none⟩),.int .i64 0,.int .i64 (m:Int),.int .i64 (l.epoch:Int),.slice Ab l.bytes.length cb,.slice Ar l.recs.length cr,.slice Ap l.pend.length cp,.bool l.lost]
structure LogAt (w:World) (D:Nat → Prop) (x d m:Nat) (l:Lg):Prop where
 cells:∃ Ab cb Ar cr Ap cp,Blk w x 179 (l.cells d m Ab cb Ar cr Ap cp) ∧ Own w D x 5 (.slice Ab l.bytes.length cb) l.bytes.length (bcs l.bytes) ∧ Own w D x 9 (.slice Ar l.recs.length cr) l.recs.length (strs l.recs) ∧
  Own w D x 9 (.slice Ap l.pend.length cp) l.pend.length (strs l.pend) ∧ ∀ g,(Value.slice Ar l.recs.length cr).ownBlock = some g → (Value.slice Ap l.pend.length cp).ownBlock ≠ some g
 xx:D x
 old:∀ b,D b → b < w.heap.size
 m1:2 ≤ m
 m2:m ≤ 65536
theorem LogAt.ext {w w':World} {D F:Nat → Prop} {x d m:Nat} {l:Lg} (h:LogAt w D x d m l) (hx:Ext F w w') (hF:∀ b,D b → ¬ F b):LogAt w' D x d m l:=by
 obtain ⟨Ab,cb,Ar,cr,Ap,cp,h1,h2,h3,h4,h5⟩:=h.cells
 exact ⟨⟨Ab,cb,Ar,cr,Ap,cp,h1.ext hx (hF x h.xx),h2.ext hx (fun b hb _=>hF b hb),h3.ext hx (fun b hb _=>hF b hb),h4.ext hx (fun b hb _=>hF b hb),h5⟩,h.xx,fun b hb=>Nat.lt_of_lt_of_le (h.old b hb) hx.size,h.m1,h.m2⟩
section
variable {w:World} {D:Nat → Prop} {x d m:Nat} {l:Lg}
theorem LogAt.c (h:LogAt w D x d m l):∃ Ab cb Ar cr Ap cp,Blk w x 179 (l.cells d m Ab cb Ar cr Ap cp) ∧ w.cell? ⟨x,0,none⟩ = some (.pointer (some ⟨d,0,none⟩)) ∧ w.cell? ⟨x,1,none⟩ = some (.int .i64 0) ∧ w.cell? ⟨x,2,none⟩ = some (.int .i64 (m:Int)) ∧
  w.cell? ⟨x,3,none⟩ = some (.int .i64 (l.epoch:Int)) ∧ w.cell? ⟨x,4,none⟩ = some (.slice Ab l.bytes.length cb) ∧ w.cell? ⟨x,5,none⟩ = some (.slice Ar l.recs.length cr) ∧ w.cell? ⟨x,6,none⟩ = some (.slice Ap l.pend.length cp) ∧ w.cell? ⟨x,7,none⟩ = some (.bool l.lost) ∧
  x < w.heap.size ∧ (∀ i,w.frozen? ⟨x,i,none⟩ = false):=by
 obtain ⟨Ab,cb,Ar,cr,Ap,cp,h1,_,_,_,_⟩:=h.cells
 exact ⟨Ab,cb,Ar,cr,Ap,cp,h1,h1.cell 0,h1.cell 1,h1.cell 2,h1.cell 3,h1.cell 4,h1.cell 5,h1.cell 6,h1.cell 7,h1.lt,fun i=>h1.frozen i⟩
theorem lg_none (h:LogAt w D x d m l):Calls Tryz.prog 109 #[.pointer (some ⟨x,0,none⟩)] w fun e w'=>e = .returned (.bool false) ∧ w = w':=by
 obtain ⟨Ab,cb,Ar,cr,Ap,cp,_,c0,_,_,_,_,_,_,_,hlt,_⟩:=h.c
 clear h
 go_enter Tryz.func109,Tryz.ntmps109
 go_wp2_with fail
 go_ret
 exact ⟨rfl,rfl⟩
theorem lg_up (h:LogAt w D x d m l):Calls Tryz.prog 112 #[.pointer (some ⟨x,0,none⟩)] w fun e w'=>e = .returned (.int .i64 (if l.lost then 10 else 0)) ∧ w = w':=by
 have HN:=Lib.hid (lg_none h)
 obtain ⟨Ab,cb,Ar,cr,Ap,cp,_,_,_,_,_,_,_,_,c7,hlt,_⟩:=h.c
 clear h
 cases hd:l.lost
 ·rw [hd] at c7
  go_enter Tryz.func112,Tryz.ntmps112
  go_wp2_with (go_at_call 109;refine (HN.out).mono ?_;rintro e w' ⟨rfl,rfl⟩)
  go_ret
  exact ⟨rfl,rfl⟩
 ·rw [hd] at c7
  go_enter Tryz.func112,Tryz.ntmps112
  go_wp2_with (go_at_call 109;refine (HN.out).mono ?_;rintro e w' ⟨rfl,rfl⟩)
  go_ret
  exact ⟨rfl,rfl⟩
theorem LogAt.lost_ (h:LogAt w D x d m l) (b:Bool):LogAt (w.setCell ⟨x,7,none⟩ (.bool b)) D x d m { l with lost:=b }:=by
 have hx:Ext (On x) w (w.setCell ⟨x,7,none⟩ (.bool b)):=(Ext.refl _ _).setF (F:=On x) rfl 7 _
 obtain ⟨Ab,cb,Ar,cr,Ap,cp,h1,h2,h3,h4,h5⟩:=h.cells
 exact ⟨⟨Ab,cb,Ar,cr,Ap,cp,h1.set_ 7 _,h2.ext hx (fun b _ hne=>hne),h3.ext hx (fun b _ hne=>hne),h4.ext hx (fun b _ hne=>hne),h5⟩,h.xx,fun b hb=>Nat.lt_of_lt_of_le (h.old b hb) hx.size,h.m1,h.m2⟩
theorem lg_lose (h:LogAt w D x d m l) (c:Nat) (hl:l.lost = false):Calls Tryz.prog 115 #[.pointer (some ⟨x,0,none⟩),.int .i64 (c:Int)] w fun e w'=>e = .returned (.int .i64 (c:Int)) ∧ LogAt w' D x d m { l with lost:=decide (c ≠ 0) } ∧ Ext (On x) w w':=by
 have HL:=Lib.hid h.lost_
 obtain ⟨Ab,cb,Ar,cr,Ap,cp,_,_,_,_,_,_,_,_,c7,hlt,hfz⟩:=h.c
 have f7:=hfz 7
 rw [hl] at c7
 clear h hfz
 by_cases hc:c = 0
 ·subst hc
  go_enter Tryz.func115,Tryz.ntmps115
  go_wp2_with fail
  go_ret
  exact ⟨rfl,HL.out false,(Ext.refl _ _).setF (F:=On x) rfl 7 _⟩
 ·have hc':((c:Int) != 0) = true:=by simp;omega
  have e:decide (c ≠ 0) = true:=by simp [hc]
  rw [e]
  clear hc e
  go_enter Tryz.func115,Tryz.ntmps115
  go_wp2_with fail
  go_ret
  exact ⟨rfl,HL.out true,(Ext.refl _ _).setF (F:=On x) rfl 7 _⟩
theorem lg_room (h:LogAt w D x d m l) (hp:l.pend = []) (hb:l.bytes.length ≤ 64 * (m - 1)):Calls Tryz.prog 68 #[.pointer (some ⟨x,0,none⟩)] w fun e w'=>e = .returned (.int .i64 ((64 * (m - 1) - l.bytes.length:Nat):Int)) ∧ Ext No w w':=by
 have HN:=Lib.hid (lg_none h)
 have hm1:=h.m1
 have hm2:=h.m2
 obtain ⟨Ab,cb,Ar,cr,Ap,cp,_,c0,_,c2,_,c4,_,c6,_,hlt,_⟩:=h.c
 rw [hp] at c6
 clear h hp
 have e1:(64:Int) * ((m:Int) - 1) - (l.bytes.length:Int) = ((64 * (m - 1) - l.bytes.length:Nat):Int):=by omega
 have hm1':(2:Int) ≤ m:=by omega
 have hm2':(m:Int) ≤ 65536:=by omega
 have hbl:(l.bytes.length:Int) ≤ 4194304:=by omega
 obtain ⟨R,hR⟩:∃ R:Int,R = ((64 * (m - 1) - l.bytes.length:Nat):Int):=⟨_,rfl⟩
 rw [← hR]
 rw [← hR] at e1
 clear hR hm1 hm2 hb
 go_enter Tryz.func68,Tryz.ntmps68
 go_wp2_with (go_at_call 109;refine (HN.out).mono ?_;rintro e w' ⟨rfl,rfl⟩)
 go_region
 go_wp2_with fail
 go_loopg [3,25] 0 (fun gk q3 q25 wr=>q3 = .int .i64 R ∧ q25 = .int .i64 0 ∧ w.drew = wr)
 case atStart=>exact ⟨rfl,rfl,rfl⟩
 case round =>
  obtain ⟨rfl,rfl,rfl⟩:=hrel
  go_wp2_with fail
  go_ret
  exact ⟨rfl,(Ext.refl No w).drew⟩
end
def nb (x:Nat):Nat → Bs
 | 0=>[]
 | n + 1=>UInt8.ofNat x :: nb (x / 256) n
theorem nb_len:∀ (n x:Nat),(nb x n).length = n
 | 0,_=>rfl
 | n + 1,x=>by simp [nb,nb_len n]
theorem nb_get:∀ (n x i:Nat),i < n → (nb x n)[i]? = some (UInt8.ofNat (x / 256 ^ i))
 | n + 1,x,0,_=>by simp [nb]
 | n + 1,x,i + 1,h=>by
  have:=nb_get n (x / 256) i (by omega)
  rw [nb,List.getElem?_cons_succ,this,Nat.div_div_eq_div_mul,Nat.pow_succ,Nat.mul_comm]
def nbCells (x n k:Nat):Array Value:=((List.range n).map fun i=>Value.int .u8 (if i < k then ((UInt8.ofNat (x / 256 ^ i)).toNat:Int) else 0)).toArray
theorem nbCells_get {x n k i:Nat} (h:i < n):(nbCells x n k)[i]? = some (.int .u8 (if i < k then ((UInt8.ofNat (x / 256 ^ i)).toNat:Int) else 0)):=by
 simp [nbCells,h]
theorem nbCells_set {x n k:Nat} (h:k < n):(nbCells x n k).setIfInBounds k (.int .u8 ((UInt8.ofNat (x / 256 ^ k)).toNat:Int)) = nbCells x n (k + 1):=by
 apply Array.ext_getElem?
 intro i
 by_cases hi:i < n
 ·rw [Array.getElem?_setIfInBounds,nbCells_get hi]
  by_cases e:k = i
  ·subst e;simp [nbCells,h]
  ·rw [if_neg e,nbCells_get hi]
   congr 2
   by_cases h1:i < k
   ·rw [if_pos h1,if_pos (by omega)]
   ·rw [if_neg h1,if_neg (by omega)]
 ·simp [nbCells,hi,show ¬ i < n from hi]
theorem nbCells_zero (x n:Nat):madeCells #[.int .u8 0] n = nbCells x n 0:=by
 apply Array.ext_getElem?
 intro i
 by_cases hi:i < n
 ·rw [nbCells_get hi,if_neg (by omega)]
  have:i % 1 = 0:=by omega
  simp [madeCells,hi,this]
 ·simp [nbCells,madeCells,hi,show ¬ i < n from hi]
theorem nb_conv {w:World} {g x n:Nat} (h:Blk w g 5 (nbCells x n n)):(convert 98 9 (.slice (some ⟨g,0,none⟩) n n)).run Tryz.prog w = .ok (.string (str (nb x n))) w:=by
 have h1:=run_convert_bytes_back (P:=Tryz.prog) w 98 9 5 ⟨g,0,none⟩ n (nb x n) Tryz.underlying98 Tryz.underlying5 Tryz.underlying9 (fun j hj=>by
  rw [nb_len] at hj
  rw [Addr.add_none,Nat.zero_add,h.cell,nbCells_get hj,if_pos hj]
  have:=nb_get n x j hj
  have h2:=(List.getElem?_eq_some_iff.1 this).2
  rw [← h2])
 rw [nb_len] at h1
 exact h1
theorem nr_any (x n:Nat) (hx:x < 18446744073709551616) (hn:n ≤ 8) (w:World):Calls Tryz.prog 159 #[.int .u64 (x:Int),.int .i64 (n:Int)] w fun e w'=>e = .returned (.string (str (nb x n))) ∧ Ext No w w':=by
 have h1:(n:Int) ≤ 8:=by omega
 have h0:(0:Int) ≤ n:=by omega
 have hmk:=run_make_row' (P:=Tryz.prog) 98 5 (.int .u8 0) 1 Tryz.underlying98 (by kernel_rfl) rfl .i64 .i64 n (by omega) (by omega) w
 rw [nbCells_zero x] at hmk
 go_enter Tryz.func159,Tryz.ntmps159
 go_wp2_with fail
 clear hmk
 have HB:=Lib.hid (Blk.new w 5 (nbCells x n 0))
 have HX:=Lib.hid ((Ext.refl No w).alloc (.cells (nbCells x n 0) 5))
 generalize w.alloc (.cells (nbCells x n 0) 5) = W at *
 go_loopg [11] n (fun gk q11 wr=>∃ k:Nat,k + gk = n ∧ q11 = .int .i64 (k:Int) ∧ Hid (Blk wr w.heap.size 5 (nbCells x n k)) ∧ Hid (Ext No w wr))
 case atStart=>exact ⟨0,by omega,rfl,HB,HX⟩
 case round =>
  obtain ⟨k,hk,rfl,HK,HE⟩:=hrel
  have HKK:=Lib.hid hk
  by_cases hkn:k < n
  ·have hlt:=HK.out.lt
   have c1:=HK.out.cell k
   rw [nbCells_get hkn,if_neg (by omega)] at c1
   have f1:=HK.out.frozen k
   have hk1:(0:Int) ≤ k:=by omega
   have hk2:(k:Int) < n:=by omega
   have hk3:(8:Int) * (k:Int) < 64:=by omega
   have hsh:x / 2 ^ (8 * k) = x / 256 ^ k:=by rw [Nat.pow_mul]
   have HN:=Lib.hid (HK.out.set_ k (.int .u8 ((UInt8.ofNat (x / 256 ^ k)).toNat:Int)))
   rw [nbCells_set hkn] at HN
   have hv:((UInt8.ofNat (x / 256 ^ k)).toNat:Int) = (x:Int) / 2 ^ (8 * k) % 256:=by
    rw [← hsh,UInt8.toNat_ofNat',Int.natCast_emod,Int.natCast_ediv,Int.natCast_pow];rfl
   have HEN:=Lib.hid (HE.out.setNew (b:=w.heap.size) (Nat.le_refl _) k (.int .u8 ((UInt8.ofNat (x / 256 ^ k)).toNat:Int)))
   rw [hv] at HN HEN
   clear hv hsh
   clear hk
   go_wp2_with fail
   go_roundg (gk - 1)
   case rel=>exact ⟨k + 1,by have:=HKK.out;omega,by go_num,HN,HEN⟩
   case measure=>have:=HKK.out;omega
  ·have hkn':k = n:=by omega
   have hge:¬ ((k:Int) < (n:Int)):=by omega
   rw [hkn'] at HK
   have hcv:=nb_conv HK.out
   clear hk hkn'
   go_wp2_with fail
   go_ret
   exact ⟨rfl,HE.out⟩
theorem ofNat_mod (n:Nat):UInt8.ofNat (n % 256) = UInt8.ofNat n:=by
 apply UInt8.toNat_inj.1
 rw [UInt8.toNat_ofNat',UInt8.toNat_ofNat'];omega
theorem nb_four (x:Nat):nb x 4 = n4 x:=by
 simp only [nb,n4,ofNat_mod]
 rw [show x / 256 / 256 = x / 65536 by omega,show x / 65536 / 256 = x / 16777216 by omega]
theorem nb_eight (x:Nat):nb x 8 = n8 x:=by
 have e:nb x 8 = nb x 4 ++ nb (x / 4294967296) 4:=by
  simp only [nb]
  rw [show x / 4294967296 = x / 256 / 256 / 256 / 256 by omega]
  rfl
 rw [e,nb_four,nb_four];rfl
theorem lg_sum (T:Nat → Nat) (w:World) (h:Half w T) (s:Bs) (hs:s.length < 2^30):Calls Tryz.prog 160 #[.string (str s)] w fun e w'=>e = .returned (.string (str (n4 (crc T s)))) ∧ Ext No w w':=by
 have hcv:=Lib.run_convert_string_bytes (P:=Tryz.prog) w 9 98 5 (str s) (u:=.string) Tryz.underlying9 Tryz.underlying98 Tryz.underlying5
 have hX:Ext No w (Lib.bytesWorld w 5 (str s)):=Ext.of_below (Lib.bytesWorld_below w 5 (str s)) No
 have hR:Rd (Lib.bytesWorld w 5 (str s)) No 1 (some ⟨w.heap.size,0,none⟩) s.length (bcs s):=⟨by rw [bcs_len];omega,fun _=>⟨w.heap.size,0,rfl,fun h=>h,fun j u hu=>by
  have hj:=(List.getElem?_eq_some_iff.1 hu).1
  rw [bcs_len] at hj
  have:=Lib.bytesWorld_cell w 5 (str s) j (by rw [str_size];exact hj)
  rw [Nat.zero_add,this]
  rw [← hu]
  simp [bcs,hj,str]⟩⟩
 have HS:=Lib.hid (fun c=>sum_any T _ (h.ext hX (fun h=>h)) _ s c hR (by omega))
 have HN:=Lib.hid (fun w=>nr_any (crc T s) 4 (by have:=crc_lt h.lt s;omega) (by omega) w)
 rw [nb_four] at HN
 have hcl:((crc T s:Nat):Int) < 4294967296:=by have:=crc_lt h.lt s;omega
 rw [str_size] at hcv
 have HX:=Lib.hid hX
 clear h hX hR
 generalize Lib.bytesWorld w 5 (str s) = W at *
 generalize crc T s = C at *
 go_enter Tryz.func160,Tryz.ntmps160
 go_wp2_with fail
 refine (HS.out _).mono ?_
 rintro e w1 ⟨rfl,rfl⟩
 go_wp2_with fail
 refine (HN.out _).mono ?_
 rintro e w1 ⟨rfl,hx1⟩
 go_wp2_with fail
 go_ret
 exact ⟨rfl,HX.out.trans_ hx1⟩
theorem lg_frame (T:Nat → Nat) (w:World) (h:Half w T) (s:Bs) (hs:s.length < 2^29):Calls Tryz.prog 114 #[.string (str s)] w fun e w'=>e = .returned (.string (str (frameOf (crc T) s))) ∧ Ext No w w':=by
 have HN:=Lib.hid (fun w=>nr_any s.length 4 (by omega) (by omega) w)
 rw [nb_four] at HN
 have HS:=Lib.hid (fun w (h:Half w T)=>lg_sum T w h (n4 s.length ++ s) (by rw [List.length_append,n4_len];omega))
 have HH:=Lib.hid h
 have hsl:(s.length:Int) < 536870912:=by omega
 obtain ⟨N,hN⟩:∃ N,N = n4 s.length:=⟨_,rfl⟩
 obtain ⟨C,hC⟩:∃ C,C = n4 (crc T (N ++ s)):=⟨_,rfl⟩
 have hF:frameOf (crc T) s = N ++ (C ++ s):=by unfold frameOf;rw [← hN,← hC]
 rw [hF]
 rw [← hN] at HN HS
 rw [← hC] at HS
 have lN:N.length = 4:=by rw [hN];rfl
 have lC:C.length = 4:=by rw [hC];rfl
 have z1:¬ (9223372036854775807 < 4 + s.length):=by omega
 have z2:¬ (9223372036854775807 < 8 + s.length):=by omega
 have a1:str N ++ str s = str (N ++ s):=str_app _ _
 have a2:str N ++ str C = str (N ++ C):=str_app _ _
 have a3:str (N ++ C) ++ str s = str (N ++ (C ++ s)):=by rw [str_app,List.append_assoc]
 clear h hF hN hC
 go_enter Tryz.func114,Tryz.ntmps114
 go_wp2_with fail
 refine (HN.out _).mono ?_
 rintro e w1 ⟨rfl,hx1⟩
 have HX1:=Lib.hid hx1
 have HT:=Lib.hid (HH.out.ext hx1 (fun h=>h))
 clear hx1
 go_wp2_with fail
 refine (HS.out _ HT.out).mono ?_
 rintro e w2 ⟨rfl,hx2⟩
 go_wp2_with fail
 go_ret
 exact ⟨rfl,HX1.out.trans_ hx2⟩
theorem lg_head (T:Nat → Nat) (w:World) (h:Half w T) (epoch len:Nat) (he:epoch < 2^60) (hl:len < 2^32):Calls Tryz.prog 122 #[.int .i64 (epoch:Int),.int .i64 (len:Int)] w fun e w'=>e = .returned (.string (str (headOf (crc T) epoch len))) ∧ Ext No w w':=by
 have HN:=Lib.hid (fun w=>nr_any epoch 8 (by omega) (by omega) w)
 have HM:=Lib.hid (fun w=>nr_any len 4 (by omega) (by omega) w)
 rw [nb_eight] at HN
 rw [nb_four] at HM
 have HS:=Lib.hid (fun w (h:Half w T)=>lg_sum T w h (head0 epoch len) (by simp [head0,n8,n4]))
 have HP:=Lib.hid (fun w=>Tryz.strings_Repeat ⟨#[0]⟩ 44 w (by omega) (by show 1 * 44 ≤ _;omega))
 have hrep:(⟨(Lib.repeatL (⟨#[0]⟩:ByteArray).data.toList 44).toArray⟩:ByteArray) = str (zs 44):=repeat_zs 44
 rw [hrep] at HP
 have HH:=Lib.hid h
 have he1:(epoch:Int) < 1152921504606846976:=by omega
 have hl1:(len:Int) < 4294967296:=by omega
 obtain ⟨Z,hZ⟩:∃ Z,Z = zs 44:=⟨_,rfl⟩
 obtain ⟨G,hG⟩:∃ G:Bs,G = [65,81,87,76]:=⟨_,rfl⟩
 obtain ⟨N,hN⟩:∃ N,N = n8 epoch:=⟨_,rfl⟩
 obtain ⟨M,hM⟩:∃ M,M = n4 len:=⟨_,rfl⟩
 obtain ⟨C,hC⟩:∃ C,C = n4 (crc T (head0 epoch len)):=⟨_,rfl⟩
 have h0:head0 epoch len = G ++ (N ++ M):=by unfold head0;rw [← hG,← hN,← hM]
 have hF:headOf (crc T) epoch len = G ++ (N ++ (M ++ (C ++ Z))):=by unfold headOf;rw [← hC,← hZ,h0];simp only [List.append_assoc]
 rw [hF]
 rw [← hN] at HN
 rw [← hM] at HM
 rw [← hC,h0] at HS
 rw [← hZ] at HP
 have lG:G.length = 4:=by rw [hG];rfl
 have lN:N.length = 8:=by rw [hN];rfl
 have lM:M.length = 4:=by rw [hM];rfl
 have lC:C.length = 4:=by rw [hC];rfl
 have lZ:Z.length = 44:=by rw [hZ];exact zs_len 44
 have a1:(⟨#[65,81,87,76]⟩:ByteArray) ++ str N = str (G ++ N):=by rw [hG];exact str_app [65,81,87,76] N
 have a2:str (G ++ N) ++ str M = str (G ++ (N ++ M)):=by rw [str_app,List.append_assoc]
 have a3:str (G ++ (N ++ M)) ++ str C = str (G ++ (N ++ (M ++ C))):=by rw [str_app];simp only [List.append_assoc]
 have a4:str (G ++ (N ++ (M ++ C))) ++ str Z = str (G ++ (N ++ (M ++ (C ++ Z)))):=by rw [str_app];simp only [List.append_assoc]
 clear h hF hN hC hrep h0 hG hM hZ
 go_enter Tryz.func122,Tryz.ntmps122
 go_wp2_with fail
 refine (HN.out _).mono ?_
 rintro e w1 ⟨rfl,hx1⟩
 have HX1:=Lib.hid hx1
 clear hx1
 go_wp2_with fail
 refine (HM.out _).mono ?_
 rintro e w2 ⟨rfl,hx2⟩
 have HX2:=Lib.hid (HX1.out.trans_ hx2)
 have HT:=Lib.hid (HH.out.ext HX2.out (fun h=>h))
 clear hx2 HX1
 go_wp2_with fail
 refine (HS.out _ HT.out).mono ?_
 rintro e w3 ⟨rfl,hx3⟩
 have HX3:=Lib.hid (HX2.out.trans_ hx3)
 clear hx3 HX2
 go_wp2_with fail
 refine (HP.out _).mono ?_
 rintro e w4 ⟨rfl,hb4⟩
 go_wp2_with fail
 go_ret
 exact ⟨rfl,HX3.out.trans_ (Ext.of_below hb4 No)⟩
theorem Grow.of {D:Nat → Prop} {w w1 w2 w':World} (h1:w.heap.size ≤ w1.heap.size) (h2:w2.heap.size ≤ w'.heap.size) {b:Nat} (h:Grow D w1 w2 b):Grow D w w' b:=by
 rcases h with h | h
 ·exact .inl h
 ·exact .inr ⟨by omega,by omega⟩
theorem Grow.back {D:Nat → Prop} {w w1 w2:World} (h1:w.heap.size ≤ w1.heap.size) {b:Nat} (hb:b < w.heap.size) (h:Grow D w1 w2 b):D b:=by
 rcases h with h | h
 ·exact h
 ·omega
def Dk.Near (k:Dk) (n:Nat):Prop:=k.left < n ∧ k.done < n ∧ k.pd.length < n
theorem Dk.does_near {k:Dk} {n:Nat} (h:k.Near n):k.does.2.Near (n + 1):=by
 obtain ⟨h1,h2,h3⟩:=h
 unfold Dk.does
 split
 ·exact ⟨by show k.left < _;omega,by show k.done < _;omega,by show k.pd.length < _;omega⟩
 ·refine ⟨?_,by show k.done + 1 < _;omega,by show k.pd.length < _;omega⟩
  show (if k.armed then k.left - 1 else k.left) < n + 1
  split <;> omega
theorem Dk.Near.mono {k:Dk} {n n':Nat} (h:k.Near n) (hn:n ≤ n'):k.Near n':=⟨by have:=h.1;omega,by have:=h.2.1;omega,by have:=h.2.2;omega⟩
theorem Dk.write_near {k:Dk} {n:Nat} (h:k.Near n) (i:Nat) (s:Bs):(k.write i s).2.Near (n + 1):=by
 have h1:=Dk.does_near h
 have h2:=k.does_same.2.2.1
 unfold Dk.write
 split
 ·exact h.mono (by omega)
 ·split
  ·exact h1
  ·refine ⟨h1.1,h1.2.1,?_⟩
   show (k.pd ++ [(i,sect s)]).length < n + 1
   have:=h.2.2
   simp;omega
theorem Dk.flush_near {k:Dk} {n:Nat} (h:k.Near n):k.flush.2.Near (n + 1):=by
 have h1:=Dk.does_near h
 unfold Dk.flush
 split
 ·exact h.mono (by omega)
 ·split
  ·exact h1
  ·exact ⟨h1.1,h1.2.1,by show (0:Nat) < _;omega⟩
theorem lg_write {w:World} {D Dd:Nat → Prop} {x d m kb:Nat} {l:Lg} {k:Dk} {T:Nat → Nat} (h:LogAt w D x d m l) (hd:DiskAt w Dd d kb k) (hT:Half w T) (hap:∀ b,D b → ¬ Dd b) (hk:k.Near (2^29)) (epoch len:Nat) (he:epoch < 2^60) (hl:len < 2^32) :
  Calls Tryz.prog 117 #[.pointer (some ⟨x,0,none⟩),.int .i64 (epoch:Int),.int .i64 (len:Int)] w fun e w'=>e = .returned (.int .i64 ((k.logHead (crc T) epoch len).1:Int)) ∧ DiskAt w' (Grow Dd w w') d kb (k.logHead (crc T) epoch len).2 ∧ Ext Dd w w':=by
 obtain ⟨H,hH⟩:∃ H,H = headOf (crc T) epoch len:=⟨_,rfl⟩
 have HHD:=Lib.hid (fun w hT=>lg_head T w hT epoch len he hl)
 rw [← hH] at HHD
 have hlen:H.length = 64:=by rw [hH];exact head_len _ _ _
 have e0:k.logHead (crc T) epoch len = if (k.write 0 H).1 ≠ 0 then k.write 0 H else (k.write 0 H).2.flush:=by unfold Dk.logHead;rw [hH]
 rw [e0]
 have hn1:0 < k.n:=hd.n1
 have HW:=Lib.hid (fun (w:World) (hd:DiskAt w Dd d kb k)=>dk_write hd 0 hn1 H (by omega) (by have:=hk.1;omega) (by have:=hk.2.1;omega) (by have:=hk.2.2;omega))
 have hk1:=Dk.write_near hk 0 H
 have HF:=Lib.hid (fun (w:World) (D:Nat → Prop) (hd:DiskAt w D d kb (k.write 0 H).2)=>dk_flush hd (by have:=hk1.1;omega) (by have:=hk1.2.1;omega) (by have:=hk1.2.2;omega))
 have HL:=Lib.hid h;have HDD:=Lib.hid hd;have HTT:=Lib.hid hT;have HAP:=Lib.hid hap
 have HSO:=Lib.hid hd.old
 obtain ⟨_,_,_,_,_,_,_,c0,c1,_,_,_,_,_,_,hlt,_⟩:=h.c
 clear h hd hT hap e0 hH hk hk1
 generalize k.write 0 H = kw at *
 obtain ⟨R,hR⟩:∃ R,R = if kw.1 ≠ 0 then kw else kw.2.flush:=⟨_,rfl⟩
 rw [← hR]
 have HR:=Lib.hid hR
 clear hR
 have HC0:=Lib.hid c0;have HC1:=Lib.hid c1
 go_enter Tryz.func117,Tryz.ntmps117
 go_upto_region 1 with fail
 clear c0 c1
 have hs1:w.drew.cell? ⟨x,0,none⟩ = some (.pointer (some ⟨d,0,none⟩)):=cell_ext ((Ext.refl No w).drew) HC0.out (fun h=>h)
 have hs2:w.drew.cell? ⟨x,1,none⟩ = some (.int .i64 0):=cell_ext ((Ext.refl No w).drew) HC1.out (fun h=>h)
 have hx0:Ext No w w.drew:=(Ext.refl No w).drew
 have HX0:=Lib.hid hx0
 have HT1:=Lib.hid (HTT.out.ext hx0 (fun h=>h))
 have HNX:Hid (¬ Dd x):=Lib.hid (HAP.out x HL.out.xx)
 clear hx0
 go_region_held3 (fun w'=>w'.cell? ⟨x,0,none⟩ = some (.pointer (some ⟨d,0,none⟩)) ∧ w'.cell? ⟨x,1,none⟩ = some (.int .i64 0)) (first | exact ⟨hs1,hs2⟩ | exact ⟨cell_ext hx3 (cell_ext (HX0.out.trans_ hx2) HC0.out (fun h=>h)) HNX.out,cell_ext hx3 (cell_ext (HX0.out.trans_ hx2) HC1.out (fun h=>h)) HNX.out⟩ | exact ⟨cell_ext (HX0.out.trans_ hx2) HC0.out (fun h=>h),cell_ext (HX0.out.trans_ hx2) HC1.out (fun h=>h)⟩) (first
  | (go_at_call 122;refine (HHD.out _ HT1.out).mono ?_;rintro e w2 ⟨rfl,hx2⟩)
  | (go_at_call 161;refine (HW.out _ (HDD.out.ext (HX0.out.trans_ hx2) (fun _ _ h=>h))).mono ?_;rintro e w3 ⟨rfl,hd3,hx3⟩))
 have HX2:=Lib.hid (HX0.out.trans_ hx2)
 have HX3:=Lib.hid ((HX2.out.of_no).trans_ hx3)
 have HD3:=Lib.hid hd3
 have c3:=cell_ext hx3 (cell_ext HX2.out HC0.out (fun h=>h)) HNX.out
 have hsz3:=hx3.size
 clear hd3 hx2 hs1 hs2
 by_cases hc:kw.1 = 0
 ·have hR:R = kw.2.flush:=by rw [HR.out,if_neg (by omega)]
  have hc0:(kw.1:Int) = 0:=by omega
  rw [hc0]
  have HR2:=Lib.hid hR
  clear hR
  have hxlt:x < w3.heap.size:=by have:=HX3.out.size;omega
  clear hc hc0 hx3
  go_wp2_with fail
  refine (HF.out _ _ HD3.out).mono ?_
  rintro e w4 ⟨rfl,hd4,hx4⟩
  go_wp2_with fail
  go_ret
  rw [HR2.out]
  exact ⟨rfl,hd4.mono (fun b hb=>Grow.of HX2.out.size hx4.size hb) (Grow.old HSO.out (Nat.le_trans HX3.out.size hx4.size)),HX3.out.trans hx4 (fun b hb hg=>Grow.back HX2.out.size hb hg)⟩
 ·have hR:R = kw:=by rw [HR.out,if_pos hc]
  have HR2:=Lib.hid hR
  clear hR
  have hc0:((kw.1:Int) == 0) = false:=by simp;omega
  have hc1:((kw.1:Int) != 0) = true:=by simp;omega
  clear hc hx3
  go_wp2_with fail
  go_ret
  rw [HR2.out]
  exact ⟨rfl,HD3.out.mono (fun b hb=>Grow.of HX2.out.size (Nat.le_refl _) hb) (Grow.old HSO.out HX3.out.size),HX3.out⟩
theorem wrap_tiny (a:Int) (h0:0 ≤ a) (h1:a < 1099511627776):IntKind.i64.wrap a = a:=by
 rw [wrapEq];unfold wrap64;omega
theorem conv_part {w:World} {g c o n:Nat} {all:Bs} (hA:∀ j u,(bcs all)[j]? = some u → w.cell? ⟨g,j,none⟩ = some u) (ho:o < all.length) (hn:n = ((all.drop o).take 64).length):(convert 98 9 (.slice (some ⟨g,o,none⟩) n c)).run Tryz.prog w = .ok (.string (str ((all.drop o).take 64))) w:=by
 have h1:=run_convert_bytes_back (P:=Tryz.prog) w 98 9 5 ⟨g,o,none⟩ c ((all.drop o).take 64) Tryz.underlying98 Tryz.underlying5 Tryz.underlying9 (fun j hj=>by
  rw [Addr.add_none]
  refine hA (o + j) _ ?_
  rw [List.length_take,List.length_drop] at hj
  simp [bcs,List.getElem?_eq_getElem (show o + j < all.length by omega)])
 rw [← hn] at h1
 exact h1
def lays (q N j:Nat) (all:Bs):List (Nat × Bs):=rowOf (1 + q + j) (cutS (N - j) (all.drop ((q + j) * 64)))
theorem lays_next {q N j:Nat} {all:Bs} (h:j < N):lays q N j all = (1 + q + j,(all.drop ((q + j) * 64)).take 64) :: lays q N (j + 1) all:=by
 unfold lays
 obtain ⟨n,hn⟩:∃ n,N - j = n + 1:=⟨N - j - 1,by omega⟩
 rw [hn,show N - (j + 1) = n by omega,cutS,rowOf,List.drop_drop,show 1 + q + j + 1 = 1 + q + (j + 1) by omega,show (q + j) * 64 + 64 = (q + (j + 1)) * 64 by omega]
theorem lays_end {q N j:Nat} {all:Bs} (h:N ≤ j):lays q N j all = []:=by
 unfold lays
 rw [show N - j = 0 by omega];rfl
theorem lg_lay {w:World} {D Dd:Nat → Prop} {x d m kb g c:Nat} {l:Lg} {k:Dk} (h:LogAt w D x d m l) (hd:DiskAt w Dd d kb k) (hap:∀ b,D b → ¬ Dd b) (hk:k.Near (2^28)) (all:Bs) (hA:∀ j u,(bcs all)[j]? = some u → w.cell? ⟨g,j,none⟩ = some u) (hg:¬ Dd g) (hgl:g < w.heap.size) (hc:all.length ≤ c) (hfit:all.length ≤ 64 * (m - 1)) (hbl:l.bytes.length ≤ all.length) (hmn:m ≤ k.n) :
  Calls Tryz.prog 116 #[.pointer (some ⟨x,0,none⟩),.slice (some ⟨g,0,none⟩) all.length c] w fun e w'=>e = .returned (.int .i64 ((k.logLay l.bytes all).1:Int)) ∧ DiskAt w' (Grow Dd w w') d kb (k.logLay l.bytes all).2 ∧ Ext Dd w w':=by
 obtain ⟨q,hq⟩:∃ q,q = l.bytes.length / 64:=⟨_,rfl⟩
 obtain ⟨N,hN⟩:∃ N,N = (all.length + 63) / 64 - q:=⟨_,rfl⟩
 have e0:k.logLay l.bytes all = if (k.writes (lays q N 0 all)).1 ≠ 0 then k.writes (lays q N 0 all) else (k.writes (lays q N 0 all)).2.flush:=by
  unfold Dk.logLay lays
  rw [← hq,← hN,Nat.sub_zero,Nat.add_zero,Nat.add_zero]
 obtain ⟨R,hR⟩:∃ R,R = k.logLay l.bytes all:=⟨_,rfl⟩
 rw [← hR]
 rw [e0] at hR
 have HR:=Lib.hid hR
 have HL:=Lib.hid h;have HDD:=Lib.hid hd;have HAP:=Lib.hid hap;have HA:=Lib.hid hA
 have HSO:=Lib.hid hd.old
 have hm1:=h.m1;have hm2:=h.m2
 have HNX:Hid (¬ Dd x):=Lib.hid (hap x h.xx)
 have HNG:=Lib.hid hg
 have HGL:=Lib.hid hgl
 have HK:=Lib.hid hk
 have HMN:=Lib.hid hmn
 have hql:((l.bytes.length:Nat):Int) / 64 = (q:Int):=by omega
 have hqb:l.bytes.length / 64 = q:=hq.symm
 obtain ⟨Ab,cb,_,_,_,_,_,c0,c1,_,_,c4,_,_,_,hlt,_⟩:=h.c
 obtain ⟨L,hL⟩:∃ L,L = l.bytes.length:=⟨_,rfl⟩
 rw [← hL] at c4 hql hqb hbl
 have hbig:(L:Int) < 9223372036854775807:=by
  omega
 have HC0:=Lib.hid c0;have HC1:=Lib.hid c1
 have hal:(all.length:Int) ≤ 4194304:=by omega
 clear h hd hap hA hg hk hmn e0 hR hq hL
 go_enter Tryz.func116,Tryz.ntmps116
 go_wp2_with fail
 clear c4 c0 c1
 have HFIT:Hid (all.length ≤ 64 * (m - 1) ∧ L ≤ all.length ∧ L / 64 = q ∧ N = (all.length + 63) / 64 - q ∧ 2 ≤ m ∧ m ≤ 65536):=Lib.hid ⟨hfit,hbl,hqb,hN,hm1,hm2⟩
 clear hfit hbl hqb hN hm1 hm2 hql hbig
 go_loopg [5] N (fun gk q5 wr=>∃ (j:Nat) (k':Dk),j + gk = N ∧ q5 = .int .i64 (((q + j) * 64:Nat):Int) ∧ Hid (k.writes (lays q N 0 all) = k'.writes (lays q N j all)) ∧ Hid (DiskAt wr (Grow Dd w wr) d kb k') ∧ Hid (Ext Dd w wr) ∧ Hid (k'.Near (2^28 + j)) ∧ Hid (k'.n = k.n))
 case atStart=>exact ⟨0,k,by omega,by go_num,Lib.hid rfl,Lib.hid (HDD.out.mono (fun _ hb=>.inl hb) (Grow.old HSO.out (Nat.le_refl _))),Lib.hid (Ext.refl _ _),HK,Lib.hid rfl⟩
 case round =>
  obtain ⟨j,k',hj,rfl,HWL,HD,HX,HNR,HKN⟩:=hrel
  have HJ:=Lib.hid hj
  by_cases hjn:j < N
  ·have HJN:=Lib.hid hjn
   obtain ⟨o,ho⟩:∃ o,o = (q + j) * 64:=⟨_,rfl⟩
   obtain ⟨f1,f2,f3,f4,f5,f6⟩:=HFIT.out
   have hol:o < all.length:=by omega
   obtain ⟨e,he⟩:∃ e,e = min (o + 64) all.length:=⟨_,rfl⟩
   have hoe:o ≤ e:=by omega
   have hel:e ≤ all.length:=by omega
   have hmin:min ((o:Int) + 64) (all.length:Int) = (e:Int):=by omega
   have HNG2:Hid (¬ Grow Dd w wr g):=Lib.hid (fun hg=>by
    rcases hg with hg | hg
    ·exact HNG.out hg
    ·have:=HGL.out;omega)
   have hA2:∀ j u,(bcs all)[j]? = some u → wr.drew.cell? ⟨g,j,none⟩ = some u:=fun j u hu=>cell_ext HX.out.drew (HA.out j u hu) HNG.out
   have HCV:=Lib.hid (fun (w':World) (hA2:∀ j u,(bcs all)[j]? = some u → w'.cell? ⟨g,j,none⟩ = some u)=>conv_part (c:=all.length - o) hA2 hol (n:=e - o) (by rw [List.length_take,List.length_drop];omega))
   have HA2:=Lib.hid hA2
   rw [← ho]
   have g1:(0:Int) ≤ o:=by omega
   have g2:(o:Int) ≤ e:=by omega
   have g3:(e:Int) ≤ all.length:=by omega
   have g4:(o:Int) < all.length:=by omega
   have g5:(all.length:Int) ≤ c:=by omega
   have HO:=Lib.hid ho
   have HE:=Lib.hid (And.intro hoe (And.intro hel hol))
   clear hj ho he f1 f2 f3 f4 f5 f6 hA2 hc hoe hel hol
   obtain ⟨i1,hi1⟩:∃ i1,i1 = 1 + q + j:=⟨_,rfl⟩
   have hadd:(1:Int) + (o:Int) / 64 = (i1:Int):=by have:=HO.out;omega
   have hob:(o:Int) / 64 < 65537:=by have:=HE.out;omega
   have hob0:(0:Int) ≤ (o:Int) / 64:=by omega
   have hw1:IntKind.i64.wrap 1 = 1:=by decide
   have hw2:IntKind.i64.wrap ((o:Int) / 64) = (o:Int) / 64:=wrap_tiny _ (by omega) (by omega)
   have hw3:IntKind.i64.wrap (1 + (o:Int) / 64) = (i1:Int):=by rw [← hadd];exact wrap_tiny _ (by omega) (by omega)
   clear hadd hob hob0
   obtain ⟨S,hS⟩:∃ S,S = (all.drop o).take 64:=⟨_,rfl⟩
   have hsl:S.length ≤ 64:=by rw [hS,List.length_take];omega
   rw [← hS] at HCV
   have hin:i1 < k'.n:=by
    have h1:=HFIT.out;have h2:=HKN.out;have h3:=HMN.out
    omega
   have HW:=Lib.hid (dk_write (HD.out.ext ((Ext.refl No wr).drew) (fun _ _ h=>h)) i1 hin S hsl (by have:=HNR.out.1;have:=HFIT.out;omega) (by have:=HNR.out.2.1;have:=HFIT.out;omega) (by have:=HNR.out.2.2;have:=HFIT.out;omega))
   have hk1:=Lib.hid (Dk.write_near HNR.out i1 S)
   have hkn1:=Lib.hid ((Dk.write_n k' i1 S).trans HKN.out)
   have HNXT:Hid (k'.writes (lays q N j all) = if (k'.write i1 S).1 ≠ 0 then k'.write i1 S else (k'.write i1 S).2.writes (lays q N (j + 1) all)):=Lib.hid (by
    rw [lays_next hjn,← HO.out,← hS,← hi1];rfl)
   generalize k'.write i1 S = kw at *
   have hs1:wr.drew.cell? ⟨x,0,none⟩ = some (.pointer (some ⟨d,0,none⟩)):=cell_ext HX.out.drew HC0.out HNX.out
   have hs2:wr.drew.cell? ⟨x,1,none⟩ = some (.int .i64 0):=cell_ext HX.out.drew HC1.out HNX.out
   have hs3:=HCV.out _ HA2.out
   have HS1:=Lib.hid hs1;have HS2:=Lib.hid hs2
   have HNX2:Hid (¬ Grow Dd w wr x):=Lib.hid (fun hg=>by
    rcases hg with hg | hg
    ·exact HNX.out hg
    ·omega)
   have hxr:x < wr.heap.size:=by have:=HX.out.size;omega
   clear hi1 hS hin hjn
   go_upto_region 5 with fail
   go_region_held3 (fun w'=>w'.cell? ⟨x,0,none⟩ = some (.pointer (some ⟨d,0,none⟩)) ∧ w'.cell? ⟨x,1,none⟩ = some (.int .i64 0) ∧ (convert 98 9 (.slice (some ⟨g,o,none⟩) (e - o) (all.length - o))).run Tryz.prog w' = .ok (.string (str S)) w') (first | exact ⟨hs1,hs2,hs3⟩ | exact ⟨cell_ext hx3 HS1.out HNX2.out,cell_ext hx3 HS2.out HNX2.out,HCV.out _ (fun j u hu=>cell_ext hx3 (HA2.out j u hu) HNG2.out)⟩) (first
    | (go_at_call 161;refine (HW.out).mono ?_;rintro e w3 ⟨rfl,hd3,hx3⟩))
   have HXX:=Lib.hid (HX.out.trans ((Ext.refl (Grow Dd w wr) wr).drew.trans_ hx3) (fun b hb hg=>Grow.back (Nat.le_refl _) hb hg))
   have hsz:=hx3.size
   have hszd:wr.drew.heap.size = wr.heap.size:=rfl
   have HD3:=Lib.hid (hd3.mono (D':=Grow Dd w w3) (fun b hb=>Grow.trans (w1:=wr) HX.out.size (by omega) (by rcases hb with hb | hb;exact .inl hb;exact .inr ⟨by omega,hb.2⟩)) (Grow.old HSO.out HXX.out.size))
   clear hd3 hx3 hs1 hs2 hs3 hw1 hw2 hw3
   by_cases hc:kw.1 = 0
   ·have hW2:Hid (k.writes (lays q N 0 all) = kw.2.writes (lays q N (j + 1) all)):=Lib.hid (by rw [HWL.out,HNXT.out,if_neg (by omega)])
    have hc0:(kw.1:Int) = 0:=by omega
    rw [hc0]
    have hmb:(o:Int) < 4194304:=by omega
    clear hc hc0 HWL HNXT
    go_wp2_with fail
    go_roundg (gk - 1)
    case rel=>exact ⟨j + 1,kw.2,by have:=HJ.out;have:=HJN.out;omega,by have:=HO.out;go_num,hW2,HD3,HXX,hk1,hkn1⟩
    case measure=>have:=HJ.out;have:=HJN.out;omega
   ·have hRk:R = kw:=by rw [HR.out,HWL.out,HNXT.out,if_pos hc,if_pos hc]
    have HRK:=Lib.hid hRk
    have hc0:((kw.1:Int) != 0) = true:=by simp;omega
    clear hc hRk
    go_wp2_with fail
    go_ret
    rw [HRK.out]
    exact ⟨rfl,HD3.out,HXX.out⟩
  ·have hjN:j = N:=by omega
   obtain ⟨f1,f2,f3,f4,f5,f6⟩:=HFIT.out
   have hge:¬ ((((q + j) * 64:Nat):Int) < (all.length:Int)):=by omega
   have hk9:k.writes (lays q N 0 all) = (0,k'):=by rw [HWL.out,lays_end (by omega)];rfl
   have HR9:Hid (R = k'.flush):=Lib.hid (by rw [HR.out,hk9];rfl)
   have HFL:=Lib.hid (dk_flush HD.out (by have:=HNR.out.1;omega) (by have:=HNR.out.2.1;omega) (by have:=HNR.out.2.2;omega))
   have hc9:=cell_ext HX.out HC0.out HNX.out
   have hxlt:x < wr.heap.size:=by have:=HX.out.size;omega
   generalize (((q + j) * 64:Nat):Int) = oo at *
   clear hj hjN f1 f2 f3 f4 f5 f6 hk9 hjn
   go_wp2_with fail
   refine (HFL.out).mono ?_
   rintro e w4 ⟨rfl,hd4,hx4⟩
   go_wp2_with fail
   go_ret
   rw [HR9.out]
   exact ⟨rfl,hd4.mono (fun b hb=>Grow.of (Nat.le_refl _) hx4.size hb) (Grow.old HSO.out (Nat.le_trans HX.out.size hx4.size)),HX.out.trans hx4 (fun b hb hg=>Grow.back (Nat.le_refl _) hb hg)⟩
theorem LogAt.anew {w:World} {D:Nat → Prop} {x d m:Nat} {l:Lg} (h:LogAt w D x d m l):LogAt (((w.setCell ⟨x,3,none⟩ (.int .i64 ((l.epoch:Int) + 1))).setCell ⟨x,4,none⟩ (.slice none 0 0)).setCell ⟨x,5,none⟩ (.slice none 0 0)) D x d m { l with epoch:=l.epoch + 1,bytes:=[],recs:=[] }:=by
 obtain ⟨Ab,cb,Ar,cr,Ap,cp,h1,h2,h3,h4,h5⟩:=h.cells
 have hx:Ext (On x) w (((w.setCell ⟨x,3,none⟩ (.int .i64 ((l.epoch:Int) + 1))).setCell ⟨x,4,none⟩ (.slice none 0 0)).setCell ⟨x,5,none⟩ (.slice none 0 0)):=(((Ext.refl _ _).setF (F:=On x) rfl 3 _).setF (F:=On x) rfl 4 _).setF (F:=On x) rfl 5 _
 refine ⟨⟨none,0,none,0,Ap,cp,((h1.set_ 3 _).set_ 4 _).set_ 5 _,⟨⟨rfl,.inl ⟨rfl,rfl⟩⟩,fun g hg=>by cases hg⟩,⟨⟨rfl,.inl ⟨rfl,rfl⟩⟩,fun g hg=>by cases hg⟩,h4.ext hx (fun b _ hne=>hne),fun g hg=>by cases hg⟩,h.xx,fun b hb=>Nat.lt_of_lt_of_le (h.old b hb) hx.size,h.m1,h.m2⟩
theorem lg_reset {w:World} {D Dd:Nat → Prop} {x d m kb:Nat} {l:Lg} {k:Dk} {T:Nat → Nat} (h:LogAt w D x d m l) (hd:DiskAt w Dd d kb k) (hT:Half w T) (h0:¬ Dd 0) (hap:∀ b,D b → ¬ Dd b) (hk:k.Near (2^29)) (he:l.epoch < 2^59) (hl:l.lost = false) (hp:l.pend = []) :
  Calls Tryz.prog 111 #[.pointer (some ⟨x,0,none⟩)] w fun e w'=>e = .returned (.int .i64 ((k.logHead (crc T) (l.epoch + 1) 0).1:Int)) ∧ DiskAt w' (Grow Dd w w') d kb (k.logHead (crc T) (l.epoch + 1) 0).2 ∧
   LogAt w' D x d m (if (k.logHead (crc T) (l.epoch + 1) 0).1 ≠ 0 then { l with lost:=true } else { l with epoch:=l.epoch + 1,bytes:=[],recs:=[] }) ∧ Ext (fun b=>Dd b ∨ On x b) w w':=by
 have HU:=Lib.hid (lg_up h)
 rw [hl] at HU
 have HW:=Lib.hid (lg_write h hd hT hap hk (l.epoch + 1) 0 (by omega) (by omega))
 have HL:=Lib.hid h
 have HAP:=Lib.hid hap
 have HSO:=Lib.hid hd.old
 have hxx:=hap x h.xx
 obtain ⟨R,hR⟩:∃ R,R = k.logHead (crc T) (l.epoch + 1) 0:=⟨_,rfl⟩
 rw [← hR] at HW ⊢
 obtain ⟨l9,h9⟩:∃ l9:Lg,l9 = (if R.1 ≠ 0 then { l with lost:=true } else { l with epoch:=l.epoch + 1,bytes:=[],recs:=[] }):=⟨_,rfl⟩
 rw [← h9]
 have H9:=Lib.hid h9
 clear h9
 obtain ⟨Ab,cb,Ar,cr,Ap,cp,_,c0,_,_,c3,c4,_,c6,_,hlt,hfz⟩:=h.c
 rw [hp] at c6
 have f3:=hfz 3
 have heb:(l.epoch:Int) < 576460752303423488:=by omega
 have hne:((l.epoch:Int) == 4611686018427387904) = false:=by simp;omega
 rw [show ((l.epoch + 1:Nat):Int) = (l.epoch:Int) + 1 by omega] at HW
 have hwp:IntKind.i64.wrap ((l.epoch:Int) + 1) = (l.epoch:Int) + 1:=by rw [wrapEq];unfold wrap64;omega
 have HNX:Hid (¬ Dd x):=Lib.hid hxx
 have HC3:=Lib.hid c3
 have HLL:=Lib.hid hl
 clear h hd hT hap hk hR hfz hp hl
 go_enter Tryz.func111,Tryz.ntmps111
 go_wp2_with fail
 refine (HU.out).mono ?_
 rintro e w1 ⟨rfl,rfl⟩
 go_wp2_with fail
 refine (HW.out).mono ?_
 rintro e w2 ⟨rfl,hd2,hx2⟩
 have HD2:=Lib.hid hd2;have HX2:=Lib.hid hx2
 have HL2:=Lib.hid (HL.out.ext hx2 HAP.out)
 have HLO:=Lib.hid (lg_lose HL2.out R.1 HLL.out)
 clear hd2 hx2 c0 c3 c4 c6 f3
 go_wp2_with fail
 refine (HLO.out).mono ?_
 rintro e w3 ⟨rfl,hl3,hx3⟩
 have HL3:=Lib.hid hl3
 have hnd:∀ b,Grow Dd w w2 b → ¬ On x b:=fun b hb e=>by
  have e':b = x:=e
  subst e'
  rcases hb with hb | hb
  ·exact HNX.out hb
  ·omega
 have HD3:=Lib.hid (HD2.out.ext hx3 hnd)
 have HX3:Hid (Ext (fun b=>Dd b ∨ On x b) w w3):=Lib.hid ((HX2.out.mono (fun b _ hb=>.inl hb)).trans_ (hx3.mono (fun b _ hb=>.inr hb)))
 have hsz3:=hx3.size
 have hsz2:=HX2.out.size
 have HND:=Lib.hid hnd
 clear hl3 hnd hxx
 by_cases hc:R.1 = 0
 ·have hc0:(R.1:Int) = 0:=by omega
  have HCC:=Lib.hid hc
  have HL4:Hid (LogAt w3 D x d m l):=Lib.hid (by
   have:=HL3.out
   rw [hc] at this
   have e:({ l with lost:=decide ((0:Nat) ≠ 0) }:Lg) = l:=by
    have:=HLL.out
    cases l;simp_all
   rw [e] at this
   exact this)
  have HR4:=Lib.hid HL4.out.anew
  obtain ⟨_,_,_,_,_,_,_,_,_,_,y3,_,_,_,_,ylt,yfz⟩:=HL4.out.c
  have g3:=yfz 3
  have g4:=yfz 4
  have g5:=yfz 5
  rw [hc0]
  clear hc hc0 hx3 yfz
  go_wp2_with fail
  go_ret
  rw [H9.out,if_neg (by have:=HCC.out;omega)]
  refine ⟨by rw [HCC.out];rfl,?_,HR4.out,((HX3.out.setF (F:=fun b=>Dd b ∨ On x b) (.inr rfl) 3 _).setF (F:=fun b=>Dd b ∨ On x b) (.inr rfl) 4 _).setF (F:=fun b=>Dd b ∨ On x b) (.inr rfl) 5 _⟩
  have hx9:Ext (On x) w3 (((w3.setCell ⟨x,3,none⟩ (.int .i64 ((l.epoch:Int) + 1))).setCell ⟨x,4,none⟩ (.slice none 0 0)).setCell ⟨x,5,none⟩ (.slice none 0 0)):=(((Ext.refl _ _).setF (F:=On x) rfl 3 _).setF (F:=On x) rfl 4 _).setF (F:=On x) rfl 5 _
  exact (HD3.out.ext hx9 HND.out).mono (fun b hb=>Grow.of (Nat.le_refl _) (Nat.le_trans hsz3 hx9.size) hb) (Grow.old HSO.out (Nat.le_trans hsz2 (Nat.le_trans hsz3 hx9.size)))
 ·have hc0:((R.1:Int) != 0) = true:=by simp;omega
  have HCC:=Lib.hid hc
  have HL4:Hid (LogAt w3 D x d m { l with lost:=true }):=Lib.hid (by
   have:=HL3.out
   rw [show decide (R.1 ≠ 0) = true by simp [hc]] at this
   exact this)
  clear hc hx3
  go_wp2_with fail
  go_ret
  rw [H9.out,if_pos HCC.out]
  exact ⟨rfl,HD3.out.mono (fun b hb=>Grow.of (Nat.le_refl _) hsz3 hb) (Grow.old HSO.out (by omega)),HL4.out,HX3.out⟩
end Go.Proofs.YtccnemmlkcmceaaGreatDoor
