/- Proofs about the given program, joined out of the texts PG2, Z6, Z7. -/
import Derived.Test.YtccnemmlkcmceaaGreatDoorHE7
import Derived.Test.YtccnemmlkcmceaaGreatDoorHE9
import Derived.Test.YtccnemmlkcmceaaGreatDoorHE10
import Derived.Lib.BufferWrite
set_option linter.unusedVariables false
set_option linter.unusedSimpArgs false
set_option maxRecDepth 100000
set_option maxHeartbeats 6400000
namespace Go.Proofs.YtccnemmlkcmceaaGreatDoor
open Go.RowKit
theorem zero218_eq:Tryz.zeroCells218 = (bcs (zs 512)).toArray:=by kernel_rfl
theorem copy_body {W:World} {g:Nat} {L body:Bs} (h:Blk W g 218 (bcs L).toArray) (hL:L.length = 512) (hb:body.length ≤ 500) (ty:TypeId) :
  (Builtin.copy_ #[98,9] ty #[.slice (some ⟨g,8,none⟩) 504 504,.string (str body)]).run Tryz.prog W = .ok (goInt body.length) (W.setRow g (bcs (patch L 8 body)).toArray):=by
 have h5:(Tryz.prog.info? 5).map (·.size) = some 1:=by kernel_rfl
 have hs:(bcs L).toArray.size = 512:=by simp [bcs,hL]
 have h:=Lib.run_copy_row_string (P:=Tryz.prog) W 98 9 ty 5 g 8 504 504 (str body) (bcs L).toArray 218 Tryz.underlying98 h5 h (by rw [str_size];omega) (by rw [str_size,hs];omega)
 rw [str_size,str_toList] at h
 have e:bcs (patch L 8 body) = (bcs L).take 8 ++ bcs body ++ (bcs L).drop (8 + body.length):=by
  unfold patch
  rw [bcs_append,bcs_append,List.append_assoc]
  simp [bcs,List.map_take,List.map_drop]
 rw [e]
 exact h
theorem zs_split (a b:Nat):zs (a + b) = zs a ++ zs b:=by simp [zs]
theorem zs_drop (a b:Nat):(zs a).drop b = zs (a - b):=by simp [zs]
theorem seal_bytes {id kind:Nat} {body:Bs} (hb:body.length ≤ 500) :
  patch ((((patch (zs 512) 0 (n4 id)).set 4 (UInt8.ofNat kind)).set 6 (UInt8.ofNat (body.length % 256))).set 7 (UInt8.ofNat (body.length / 256))) 8 body = seal0 id kind body ++ zs 4:=by
 have h1:patch (zs 512) 0 (n4 id) = n4 id ++ ([0,0,0,0] ++ zs 504):=by
  unfold patch
  rw [List.take_zero,List.nil_append,zs_drop,n4_len,show 512 - (0 + 4) = 4 + 504 from rfl,zs_split]
  rfl
 have h2:(((patch (zs 512) 0 (n4 id)).set 4 (UInt8.ofNat kind)).set 6 (UInt8.ofNat (body.length % 256))).set 7 (UInt8.ofNat (body.length / 256)) = (n4 id ++ [UInt8.ofNat kind,0,UInt8.ofNat (body.length % 256),UInt8.ofNat (body.length / 256)]) ++ zs 504:=by
  rw [h1]
  generalize zs 504 = Z
  rfl
 rw [h2]
 have hl:(n4 id ++ [UInt8.ofNat kind,0,UInt8.ofNat (body.length % 256),UInt8.ofNat (body.length / 256)]).length = 8:=rfl
 unfold patch seal0
 rw [List.take_left' hl,← List.drop_drop,List.drop_left' hl,zs_drop,show 504 - body.length = (500 - body.length) + 4 by omega,zs_split]
 simp only [List.append_assoc]
theorem seal_any (T:Nat → Nat) (id kind:Nat) (body:Bs) (hid:id < 2147483648) (hk:1 ≤ kind ∧ kind ≤ 255) (hb:body.length ≤ 500) (w:World) (h:Half w T) :
  Calls Tryz.prog 104 #[.int .i64 (id:Int),.int .i64 (kind:Int),.string (str body)] w fun e w'=>e = .returned (.tuple #[.string (str (sealed (crc T) id kind body)),.int .i64 0]) ∧ Ext No w w':=by
 have HIS:=Lib.hid (fun w=>pis_any id hid w)
 obtain ⟨C,hC⟩:∃ C,C = sealed (crc T) id kind body:=⟨_,rfl⟩
 rw [← hC]
 have HC:=Lib.hid hC
 have k1:¬ ((kind:Int) < 1):=by omega
 have k2:¬ (255 < (kind:Int)):=by omega
 have b1:¬ (500 < (body.length:Int)):=by omega
 have HB:=Lib.hid hb;have HK:=Lib.hid hk;have HID:=Lib.hid hid
 have HT:=Lib.hid h
 have u1:IntKind.u32.wrap (id:Int) = (id:Int):=wrap_small32 id (by omega)
 clear h hC hid hk hb
 go_enter Tryz.func104,Tryz.ntmps104
 go_upto_region 5 with (go_at_call 128;refine (HIS.out _).mono ?_;rintro e w1 ⟨rfl,rfl⟩)
 go_upto_region 6 with fail
 rw [zero218_eq]
 have HB1:=Lib.hid (Blk.new w 218 (bcs (zs 512)).toArray)
 have HX1:=Lib.hid ((Ext.refl No w).alloc (.cells (bcs (zs 512)).toArray 218))
 obtain ⟨L0,hL0⟩:∃ L0,L0 = zs 512:=⟨_,rfl⟩
 rw [← hL0] at HB1 HX1 ⊢
 have hl0:L0.length = 512:=by rw [hL0,zs_len]
 have HL0:=Lib.hid hL0
 have hsz:(w.alloc (.cells (bcs L0).toArray 218)).heap.size = w.heap.size + 1:=by simp
 have HSZ:=Lib.hid hsz
 generalize w.alloc (.cells (bcs L0).toArray 218) = W at *
 have hgl:w.heap.size < W.heap.size:=by omega
 have HP1:=Lib.hid (pput_any id (by have:=HID.out;omega) W w.heap.size 0 512 512 L0 HB1.out (by omega) (by omega) (by omega) (by omega))
 have HLEN0:=Lib.hid hl0
 clear hL0 hl0 hsz
 go_wp2_with fail
 refine (HP1.out).mono ?_
 rintro e w2 ⟨rfl,hb2,hx2⟩
 obtain ⟨L1,hL1⟩:∃ L1,L1 = patch L0 0 (n4 id):=⟨_,rfl⟩
 rw [← hL1] at hb2
 have HB2:=Lib.hid hb2
 have HX2:=Lib.hid (HX1.out.trans hx2 (fun b hb e=>by have e':b = w.heap.size:=e;omega))
 have HL1:=Lib.hid hL1
 have hl1:L1.length = 512:=by rw [hL1,patch_len (by rw [HLEN0.out,n4_len];omega)];exact HLEN0.out
 have HLEN1:=Lib.hid hl1
 have s4:(w2.cell? ⟨w.heap.size,4,none⟩).isSome = true:=by rw [hb2.cell,bcs_get];simp;omega
 have s6:(w2.cell? ⟨w.heap.size,6,none⟩).isSome = true:=by rw [hb2.cell,bcs_get];simp;omega
 have s7:(w2.cell? ⟨w.heap.size,7,none⟩).isSome = true:=by rw [hb2.cell,bcs_get];simp;omega
 obtain ⟨v4,k4⟩:=Option.isSome_iff_exists.1 s4
 obtain ⟨v6,k6⟩:=Option.isSome_iff_exists.1 s6
 obtain ⟨v7,k7⟩:=Option.isSome_iff_exists.1 s7
 have f:=hb2.frozen
 have lg:=hb2.lt
 clear hL1 hl1 hb2 hx2 s4 s6 s7 HP1
 go_upto_region 8 with fail
 obtain ⟨L2,hL2⟩:∃ L2,L2 = ((L1.set 4 (UInt8.ofNat kind)).set 6 (UInt8.ofNat (body.length % 256))).set 7 (UInt8.ofNat (body.length / 256)):=⟨_,rfl⟩
 have HL2:=Lib.hid hL2
 have e4:(kind:Int) = ((UInt8.ofNat kind).toNat:Int):=by rw [UInt8.toNat_ofNat'];have:=HK.out;omega
 have e6:((body.length:Int) % 256) = ((UInt8.ofNat (body.length % 256)).toNat:Int):=by rw [UInt8.toNat_ofNat'];omega
 have e7:((body.length:Int) / 256) = ((UInt8.ofNat (body.length / 256)).toNat:Int):=by rw [UInt8.toNat_ofNat'];have:=HB.out;omega
 have HB3:Hid (Blk (((w2.setCell ⟨w.heap.size,4,none⟩ (.int .u8 (kind:Int))).setCell ⟨w.heap.size,6,none⟩ (.int .u8 ((body.length:Int) % 256))).setCell ⟨w.heap.size,7,none⟩ (.int .u8 ((body.length:Int) / 256))) w.heap.size 218 (bcs L2).toArray):=Lib.hid (by
  rw [e4,e6,e7,HL2.out,← bcs_set,← bcs_set,← bcs_set]
  exact (((HB2.out.set_ _ _).set_ _ _).set_ _ _))
 have HX3:Hid (Ext No w (((w2.setCell ⟨w.heap.size,4,none⟩ (.int .u8 (kind:Int))).setCell ⟨w.heap.size,6,none⟩ (.int .u8 ((body.length:Int) % 256))).setCell ⟨w.heap.size,7,none⟩ (.int .u8 ((body.length:Int) / 256)))):=Lib.hid (((HX2.out.setNew (Nat.le_refl _) _ _).setNew (Nat.le_refl _) _ _).setNew (Nat.le_refl _) _ _)
 have hl2:L2.length = 512:=by rw [hL2];simp only [List.length_set];exact HLEN1.out
 have HLEN2:=Lib.hid hl2
 clear e4 e6 e7 hL2 k4 k6 k7 f lg
 generalize (((w2.setCell ⟨w.heap.size,4,none⟩ (.int .u8 (kind:Int))).setCell ⟨w.heap.size,6,none⟩ (.int .u8 ((body.length:Int) % 256))).setCell ⟨w.heap.size,7,none⟩ (.int .u8 ((body.length:Int) / 256))) = W3 at *
 have hcp:=copy_body HB3.out hl2 HB.out 3
 obtain ⟨L3,hL3⟩:∃ L3,L3 = patch L2 8 body:=⟨_,rfl⟩
 rw [← hL3] at hcp
 have HL3:=Lib.hid hL3
 have hl3:L3.length = 512:=by rw [hL3,patch_len (by have:=HB.out;omega)];exact hl2
 have HLEN3:=Lib.hid hl3
 have lg3:=HB3.out.lt
 clear hL3 hl2 hl3
 go_upto_region 9 with fail
 have HB4:Hid (Blk (W3.setRow w.heap.size (bcs L3).toArray) w.heap.size 218 (bcs L3).toArray):=Lib.hid (setRow_heap W3 w.heap.size _ _ _ _ HB3.out)
 have HX4:Hid (Ext No w (W3.setRow w.heap.size (bcs L3).toArray)):=Lib.hid (HX3.out.trans (G:=fun b=>b = w.heap.size) ⟨rfl,rfl,rfl,by simp,fun b _ hb=>setRow_other W3 w.heap.size b _ hb⟩ (fun b hb e=>by have e':b = w.heap.size:=e;omega))
 clear hcp lg3
 generalize W3.setRow w.heap.size (bcs L3).toArray = W4 at *
 obtain ⟨S,hS⟩:∃ S,S = seal0 id kind body:=⟨_,rfl⟩
 have HS:=Lib.hid hS
 have hSl:S.length = 508:=by rw [hS];exact seal0_len HB.out
 have HL3S:Hid (L3 = S ++ zs 4):=Lib.hid (by rw [HL3.out,HL2.out,HL1.out,HL0.out,HS.out];exact seal_bytes HB.out)
 obtain ⟨CS,hCS⟩:∃ CS,CS = crc T S:=⟨_,rfl⟩
 have HCS:=Lib.hid hCS
 have hlt4:w.heap.size < W4.heap.size:=HB4.out.lt
 have HSUM:Hid (∀ c w',Ext No W4 w' → Calls Tryz.prog 126 #[.slice (some ⟨w.heap.size,0,none⟩) 508 c] w' fun e w''=>e = .returned (.int .u32 (CS:Int)) ∧ w' = w''):=Lib.hid (fun c w' hx=>by
  have hHT:=HT.out.ext (HX4.out.trans_ hx) (fun h=>h)
  have h1:=sum_any T w' hHT (some ⟨w.heap.size,0,none⟩) S c ⟨by rw [bcs_len];omega,fun _=>⟨w.heap.size,0,rfl,fun h=>h,fun j u hu=>by
   rw [Nat.zero_add,(HB4.out.ext hx (fun h=>h)).cell j]
   have hj:=(List.getElem?_eq_some_iff.1 hu).1
   rw [bcs_len] at hj
   rw [bcs_get,HL3S.out,List.getElem?_append_left hj]
   rw [← hu];simp [bcs]⟩⟩ (by omega)
  rw [hSl,← hCS] at h1
  exact h1)
 have hCSl:CS < 4294967296:=by rw [hCS];exact crc_lt HT.out.lt S
 have HPUT:Hid (∀ w',Ext No W4 w' → Calls Tryz.prog 154 #[.slice (some ⟨w.heap.size,508,none⟩) 4 4,.int .u32 (CS:Int)] w' fun e w''=>e = .returned (.tuple #[]) ∧ Blk w'' w.heap.size 218 (bcs (patch L3 508 (n4 CS))).toArray ∧ Ext (fun b=>b = w.heap.size) w' w''):=Lib.hid (fun w' hx=>pput_any CS hCSl w' w.heap.size 508 4 4 L3 (HB4.out.ext hx (fun h=>h)) (by rw [HLEN3.out];omega) (by omega) (by omega) (by rw [HLEN3.out];omega))
 clear hS hSl hCS hCSl
 go_region_with (first | (go_at_call 126;refine (HSUM.out _ _ (by first | exact (Ext.refl No _).drew | exact Ext.refl _ _)).mono ?_;rintro e w5 ⟨rfl,rfl⟩) | (go_at_call 154;refine (HPUT.out _ (by first | exact (Ext.refl No _).drew | exact Ext.refl _ _)).mono ?_;rintro e w6 ⟨rfl,hb6,hx6⟩))
 have HB6:Hid (Blk w6 w.heap.size 218 (bcs C).toArray):=Lib.hid (by
  have e:patch L3 508 (n4 CS) = C:=by
   rw [HL3S.out,HC.out,HCS.out,HS.out]
   have hl:(seal0 id kind body).length = 508:=seal0_len HB.out
   unfold patch sealed
   rw [List.take_left' hl,n4_len,List.drop_eq_nil_of_le (by rw [List.length_append,hl,zs_len];omega),List.append_nil]
  rw [← e];exact hb6)
 have hCl:C.length = 512:=by rw [HC.out];exact sealed_len HB.out
 have HX6:Hid (Ext No w w6):=Lib.hid ((HX4.out.drew).trans hx6 (fun b hb e=>by have e':b = w.heap.size:=e;omega))
 have hcv:(convert 98 9 (.slice (some ⟨w.heap.size,0,none⟩) 512 512)).run Tryz.prog w6 = .ok (.string (str C)) w6:=by
  have h1:=run_convert_bytes_back (P:=Tryz.prog) w6 98 9 5 ⟨w.heap.size,0,none⟩ 512 C Tryz.underlying98 Tryz.underlying5 Tryz.underlying9 (fun j hj=>by
   rw [Addr.add_none,Nat.zero_add,HB6.out.cell j,bcs_get,List.getElem?_eq_getElem hj];rfl)
  rw [hCl] at h1
  exact h1
 have lg6:=HB6.out.lt
 clear hb6 hx6 hCl
 go_wp2_with fail
 go_ret2
 exact ⟨rfl,HX6.out⟩
theorem newDb_up (w:World) (kb d l x n log:Nat) (o:Option Addr) (h:NewDb w kb d l x n log o) (hn:1 ≤ n) :
  Calls Tryz.prog 74 #[.pointer (some ⟨x,0,none⟩)] w fun e w'=>e = .returned (.int .i64 0) ∧ w = w':=by
 exact xup_any x d n ⟨kb,0,none⟩ w false false (h.disk.cell 0) hn (h.disk.cell 2) (h.db.cell 0) (h.db.cell 11)
def newSys (kb d l x n log t:Nat) (m:Nat):Sys:=⟨d,x,t,m,⟨kb,0,none⟩,n,log,fun w=>NewDb w kb d l x n log (some ⟨t,0,none⟩),1,fun _=>⟨0,[]⟩,fun _=>str []⟩
def v0:V:=⟨fun _=>0,1,0,0,fun _=>⟨0,[]⟩,false,false⟩
theorem v0_good:v0.Good:=⟨[],by simp,rfl,rfl,fun a=>by simp only [v0];constructor <;> (intro h;first | (obtain ⟨h1,h2,_⟩:=h;omega) | cases h),fun k a h=>by simp at h,by decide,by decide,fun a h1 h2=>by simp [v0]⟩
theorem NewDb.ext {F:Nat → Prop} {w w':World} {kb d l x n log:Nat} {o:Option Addr} (h:NewDb w kb d l x n log o) (he:Ext F w w') (h1:¬ F kb) (h2:¬ F d) (h3:¬ F l) (h4:¬ F x):NewDb w' kb d l x n log o :=
 ⟨h.kept.ext he h1,h.disk.ext he h2,h.wal.ext he h3,h.db.ext he h4⟩
theorem newSys_ok {kb d l x n log t m H:Nat} (h1:1 ≤ n) (h2:n ≤ 65536) (h3:log ≤ n) (ht:H ≤ t) (hm:H ≤ m) (k1:kb < H) (k2:d < H) (k3:l < H) (k4:x < H):(newSys kb d l x n log t m).Ok:=by
 have off:∀ b,b < H → ¬ (newSys kb d l x n log t m).F b:=fun b hb hf=>by
  rcases hf with hf | hf
  ·have:b = t:=hf
   omega
  ·have:b = m:=hf
   omega
 refine ⟨fun w w' he h=>NewDb.ext h he (off _ k1) (off _ k2) (off _ k3) (off _ k4),fun w h=>NewDb.db h |>.cell 0,fun w h=>NewDb.db h |>.cell 2,fun w h=>NewDb.db h |>.cell 10,fun w h=>NewDb.db h |>.cell 11,
  fun w h=>NewDb.disk h |>.cell 0,fun w h=>NewDb.disk h |>.cell 2,?_,?_,h1,h2,h3,?_,?_⟩
 ·show t ≠ x;omega
 ·show t ≠ d;omega
 ·intro w id _ a b;have:id < 1:=b;omega
 ·intro w id _ a b;have:id < 1:=b;omega
theorem db_begin (w:World) (kb d l x n log:Nat) (h:NewDb w kb d l x n log none) (hn:1 ≤ n) (hln:log + 8 ≤ n) :
  Calls Tryz.prog 33 #[.pointer (some ⟨x,0,none⟩)] w fun e w'=>e = .returned (.tuple #[.pointer (some ⟨w.heap.size + 1,0,none⟩),.int .i64 0]) ∧
   TxAt w' (newSys kb d l x n log (w.heap.size + 1) w.heap.size) v0 ∧ Ext (fun b=>b = x) w w':=by
 have HU:=Lib.hid (newDb_up w kb d l x n log none h hn)
 have hx:=h.db
 obtain ⟨y0,y1,y2,y3,y4,y5,y6,y7,y8,y9,y10,y11⟩:w.cell? ⟨x,0,none⟩ = _ ∧ w.cell? ⟨x,1,none⟩ = _ ∧ w.cell? ⟨x,2,none⟩ = _ ∧ w.cell? ⟨x,3,none⟩ = _ ∧ w.cell? ⟨x,4,none⟩ = _ ∧ w.cell? ⟨x,5,none⟩ = _ ∧ w.cell? ⟨x,6,none⟩ = _ ∧ w.cell? ⟨x,7,none⟩ = _ ∧ w.cell? ⟨x,8,none⟩ = _ ∧ w.cell? ⟨x,9,none⟩ = _ ∧ w.cell? ⟨x,10,none⟩ = _ ∧ w.cell? ⟨x,11,none⟩ = _ :=
  ⟨hx.cell 0,hx.cell 1,hx.cell 2,hx.cell 3,hx.cell 4,hx.cell 5,hx.cell 6,hx.cell 7,hx.cell 8,hx.cell 9,hx.cell 10,hx.cell 11⟩
 simp [dbCells] at y0 y1 y2 y3 y4 y5 y6 y7 y8 y9 y10 y11
 have fz:=hx.frozen
 have lx:=hx.lt
 have HX:=Lib.hid h
 have hmk:∀ w,(Instr.makeMap 109 none).run Tryz.prog w = .ok (.map (some w.heap.size)) (w.alloc (.map #[] 0)):=fun w=>rfl
 clear h hx
 go_enter Tryz.func33,Tryz.ntmps33
 go_wp2_with fail
 refine (HU.out).mono ?_
 rintro e w1 ⟨rfl,rfl⟩
 go_wp2_with fail
 go_ret2
 obtain ⟨u,hu⟩:∃ u,u = w.setCell ⟨x,10,none⟩ (.pointer (some ⟨w.heap.size + 1,0,none⟩)):=⟨_,rfl⟩
 rw [← hu]
 have hE0:Ext (fun b=>b = x) w u:=by rw [hu];exact (Ext.refl (fun b=>b = x) w).setF (b:=x) rfl _ _
 have hus:u.heap.size = w.heap.size:=by rw [hu];simp [World.setCell]
 obtain ⟨cs,hcs⟩:∃ cs,cs = v0.cells (newSys kb d l x n log (w.heap.size + 1) w.heap.size):=⟨_,rfl⟩
 have hE:Ext (fun b=>b = x) w ((u.alloc (.map #[] 0)).alloc (.cells cs 111)):=(hE0.alloc _).alloc _
 rw [hcs] at hE
 have hE1:Ext No u ((u.alloc (.map #[] 0)).alloc (.cells cs 111)):=((Ext.refl No u).alloc _).alloc _
 rw [hcs] at hE1
 have hx:=HX.out
 have hb:Blk u x 131 (dbCells d l log 1 (some ⟨w.heap.size + 1,0,none⟩)):=by rw [hu];exact hx.db.set_ 10 _
 refine ⟨rfl,⟨?_,⟨?_,?_,?_,?_⟩,by decide,?_,Nat.le_refl _,by decide,[],⟨by simp,#[],0,?_,rfl,by simp [Stamps]⟩,by simp,?_⟩,hE⟩
 ·have:=Blk.new (u.alloc (.map #[] 0)) 111 (v0.cells (newSys kb d l x n log (w.heap.size + 1) w.heap.size))
  have e:(u.alloc (.map #[] 0)).heap.size = w.heap.size + 1:=by simp [hus]
  rw [e] at this
  exact this
 ·exact (hx.kept.ext hE (hx.kept.ne_ hx.db (by decide)))
 ·exact (hx.disk.ext hE (hx.disk.ne_ hx.db (by decide)))
 ·exact (hx.wal.ext hE (hx.wal.ne_ hx.db (by decide)))
 ·exact hb.ext hE1 (fun h=>h)
 ·show 1 ≤ (n - log) / 8;omega
 ·have h1:(u.alloc (.map #[] 0)).heap[w.heap.size]? = some (.map #[] 0):=by rw [← hus];exact heap_alloc_new u _
  exact (Below.heap_alloc _ _ _ (by show w.heap.size < _;simp [hus])).trans h1
 ·intro i h1 h2
  have h2':i < 1:=h2
  omega
structure Fresh (w:World) (s:Sys) (p:Nat):Prop where
 ok:s.Ok
 tx:TxAt w s v0
 cap:s.cap = p
 sys:∃ kb d l x t m,s = newSys kb d l x (400 + 8 * p) 400 t m ∧ t < w.heap.size ∧ m < w.heap.size ∧ t ≠ kb ∧ t ≠ d ∧ t ≠ l ∧ t ≠ x ∧ m ≠ kb ∧ m ≠ d ∧ m ≠ l ∧ m ≠ x
structure NewAt (w:World) (s:Sys) (p:Nat):Prop where
 ex:∃ kb d l x t m,s = newSys kb d l x (400 + 8 * p) 400 t m ∧ w.heap.size ≤ kb ∧ w.heap.size ≤ d ∧ w.heap.size ≤ l ∧ w.heap.size ≤ x ∧ w.heap.size ≤ t ∧ w.heap.size ≤ m ∧ t ≠ kb ∧ t ≠ d ∧ t ≠ l ∧ t ≠ x ∧ m ≠ kb ∧ m ≠ d ∧ m ≠ l ∧ m ≠ x ∧ kb < m ∧ d < m ∧ l < m ∧ x < m ∧ m < t
theorem begin_any (p:Nat) (h1:4 ≤ p) (h2:p ≤ 4000) (w:World) :
  Calls Tryz.prog 12 #[.int .i64 (p:Int)] w fun e w'=>∃ s,Fresh w' s p ∧ e = .returned (.tuple #[.pointer (some ⟨s.d,0,none⟩),.pointer (some ⟨s.x,0,none⟩),.pointer (some ⟨s.t,0,none⟩)]) ∧ Ext No w w' ∧
   w.heap.size ≤ s.t ∧ w.heap.size ≤ s.m ∧ w.heap.size ≤ s.x ∧ w.heap.size ≤ s.d ∧ NewAt w s p:=by
 have HN:=Lib.hid (disk_new (400 + 8 * p) (by omega) (by omega) w)
 have e1:((400 + 8 * p:Nat):Int) = 400 + 8 * (p:Int):=by omega
 rw [e1] at HN
 have g1:(p:Int) ≤ 4000:=by omega
 have g2:(0:Int) ≤ p:=by omega
 have H1:=Lib.hid h1;have H2:=Lib.hid h2
 clear e1 h1 h2
 go_enter Tryz.func12,Tryz.ntmps12
 go_wp2_with fail
 refine (HN.out).mono ?_
 rintro e w1 ⟨rfl,hd,hk,hsz,hx1⟩
 have HO:=Lib.hid (db_open (w.heap.size + 1) w.heap.size (400 + 8 * p) 400 w1 hd hk (by have:=H2.out;omega) (by omega) (by have:=H1.out;omega))
 have HX1:=Lib.hid hx1
 have HSZ:=Lib.hid hsz
 clear hd hk hsz hx1 g1 g2
 go_wp2_with fail
 refine (HO.out).mono ?_
 rintro e w2 ⟨l,x,rfl,hnew,hx2,hxl,hll⟩
 have HLL:=Lib.hid hll
 have HNW:=Lib.hid hnew;have HX2:=Lib.hid hx2;have HXL:=Lib.hid hxl
 have HB:=Lib.hid (db_begin w2 w.heap.size (w.heap.size + 1) l x (400 + 8 * p) 400 hnew (by omega) (by have:=H1.out;omega))
 clear hnew hx2 hxl hll
 go_wp2_with fail
 refine (HB.out).mono ?_
 rintro e w3 ⟨rfl,hT,hx3⟩
 have HT:=Lib.hid hT;have HX3:=Lib.hid hx3
 clear hT hx3
 go_wp2_with fail
 go_ret3
 have a1:=HNW.out.kept.lt
 have a2:=HNW.out.disk.lt
 have a3:=HNW.out.wal.lt
 have a4:=HNW.out.db.lt
 have a5:=HT.out.tx.lt
 have a6:w2.heap.size < w3.heap.size:=HT.out.old (.inr rfl)
 have a7:=HSZ.out
 have a8:=HXL.out
 have a9:=HX2.out.size
 have b1:=H1.out
 have b2:=H2.out
 refine ⟨newSys w.heap.size (w.heap.size + 1) l x (400 + 8 * p) 400 (w2.heap.size + 1) w2.heap.size,⟨?_,HT.out,?_,?_⟩,rfl,?_,?_,?_,?_,?_,⟨w.heap.size,w.heap.size + 1,l,x,w2.heap.size + 1,w2.heap.size,rfl,by have:=HLL.out;have:=HX1.out.size;omega⟩⟩
 ·exact newSys_ok (H:=w2.heap.size) (by omega) (by omega) (by omega) (by omega) (Nat.le_refl _) a1 a2 a3 a4
 ·show (400 + 8 * p - 400) / 8 = p;omega
 ·refine ⟨w.heap.size,w.heap.size + 1,l,x,w2.heap.size + 1,w2.heap.size,rfl,a5,a6,?_⟩
  omega
 ·exact (HX1.out.trans_ HX2.out).trans HX3.out (fun b hb e=>by
   have e':b = x:=e
   omega)
 ·show w.heap.size ≤ w2.heap.size + 1;omega
 ·show w.heap.size ≤ w2.heap.size;omega
 ·show w.heap.size ≤ x;omega
 ·show w.heap.size ≤ w.heap.size + 1;omega
end Go.Proofs.YtccnemmlkcmceaaGreatDoor
