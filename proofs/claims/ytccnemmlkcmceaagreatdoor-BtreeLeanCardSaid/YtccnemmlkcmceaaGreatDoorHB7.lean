/- Proofs about the given program, joined out of the texts PG1, PG2, Z4, PX, PY, PB1, PB3, PB4, PB5, PB6, RC1, RC2. -/
import Derived.Test.YtccnemmlkcmceaaGreatDoorHB6
import Derived.BigQuiet
import Derived.Laws.BitsAllLaws
import Derived.Lib.BufferWrite
import Derived.Deep.RegionHeld3
import Derived.Deep.LoopGhost
set_option linter.unusedVariables false
set_option linter.unusedSimpArgs false
set_option maxRecDepth 100000
set_option maxHeartbeats 6400000
namespace Go.Proofs.YtccnemmlkcmceaaGreatDoor
open Go.RowKit
def patch (L : Bs) (o : Nat) (s : Bs) : Bs := L.take o ++ (s ++ L.drop (o + s.length))
theorem patch_len {L : Bs} {o : Nat} {s : Bs} (h : o + s.length ≤ L.length) : (patch L o s).length = L.length := by
 unfold patch
 rw [List.length_append,List.length_append,List.length_take,List.length_drop]; omega
theorem patch_get {L : Bs} {o : Nat} {s : Bs} (h : o + s.length ≤ L.length) (i : Nat) : (patch L o s)[i]? = if o ≤ i ∧ i < o + s.length then s[i - o]? else L[i]? := by
 unfold patch
 by_cases h1 : i < o
 ·rw [if_neg (by omega),List.getElem?_append_left (by rw [List.length_take]; omega),List.getElem?_take,if_pos h1]
 ·rw [List.getElem?_append_right (by rw [List.length_take]; omega),List.length_take,Nat.min_eq_left (by omega)]
  by_cases h2 : i < o + s.length
  ·rw [if_pos (by omega),List.getElem?_append_left (by omega)]
  ·rw [if_neg (by omega),List.getElem?_append_right (by omega),List.getElem?_drop]
   congr 1; omega
theorem bcs_get (L : Bs) (i : Nat) : (bcs L).toArray[i]? = (L[i]?).map fun b => .int .u8 (b.toNat : Int) := by simp [bcs]
theorem bcs_set (L : Bs) (i : Nat) (b : UInt8) : (bcs L).toArray.setIfInBounds i (.int .u8 (b.toNat : Int)) = (bcs (L.set i b)).toArray := by
 apply Array.ext_getElem?
 intro j
 rw [Array.getElem?_setIfInBounds,bcs_get,bcs_get,List.getElem?_set]
 have hs : (bcs L).toArray.size = L.length := by simp [bcs]
 by_cases h : i = j
 ·subst h
  rw [if_pos rfl,if_pos rfl,hs]
  by_cases hl : i < L.length
  ·rw [if_pos hl,if_pos hl]; rfl
  ·rw [if_neg hl,if_neg hl]; rfl
 ·rw [if_neg h,if_neg h]
theorem set4_patch {L : Bs} {o : Nat} (h : o + 4 ≤ L.length) (a b c d : UInt8) : (((L.set o a).set (o + 1) b).set (o + 2) c).set (o + 3) d = patch L o [a,b,c,d] := by
 apply List.ext_getElem?
 intro i
 rw [patch_get (by simpa using h)]
 simp only [List.getElem?_set,List.length_set,List.length_cons,List.length_nil]
 by_cases h0 : i = o
 ·subst h0
  simp [show i < L.length by omega]
 ·by_cases h1 : i = o + 1
  ·subst h1; simp [show o + 1 < L.length by omega]
  ·by_cases h2 : i = o + 2
   ·subst h2; simp [show o + 2 < L.length by omega]
   ·by_cases h3 : i = o + 3
    ·subst h3; simp [show o + 3 < L.length by omega]
    ·rw [if_neg (by omega),if_neg (by omega),if_neg (by omega),if_neg (by omega),if_neg (by omega)]
theorem pis_any (id : Nat) (h : id < 2147483648) (w : World) : Calls Tryz.prog 128 #[.int .i64 (id : Int)] w fun e w' => e = .returned (.bool true) ∧ w = w' := by
 have h1 : (0 : Int) ≤ id := by omega
 have h2 : (id : Int) < 2147483648 := by omega
 go_enter Tryz.func128,Tryz.ntmps128
 go_wp2_with fail
 go_ret
 exact ⟨rfl,rfl⟩
theorem byte_div (x k : Nat) : ((UInt8.ofNat (x / k % 256)).toNat : Int) = (x : Int) / k % 256 := by
 rw [UInt8.toNat_ofNat',Int.natCast_emod,Int.natCast_emod,Int.natCast_ediv]; omega
theorem pput_any (x : Nat) (hx : x < 4294967296) (w : World) (g o n c : Nat) (L : Bs) (h : Blk w g 218 (bcs L).toArray) (ho : o + 4 ≤ L.length) (hn : 4 ≤ n) (hc : n ≤ c) (hoL : L.length < 100000) :
  Calls Tryz.prog 154 #[.slice (some ⟨g,o,none⟩) n c,.int .u32 (x : Int)] w fun e w' => e = .returned (.tuple #[]) ∧ Blk w' g 218 (bcs (patch L o (n4 x))).toArray ∧ Ext (fun b => b = g) w w' := by
 obtain ⟨L4,hL4⟩ : ∃ L4,L4 = patch L o (n4 x) := ⟨_,rfl⟩
 rw [← hL4]
 have H4 := Lib.hid hL4
 have lg := h.lt
 have f := h.frozen
 have HB := Lib.hid h
 have hc0 : (4 : Int) ≤ n := by omega
 have s0 : (w.cell? ⟨g,o,none⟩).isSome = true := by rw [h.cell,bcs_get]; simp; omega
 have s1 : (w.cell? ⟨g,o + 1,none⟩).isSome = true := by rw [h.cell,bcs_get]; simp; omega
 have s2 : (w.cell? ⟨g,o + 2,none⟩).isSome = true := by rw [h.cell,bcs_get]; simp; omega
 have s3 : (w.cell? ⟨g,o + 3,none⟩).isSome = true := by rw [h.cell,bcs_get]; simp; omega
 obtain ⟨v0,k0⟩ := Option.isSome_iff_exists.1 s0
 obtain ⟨v1,k1⟩ := Option.isSome_iff_exists.1 s1
 obtain ⟨v2,k2⟩ := Option.isSome_iff_exists.1 s2
 obtain ⟨v3,k3⟩ := Option.isSome_iff_exists.1 s3
 clear h hL4 s0 s1 s2 s3
 go_enter Tryz.func154,Tryz.ntmps154
 go_wp2_with fail
 go_end0
 refine ⟨rfl,?_,((((Ext.refl (fun b => b = g) w).setF (b := g) rfl _ _).setF (b := g) rfl _ _).setF (b := g) rfl _ _).setF (b := g) rfl _ _⟩
 have e0 : ((x : Int) % 256) = ((UInt8.ofNat (x % 256)).toNat : Int) := by rw [UInt8.toNat_ofNat']; omega
 have e3 : ((x : Int) / 16777216) = ((UInt8.ofNat (x / 16777216 % 256)).toNat : Int) := by rw [UInt8.toNat_ofNat']; omega
 have e1 : ((x : Int) / 256 % 256) = ((UInt8.ofNat (x / 256 % 256)).toNat : Int) := (byte_div x 256).symm
 have e2 : ((x : Int) / 65536 % 256) = ((UInt8.ofNat (x / 65536 % 256)).toNat : Int) := (byte_div x 65536).symm
 rw [e0,e1,e2,e3]
 have := (((HB.out.set_ o (.int .u8 ((UInt8.ofNat (x % 256)).toNat : Int))).set_ (o + 1) (.int .u8 ((UInt8.ofNat (x / 256 % 256)).toNat : Int))).set_ (o + 2) (.int .u8 ((UInt8.ofNat (x / 65536 % 256)).toNat : Int))).set_ (o + 3) (.int .u8 ((UInt8.ofNat (x / 16777216 % 256)).toNat : Int))
 rw [bcs_set,bcs_set,bcs_set,bcs_set,set4_patch ho] at this
 rw [H4.out]
 exact this
theorem wrap_small32 (a : Nat) (h : a < 4294967296) : IntKind.u32.wrap (a : Int) = (a : Int) := by
 rw [IntKind.wrap_u32']; omega
theorem zero218_eq : Tryz.zeroCells218 = (bcs (zs 512)).toArray := by kernel_rfl
theorem copy_body {W : World} {g : Nat} {L body : Bs} (h : Blk W g 218 (bcs L).toArray) (hL : L.length = 512) (hb : body.length ≤ 500) (ty : TypeId) :
  (Builtin.copy_ #[98,9] ty #[.slice (some ⟨g,8,none⟩) 504 504,.string (str body)]).run Tryz.prog W = .ok (goInt body.length) (W.setRow g (bcs (patch L 8 body)).toArray) := by
 have h5 : (Tryz.prog.info? 5).map (·.size) = some 1 := by kernel_rfl
 have hs : (bcs L).toArray.size = 512 := by simp [bcs,hL]
 have h := Lib.run_copy_row_string (P := Tryz.prog) W 98 9 ty 5 g 8 504 504 (str body) (bcs L).toArray 218 Tryz.underlying98 h5 h (by rw [str_size]; omega) (by rw [str_size,hs]; omega)
 rw [str_size,str_toList] at h
 have e : bcs (patch L 8 body) = (bcs L).take 8 ++ bcs body ++ (bcs L).drop (8 + body.length) := by
  unfold patch
  rw [bcs_append,bcs_append,List.append_assoc]
  simp [bcs,List.map_take,List.map_drop]
 rw [e]
 exact h
theorem zs_split (a b : Nat) : zs (a + b) = zs a ++ zs b := by simp [zs]
theorem zs_drop (a b : Nat) : (zs a).drop b = zs (a - b) := by simp [zs]
theorem seal_bytes {id kind : Nat} {body : Bs} (hb : body.length ≤ 500) :
  patch ((((patch (zs 512) 0 (n4 id)).set 4 (UInt8.ofNat kind)).set 6 (UInt8.ofNat (body.length % 256))).set 7 (UInt8.ofNat (body.length / 256))) 8 body = seal0 id kind body ++ zs 4 := by
 have h1 : patch (zs 512) 0 (n4 id) = n4 id ++ ([0,0,0,0] ++ zs 504) := by
  unfold patch
  rw [List.take_zero,List.nil_append,zs_drop,n4_len,show 512 - (0 + 4) = 4 + 504 from rfl,zs_split]
  rfl
 have h2 : (((patch (zs 512) 0 (n4 id)).set 4 (UInt8.ofNat kind)).set 6 (UInt8.ofNat (body.length % 256))).set 7 (UInt8.ofNat (body.length / 256)) = (n4 id ++ [UInt8.ofNat kind,0,UInt8.ofNat (body.length % 256),UInt8.ofNat (body.length / 256)]) ++ zs 504 := by
  rw [h1]
  generalize zs 504 = Z
  rfl
 rw [h2]
 have hl : (n4 id ++ [UInt8.ofNat kind,0,UInt8.ofNat (body.length % 256),UInt8.ofNat (body.length / 256)]).length = 8 := rfl
 unfold patch seal0
 rw [List.take_left' hl,← List.drop_drop,List.drop_left' hl,zs_drop,show 504 - body.length = (500 - body.length) + 4 by omega,zs_split]
 simp only [List.append_assoc]
theorem seal_any (T : Nat → Nat) (id kind : Nat) (body : Bs) (hid : id < 2147483648) (hk : 1 ≤ kind ∧ kind ≤ 255) (hb : body.length ≤ 500) (w : World) (h : Half w T) :
  Calls Tryz.prog 104 #[.int .i64 (id : Int),.int .i64 (kind : Int),.string (str body)] w fun e w' => e = .returned (.tuple #[.string (str (sealed (crc T) id kind body)),.int .i64 0]) ∧ Ext No w w' := by
 have HIS := Lib.hid (fun w => pis_any id hid w)
 obtain ⟨C,hC⟩ : ∃ C,C = sealed (crc T) id kind body := ⟨_,rfl⟩
 rw [← hC]
 have HC := Lib.hid hC
 have k1 : ¬ ((kind : Int) < 1) := by omega
 have k2 : ¬ (255 < (kind : Int)) := by omega
 have b1 : ¬ (500 < (body.length : Int)) := by omega
 have HB := Lib.hid hb; have HK := Lib.hid hk; have HID := Lib.hid hid
 have HT := Lib.hid h
 have u1 : IntKind.u32.wrap (id : Int) = (id : Int) := wrap_small32 id (by omega)
 clear h hC hid hk hb
 go_enter Tryz.func104,Tryz.ntmps104
 go_upto_region 5 with (go_at_call 128; refine (HIS.out _).mono ?_; rintro e w1 ⟨rfl,rfl⟩)
 go_upto_region 6 with fail
 rw [zero218_eq]
 have HB1 := Lib.hid (Blk.new w 218 (bcs (zs 512)).toArray)
 have HX1 := Lib.hid ((Ext.refl No w).alloc (.cells (bcs (zs 512)).toArray 218))
 obtain ⟨L0,hL0⟩ : ∃ L0,L0 = zs 512 := ⟨_,rfl⟩
 rw [← hL0] at HB1 HX1 ⊢
 have hl0 : L0.length = 512 := by rw [hL0,zs_len]
 have HL0 := Lib.hid hL0
 have hsz : (w.alloc (.cells (bcs L0).toArray 218)).heap.size = w.heap.size + 1 := by simp
 have HSZ := Lib.hid hsz
 generalize w.alloc (.cells (bcs L0).toArray 218) = W at *
 have hgl : w.heap.size < W.heap.size := by omega
 have HP1 := Lib.hid (pput_any id (by have := HID.out; omega) W w.heap.size 0 512 512 L0 HB1.out (by omega) (by omega) (by omega) (by omega))
 have HLEN0 := Lib.hid hl0
 clear hL0 hl0 hsz
 go_wp2_with fail
 refine (HP1.out).mono ?_
 rintro e w2 ⟨rfl,hb2,hx2⟩
 obtain ⟨L1,hL1⟩ : ∃ L1,L1 = patch L0 0 (n4 id) := ⟨_,rfl⟩
 rw [← hL1] at hb2
 have HB2 := Lib.hid hb2
 have HX2 := Lib.hid (HX1.out.trans hx2 (fun b hb e => by have e' : b = w.heap.size := e; omega))
 have HL1 := Lib.hid hL1
 have hl1 : L1.length = 512 := by rw [hL1,patch_len (by rw [HLEN0.out,n4_len]; omega)]; exact HLEN0.out
 have HLEN1 := Lib.hid hl1
 have s4 : (w2.cell? ⟨w.heap.size,4,none⟩).isSome = true := by rw [hb2.cell,bcs_get]; simp; omega
 have s6 : (w2.cell? ⟨w.heap.size,6,none⟩).isSome = true := by rw [hb2.cell,bcs_get]; simp; omega
 have s7 : (w2.cell? ⟨w.heap.size,7,none⟩).isSome = true := by rw [hb2.cell,bcs_get]; simp; omega
 obtain ⟨v4,k4⟩ := Option.isSome_iff_exists.1 s4
 obtain ⟨v6,k6⟩ := Option.isSome_iff_exists.1 s6
 obtain ⟨v7,k7⟩ := Option.isSome_iff_exists.1 s7
 have f := hb2.frozen
 have lg := hb2.lt
 clear hL1 hl1 hb2 hx2 s4 s6 s7 HP1
 go_upto_region 8 with fail
 obtain ⟨L2,hL2⟩ : ∃ L2,L2 = ((L1.set 4 (UInt8.ofNat kind)).set 6 (UInt8.ofNat (body.length % 256))).set 7 (UInt8.ofNat (body.length / 256)) := ⟨_,rfl⟩
 have HL2 := Lib.hid hL2
 have e4 : (kind : Int) = ((UInt8.ofNat kind).toNat : Int) := by rw [UInt8.toNat_ofNat']; have := HK.out; omega
 have e6 : ((body.length : Int) % 256) = ((UInt8.ofNat (body.length % 256)).toNat : Int) := by rw [UInt8.toNat_ofNat']; omega
 have e7 : ((body.length : Int) / 256) = ((UInt8.ofNat (body.length / 256)).toNat : Int) := by rw [UInt8.toNat_ofNat']; have := HB.out; omega
 have HB3 : Hid (Blk (((w2.setCell ⟨w.heap.size,4,none⟩ (.int .u8 (kind : Int))).setCell ⟨w.heap.size,6,none⟩ (.int .u8 ((body.length : Int) % 256))).setCell ⟨w.heap.size,7,none⟩ (.int .u8 ((body.length : Int) / 256))) w.heap.size 218 (bcs L2).toArray) := Lib.hid (by
  rw [e4,e6,e7,HL2.out,← bcs_set,← bcs_set,← bcs_set]
  exact (((HB2.out.set_ _ _).set_ _ _).set_ _ _))
 have HX3 : Hid (Ext No w (((w2.setCell ⟨w.heap.size,4,none⟩ (.int .u8 (kind : Int))).setCell ⟨w.heap.size,6,none⟩ (.int .u8 ((body.length : Int) % 256))).setCell ⟨w.heap.size,7,none⟩ (.int .u8 ((body.length : Int) / 256)))) := Lib.hid (((HX2.out.setNew (Nat.le_refl _) _ _).setNew (Nat.le_refl _) _ _).setNew (Nat.le_refl _) _ _)
 have hl2 : L2.length = 512 := by rw [hL2]; simp only [List.length_set]; exact HLEN1.out
 have HLEN2 := Lib.hid hl2
 clear e4 e6 e7 hL2 k4 k6 k7 f lg
 generalize (((w2.setCell ⟨w.heap.size,4,none⟩ (.int .u8 (kind : Int))).setCell ⟨w.heap.size,6,none⟩ (.int .u8 ((body.length : Int) % 256))).setCell ⟨w.heap.size,7,none⟩ (.int .u8 ((body.length : Int) / 256))) = W3 at *
 have hcp := copy_body HB3.out hl2 HB.out 3
 obtain ⟨L3,hL3⟩ : ∃ L3,L3 = patch L2 8 body := ⟨_,rfl⟩
 rw [← hL3] at hcp
 have HL3 := Lib.hid hL3
 have hl3 : L3.length = 512 := by rw [hL3,patch_len (by have := HB.out; omega)]; exact hl2
 have HLEN3 := Lib.hid hl3
 have lg3 := HB3.out.lt
 clear hL3 hl2 hl3
 go_upto_region 9 with fail
 have HB4 : Hid (Blk (W3.setRow w.heap.size (bcs L3).toArray) w.heap.size 218 (bcs L3).toArray) := Lib.hid (setRow_heap W3 w.heap.size _ _ _ _ HB3.out)
 have HX4 : Hid (Ext No w (W3.setRow w.heap.size (bcs L3).toArray)) := Lib.hid (HX3.out.trans (G := fun b => b = w.heap.size) ⟨rfl,rfl,rfl,by simp,fun b _ hb => setRow_other W3 w.heap.size b _ hb⟩ (fun b hb e => by have e' : b = w.heap.size := e; omega))
 clear hcp lg3
 generalize W3.setRow w.heap.size (bcs L3).toArray = W4 at *
 obtain ⟨S,hS⟩ : ∃ S,S = seal0 id kind body := ⟨_,rfl⟩
 have HS := Lib.hid hS
 have hSl : S.length = 508 := by rw [hS]; exact seal0_len HB.out
 have HL3S : Hid (L3 = S ++ zs 4) := Lib.hid (by rw [HL3.out,HL2.out,HL1.out,HL0.out,HS.out]; exact seal_bytes HB.out)
 obtain ⟨CS,hCS⟩ : ∃ CS,CS = crc T S := ⟨_,rfl⟩
 have HCS := Lib.hid hCS
 have hlt4 : w.heap.size < W4.heap.size := HB4.out.lt
 have HSUM : Hid (∀ c w',Ext No W4 w' → Calls Tryz.prog 126 #[.slice (some ⟨w.heap.size,0,none⟩) 508 c] w' fun e w'' => e = .returned (.int .u32 (CS : Int)) ∧ w' = w'') := Lib.hid (fun c w' hx => by
  have hHT := HT.out.ext (HX4.out.trans_ hx) (fun h => h)
  have h1 := sum_any T w' hHT (some ⟨w.heap.size,0,none⟩) S c ⟨by rw [bcs_len]; omega,fun _ => ⟨w.heap.size,0,rfl,fun h => h,fun j u hu => by
   rw [Nat.zero_add,(HB4.out.ext hx (fun h => h)).cell j]
   have hj := (List.getElem?_eq_some_iff.1 hu).1
   rw [bcs_len] at hj
   rw [bcs_get,HL3S.out,List.getElem?_append_left hj]
   rw [← hu]; simp [bcs]⟩⟩ (by omega)
  rw [hSl,← hCS] at h1
  exact h1)
 have hCSl : CS < 4294967296 := by rw [hCS]; exact crc_lt HT.out.lt S
 have HPUT : Hid (∀ w',Ext No W4 w' → Calls Tryz.prog 154 #[.slice (some ⟨w.heap.size,508,none⟩) 4 4,.int .u32 (CS : Int)] w' fun e w'' => e = .returned (.tuple #[]) ∧ Blk w'' w.heap.size 218 (bcs (patch L3 508 (n4 CS))).toArray ∧ Ext (fun b => b = w.heap.size) w' w'') := Lib.hid (fun w' hx => pput_any CS hCSl w' w.heap.size 508 4 4 L3 (HB4.out.ext hx (fun h => h)) (by rw [HLEN3.out]; omega) (by omega) (by omega) (by rw [HLEN3.out]; omega))
 clear hS hSl hCS hCSl
 go_region_with (first | (go_at_call 126; refine (HSUM.out _ _ (by first | exact (Ext.refl No _).drew | exact Ext.refl _ _)).mono ?_; rintro e w5 ⟨rfl,rfl⟩) | (go_at_call 154; refine (HPUT.out _ (by first | exact (Ext.refl No _).drew | exact Ext.refl _ _)).mono ?_; rintro e w6 ⟨rfl,hb6,hx6⟩))
 have HB6 : Hid (Blk w6 w.heap.size 218 (bcs C).toArray) := Lib.hid (by
  have e : patch L3 508 (n4 CS) = C := by
   rw [HL3S.out,HC.out,HCS.out,HS.out]
   have hl : (seal0 id kind body).length = 508 := seal0_len HB.out
   unfold patch sealed
   rw [List.take_left' hl,n4_len,List.drop_eq_nil_of_le (by rw [List.length_append,hl,zs_len]; omega),List.append_nil]
  rw [← e]; exact hb6)
 have hCl : C.length = 512 := by rw [HC.out]; exact sealed_len HB.out
 have HX6 : Hid (Ext No w w6) := Lib.hid ((HX4.out.drew).trans hx6 (fun b hb e => by have e' : b = w.heap.size := e; omega))
 have hcv : (convert 98 9 (.slice (some ⟨w.heap.size,0,none⟩) 512 512)).run Tryz.prog w6 = .ok (.string (str C)) w6 := by
  have h1 := run_convert_bytes_back (P := Tryz.prog) w6 98 9 5 ⟨w.heap.size,0,none⟩ 512 C Tryz.underlying98 Tryz.underlying5 Tryz.underlying9 (fun j hj => by
   rw [Addr.add_none,Nat.zero_add,HB6.out.cell j,bcs_get,List.getElem?_eq_getElem hj]; rfl)
  rw [hCl] at h1
  exact h1
 have lg6 := HB6.out.lt
 clear hb6 hx6 hCl
 go_wp2_with fail
 go_ret2
 exact ⟨rfl,HX6.out⟩
theorem log_none (l d m : Nat) (w : World) (h : Blk w l 179 (logCells d m)) :
  Calls Tryz.prog 109 #[.pointer (some ⟨l,0,none⟩)] w fun e w' => e = .returned (.bool false) ∧ w = w' := by
 have c0 := h.cell 0
 simp [logCells] at c0
 go_enter Tryz.func109,Tryz.ntmps109
 go_wp2
 go_ret
 exact ⟨rfl,rfl⟩
theorem log_records (l d m : Nat) (w : World) (h : Blk w l 179 (logCells d m)) :
  Calls Tryz.prog 81 #[.pointer (some ⟨l,0,none⟩)] w fun e w' => e = .returned (.slice none 0 0) ∧ Ext No w w' := by
 have HN := Lib.hid (log_none l d m w h)
 have HC := Lib.hid (fun w => Tryz.slices_Clone_nil_f124 0 0 w)
 have c5 := h.cell 5
 simp [logCells] at c5
 clear h
 go_enter Tryz.func81,Tryz.ntmps81
 go_wp2_with fail
 refine (HN.out).mono ?_
 rintro e w1 ⟨rfl,rfl⟩
 go_wp2_with fail
 refine (HC.out _).mono ?_
 rintro e w2 ⟨rfl,rfl⟩
 go_wp2_with fail
 go_ret
 exact ⟨rfl,Ext.refl _ _⟩
def dbCells (d l log high : Nat) (o : Option Addr) : Array Value :=
 #[.pointer (some ⟨d,0,none⟩),.pointer (some ⟨l,0,none⟩),.int .i64 (log : Int),.int .i64 0,.int .i64 0,.int .i64 0,.int .i64 0,.int .i64 (high : Int),.int .i64 0,.int .i64 0,.pointer o,.bool false]
theorem db_settle (x d l m log high : Nat) (o : Option Addr) (w : World) (h : Blk w l 179 (logCells d m)) (hx : Blk w x 131 (dbCells d l log high o)) :
  Calls Tryz.prog 70 #[.pointer (some ⟨x,0,none⟩)] w fun e w' => e = .returned (.int .i64 0) ∧ Ext No w w' := by
 have HR := Lib.hid (log_records l d m w h)
 have c1 := hx.cell 1
 simp [dbCells] at c1
 clear h hx
 go_enter Tryz.func70,Tryz.ntmps70
 go_wp2_with fail
 refine (HR.out).mono ?_
 rintro e w1 ⟨rfl,hx1⟩
 go_wp2_with fail
 go_ret
 exact ⟨rfl,hx1⟩
theorem trim_zs (n : Nat) : Lib.trimB (zs n) 0 = [] := by simp [Lib.trimB,Lib.trimLeftB,Lib.trimRightB,zs]
theorem blank_zs (w : World) :
  Calls Tryz.prog 84 #[.string (str (zs 512))] w fun e w' => e = .returned (.bool true) ∧ Ext No w w' := by
 have hsz : (str (zs 512)).size = 512 := by rw [str_size,zs_len]
 have HT := Lib.hid (fun w => Tryz.strings_Trim_one (str (zs 512)) 0 (by decide) w (by omega))
 have ht : (⟨(Lib.trimB (str (zs 512)).data.toList 0).toArray⟩ : ByteArray) = str [] := by rw [str_toList,trim_zs]; rfl
 rw [ht] at HT
 obtain ⟨z,hz⟩ : ∃ z,z = str (zs 512) := ⟨_,rfl⟩
 rw [← hz] at HT hsz ⊢
 clear hz ht
 go_enter Tryz.func84,Tryz.ntmps84
 go_wp2_with fail
 refine (HT.out _).mono ?_
 rintro e w1 ⟨rfl,hw⟩
 have hE : Ext No w w1 := by
  rcases hw with rfl | rfl
  ·exact Ext.refl _ _
  ·exact (Ext.refl _ _).drew
 simp only [str]
 go_wp2_with fail
 go_ret
 exact ⟨rfl,hE⟩
theorem db_count (x d kb n log : Nat) (w : World) (x0 : w.cell? ⟨x,0,none⟩ = some (.pointer (some ⟨d,0,none⟩))) (x2 : w.cell? ⟨x,2,none⟩ = some (.int .i64 (log : Int)))
  (h : Blk w d 140 (diskCells kb n)) (h1 : 1 ≤ n) (hn : n ≤ 65536) (hl : log ≤ n) :
  Calls Tryz.prog 56 #[.pointer (some ⟨x,0,none⟩)] w fun e w' => e = .returned (.int .i64 (((n - log) / 8 : Nat) : Int)) ∧ ∃ k,w' = w.drewN k := by
 have HD := Lib.hid h
 have g1 : (0 : Int) ≤ (n : Int) - log := by omega
 go_enter Tryz.func56,Tryz.ntmps56
 go_wp2_with (go_at_call 76; refine (xnone_no x d _ x0).mono ?_; rintro e w' ⟨rfl,rfl⟩)
 go_quiet ((go_at_call 93; exact Calls.quiet_of_same ((dsize_any d n ⟨kb,0,none⟩ _ (by exact HD.out.cell 0) h1).mono fun _ _ ⟨h1,h2⟩ => ⟨h1,h2.symm⟩)))
 go_wp2
 go_ret
 exact ⟨ret_int (by omega),_,rfl⟩
def BytesAt (c : Nat → Bs) (bytes : Bs) : Prop := ∀ i,i < bytes.length → (c (1 + i / 64))[i % 64]? = bytes[i]?
structure LogOn (cr : Bs → Nat) (c : Nat → Bs) (epoch : Nat) (bytes : Bs) (ls : List (List (Nat × Bs))) : Prop where
 hd : c 0 = headOf cr epoch bytes.length ∨ (c 0 = zs 64 ∧ epoch = 0 ∧ bytes = [] ∧ ls = [])
 by_ : BytesAt c bytes
 en : bytes = ls.flatMap fun l => frameOf cr (encRec l)
def RecOk (cap : Nat) (l : List (Nat × Bs)) : Prop := l ≠ [] ∧ (encRec l).length ≤ 65536 ∧ ∀ p ∈ l,p.1 < cap ∧ p.2.length = 512
def ids (ls : List (List (Nat × Bs))) : List Nat := ls.flatten.map (·.1)
structure Rest (cr : Bs → Nat) (log cap : Nat) (k : Dk) (epoch : Nat) (bytes : Bs) (ls : List (List (Nat × Bs))) (f : Nat → Bs) : Prop where
 lg : LogOn cr k.K epoch bytes ls
 fits : bytes.length ≤ 64 * (log - 1)
 ok : ∀ l ∈ ls,RecOk cap l
 pd : ∀ p ∈ k.pd,∃ id j,p.1 = log + id * 8 + j ∧ j < 8 ∧ id ∈ ids ls
 pg : ∀ id,id ∉ ids ls → pageOf k.K log id = f id
 pl : ∀ id,id ∈ ids ls → ∀ g,pages ls.flatten g id = f id
section
variable {cr : Bs → Nat} {log cap E epoch : Nat} {k : Dk} {bytes : Bs} {ls : List (List (Nat × Bs))} {f : Nat → Bs} {c : Nat → Bs}
end
section
variable {cr : Bs → Nat} {log cap E epoch : Nat} {k : Dk} {bytes all : Bs} {ls : List (List (Nat × Bs))} {f : Nat → Bs} {c : Nat → Bs}
theorem cutS_get : ∀ (n : Nat) (s : Bs) (t : Nat),t < n → (cutS n s)[t]? = some ((s.drop (t * 64)).take 64)
 | 0,s,t,h => by omega
 | n + 1,s,0,h => by simp [cutS]
 | n + 1,s,t + 1,h => by
  rw [cutS,List.getElem?_cons_succ,cutS_get n (s.drop 64) t (by omega),List.drop_drop,show 64 + t * 64 = (t + 1) * 64 by omega]
structure Laid (cr : Bs → Nat) (log cap : Nat) (k : Dk) (epoch : Nat) (bytes all : Bs) (ls : List (List (Nat × Bs))) (f : Nat → Bs) : Prop where
 rest : Rest cr log cap k epoch bytes ls f
 pd : k.pd = []
 all : BytesAt k.K all
 pg : ∀ id,pageOf k.K log id = f id
theorem frame_len (cr : Bs → Nat) (rec : Bs) : (frameOf cr rec).length = rec.length + 8 := by
 simp only [frameOf,List.length_append,n4_len]; omega
end
end Go.Proofs.YtccnemmlkcmceaaGreatDoor
namespace Go.Proofs.YtccnemmlkcmceaaGreatDoor
open Go.RowKit Go.BigFrame
structure Dbp where
 d : Nat
 kb : Nat
 x : Nat
 l : Nat
 log : Nat
def dbVals (a : Dbp) (m : Mt) (o : Option Addr) (lost : Bool) : Array Value :=
 #[.pointer (some ⟨a.d,0,none⟩),.pointer (some ⟨a.l,0,none⟩),.int .i64 (a.log : Int),.int .i64 (m.r 0 : Int),.int .i64 (m.r 1 : Int),.int .i64 (m.r 2 : Int),.int .i64 (m.r 3 : Int),.int .i64 (m.high : Int),.int .i64 (m.free : Int),.int .i64 (m.cnt : Int),.pointer o,.bool lost]
structure Parts (a : Dbp) (Dd Dl : Nat → Prop) : Prop where
 ap : ∀ g,Dl g → ¬ Dd g
 xd : ¬ Dd a.x
 xl : ¬ Dl a.x
 zd : ¬ Dd 0
 zl : ¬ Dl 0
 zx : a.x ≠ 0
structure DbAt (w : World) (Dd Dl : Nat → Prop) (a : Dbp) (o : Option Addr) (lost : Bool) (T : Nat → Nat) (b : Db) : Prop where
 disk : DiskAt w Dd a.d a.kb b.k
 wal : LogAt w Dl a.l a.d a.log ⟨b.epoch,b.bytes,b.recs,[],false⟩
 db : Blk w a.x 131 (dbVals a b.m o lost)
 half : Half w T
 parts : Parts a Dd Dl
 ll : a.log ≤ b.k.n
theorem DbAt.ext {F : Nat → Prop} {w w' : World} {Dd Dl : Nat → Prop} {a : Dbp} {o : Option Addr} {lost : Bool} {T : Nat → Nat} {b : Db} (h : DbAt w Dd Dl a o lost T b) (hx : Ext F w w') (h1 : ∀ g,Dd g → ¬ F g) (h2 : ∀ g,Dl g → ¬ F g) (h3 : ¬ F a.x) (h4 : ¬ F 0) : DbAt w' Dd Dl a o lost T b :=
 ⟨h.disk.ext hx h1,h.wal.ext hx h2,h.db.ext hx h3,h.half.ext hx h4,h.parts,h.ll⟩
theorem DbAt.no {w w' : World} {Dd Dl : Nat → Prop} {a : Dbp} {o : Option Addr} {lost : Bool} {T : Nat → Nat} {b : Db} (h : DbAt w Dd Dl a o lost T b) (hx : Ext No w w') : DbAt w' Dd Dl a o lost T b :=
 h.ext hx (fun _ _ h => h) (fun _ _ h => h) (fun h => h) (fun h => h)
theorem own_pushS {w : World} {base g cap n : Nat} {ks : List Bs} {x : Bs} (h : w.ownsRow base 9 1 (.slice (some ⟨g,0,none⟩) (n + 1) cap) (n + 1) (strs ks ++ [.string (str x)])) : w.ownsRow base 9 1 (.slice (some ⟨g,0,none⟩) (n + 1) cap) (n + 1) (strs (ks ++ [x])) := by
 have e : strs (ks ++ [x]) = strs ks ++ [.string (str x)] := by simp [strs]
 rw [e]; exact h
theorem sectors_any (image : Bs) (hi : image.length = 512) (w : World) :
  Calls Tryz.prog 162 #[.string (str image)] w fun e w' => ∃ A c,e = .returned (.slice A 8 c) ∧ w'.ownsRow w.heap.size 9 1 (.slice A 8 c) 8 (strs (cutS 8 image)) ∧ Ext No w w' := by
 obtain ⟨i0,hti,htz0,htz1,htz2⟩ := info_parts Tryz.info9
 have HI := Lib.hid hi
 obtain ⟨Q,hQ⟩ : ∃ Q,Q = fun (e : Ending) (w' : World) => ∃ A c,e = .returned (.slice A 8 c) ∧ w'.ownsRow w.heap.size 9 1 (.slice A 8 c) 8 (strs (cutS 8 image)) ∧ Ext No w w' := ⟨_,rfl⟩
 rw [← hQ]
 have HQ := Lib.hid hQ
 have h0 : image = image.drop (0 * 64) := by simp
 have H0 := Lib.hid h0
 clear hi hQ h0
 go_enter Tryz.func162,Tryz.ntmps162
 go_wp2_with fail
 go_loopg [0,3] 8 (fun gk q0 q3 wr => ∃ (K c : Nat) (A : Option Addr) (L : Bs),K + gk = 8 ∧ q0 = .string (str L) ∧ q3 = .slice A K c ∧ Hid (L = image.drop (K * 64)) ∧ Hid (wr.ownsRow w.heap.size 9 1 (.slice A K c) K (strs ((cutS 8 image).take K))) ∧ Hid (Ext No w wr))
 case atStart => exact ⟨0,0,none,image,rfl,rfl,rfl,H0,Lib.hid (World.ownsRow_nil _ _ _ _),Lib.hid (Ext.refl _ _)⟩
 case round =>
  obtain ⟨K,c,A,L,hK,rfl,rfl,HL,HO,HX⟩ := hrel
  have HK := Lib.hid hK
  have hLl : L.length = 512 - K * 64 := by rw [HL.out,List.length_drop,HI.out]
  have HLL := Lib.hid hLl
  by_cases h8 : K < 8
  ·obtain ⟨n,hn⟩ : ∃ n,n = L.length := ⟨_,rfl⟩
   have g1 : (0 : Int) < (n : Int) := by omega
   have g2 : min (64 : Int) (n : Int) = 64 := by omega
   have g3 : (64 : Int) ≤ n := by omega
   have hsz : (str L).size = n := by rw [str_size,hn]
   have x1 : (str L).extract 0 64 = str (L.take 64) := str_take L 64
   have x2 : (str L).extract 64 n = str (L.drop 64) := by rw [hn]; exact str_drop L 64
   have HL2 : Hid (L.drop 64 = image.drop ((K + 1) * 64)) := Lib.hid (by rw [HL.out,List.drop_drop]; congr 1; omega)
   have HT1 : Hid ((cutS 8 image).take (K + 1) = (cutS 8 image).take K ++ [L.take 64]) := Lib.hid (by rw [List.take_add_one,cutS_get 8 image K h8,HL.out]; rfl)
   have H8 := Lib.hid h8
   obtain ⟨P,hP⟩ : ∃ P,P = L.take 64 := ⟨_,rfl⟩
   rw [← hP] at x1 HT1
   obtain ⟨L2,hL2⟩ : ∃ L2,L2 = L.drop 64 := ⟨_,rfl⟩
   rw [← hL2] at x2 HL2
   have hxs := HX.out.size
   have m1 : K + 1 ≤ maxLen := by unfold maxLen; omega
   have m2 : (K + 1) * 16 ≤ 140737488355328 := by omega
   have HX1 := Lib.hid (HX.out.alloc (.cells #[.string (str P)] 9))
   have HO1 := Lib.hid (HO.out.alloc (.cells #[.string (str P)] 9))
   have hx1s : w.heap.size ≤ (wr.alloc (.cells #[.string (str P)] 9)).heap.size := HX1.out.size
   clear hK hLl hn h8 hP hL2
   rw [str_size] at hsz
   go_wp2_with (at_builtin; refine wpList_append_lies _ (by rfl) _ _ 38 (by rfl) w.heap.size 9 i0 (.string ⟨#[]⟩) 1 16 Tryz.underlying38 hti htz0 htz1 htz2 (by rfl) (by decide) (.slice A K c) K (strs ((cutS 8 image).take K)) (by rfl) HO1.out ⟨wr.heap.size,0,none⟩ 1 1 [.string (str P)] (by rfl) (by rfl) (by exact World.news_of_block (cs := #[.string (str P)]) (t := 9) (fr := (0,0)) (heap_alloc_new wr _)) (fun u hu => by rw [List.mem_singleton.1 hu]; rfl) (by decide) m1 m2 hx1s _ rfl ?_)
   intro g cap w7 hown7 hg7 ha7 hlt7
   have HO7 := Lib.hid (own_pushS hown7)
   rw [← HT1.out] at HO7
   have HX7 := Lib.hid (HX1.out.grown hg7 (own_bounds HO1.out (Nat.le_refl _)))
   clear hown7 hg7 ha7 hlt7 hxs hx1s m1 m2
   go_wp2_with fail
   go_roundg (gk - 1)
   case rel => exact ⟨K + 1,cap,some ⟨g,0,none⟩,L2,by have := HK.out; have := H8.out; omega,rfl,rfl,HL2,HO7,HX7⟩
   case measure => have := HK.out; have := H8.out; omega
  ·have hK8 : K = 8 := by omega
   subst hK8
   have hL0 : L = [] := List.eq_nil_of_length_eq_zero (by omega)
   subst hL0
   have HD : Hid (Q (.returned (.slice A 8 c)) wr) := Lib.hid (by
    rw [HQ.out]
    have := HO.out
    rw [List.take_of_length_le (by rw [cutS_len]; omega)] at this
    exact ⟨A,c,rfl,this,HX.out⟩)
   have e0 : (str []).size = 0 := rfl
   clear hK hLl h8
   go_wp2_with fail
   exact HD.out
end Go.Proofs.YtccnemmlkcmceaaGreatDoor
namespace Go.Proofs.YtccnemmlkcmceaaGreatDoor
open Go.RowKit
def layRest (log id K : Nat) (image : Bs) : List (Nat × Bs) := rowOf (log + id * 8 + K) ((cutS 8 image).drop K)
theorem layRest_next {log id K : Nat} {image : Bs} (h : K < 8) : layRest log id K image = (log + id * 8 + K,(image.drop (K * 64)).take 64) :: layRest log id (K + 1) image := by
 unfold layRest
 have hg := cutS_get 8 image K h
 have e : (cutS 8 image).drop K = ((image.drop (K * 64)).take 64) :: (cutS 8 image).drop (K + 1) := by
  rw [List.drop_eq_getElem_cons (by rw [cutS_len]; exact h)]
  congr 1
  exact (List.getElem?_eq_some_iff.1 hg).2
 rw [e]; rfl
theorem layRest_end {log id : Nat} {image : Bs} : layRest log id 8 image = [] := by
 unfold layRest
 rw [List.drop_of_length_le (by rw [cutS_len]; omega)]; rfl
theorem dlay_any {w : World} {Dd : Nat → Prop} {d kb x log : Nat} {k : Dk} (hd : DiskAt w Dd d kb k) (x0 : w.cell? ⟨x,0,none⟩ = some (.pointer (some ⟨d,0,none⟩))) (x2 : w.cell? ⟨x,2,none⟩ = some (.int .i64 (log : Int))) (hx : ¬ Dd x) {N : Nat} (hk : k.Near N) (hN : N ≤ 2^29) (id : Nat) (hid : log + id * 8 + 8 ≤ k.n) (image : Bs) (hi : image.length = 512) :
  Calls Tryz.prog 118 #[.pointer (some ⟨x,0,none⟩),.int .i64 (id : Int),.string (str image)] w fun e w' => e = .returned (.int .i64 ((k.writes (layPage log id image)).1 : Int)) ∧ DiskAt w' (Grow Dd w w') d kb (k.writes (layPage log id image)).2 ∧ Ext Dd w w' := by
 obtain ⟨R,hR⟩ : ∃ R,R = k.writes (layPage log id image) := ⟨_,rfl⟩
 rw [← hR]
 have HR := Lib.hid hR
 have HSEC := Lib.hid (sectors_any image hi w)
 have HD := Lib.hid hd; have HNX := Lib.hid hx; have HK := Lib.hid hk; have HNN := Lib.hid hN; have HID := Lib.hid hid; have HI := Lib.hid hi
 have HSO := Lib.hid hd.old
 have hn2 := hd.n2
 have hb2 : (log : Int) + (id : Int) * 8 + 8 ≤ 65536 := by omega
 have HB2 := Lib.hid hb2
 have HC0 := Lib.hid x0; have HC2 := Lib.hid x2
 have hxl : x < w.heap.size := World.block_lt_of_cell? w _ x0
 have HXL := Lib.hid hxl
 clear hd hx hk hN hid hi hR hb2 hn2 x0 x2 hxl
 go_enter Tryz.func118,Tryz.ntmps118
 go_wp2_with fail
 refine (HSEC.out).mono ?_
 rintro e w1 ⟨A,c,rfl,hown,hx1⟩
 obtain ⟨g,hA,hgb,hgl,hgc,hcells⟩ := own_at hown (by decide)
 subst hA
 have HX1 := Lib.hid hx1; have HCE := Lib.hid hcells
 have HG := Lib.hid (And.intro hgb hgl)
 have HD1 := Lib.hid (HD.out.ext hx1 (fun _ _ h => h))
 clear hown hx1 hcells hgb hgl
 go_wp2_with fail
 go_loopg [13] 8 (fun gk q13 wr => ∃ (K : Nat) (k' : Dk),K + gk = 8 ∧ q13 = .int .i64 (K : Int) ∧ Hid (R = k'.writes (layRest log id K image)) ∧ Hid (DiskAt wr (Grow Dd w1 wr) d kb k') ∧ Hid (Ext Dd w1 wr) ∧ Hid (k'.Near (N + K)) ∧ Hid (k'.n = k.n))
 case atStart => exact ⟨0,k,by omega,rfl,HR,Lib.hid (HD1.out.mono (fun _ hb => .inl hb) (Grow.old (fun b hb => Nat.lt_of_lt_of_le (HSO.out b hb) HX1.out.size) (Nat.le_refl _))),Lib.hid (Ext.refl _ _),HK,Lib.hid rfl⟩
 case round =>
  obtain ⟨K,k',hK,rfl,HWL,HDK,HX,HNR,HKN⟩ := hrel
  have HKK := Lib.hid hK
  by_cases h8 : K < 8
  ·have H8 := Lib.hid h8
   obtain ⟨P,hP⟩ : ∃ P,P = (image.drop (K * 64)).take 64 := ⟨_,rfl⟩
   have hpl : P.length ≤ 64 := by rw [hP,List.length_take]; omega
   have hng : ¬ Dd g := fun h => by have := HSO.out g h; have := HG.out; omega
   have k0 : wr.cell? ⟨g,K,none⟩ = some (.string (str P)) := cell_ext HX.out (HCE.out K _ (by
    unfold strs
    rw [List.getElem?_map,cutS_get 8 image K h8,hP]; rfl)) hng
   have lg := World.block_lt_of_cell? wr _ k0
   simp only at lg
   obtain ⟨i1,hi1⟩ : ∃ i1,i1 = log + id * 8 + K := ⟨_,rfl⟩
   have hw1 : IntKind.i64.wrap ((id : Int) * 8) = (id : Int) * 8 := wrap_tiny _ (by omega) (by have := HB2.out; omega)
   have hw2 : IntKind.i64.wrap ((log : Int) + (id : Int) * 8) = (log : Int) + (id : Int) * 8 := wrap_tiny _ (by omega) (by have := HB2.out; omega)
   have hw3 : IntKind.i64.wrap ((log : Int) + (id : Int) * 8 + (K : Int)) = (i1 : Int) := by
    rw [show (log : Int) + (id : Int) * 8 + (K : Int) = (i1 : Int) by omega]; exact wrap_tiny _ (by omega) (by have := HB2.out; omega)
   have HW := Lib.hid (dk_write (HDK.out.ext ((Ext.refl No wr).drew) (fun _ _ h => h)) i1 (by have := HID.out; have := HKN.out; omega) P hpl (by have := HNR.out.1; have := HNN.out; omega) (by have := HNR.out.2.1; have := HNN.out; omega) (by have := HNR.out.2.2; have := HNN.out; omega))
   have hk1 := Lib.hid (Dk.write_near HNR.out i1 P)
   have hkn1 := Lib.hid ((Dk.write_n k' i1 P).trans HKN.out)
   have HNXT : Hid (R = if (k'.write i1 P).1 ≠ 0 then k'.write i1 P else (k'.write i1 P).2.writes (layRest log id (K + 1) image)) := Lib.hid (by
    rw [HWL.out,layRest_next h8,← hP,← hi1]; rfl)
   generalize k'.write i1 P = kw at *
   have hs1 : wr.drew.cell? ⟨x,0,none⟩ = some (.pointer (some ⟨d,0,none⟩)) := cell_ext (HX1.out.of_no.trans_ HX.out).drew HC0.out HNX.out
   have hs2 : wr.drew.cell? ⟨x,2,none⟩ = some (.int .i64 (log : Int)) := cell_ext (HX1.out.of_no.trans_ HX.out).drew HC2.out HNX.out
   have HS1 := Lib.hid hs1; have HS2 := Lib.hid hs2
   have HNX2 : Hid (¬ Grow Dd w1 wr x) := Lib.hid (fun hg => by
    rcases hg with hg | hg
    ·exact HNX.out hg
    ·have := HXL.out; have := HX1.out.size; omega)
   have hxr : x < wr.heap.size := by have := HX.out.size; have := HX1.out.size; have := HXL.out; omega
   have h8' : (K : Int) < 8 := by omega
   clear hi1 hP hK h8 hng hpl hgc
   go_upto_region 4 with fail
   go_region_held3 (fun w' => w'.cell? ⟨x,0,none⟩ = some (.pointer (some ⟨d,0,none⟩)) ∧ w'.cell? ⟨x,2,none⟩ = some (.int .i64 (log : Int))) (first | exact ⟨hs1,hs2⟩ | exact ⟨cell_ext hx3 HS1.out HNX2.out,cell_ext hx3 HS2.out HNX2.out⟩) (first
    | (go_at_call 161; refine (HW.out).mono ?_; rintro e w3 ⟨rfl,hd3,hx3⟩))
   have HXX := Lib.hid (HX.out.trans ((Ext.refl (Grow Dd w1 wr) wr).drew.trans_ hx3) (fun b hb hg => Grow.back (Nat.le_refl _) hb hg))
   have hsz := hx3.size
   have hszd : wr.drew.heap.size = wr.heap.size := rfl
   have HD3 := Lib.hid (hd3.mono (D' := Grow Dd w1 w3) (fun b hb => Grow.trans (w1 := wr) HX.out.size (by omega) (by rcases hb with hb | hb; exact .inl hb; exact .inr ⟨by omega,hb.2⟩)) (Grow.old (fun b hb => Nat.lt_of_lt_of_le (HSO.out b hb) HX1.out.size) HXX.out.size))
   clear hd3 hx3 hs1 hs2 hw1 hw2 hw3 k0 lg
   by_cases hc : kw.1 = 0
   ·have hW2 : Hid (R = kw.2.writes (layRest log id (K + 1) image)) := Lib.hid (by rw [HNXT.out,if_neg (by omega)])
    have hc0 : (kw.1 : Int) = 0 := by omega
    rw [hc0]
    clear hc hc0 HWL HNXT
    go_wp2_with fail
    go_roundg (gk - 1)
    case rel => exact ⟨K + 1,kw.2,by have := HKK.out; have := H8.out; omega,by go_num,hW2,HD3,HXX,hk1,hkn1⟩
    case measure => have := HKK.out; have := H8.out; omega
   ·have hRk : R = kw := by rw [HNXT.out,if_pos hc]
    have HRK := Lib.hid hRk
    have hc0 : ((kw.1 : Int) != 0) = true := by simp; omega
    clear hc hRk
    go_wp2_with fail
    go_ret
    rw [HRK.out]
    exact ⟨rfl,HD3.out.mono (fun b hb => Grow.of HX1.out.size (Nat.le_refl _) hb) (Grow.old HSO.out (Nat.le_trans HX1.out.size HXX.out.size)),HX1.out.of_no.trans_ HXX.out⟩
  ·have hK8 : K = 8 := by omega
   subst hK8
   have HR8 : Hid (R = (0,k')) := Lib.hid (by rw [HWL.out,layRest_end]; rfl)
   clear hK h8
   go_wp2_with fail
   go_ret
   rw [HR8.out]
   exact ⟨rfl,HDK.out.mono (fun b hb => Grow.of HX1.out.size (Nat.le_refl _) hb) (Grow.old HSO.out (Nat.le_trans HX1.out.size HX.out.size)),HX1.out.of_no.trans_ HX.out⟩
theorem Dk.writes_append : ∀ (a b : List (Nat × Bs)) (k : Dk),k.writes (a ++ b) = if (k.writes a).1 ≠ 0 then k.writes a else (k.writes a).2.writes b
 | [],b,k => by rw [if_neg (by simp [Dk.writes])]; rfl
 | p :: a,b,k => by
  rw [List.cons_append,Dk.writes,Dk.writes]
  by_cases h : (k.write p.1 p.2).1 ≠ 0
  ·rw [if_pos h,if_pos h,if_pos h]
  ·rw [if_neg h,if_neg h]
   exact Dk.writes_append a b _
theorem Dk.writes_near : ∀ (l : List (Nat × Bs)) {k : Dk} {n : Nat},k.Near n → (k.writes l).2.Near (n + l.length)
 | [],k,n,h => h
 | p :: l,k,n,h => by
  rw [Dk.writes]
  have h1 := Dk.write_near h p.1 p.2
  split
  ·exact h1.mono (by simp)
  ·exact (Dk.writes_near l h1).mono (by simp; omega)
theorem layPage_len (log id : Nat) (image : Bs) : (layPage log id image).length = 8 := by
 have : ∀ (l : List Bs) (a : Nat),(rowOf a l).length = l.length := by
  intro l
  induction l with
  | nil => intro a; rfl
  | cons b l ih => intro a; rw [rowOf,List.length_cons,ih,List.length_cons]
 rw [layPage,this,cutS_len]
theorem layAll_len (log : Nat) (l : List (Nat × Bs)) : (layAll log l).length = l.length * 8 := by
 induction l with
 | nil => rfl
 | cons p l ih =>
  have e : layAll log (p :: l) = layPage log p.1 p.2 ++ layAll log l := rfl
  rw [e,List.length_append,layPage_len,ih,List.length_cons]; omega
theorem flat_drop : ∀ (l : List (Nat × Bs)) (j : Nat) (p : Nat × Bs),(∀ q ∈ l,q.2.length = 512) → l[j]? = some p → ∃ r,(l.flatMap fun p => n4 p.1 ++ p.2).drop (j * 516) = n4 p.1 ++ (p.2 ++ r)
 | q :: l,0,p,_,h => by
  have : q = p := by simpa using h
  subst this
  exact ⟨l.flatMap fun p => n4 p.1 ++ p.2,by simp⟩
 | q :: l,j + 1,p,hl,h => by
  obtain ⟨r,hr⟩ := flat_drop l j p (fun x hx => hl x (by simp [hx])) (by simpa using h)
  refine ⟨r,?_⟩
  have hq : (n4 q.1 ++ q.2).length = 516 := by rw [List.length_append,n4_len,hl q (by simp)]
  rw [List.flatMap_cons,show (j + 1) * 516 = 516 + j * 516 by omega,← List.drop_drop,List.drop_left' hq]
  exact hr
theorem enc_drop {l : List (Nat × Bs)} {j : Nat} {p : Nat × Bs} (hl : ∀ q ∈ l,q.2.length = 512) (h : l[j]? = some p) : ∃ r,(encRec l).drop (4 + j * 516) = n4 p.1 ++ (p.2 ++ r) := by
 obtain ⟨r,hr⟩ := flat_drop l j p hl h
 refine ⟨r,?_⟩
 unfold encRec
 rw [← List.drop_drop,List.drop_left' (n4_len _)]
 exact hr
theorem str_part (l : Bs) (a b : Nat) : (str l).extract a b = str ((l.drop a).take (b - a)) := by
 simp [str,ByteArray.extract,ByteArray.copySlice]
theorem redo_any {w : World} {Dd : Nat → Prop} {d kb x log : Nat} {k : Dk} (hd : DiskAt w Dd d kb k) (x0 : w.cell? ⟨x,0,none⟩ = some (.pointer (some ⟨d,0,none⟩))) (x2 : w.cell? ⟨x,2,none⟩ = some (.int .i64 (log : Int))) (hx : ¬ Dd x) {N : Nat} (hk : k.Near N) (hN : N ≤ 2^28) (l : List (Nat × Bs)) (hl : ∀ p ∈ l,log + p.1 * 8 + 8 ≤ k.n ∧ p.2.length = 512) (hlen : (encRec l).length ≤ 65536) :
  Calls Tryz.prog 73 #[.pointer (some ⟨x,0,none⟩),.string (str (encRec l))] w fun e w' => e = .returned (.int .i64 ((k.writes (layAll log l)).1 : Int)) ∧ DiskAt w' (Grow Dd w w') d kb (k.writes (layAll log l)).2 ∧ Ext Dd w w' := by
 obtain ⟨R,hR⟩ : ∃ R,R = k.writes (layAll log l) := ⟨_,rfl⟩
 rw [← hR]
 have HR := Lib.hid (show R = k.writes (layAll log (l.drop 0)) from hR)
 have hel := encRec_len (l := l) (fun p hp => (hl p hp).2)
 have hll : l.length < 128 := by omega
 obtain ⟨rec,hrec⟩ : ∃ rec,rec = encRec l := ⟨_,rfl⟩
 rw [← hrec] at hel ⊢
 have HREC := Lib.hid hrec
 have HV : Hid (∀ w,Calls Tryz.prog 55 #[.string (str rec)] w fun e w' => e = .returned (.int .i64 (l.length : Int)) ∧ ∃ k,w' = w.drewN k) := Lib.hid (fun w => by
  have h1 := value_any (str rec) (by rw [str_size,hel]; omega) w
  have h2 : v4 (str rec) = l.length := by rw [hrec]; exact v4_n4 l.length (by omega) _
  rw [h2] at h1
  exact h1)
 have HD := Lib.hid hd; have HNX := Lib.hid hx; have HK := Lib.hid hk; have HNN := Lib.hid hN; have HL := Lib.hid hl; have HEL := Lib.hid hel; have HLL := Lib.hid hll
 have HSO := Lib.hid hd.old
 have HN2 := Lib.hid hd.n2
 have HC0 := Lib.hid x0; have HC2 := Lib.hid x2
 have hxl : x < w.heap.size := World.block_lt_of_cell? w _ x0
 have HXL := Lib.hid hxl
 clear hd hx hk hN hR x0 x2 hxl hrec hl hlen hel hll
 go_enter Tryz.func73,Tryz.ntmps73
 go_wp2_with fail
 refine (HV.out _).mono ?_
 rintro e w1 ⟨rfl,kv,hw1⟩
 have hx1 : Ext No w w1 := by rw [hw1]; exact (Ext.refl No w).drewN kv
 have HX1 := Lib.hid hx1
 have hs1 : w1.heap.size = w.heap.size := by rw [hw1]; rfl
 have HS1 := Lib.hid hs1
 clear hw1 hx1 hs1
 go_wp2_with fail
 go_loopg [12] l.length (fun gk q12 wr => ∃ (j : Nat) (k' : Dk),j + gk = l.length ∧ q12 = .int .i64 (j : Int) ∧ Hid (R = k'.writes (layAll log (l.drop j))) ∧ Hid (DiskAt wr (Grow Dd w wr) d kb k') ∧ Hid (Ext Dd w wr) ∧ Hid (k'.Near (N + j * 8)) ∧ Hid (k'.n = k.n))
 case atStart => exact ⟨0,k,by omega,rfl,HR,Lib.hid ((HD.out.ext HX1.out (fun _ _ h => h)).mono (fun _ hb => .inl hb) (Grow.old HSO.out HX1.out.size)),Lib.hid HX1.out.of_no,HK,Lib.hid rfl⟩
 case round =>
  obtain ⟨j,k',hj,rfl,HWL,HDK,HX,HNR,HKN⟩ := hrel
  have HJ := Lib.hid hj
  by_cases hlt : j < l.length
  ·have HLT := Lib.hid hlt
   obtain ⟨p,hp⟩ : ∃ p,l[j]? = some p := ⟨_,List.getElem?_eq_getElem hlt⟩
   obtain ⟨id,image⟩ := p
   have hpm := HL.out _ (List.mem_of_getElem? hp)
   simp only at hpm
   obtain ⟨r,hr⟩ := enc_drop (fun q hq => (HL.out q hq).2) hp
   rw [← HREC.out] at hr
   simp only at hr
   obtain ⟨o,ho⟩ : ∃ o,o = 4 + j * 516 := ⟨_,rfl⟩
   rw [← ho] at hr
   obtain ⟨n,hn⟩ : ∃ n,n = rec.length := ⟨_,rfl⟩
   have hon : o + 516 ≤ n := by have := HEL.out; omega
   have hn7 : n < 70000 := by have := HEL.out; have := HLL.out; omega
   have hsz : (str rec).size = n := by rw [str_size,hn]
   obtain ⟨tl,htl⟩ : ∃ tl,tl = rec.drop o := ⟨_,rfl⟩
   have x1 : (str rec).extract o n = str tl := by rw [htl,hn]; exact str_drop rec o
   have x2 : (str rec).extract (o + 4) (o + 4 + 512) = str image := by
    rw [str_part,← List.drop_drop,hr,List.drop_left' (n4_len _),show o + 4 + 512 - (o + 4) = 512 by omega,List.take_left' hpm.2]
   have HV2 : Hid (∀ w,Calls Tryz.prog 55 #[.string (str tl)] w fun e w' => e = .returned (.int .i64 (id : Int)) ∧ ∃ k,w' = w.drewN k) := Lib.hid (fun w => by
    have h1 := value_any (str tl) (by rw [str_size,htl,List.length_drop]; omega) w
    have h2 : v4 (str tl) = id := by rw [htl,hr]; exact v4_n4 id (by have := HN2.out; omega) _
    rw [h2] at h1
    exact h1)
   have e1 : (4 : Int) + (j : Int) * 516 = (o : Int) := by omega
   have hw1 : IntKind.i64.wrap ((j : Int) * 516) = (j : Int) * 516 := wrap_tiny _ (by omega) (by have := HLL.out; omega)
   have hw2 : IntKind.i64.wrap (4 + (j : Int) * 516) = (o : Int) := by rw [e1]; exact wrap_tiny _ (by omega) (by omega)
   obtain ⟨o4,ho4⟩ : ∃ o4,o4 = o + 4 := ⟨_,rfl⟩
   obtain ⟨o5,ho5⟩ : ∃ o5,o5 = o + 4 + 512 := ⟨_,rfl⟩
   rw [← ho5,← ho4] at x2
   have hw3 : IntKind.i64.wrap ((o : Int) + 4) = (o4 : Int) := by rw [show (o : Int) + 4 = (o4 : Int) by omega]; exact wrap_tiny _ (by omega) (by omega)
   have hw4 : IntKind.i64.wrap ((o4 : Int) + 512) = (o5 : Int) := by rw [show (o4 : Int) + 512 = (o5 : Int) by omega]; exact wrap_tiny _ (by omega) (by omega)
   have g1 : (o : Int) ≤ (n : Int) := by omega
   have g2 : (o4 : Int) ≤ (o5 : Int) := by omega
   have g3 : (o5 : Int) ≤ (n : Int) := by omega
   have HLAY : Hid (∀ w',Ext No wr w' → Calls Tryz.prog 118 #[.pointer (some ⟨x,0,none⟩),.int .i64 (id : Int),.string (str image)] w' fun e w'' => e = .returned (.int .i64 ((k'.writes (layPage log id image)).1 : Int)) ∧ DiskAt w'' (Grow (Grow Dd w wr) w' w'') d kb (k'.writes (layPage log id image)).2 ∧ Ext (Grow Dd w wr) w' w'') := Lib.hid (fun w' hx => by
    have c0 := cell_ext (HX.out.trans_ hx.of_no) HC0.out HNX.out
    have c2 := cell_ext (HX.out.trans_ hx.of_no) HC2.out HNX.out
    refine dlay_any (HDK.out.ext hx (fun _ _ h => h)) c0 c2 (fun hg => ?_) HNR.out (by have := HNN.out; have := HLL.out; omega) id (by have := HKN.out; omega) image hpm.2
    rcases hg with hg | hg
    ·exact HNX.out hg
    ·have := HXL.out; omega)
   have HNXT : Hid (R = if (k'.writes (layPage log id image)).1 ≠ 0 then k'.writes (layPage log id image) else (k'.writes (layPage log id image)).2.writes (layAll log (l.drop (j + 1)))) := Lib.hid (by
    have hdr : l.drop j = (id,image) :: l.drop (j + 1) := by
     rw [List.drop_eq_getElem_cons hlt]; congr 1; exact (List.getElem?_eq_some_iff.1 hp).2
    rw [HWL.out,hdr]
    have e : layAll log ((id,image) :: l.drop (j + 1)) = layPage log id image ++ layAll log (l.drop (j + 1)) := rfl
    rw [e,Dk.writes_append])
   have hk1 : Hid ((k'.writes (layPage log id image)).2.Near (N + (j + 1) * 8)) := Lib.hid ((Dk.writes_near _ HNR.out).mono (by rw [layPage_len]; omega))
   have hkn1 := Lib.hid ((Dk.writes_n (layPage log id image) k').trans HKN.out)
   generalize k'.writes (layPage log id image) = kw at *
   have hlt' : (j : Int) < (l.length : Int) := by omega
   have HO := Lib.hid ho
   rw [str_size] at hsz
   clear hj hlt hp hpm hr ho hon hn7 hn htl e1 ho4 ho5
   go_upto_region 6 with fail
   go_region_held3 (fun w' => True) (trivial) (first
    | (go_at_call 55; refine (HV2.out _).mono ?_; rintro e w2 ⟨rfl,kk,rfl⟩)
    | (go_at_call 118; refine (HLAY.out _ (by exact (Ext.refl No wr).drewN _)).mono ?_; rintro e w3 ⟨rfl,hd3,hx3⟩))
   have hx3' : Ext (Grow Dd w wr) wr w3 := (Ext.drewN (Ext.refl _ wr) _).trans_ hx3
   have HXX := Lib.hid (HX.out.trans hx3' (fun b hb hg => Grow.back (Nat.le_refl _) hb hg))
   have hsz3 := hx3'.size
   have HD3 := Lib.hid (hd3.mono (D' := Grow Dd w w3) (fun b hb => Grow.trans (w1 := wr) HX.out.size hsz3 (by rcases hb with hb | hb; exact .inl hb; exact .inr ⟨hb.1,hb.2⟩)) (Grow.old HSO.out HXX.out.size))
   clear hd3 hx3 hx3' hw1 hw2 hw3 hw4 g1 g2 g3 x1 x2 hsz
   by_cases hc : kw.1 = 0
   ·have hW2 : Hid (R = kw.2.writes (layAll log (l.drop (j + 1)))) := Lib.hid (by rw [HNXT.out,if_neg (by omega)])
    have hc0 : (kw.1 : Int) = 0 := by omega
    rw [hc0]
    have hw9 : IntKind.i64.wrap ((j : Int) + 1) = (j : Int) + 1 := wrap_tiny _ (by omega) (by have := HLL.out; have := HLT.out; omega)
    clear hc hc0 HWL HNXT
    go_wp2_with fail
    go_roundg (gk - 1)
    case rel => exact ⟨j + 1,kw.2,by have := HJ.out; have := HLT.out; omega,by go_num,hW2,HD3,HXX,hk1,hkn1⟩
    case measure => have := HJ.out; have := HLT.out; omega
   ·have hRk : R = kw := by rw [HNXT.out,if_pos hc]
    have HRK := Lib.hid hRk
    have hc0 : ((kw.1 : Int) != 0) = true := by simp; omega
    clear hc hRk
    go_wp2_with fail
    go_ret
    rw [HRK.out]
    exact ⟨rfl,HD3.out,HXX.out⟩
  ·have hjl : j = l.length := by omega
   have HR8 : Hid (R = (0,k')) := Lib.hid (by rw [HWL.out,hjl,List.drop_length]; rfl)
   have hge : ¬ ((j : Int) < (l.length : Int)) := by omega
   clear hj hlt hjl
   go_wp2_with fail
   go_ret
   rw [HR8.out]
   exact ⟨rfl,HDK.out,HX.out⟩
end Go.Proofs.YtccnemmlkcmceaaGreatDoor
namespace Go.Proofs.YtccnemmlkcmceaaGreatDoor
open Go.RowKit Go.BigFrame
theorem lg_records {w : World} {D : Nat → Prop} {x d m : Nat} {l : Lg} (h : LogAt w D x d m l) (hn : l.recs.length < 100000) :
  Calls Tryz.prog 81 #[.pointer (some ⟨x,0,none⟩)] w (Row 9 1 w (strs l.recs) l.recs.length) := by
 have HN := Lib.hid (lg_none h)
 obtain ⟨Ab,cb,Ar,cr,Ap,cp,hb,ob,or_,op,hdj⟩ := h.cells
 have HC := Lib.hid (clone_strings ⟨Ar,l.recs.length,cr,strs l.recs⟩ w (or_.part (fun u hu => by obtain ⟨s,_,rfl⟩ := List.mem_map.1 hu; rfl)) hn)
 simp only [Part.v] at HC
 have c5 : w.cell? ⟨x,5,none⟩ = some (.slice Ar l.recs.length cr) := hb.cell 5
 have hlt := hb.lt
 obtain ⟨Q,hQ⟩ : ∃ Q,Q = Row 9 1 w (strs l.recs) l.recs.length := ⟨_,rfl⟩
 rw [← hQ]
 have HQ := Lib.hid hQ
 clear h ob or_ op hdj hb hn hQ
 go_enter Tryz.func81,Tryz.ntmps81
 go_wp2_with fail
 refine (HN.out).mono ?_
 rintro e w1 ⟨rfl,rfl⟩
 go_wp2_with fail
 refine (HC.out).mono ?_
 rintro e w2 ⟨A',c',rfl,ho,hx⟩
 have HD : Hid (Q (.returned (.slice A' l.recs.length c')) w2) := Lib.hid (by rw [HQ.out]; exact ⟨A',c',rfl,ho,hx⟩)
 clear ho hx
 go_wp2_with fail
 exact HD.out
theorem lose_any {w : World} {a : Dbp} {m : Mt} {o : Option Addr} (h : Blk w a.x 131 (dbVals a m o false)) (c : Nat) :
  Calls Tryz.prog 69 #[.pointer (some ⟨a.x,0,none⟩),.int .i64 (c : Int)] w fun e w' => e = .returned (.int .i64 (c : Int)) ∧ Blk w' a.x 131 (dbVals a m o (decide (c ≠ 0))) ∧ Ext (On a.x) w w' := by
 have c11 : w.cell? ⟨a.x,11,none⟩ = some (.bool false) := h.cell 11
 have f11 := h.frozen 11
 have hlt := h.lt
 have HB := Lib.hid h
 clear h
 by_cases hc : c = 0
 ·subst hc
  go_enter Tryz.func69,Tryz.ntmps69
  go_wp2_with fail
  go_ret
  exact ⟨rfl,HB.out.set_ 11 (.bool false),(Ext.refl _ _).setF (F := On a.x) rfl 11 _⟩
 ·have hc' : ((c : Int) != 0) = true := by simp; omega
  have e : decide (c ≠ 0) = true := by simp [hc]
  rw [e]
  clear hc e
  go_enter Tryz.func69,Tryz.ntmps69
  go_wp2_with fail
  go_ret
  exact ⟨rfl,HB.out.set_ 11 (.bool true),(Ext.refl _ _).setF (F := On a.x) rfl 11 _⟩
theorem DbAt.lose {w w' : World} {Dd Dl : Nat → Prop} {a : Dbp} {o : Option Addr} {lost lost' : Bool} {T : Nat → Nat} {b : Db} (h : DbAt w Dd Dl a o lost T b) (hb : Blk w' a.x 131 (dbVals a b.m o lost')) (hx : Ext (On a.x) w w') : DbAt w' Dd Dl a o lost' T b :=
 ⟨h.disk.ext hx (fun g hg e => h.parts.xd (by have e' : g = a.x := e; rw [← e']; exact hg)),h.wal.ext hx (fun g hg e => h.parts.xl (by have e' : g = a.x := e; rw [← e']; exact hg)),hb,h.half.ext hx (fun e => h.parts.zx (by have e' : 0 = a.x := e; exact e'.symm)),h.parts,h.ll⟩
theorem Dk.logHead_near {cr : Bs → Nat} {k : Dk} {n : Nat} (h : k.Near n) (e len : Nat) : (k.logHead cr e len).2.Near (n + 2) := by
 unfold Dk.logHead
 have h1 := Dk.write_near h 0 (headOf cr e len)
 split
 ·exact h1.mono (by omega)
 ·exact Dk.flush_near h1
theorem Dk.logHead_n (cr : Bs → Nat) (k : Dk) (e len : Nat) : (k.logHead cr e len).2.n = k.n := by
 unfold Dk.logHead
 split
 ·exact Dk.write_n _ _ _
 ·rw [show ∀ k : Dk,k.flush.2.n = k.n from fun k => by
   by_cases h : k.flush.1 = 0
   ·exact (Dk.flush_ok h).2.2
   ·exact (Dk.flush_no h).2.2]
  exact Dk.write_n _ _ _
theorem Dk.flush_n (k : Dk) : k.flush.2.n = k.n := by
 by_cases h : k.flush.1 = 0
 ·exact (Dk.flush_ok h).2.2
 ·exact (Dk.flush_no h).2.2
theorem Parts.newer {w : World} {a : Dbp} {Dd Dl Dd' Dl' : Nat → Prop} (h : Parts a Dd Dl) (h1 : Newer w Dd Dd') (h2 : Newer w Dl Dl') (hap : ∀ g,Dl' g → ¬ Dd' g) (hx : a.x < w.heap.size) : Parts a Dd' Dl' := by
 refine ⟨hap,fun g => ?_,fun g => ?_,fun g => ?_,fun g => ?_,h.zx⟩
 ·rcases h1 _ g with g | g
  ·exact h.xd g
  ·omega
 ·rcases h2 _ g with g | g
  ·exact h.xl g
  ·omega
 ·rcases h1 _ g with g | g
  ·exact h.zd g
  ·omega
 ·rcases h2 _ g with g | g
  ·exact h.zl g
  ·omega
structure Settled (w : World) (Dd Dl : Nat → Prop) (a : Dbp) (o : Option Addr) (lost : Bool) (T : Nat → Nat) (S : Nat × Db) (e : Ending) (w' : World) : Prop where
 e : e = .returned (.int .i64 (S.1 : Int))
 at_ : ∃ Dd',DiskAt w' Dd' a.d a.kb S.2.k ∧ (S.1 = 0 → DbAt w' Dd' Dl a o lost T S.2) ∧ Parts a Dd' Dl ∧ Newer w Dd Dd'
 bx : Blk w' a.x 131 (dbVals a S.2.m o lost)
 x : Ext (fun b => Dd b ∨ Dl b) w w'
theorem dbsettle_any {w : World} {Dd Dl : Nat → Prop} {a : Dbp} {o : Option Addr} {lost : Bool} {T : Nat → Nat} {b : Db} (h : DbAt w Dd Dl a o lost T b) (hk : b.k.Near (2^28)) (he : b.epoch < 2^59) (hr : b.recs.length < 2^16) :
  Calls Tryz.prog 70 #[.pointer (some ⟨a.x,0,none⟩)] w (Settled w Dd Dl a o lost T (b.settle (crc T))) := by
 obtain ⟨S,hS⟩ : ∃ S,S = b.settle (crc T) := ⟨_,rfl⟩
 rw [← hS]
 obtain ⟨Q,hQ⟩ : ∃ Q,Q = Settled w Dd Dl a o lost T S := ⟨_,rfl⟩
 rw [← hQ]
 have HQ := Lib.hid hQ
 have HS := Lib.hid hS
 have HREC := Lib.hid (lg_records h.wal (by show b.recs.length < 100000; omega))
 simp only at HREC
 have x0 : w.cell? ⟨a.x,0,none⟩ = some (.pointer (some ⟨a.d,0,none⟩)) := h.db.cell 0
 have x1 : w.cell? ⟨a.x,1,none⟩ = some (.pointer (some ⟨a.l,0,none⟩)) := h.db.cell 1
 have hxl := h.db.lt
 have H := Lib.hid h; have HK := Lib.hid hk; have HE := Lib.hid he
 have HC0 := Lib.hid x0; have HC1 := Lib.hid x1; have HXL := Lib.hid hxl
 obtain ⟨x,hx⟩ : ∃ x,x = a.x := ⟨_,rfl⟩
 obtain ⟨n,hn⟩ : ∃ n,n = b.recs.length := ⟨_,rfl⟩
 rw [← hx] at x0 x1 HC0 HC1 hxl HXL ⊢
 rw [← hn] at HREC
 have HN := Lib.hid hn
 have HX := Lib.hid hx
 clear h hk he hr hS hQ hn hx
 go_enter Tryz.func70,Tryz.ntmps70
 go_wp2_with fail
 refine (HREC.out).mono ?_
 rintro e w1 ⟨A,c,rfl,_,hx1⟩
 have HX1 := Lib.hid hx1
 have H1 := Lib.hid (H.out.no hx1)
 have y0 := cell_ext hx1 HC0.out (fun h => h)
 have y1 := cell_ext hx1 HC1.out (fun h => h)
 have hxl1 : x < w1.heap.size := by have := hx1.size; omega
 clear hx1 x0 x1 HREC
 by_cases hn0 : n = 0
 ·have HD : Hid (Q (.returned (.int .i64 0)) w1) := Lib.hid (by
   have hr : b.recs = [] := List.eq_nil_of_length_eq_zero (by rw [← HN.out,hn0])
   have e : S = (0,b) := by rw [HS.out]; unfold Db.settle; rw [if_pos hr]
   rw [HQ.out,e]
   exact ⟨rfl,⟨Dd,H1.out.disk,fun _ => H1.out,H1.out.parts,fun g hg => .inl hg⟩,H1.out.db,HX1.out.of_no⟩)
  subst hn0
  go_wp2_with fail
  exact HD.out
 ·have hne : ((n : Int) == 0) = false := by simpa using hn0
  have HRN : Hid (b.recs ≠ []) := Lib.hid (fun e => by rw [e] at HN; exact hn0 HN.out)
  have HFL := Lib.hid (dk_flush H1.out.disk (by have := HK.out.1; omega) (by have := HK.out.2.1; omega) (by have := HK.out.2.2; omega))
  obtain ⟨F,hF⟩ : ∃ F,F = b.k.flush := ⟨_,rfl⟩
  rw [← hF] at HFL
  have HF := Lib.hid hF
  clear hn0 hF
  go_wp2_with fail
  refine (HFL.out).mono ?_
  rintro e w2 ⟨rfl,hd2,hx2⟩
  have HD2 := Lib.hid hd2; have HX2 := Lib.hid hx2
  have hNX : ¬ Dd x := by rw [HX.out]; exact H.out.parts.xd
  have HNX := Lib.hid hNX
  have z1 := cell_ext hx2 y1 hNX
  have hxl2 : x < w2.heap.size := by have := hx2.size; omega
  have HW2 := Lib.hid (H1.out.wal.ext hx2 H.out.parts.ap)
  have HB2 := Lib.hid (H1.out.db.ext hx2 H.out.parts.xd)
  have HT2 := Lib.hid (H1.out.half.ext hx2 H.out.parts.zd)
  clear hd2 hx2 y0 y1 hNX
  by_cases hf : F.1 = 0
  ·have hf0 : (F.1 : Int) = 0 := by omega
   have HF0 := Lib.hid hf
   have HRS := Lib.hid (lg_reset HW2.out HD2.out HT2.out H.out.parts.zd H.out.parts.ap (by rw [HF.out]; exact (Dk.flush_near HK.out).mono (by decide)) (by show b.epoch < _; exact HE.out) rfl rfl)
   simp only at HRS
   obtain ⟨R,hR⟩ : ∃ R,R = F.2.logHead (crc T) (b.epoch + 1) 0 := ⟨_,rfl⟩
   rw [← hR] at HRS
   have HR := Lib.hid hR
   obtain ⟨l9,h9⟩ : ∃ l9 : Lg,l9 = (if R.1 ≠ 0 then { (⟨b.epoch,b.bytes,b.recs,[],false⟩ : Lg) with lost := true } else { (⟨b.epoch,b.bytes,b.recs,[],false⟩ : Lg) with epoch := b.epoch + 1,bytes := [],recs := [] }) := ⟨_,rfl⟩
   have H9 := Lib.hid h9
   have HRS2 : Hid (Calls Tryz.prog 111 #[.pointer (some ⟨a.l,0,none⟩)] w2 fun e w' => e = .returned (.int .i64 (R.1 : Int)) ∧ DiskAt w' (Grow Dd w2 w') a.d a.kb R.2 ∧ LogAt w' Dl a.l a.d a.log l9 ∧ Ext (fun b => Dd b ∨ On a.l b) w2 w') := Lib.hid (by rw [h9]; exact HRS.out)
   rw [hf0]
   clear hf hf0 hR h9 HRS
   go_wp2_with fail
   refine (HRS2.out).mono ?_
   rintro e w3 ⟨rfl,hd3,hl3,hx3⟩
   have HD : Hid (Q (.returned (.int .i64 (R.1 : Int))) w3) := Lib.hid (by
    have hxl' : Dl a.l := H.out.wal.xx
    have hP := H.out.parts
    have hx3' : Ext (fun b => Dd b ∨ Dl b) w2 w3 := hx3.mono (fun g _ hg => by
     rcases hg with hg | hg
     ·exact .inl hg
     ·have e' : g = a.l := hg
      rw [e']; exact .inr hxl')
    have hnx : ¬ (fun b => Dd b ∨ Dl b) a.x := fun hg => by
     rcases hg with hg | hg
     ·exact hP.xd hg
     ·exact hP.xl hg
    have hn0 : ¬ (fun b => Dd b ∨ Dl b) 0 := fun hg => by
     rcases hg with hg | hg
     ·exact hP.zd hg
     ·exact hP.zl hg
    have hNW : Newer w Dd (Grow Dd w2 w3) := fun g hg => by
     rcases hg with hg | hg
     ·exact .inl hg
     ·have := HX1.out.size; have := HX2.out.size; exact .inr (by omega)
    have hap' : ∀ g,Dl g → ¬ Grow Dd w2 w3 g := fun g hg hg2 => by
     rcases hg2 with hg2 | hg2
     ·exact hP.ap g hg hg2
     ·have := HW2.out.old g hg; omega
    have hP3 := hP.newer (w := w) hNW (fun g hg => .inl hg) hap' (by rw [← HX.out]; exact HXL.out)
    have hEW : Ext (fun b => Dd b ∨ Dl b) w w3 := (HX1.out.of_no.trans_ (HX2.out.mono (fun _ _ hg => .inl hg))).trans_ hx3'
    have eS : S = if R.1 ≠ 0 then (R.1,{ b with k := R.2 }) else (0,{ b with k := R.2,epoch := b.epoch + 1,bytes := [],recs := [] }) := by
     rw [HS.out]; unfold Db.settle
     rw [if_neg HRN.out,← HF.out,if_neg (by have := HF0.out; omega),← HR.out]
    rw [HQ.out]
    have hb3 := HB2.out.ext hx3' hnx
    by_cases hr : R.1 = 0
    ·rw [if_neg (by omega)] at eS
     rw [eS]
     have hl9 := H9.out
     rw [if_neg (by omega)] at hl9
     rw [hl9] at hl3
     refine ⟨by rw [hr],⟨_,hd3,fun _ => ⟨hd3,hl3,hb3,HT2.out.ext hx3' hn0,hP3,?_⟩,hP3,hNW⟩,hb3,hEW⟩
     show a.log ≤ R.2.n
     rw [HR.out,Dk.logHead_n,HF.out,Dk.flush_n]
     exact H.out.ll
    ·rw [if_pos hr] at eS
     rw [eS]
     exact ⟨rfl,⟨_,hd3,fun h => absurd h hr,hP3,hNW⟩,hb3,hEW⟩)
   clear hd3 hl3 hx3
   go_wp2_with fail
   exact HD.out
  ·have hf1 : ((F.1 : Int) != 0) = true := by simp; omega
   have HD : Hid (Q (.returned (.int .i64 (F.1 : Int))) w2) := Lib.hid (by
    have e : S = (F.1,{ b with k := F.2 }) := by
     rw [HS.out]; unfold Db.settle
     rw [if_neg HRN.out,← HF.out,if_pos hf]
    rw [HQ.out,e]
    exact ⟨rfl,⟨Dd,HD2.out,fun h => absurd h hf,H.out.parts,fun g hg => .inl hg⟩,HB2.out,HX1.out.of_no.trans_ (HX2.out.mono (fun _ _ hg => .inl hg))⟩)
   clear hf
   go_wp2_with fail
   exact HD.out
def Mt.val (m : Mt) : Value := .agg #[.int .i64 (m.r 0 : Int),.int .i64 (m.r 1 : Int),.int .i64 (m.r 2 : Int),.int .i64 (m.r 3 : Int),.int .i64 (m.high : Int),.int .i64 (m.free : Int),.int .i64 (m.cnt : Int)]
structure Mt.Ok (m : Mt) : Prop where
 r : ∀ i,m.r i < 2147483648
 h : m.high < 2147483648
 f : m.free < 2147483648
 c : m.cnt < 2147483648
def Mt.pre (m : Mt) (j : Nat) : Bs := n4 m.high ++ (n4 m.free ++ n4 m.cnt) ++ ((List.range j).map fun i => n4 (m.r i)).flatten
theorem Mt.pre_succ (m : Mt) (j : Nat) : m.pre (j + 1) = m.pre j ++ n4 (m.r j) := by
 unfold Mt.pre
 rw [List.range_succ,List.map_append,List.flatten_append,List.append_assoc]; simp
theorem Mt.pre_four (m : Mt) : m.pre 4 = m.body := by
 unfold Mt.pre Mt.body
 simp only [List.append_assoc]
 rfl
theorem Mt.pre_len (m : Mt) (j : Nat) : (m.pre j).length = 12 + 4 * j := by
 induction j with
 | zero => rfl
 | succ j ih => rw [m.pre_succ,List.length_append,ih,n4_len]; omega
theorem idx_root (m : Mt) (j : Nat) (hj : j < 4) (w : World) : (Instr.index 106 (.agg #[.int .i64 (m.r 0 : Int),.int .i64 (m.r 1 : Int),.int .i64 (m.r 2 : Int),.int .i64 (m.r 3 : Int)]) (.int .i64 (j : Int))).run Tryz.prog w = .ok (.int .i64 (m.r j : Int)) w := by
 match j,hj with
 | 0,_ => simp [Instr.index,run_underlying Tryz.underlying106,asIntOf,part,isAgg,run_underlying Tryz.underlying3,go_sem]
 | 1,_ => simp [Instr.index,run_underlying Tryz.underlying106,asIntOf,part,isAgg,run_underlying Tryz.underlying3,go_sem]
 | 2,_ => simp [Instr.index,run_underlying Tryz.underlying106,asIntOf,part,isAgg,run_underlying Tryz.underlying3,go_sem]
 | 3,_ => simp [Instr.index,run_underlying Tryz.underlying106,asIntOf,part,isAgg,run_underlying Tryz.underlying3,go_sem]
theorem body_any (m : Mt) (hm : m.Ok) (w : World) : Calls Tryz.prog 105 #[m.val] w fun e w' => e = .returned (.string (str m.body)) ∧ Ext No w w' := by
 have HNUM := Lib.hid (fun n (hn : n < 2147483648) w => number_any n (by omega) w)
 have HM := Lib.hid hm
 obtain ⟨C,hC⟩ : ∃ C,C = m.body := ⟨_,rfl⟩
 rw [← hC]
 have HC := Lib.hid hC
 have H0 := Lib.hid (fun w => HNUM.out m.high hm.h w)
 have H1 := Lib.hid (fun w => HNUM.out m.free hm.f w)
 have H2 := Lib.hid (fun w => HNUM.out m.cnt hm.c w)
 obtain ⟨N0,hN0⟩ : ∃ N0,N0 = n4 m.high := ⟨_,rfl⟩
 obtain ⟨N1,hN1⟩ : ∃ N1,N1 = n4 m.free := ⟨_,rfl⟩
 obtain ⟨N2,hN2⟩ : ∃ N2,N2 = n4 m.cnt := ⟨_,rfl⟩
 rw [← hN0] at H0
 rw [← hN1] at H1
 rw [← hN2] at H2
 have l0 : N0.length = 4 := by rw [hN0]; rfl
 have l1 : N1.length = 4 := by rw [hN1]; rfl
 have l2 : N2.length = 4 := by rw [hN2]; rfl
 have s1 : str N0 ++ str N1 = str (N0 ++ N1) := str_app _ _
 have s2 : str (N0 ++ N1) ++ str N2 = str (m.pre 0) := by rw [str_app,hN0,hN1,hN2]; unfold Mt.pre; simp
 unfold Mt.val
 clear hm hC hN0 hN1 hN2
 go_enter Tryz.func105,Tryz.ntmps105
 go_upto_region 1 with fail
 have hb := Blk.new w 108 #[.int .i64 (m.r 0 : Int),.int .i64 (m.r 1 : Int),.int .i64 (m.r 2 : Int),.int .i64 (m.r 3 : Int),.int .i64 (m.high : Int),.int .i64 (m.free : Int),.int .i64 (m.cnt : Int)]
 have HX1 := Lib.hid ((Ext.refl No w).alloc (.cells #[.int .i64 (m.r 0 : Int),.int .i64 (m.r 1 : Int),.int .i64 (m.r 2 : Int),.int .i64 (m.r 3 : Int),.int .i64 (m.high : Int),.int .i64 (m.free : Int),.int .i64 (m.cnt : Int)] 108))
 generalize w.alloc (.cells #[.int .i64 (m.r 0 : Int),.int .i64 (m.r 1 : Int),.int .i64 (m.r 2 : Int),.int .i64 (m.r 3 : Int),.int .i64 (m.high : Int),.int .i64 (m.free : Int),.int .i64 (m.cnt : Int)] 108) = W at *
 have HB := Lib.hid hb
 have k0 := hb.cell 0
 have k1 := hb.cell 1
 have k2 := hb.cell 2
 have k3 := hb.cell 3
 have k4 := hb.cell 4
 have k5 := hb.cell 5
 have k6 := hb.cell 6
 simp at k0 k1 k2 k3 k4 k5 k6
 have lw := hb.lt
 clear hb
 refine wp_region_up (by kernel_rfl) (by kernel_rfl) ?_; (repeat (go_big_quiet_step ((go_at_call 106; first | (with_reducible exact Calls.up_of (H0.out _)) | (with_reducible exact Calls.up_of (H1.out _)) | (with_reducible exact Calls.up_of (H2.out _)))))); refine wpQuiet_nil ?_; intro _ hw'; obtain ⟨⟨wq,hq⟩,hw''⟩ := hw'; change _ = wq at hw''; subst hw''
 have HE2 := Lib.hid hq
 have hb2 := HB.out.ext hq (fun h => h)
 have q0 := hb2.cell 0
 have q1 := hb2.cell 1
 have q2 := hb2.cell 2
 have q3 := hb2.cell 3
 simp at q0 q1 q2 q3
 have lq := hb2.lt
 clear hq hb2 k0 k1 k2 k3 k4 k5 k6 s1 s2 l0 l1 l2 H0 H1 H2
 go_wp2_with fail
 go_loopg [3,19] 4 (fun gk q3 q19 wr => ∃ j : Nat,j + gk = 4 ∧ q19 = .int .i64 (j : Int) ∧ q3 = .string (str (m.pre j)) ∧ Hid (Ext No w wr))
 case atStart => exact ⟨0,rfl,rfl,rfl,Lib.hid (HX1.out.trans_ HE2.out)⟩
 case round =>
  obtain ⟨j,hj,rfl,rfl,HE⟩ := hrel
  have HJ := Lib.hid hj
  by_cases h4 : j < 4
  ·have H4 := Lib.hid h4
   have hix := fun w => idx_root m j h4 w
   have hj4 : (j : Int) < 4 := by omega
   have HN := Lib.hid (fun w => HNUM.out (m.r j) (HM.out.r j) w)
   obtain ⟨N,hN⟩ : ∃ N,N = n4 (m.r j) := ⟨_,rfl⟩
   rw [← hN] at HN
   have HNN := Lib.hid hN
   have hl : (m.pre j).length < 100 := by rw [m.pre_len]; omega
   have hn : N.length = 4 := by rw [hN]; rfl
   have s1 : str (m.pre j) ++ str N = str (m.pre (j + 1)) := by rw [str_app,m.pre_succ,hN]
   obtain ⟨P,hP⟩ : ∃ P,P = m.pre j := ⟨_,rfl⟩
   rw [← hP] at s1 hl ⊢
   clear hj h4 hN hP
   go_wp2_with fail
   refine (HN.out _).mono ?_
   rintro e w1 ⟨rfl,hx1⟩
   have HEN := Lib.hid (HE.out.trans_ hx1)
   clear hx1
   go_wp2_with fail
   go_roundg (gk - 1)
   case rel => exact ⟨j + 1,by have := HJ.out; have := H4.out; omega,by go_num,rfl,HEN⟩
   case measure => have := HJ.out; have := H4.out; omega
  ·have hj4 : j = 4 := by omega
   subst hj4
   have HCC : Hid (C = m.pre 4) := Lib.hid (by rw [m.pre_four]; exact HC.out)
   rw [← HCC.out]
   clear hj h4
   go_wp2_with fail
   go_ret
   exact ⟨rfl,HE.out⟩
end Go.Proofs.YtccnemmlkcmceaaGreatDoor
namespace Go.Proofs.YtccnemmlkcmceaaGreatDoor
open Go.RowKit Go.Maps Go.Sort Go.Shelf
def sv : Bs → Value := fun b => .string (str b)
def V.mt (v : V) : Mt := ⟨v.r,v.high,v.free,v.cnt⟩
def sealP (cr : Bs → Nat) (p : Nat × Leaf) : Nat × Bs := (p.1,sealed cr p.1 p.2.kind p.2.body)
def imgList (cr : Bs → Nat) (v : V) (ov : List (Nat × Leaf)) : List (Nat × Bs) := ov.map (sealP cr) ++ (if v.marked then [(0,sealed cr 0 1 v.mt.body)] else [])
theorem sub_len : ∀ {l m : List Nat},l.Nodup → (∀ a ∈ l,a ∈ m) → l.length ≤ m.length
 | [],m,_,_ => by simp
 | a :: l,m,h,hs => by
  have h1 := List.nodup_cons.1 h
  have h2 : l.length ≤ (m.erase a).length := sub_len h1.2 (fun b hb => by
   exact (List.mem_erase_of_ne (by rintro rfl; exact h1.1 hb)).2 (hs b (by simp [hb])))
  have h3 := hs a (by simp)
  rw [List.length_erase_of_mem h3] at h2
  have : 0 < m.length := List.length_pos_of_mem h3
  simp only [List.length_cons]
  omega
theorem setBlk_far {w : World} {b i : Nat} {o : Obj} (h : i ≠ b) : (ChangeMaps.setBlock w b o).heap[i]? = w.heap[i]? := by
 simp only [ChangeMaps.setBlock,Array.getElem?_setIfInBounds]
 rw [if_neg (fun e => h e.symm)]
theorem setBlk_at {w : World} {b : Nat} {o : Obj} (h : b < w.heap.size) : (ChangeMaps.setBlock w b o).heap[b]? = some o := by
 simp [ChangeMaps.setBlock,h]
structure RecR (cr : Bs → Nat) (w wr : World) (bm r g : Nat) (es : Array MapEntry) (ov : List (Nat × Leaf)) (since : Nat) (dE : List MapEntry) (dP : List (Nat × Leaf)) (seen : Array Nat) (c0 : Nat) : Prop where
 kv : dE.map (fun e => (e.key,e.val)) = dP.map (fun p => (Value.int .i64 (p.1 : Int),p.2.val))
 sub : ∀ e ∈ dE,e ∈ es.toList
 subP : ∀ p ∈ dP,p ∈ ov
 sn : seen.toList = dE.map (·.born)
 nd : (dE.map (·.born)).Nodup
 it : wr.heap[r]? = some (.mapIter (some bm) since seen c0)
 le : since ≤ c0
 img : MapG sv wr g (dP.map (sealP cr))
 x : Ext No w wr
structure RecM (w : World) (bm : Nat) (es : Array MapEntry) (c : Nat) (ov : List (Nat × Leaf)) : Prop where
 at_ : w.heap[bm]? = some (.map es c)
 nodup : (ov.map (·.1)).Nodup
 ent : es.toList.map (fun e => (e.key,e.val)) = ov.map (fun p => (Value.int .i64 (p.1 : Int),p.2.val))
 st : Stamps es c
section
variable {cr : Bs → Nat} {w wr : World} {bm r g c : Nat} {es : Array MapEntry} {ov : List (Nat × Leaf)} {dE : List MapEntry} {dP : List (Nat × Leaf)} {seen : Array Nat} {c0 : Nat}
theorem RecM.len (h : RecM w bm es c ov) : es.toList.length = ov.length := by
 have := congrArg List.length h.ent
 simpa using this
theorem RecM.pair (h : RecM w bm es c ov) {e : MapEntry} (he : e ∈ es.toList) : ∃ p ∈ ov,e.key = .int .i64 (p.1 : Int) ∧ e.val = p.2.val := by
 have h1 : (e.key,e.val) ∈ es.toList.map (fun e => (e.key,e.val)) := List.mem_map.2 ⟨e,he,rfl⟩
 rw [h.ent] at h1
 obtain ⟨p,hp,e1⟩ := List.mem_map.1 h1
 injection e1 with e1 e2
 exact ⟨p,hp,e1.symm,e2.symm⟩
theorem RecM.keyInj (h : RecM w bm es c ov) {e e' : MapEntry} (he : e ∈ es.toList) (he' : e' ∈ es.toList) (hk : e.key = e'.key) : e = e' := by
 have hkey : es.toList.map (·.key) = (ov.map (fun p => p.1)).map (fun i : Nat => Value.int .i64 (i : Int)) := by
  have := congrArg (List.map Prod.fst) h.ent
  rw [List.map_map,List.map_map] at this
  rw [List.map_map]
  exact this
 have hnd : (es.toList.map (·.key)).Nodup := by
  rw [hkey]
  exact List.Pairwise.map (fun i : Nat => Value.int .i64 (i : Int)) (fun a b hab e => hab (by injection e with _ e; omega)) h.nodup
 obtain ⟨i,hi⟩ := List.getElem?_of_mem he
 obtain ⟨j,hj⟩ := List.getElem?_of_mem he'
 have hi1 := (List.getElem?_eq_some_iff.1 hi).1
 have : i = j := by
  have a1 : (es.toList.map (·.key))[i]? = some e.key := by rw [List.getElem?_map,hi]; rfl
  have a2 : (es.toList.map (·.key))[j]? = some e.key := by rw [List.getElem?_map,hj,hk]; rfl
  exact (List.getElem?_inj (by rw [List.length_map]; exact hi1) hnd).1 (a1.trans a2.symm)
 subst this
 rw [hi] at hj
 exact Option.some.inj hj
theorem RecR.fresh (h : RecR cr w wr bm r g es ov c dE dP seen c0) (hm : RecM w bm es c ov) {e : MapEntry} (he : e ∈ (leftOf es seen).toList) {p : Nat × Leaf} (hp : e.key = .int .i64 (p.1 : Int)) : e ∈ es.toList ∧ e.born ∉ dE.map (·.born) ∧ p.1 ∉ (dP.map (sealP cr)).map (·.1) := by
 unfold leftOf at he
 have he' : e ∈ Array.filter (fun e => !seen.contains e.born) es := Array.mem_toList_iff.1 he
 rw [Array.mem_filter] at he'
 have h1 : e ∈ es.toList := Array.mem_toList_iff.2 he'.1
 have h2 : e.born ∉ dE.map (·.born) := by
  rw [← h.sn]
  intro hm'
  have h3 : seen.contains e.born = true := Array.contains_iff_mem.2 (Array.mem_toList_iff.1 hm')
  rw [h3] at he'
  exact absurd he'.2 (by simp)
 refine ⟨h1,h2,fun hk => h2 ?_⟩
 rw [List.map_map] at hk
 obtain ⟨q,hq,e1⟩ := List.mem_map.1 hk
 have e1 : q.1 = p.1 := e1
 have h4 : (Value.int .i64 (q.1 : Int),q.2.val) ∈ dE.map (fun e => (e.key,e.val)) := by rw [h.kv]; exact List.mem_map.2 ⟨q,hq,rfl⟩
 obtain ⟨e',he',e2⟩ := List.mem_map.1 h4
 injection e2 with e2 _
 have : e = e' := hm.keyInj h1 (h.sub e' he') (by rw [hp,e2,e1])
 subst this
 exact List.mem_map.2 ⟨e,he',rfl⟩
theorem RecR.step (h : RecR cr w wr bm r g es ov c dE dP seen c0) (hm : RecM w bm es c ov) {e : MapEntry} (he : e ∈ (leftOf es seen).toList) {p : Nat × Leaf} (hpo : p ∈ ov) (hp : e.key = .int .i64 (p.1 : Int)) (hv : e.val = p.2.val) {w' : World} {clock : Nat} (hcl : c ≤ clock)
  (hit : w'.heap[r]? = some (.mapIter (some bm) c (seen.push e.born) clock)) (himg : MapG sv w' g (dP.map (sealP cr) ++ [sealP cr p])) (hx : Ext No w w') : RecR cr w w' bm r g es ov c (dE ++ [e]) (dP ++ [p]) (seen.push e.born) clock := by
 obtain ⟨h1,h2,_⟩ := h.fresh hm he hp
 refine ⟨by simp [h.kv,hp,hv],fun x hx => ?_,fun x hx => ?_,by simp [h.sn],?_,hit,hcl,by rw [List.map_append]; exact himg,hx⟩
 ·rcases List.mem_append.1 hx with hx | hx
  ·exact h.sub x hx
  ·rw [List.mem_singleton.1 hx]; exact h1
 ·rcases List.mem_append.1 hx with hx | hx
  ·exact h.subP x hx
  ·rw [List.mem_singleton.1 hx]; exact hpo
 ·rw [List.map_append]
  refine List.nodup_append.2 ⟨h.nd,by simp,?_⟩
  intro a ha b hb e3
  have : b = e.born := by simpa using hb
  subst this; subst e3
  exact h2 ha
theorem RecR.len (h : RecR cr w wr bm r g es ov c dE dP seen c0) (hm : RecM w bm es c ov) : dP.length = dE.length ∧ dP.length ≤ ov.length := by
 have h1 : dE.length = dP.length := by have := congrArg List.length h.kv; simpa using this
 have h2 := sub_len h.nd (m := es.toList.map (·.born)) (fun a ha => by
  obtain ⟨e,he,rfl⟩ := List.mem_map.1 ha
  exact List.mem_map.2 ⟨e,h.sub e he,rfl⟩)
 rw [List.length_map,List.length_map,hm.len] at h2
 omega
theorem RecR.all (h : RecR cr w wr bm r g es ov c dE dP seen c0) (hm : RecM w bm es c ov) (h0 : (leftOf es seen).size = 0) : dP.Perm ov := by
 have hin : ∀ e ∈ es.toList,e ∈ dE := fun e he => by
  have h1 : e.born ∈ dE.map (·.born) := by
   rw [← h.sn]
   rcases Classical.em (e.born ∈ seen.toList) with h1 | h1
   ·exact h1
   ·exfalso
    have h2 : e ∈ leftOf es seen := by
     unfold leftOf
     rw [Array.mem_filter]
     refine ⟨Array.mem_toList_iff.1 he,?_⟩
     have : seen.contains e.born = false := by
      rw [Bool.eq_false_iff]
      intro h3
      exact h1 (Array.mem_toList_iff.2 (Array.contains_iff_mem.1 h3))
     rw [this]; rfl
    have h3 : leftOf es seen = #[] := Array.eq_empty_of_size_eq_zero h0
    rw [h3] at h2
    simp at h2
  obtain ⟨e',he',e1⟩ := List.mem_map.1 h1
  have : e = e' := by
   obtain ⟨i,hi⟩ := List.getElem?_of_mem he
   obtain ⟨j,hj⟩ := List.getElem?_of_mem (h.sub e' he')
   have hi1 := (List.getElem?_eq_some_iff.1 hi).1
   have : i = j := by
    have a1 : (es.toList.map (·.born))[i]? = some e.born := by rw [List.getElem?_map,hi]; rfl
    have a2 : (es.toList.map (·.born))[j]? = some e.born := by rw [List.getElem?_map,hj]; simp [e1]
    exact (List.getElem?_inj (by rw [List.length_map]; exact hi1) hm.st.2).1 (a1.trans a2.symm)
   subst this
   rw [hi] at hj
   exact Option.some.inj hj
  rw [this]; exact he'
 have hdn : (dP.map (·.1)).Nodup := by
  have := h.img.nodup
  rw [List.map_map] at this
  exact this
 have hPn : dP.Nodup := List.Pairwise.imp (fun hab e => hab (by rw [e])) (List.pairwise_map.1 hdn)
 have hOn : ov.Nodup := List.Pairwise.imp (fun hab e => hab (by rw [e])) (List.pairwise_map.1 hm.nodup)
 refine (List.perm_ext_iff_of_nodup hPn hOn).2 (fun p => ⟨h.subP p,fun hp => ?_⟩)
 have h1 : (Value.int .i64 (p.1 : Int),p.2.val) ∈ es.toList.map (fun e => (e.key,e.val)) := by rw [hm.ent]; exact List.mem_map.2 ⟨p,hp,rfl⟩
 obtain ⟨e,he,e1⟩ := List.mem_map.1 h1
 have h2 : (e.key,e.val) ∈ dP.map (fun p => (Value.int .i64 (p.1 : Int),p.2.val)) := by rw [← h.kv]; exact List.mem_map.2 ⟨e,hin e he,rfl⟩
 obtain ⟨q,hq,e2⟩ := List.mem_map.1 h2
 rw [e1] at e2
 injection e2 with e2 _
 have e3 : q.1 = p.1 := by injection e2 with _ e2; omega
 -- keys of ov are distinct
 have hqo := h.subP q hq
 have : q = p := by
  obtain ⟨i,hi⟩ := List.getElem?_of_mem hqo
  obtain ⟨j,hj⟩ := List.getElem?_of_mem hp
  have hi1 := (List.getElem?_eq_some_iff.1 hi).1
  have : i = j := by
   have a1 : (ov.map (·.1))[i]? = some q.1 := by rw [List.getElem?_map,hi]; rfl
   have a2 : (ov.map (·.1))[j]? = some q.1 := by rw [List.getElem?_map,hj]; simp [e3]
   exact (List.getElem?_inj (by rw [List.length_map]; exact hi1) hm.nodup).1 (a1.trans a2.symm)
  subst this
  rw [hi] at hj
  exact Option.some.inj hj
 rw [← this]; exact hq
end
end Go.Proofs.YtccnemmlkcmceaaGreatDoor
namespace Go.Proofs.YtccnemmlkcmceaaGreatDoor
open Go.RowKit Go.Maps Go.Sort Go.Shelf Go.BigFrame
theorem imgkeys_any (m : Nat) (w : World) : Calls Tryz.prog 108 #[.map (some m)] w fun e w' => e = .returned (.func (.func 157) #[] #[.pointer (some ⟨w.heap.size,0,none⟩)]) ∧ w' = w.alloc (.cells #[.map (some m)] 132) :=
 callsIn_wide.1 (AnyZI.keys_in Tryz.keysA Fence.wide 5 trivial rfl (some m) w)
theorem imgsorted_any {w : World} {m : Nat} {ov : List (Nat × Bs)} (h : MapG sv w m ov) (hk : ∀ p ∈ ov,p.1 < 65536) (hn : ov.length < 65536) :
  Calls Tryz.prog 107 #[.func (.func 157) #[] #[.pointer (some ⟨w.heap.size,0,none⟩)]] (w.alloc (.cells #[.map (some m)] 132)) fun e w' => ∃ A c ks,e = .returned (.slice A ks.length c) ∧ ks.Perm (ov.map (·.1)) ∧ w'.ownsRow w.heap.size 3 1 (.slice A ks.length c) ks.length (kidVals ks) ∧ Ext No (w.alloc (.cells #[.map (some m)] 132)) w' := by
 obtain ⟨D,hown,hperm,hsize⟩ := h.owns hk hn
 have hbl := hown.lt
 have hseq : SeqGives Fence.wide 2 Tryz.prog 157 #[.pointer (some ⟨w.heap.size,0,none⟩)] encZ (fun ss => ss.Perm (intKeys D)) (Maps.size D) (w.alloc (.cells #[.map (some m)] 132)) :=
  AnyZI.keys_gives (ρ := Tryz.keysA_ren) { Tryz.keysA with } Fence.wide _ trivial rfl (by omega) w.heap.size m ov.length D _ (by simp) (by simp) (by
   obtain ⟨es,clock,hb,Ft,hs,hD⟩ := hown
   exact ⟨es,clock,(Below.heap_alloc _ _ m hbl).trans hb,Ft,hs,hD⟩)
 have cS := AnyZI.sorted_in Tryz.sortedA Fence.wide 5 trivial trivial trivial trivial rfl (by omega) (Tryz.sortsA _) (enters_of Tryz.func156 (by kernel_rfl) rfl) 157 #[.pointer (some ⟨w.heap.size,0,none⟩)] trivial (enters_of Tryz.func157 (by kernel_rfl) rfl) _ _ (by rw [hsize]; unfold maxLen; omega) (by rw [hsize]; omega) _ hseq
 change CallsIn _ _ Tryz.prog 107 _ _ _ at cS
 refine (callsIn_wide.1 cS).mono ?_
 rintro e w' ⟨v,ss,rfl,hS,hrow,hnil,hb⟩
 have hp : ss.Perm (ov.map fun p => (p.1 : Int)) := hS.trans hperm
 obtain ⟨ks,hks⟩ : ∃ ks : List Nat,ks = (ss.mergeSort fun x y => decide (x ≤ y)).map Int.toNat := ⟨_,rfl⟩
 have hp2 : (ss.mergeSort fun x y => decide (x ≤ y)).Perm (ov.map fun p => (p.1 : Int)) := (List.mergeSort_perm _ _).trans hp
 have hlen : ks.length = ss.length := by rw [hks,List.length_map]; exact (List.mergeSort_perm _ _).length_eq
 have hkv : (ss.mergeSort fun x y => decide (x ≤ y)).map encZ = kidVals ks := by
  rw [hks]
  unfold kidVals
  rw [List.map_map]
  apply List.map_congr_left
  intro x hx
  obtain ⟨p,_,e⟩ := List.mem_map.1 (hp2.mem_iff.1 hx)
  subst e
  rfl
 rw [hkv,← hlen] at hrow
 obtain ⟨A,c,hv⟩ := own_form hrow
 subst hv
 refine ⟨A,c,ks,rfl,?_,?_,Ext.of_below hb No⟩
 ·rw [hks]
  refine (hp2.map Int.toNat).trans ?_
  rw [List.map_map]
  have : (ov.map ((Int.toNat) ∘ fun p => (p.1 : Int))) = ov.map (·.1) := List.map_congr_left (fun p _ => Int.toNat_natCast _)
  rw [this]
 ·refine ⟨hrow.1,?_⟩
  rcases hrow.2 with h0 | ⟨g,cap,cur,e1,hb1,r⟩
  ·exact .inl h0
  ·exact .inr ⟨g,cap,cur,e1,by simp at hb1; omega,r⟩
end Go.Proofs.YtccnemmlkcmceaaGreatDoor
