/- Proofs about the given program, joined out of the texts Z3, LG2, LG3, LG4, LG5, LG6, D4, D5. -/
import Derived.Test.YtccnemmlkcmceaaGreatDoorHB4
import Derived.Lib.AtoiErrMem
import Derived.Deep.LoopGhost
import Derived.Deep.OwnRows
import Derived.Deep.RegionHeld3
import Derived.Deep.AppendLies
import Derived.Laws.ResultCell
import Derived.Deep.RegionLaw
set_option linter.unusedVariables false
set_option linter.unusedSimpArgs false
set_option maxRecDepth 100000
set_option maxHeartbeats 6400000
namespace Go.Proofs.YtccnemmlkcmceaaGreatDoor
open Go.RowKit
theorem repeat_zs (n : Nat) : (⟨(Lib.repeatL [0] n).toArray⟩ : ByteArray) = str (zs n) := by
 induction n with
 | zero => rfl
 | succ n ih =>
  have h := congrArg (fun s : ByteArray => s.data.toList) ih
  simp only [str] at h ⊢
  congr 1
  simp only [Lib.repeatL,zs,List.replicate_succ] at h ⊢
  simp at h ⊢
  exact h
def logCells (d n : Nat) : Array Value := #[.pointer (some ⟨d,0,none⟩),.int .i64 0,.int .i64 (n : Int),.int .i64 0,.slice none 0 0,.slice none 0 0,.slice none 0 0,.bool false]
theorem wal_new (d kb n m : Nat) (hm : 2 ≤ m) (hmn : m ≤ n) (hn : n ≤ 65536) (w : World) (h : Blk w d 140 (diskCells kb n)) (hk : Blk w kb 142 (madeCells zero64 (n * 64))) :
  Calls Tryz.prog 80 #[.pointer (some ⟨d,0,none⟩),.int .i64 0,.int .i64 (m : Int)] w fun e w' => e = .returned (.tuple #[.pointer (some ⟨w.heap.size,0,none⟩),.int .i64 0]) ∧
   Blk w' w.heap.size 179 (logCells d m) ∧ Ext No w w' := by
 have c0 := h.cell 0
 have c2 := h.cell 2
 simp [diskCells] at c0 c2
 have HD := Lib.hid h; have HK := Lib.hid hk
 have HS := Lib.hid (fun w c0 => dsize_any d n ⟨kb,0,none⟩ w c0 (by omega))
 have HW := Lib.hid (fun w c0 c2 => ddown_any d n ⟨kb,0,none⟩ w false c0 (by omega) c2)
 have HR := Lib.hid (fun w h hk => disk_read d kb n 0 (by omega) hn w h hk)
 have HP := Lib.hid (fun w => Tryz.strings_Repeat ⟨#[0]⟩ 64 w (by omega) (by show 1 * 64 ≤ _; omega))
 have hrep : (⟨(Lib.repeatL (⟨#[0]⟩ : ByteArray).data.toList 64).toArray⟩ : ByteArray) = str (zs 64) := repeat_zs 64
 rw [hrep] at HP
 obtain ⟨z,hz⟩ : ∃ z,z = str (zs 64) := ⟨_,rfl⟩
 rw [← hz] at HR HP
 have g1 : ¬ ((m : Int) < 2) := by omega
 have g2 : ¬ ((n : Int) < m) := by omega
 have g3 : ((n : Int) == 0) = false := by simpa using (by omega : ¬ (n : Int) = 0)
 have g4 : ¬ ((n : Int) < 0) := by omega
 have hlt := h.lt
 clear h hk hrep hz
 go_enter Tryz.func80,Tryz.ntmps80
 go_wp2_with (first | (go_at_call 93; refine (HS.out _ c0).mono ?_; rintro e w' ⟨rfl,rfl⟩) | (go_at_call 40; refine (HW.out _ c0 c2).mono ?_; rintro e w' ⟨rfl,rfl⟩))
 have hb := Blk.new w 179 (logCells d m)
 refine (HR.out _ (HD.out.alloc _) (HK.out.alloc _)).mono ?_
 rintro e w1 ⟨rfl,hx1⟩
 have hb1 := hb.ext hx1 (fun h => h)
 go_wp2_with fail
 refine (HP.out _).mono ?_
 rintro e w2 ⟨rfl,hx2⟩
 have hx2' := Ext.of_below hx2 No
 have hb2 := hb1.ext hx2' (fun h => h)
 go_wp2_with fail
 go_ret2
 exact ⟨rfl,hb2,(((Ext.refl No w).alloc _).trans_ hx1).trans_ hx2'⟩
def nb (x : Nat) : Nat → Bs
 | 0 => []
 | n + 1 => UInt8.ofNat x :: nb (x / 256) n
theorem nb_len : ∀ (n x : Nat),(nb x n).length = n
 | 0,_ => rfl
 | n + 1,x => by simp [nb,nb_len n]
theorem nb_get : ∀ (n x i : Nat),i < n → (nb x n)[i]? = some (UInt8.ofNat (x / 256 ^ i))
 | n + 1,x,0,_ => by simp [nb]
 | n + 1,x,i + 1,h => by
  have := nb_get n (x / 256) i (by omega)
  rw [nb,List.getElem?_cons_succ,this,Nat.div_div_eq_div_mul,Nat.pow_succ,Nat.mul_comm]
def nbCells (x n k : Nat) : Array Value := ((List.range n).map fun i => Value.int .u8 (if i < k then ((UInt8.ofNat (x / 256 ^ i)).toNat : Int) else 0)).toArray
theorem nbCells_get {x n k i : Nat} (h : i < n) : (nbCells x n k)[i]? = some (.int .u8 (if i < k then ((UInt8.ofNat (x / 256 ^ i)).toNat : Int) else 0)) := by
 simp [nbCells,h]
theorem nbCells_set {x n k : Nat} (h : k < n) : (nbCells x n k).setIfInBounds k (.int .u8 ((UInt8.ofNat (x / 256 ^ k)).toNat : Int)) = nbCells x n (k + 1) := by
 apply Array.ext_getElem?
 intro i
 by_cases hi : i < n
 ·rw [Array.getElem?_setIfInBounds,nbCells_get hi]
  by_cases e : k = i
  ·subst e; simp [nbCells,h]
  ·rw [if_neg e,nbCells_get hi]
   congr 2
   by_cases h1 : i < k
   ·rw [if_pos h1,if_pos (by omega)]
   ·rw [if_neg h1,if_neg (by omega)]
 ·simp [nbCells,hi,show ¬ i < n from hi]
theorem nbCells_zero (x n : Nat) : madeCells #[.int .u8 0] n = nbCells x n 0 := by
 apply Array.ext_getElem?
 intro i
 by_cases hi : i < n
 ·rw [nbCells_get hi,if_neg (by omega)]
  have : i % 1 = 0 := by omega
  simp [madeCells,hi,this]
 ·simp [nbCells,madeCells,hi,show ¬ i < n from hi]
theorem nb_conv {w : World} {g x n : Nat} (h : Blk w g 5 (nbCells x n n)) : (convert 98 9 (.slice (some ⟨g,0,none⟩) n n)).run Tryz.prog w = .ok (.string (str (nb x n))) w := by
 have h1 := run_convert_bytes_back (P := Tryz.prog) w 98 9 5 ⟨g,0,none⟩ n (nb x n) Tryz.underlying98 Tryz.underlying5 Tryz.underlying9 (fun j hj => by
  rw [nb_len] at hj
  rw [Addr.add_none,Nat.zero_add,h.cell,nbCells_get hj,if_pos hj]
  have := nb_get n x j hj
  have h2 := (List.getElem?_eq_some_iff.1 this).2
  rw [← h2])
 rw [nb_len] at h1
 exact h1
theorem nr_any (x n : Nat) (hx : x < 18446744073709551616) (hn : n ≤ 8) (w : World) : Calls Tryz.prog 159 #[.int .u64 (x : Int),.int .i64 (n : Int)] w fun e w' => e = .returned (.string (str (nb x n))) ∧ Ext No w w' := by
 have h1 : (n : Int) ≤ 8 := by omega
 have h0 : (0 : Int) ≤ n := by omega
 have hmk := run_make_row' (P := Tryz.prog) 98 5 (.int .u8 0) 1 Tryz.underlying98 (by kernel_rfl) rfl .i64 .i64 n (by omega) (by omega) w
 rw [nbCells_zero x] at hmk
 go_enter Tryz.func159,Tryz.ntmps159
 go_wp2_with fail
 clear hmk
 have HB := Lib.hid (Blk.new w 5 (nbCells x n 0))
 have HX := Lib.hid ((Ext.refl No w).alloc (.cells (nbCells x n 0) 5))
 generalize w.alloc (.cells (nbCells x n 0) 5) = W at *
 go_loopg [11] n (fun gk q11 wr => ∃ k : Nat,k + gk = n ∧ q11 = .int .i64 (k : Int) ∧ Hid (Blk wr w.heap.size 5 (nbCells x n k)) ∧ Hid (Ext No w wr))
 case atStart => exact ⟨0,by omega,rfl,HB,HX⟩
 case round =>
  obtain ⟨k,hk,rfl,HK,HE⟩ := hrel
  have HKK := Lib.hid hk
  by_cases hkn : k < n
  ·have hlt := HK.out.lt
   have c1 := HK.out.cell k
   rw [nbCells_get hkn,if_neg (by omega)] at c1
   have f1 := HK.out.frozen k
   have hk1 : (0 : Int) ≤ k := by omega
   have hk2 : (k : Int) < n := by omega
   have hk3 : (8 : Int) * (k : Int) < 64 := by omega
   have hsh : x / 2 ^ (8 * k) = x / 256 ^ k := by rw [Nat.pow_mul]
   have HN := Lib.hid (HK.out.set_ k (.int .u8 ((UInt8.ofNat (x / 256 ^ k)).toNat : Int)))
   rw [nbCells_set hkn] at HN
   have hv : ((UInt8.ofNat (x / 256 ^ k)).toNat : Int) = (x : Int) / 2 ^ (8 * k) % 256 := by
    rw [← hsh,UInt8.toNat_ofNat',Int.natCast_emod,Int.natCast_ediv,Int.natCast_pow]; rfl
   have HEN := Lib.hid (HE.out.setNew (b := w.heap.size) (Nat.le_refl _) k (.int .u8 ((UInt8.ofNat (x / 256 ^ k)).toNat : Int)))
   rw [hv] at HN HEN
   clear hv hsh
   clear hk
   go_wp2_with fail
   go_roundg (gk - 1)
   case rel => exact ⟨k + 1,by have := HKK.out; omega,by go_num,HN,HEN⟩
   case measure => have := HKK.out; omega
  ·have hkn' : k = n := by omega
   have hge : ¬ ((k : Int) < (n : Int)) := by omega
   rw [hkn'] at HK
   have hcv := nb_conv HK.out
   clear hk hkn'
   go_wp2_with fail
   go_ret
   exact ⟨rfl,HE.out⟩
theorem ofNat_mod (n : Nat) : UInt8.ofNat (n % 256) = UInt8.ofNat n := by
 apply UInt8.toNat_inj.1
 rw [UInt8.toNat_ofNat',UInt8.toNat_ofNat']; omega
theorem nb_four (x : Nat) : nb x 4 = n4 x := by
 simp only [nb,n4,ofNat_mod]
 rw [show x / 256 / 256 = x / 65536 by omega,show x / 65536 / 256 = x / 16777216 by omega]
theorem nb_eight (x : Nat) : nb x 8 = n8 x := by
 have e : nb x 8 = nb x 4 ++ nb (x / 4294967296) 4 := by
  simp only [nb]
  rw [show x / 4294967296 = x / 256 / 256 / 256 / 256 by omega]
  rfl
 rw [e,nb_four,nb_four]; rfl
theorem lg_sum (T : Nat → Nat) (w : World) (h : Half w T) (s : Bs) (hs : s.length < 2^30) : Calls Tryz.prog 160 #[.string (str s)] w fun e w' => e = .returned (.string (str (n4 (crc T s)))) ∧ Ext No w w' := by
 have hcv := Lib.run_convert_string_bytes (P := Tryz.prog) w 9 98 5 (str s) (u := .string) Tryz.underlying9 Tryz.underlying98 Tryz.underlying5
 have hX : Ext No w (Lib.bytesWorld w 5 (str s)) := Ext.of_below (Lib.bytesWorld_below w 5 (str s)) No
 have hR : Rd (Lib.bytesWorld w 5 (str s)) No 1 (some ⟨w.heap.size,0,none⟩) s.length (bcs s) := ⟨by rw [bcs_len]; omega,fun _ => ⟨w.heap.size,0,rfl,fun h => h,fun j u hu => by
  have hj := (List.getElem?_eq_some_iff.1 hu).1
  rw [bcs_len] at hj
  have := Lib.bytesWorld_cell w 5 (str s) j (by rw [str_size]; exact hj)
  rw [Nat.zero_add,this]
  rw [← hu]
  simp [bcs,hj,str]⟩⟩
 have HS := Lib.hid (fun c => sum_any T _ (h.ext hX (fun h => h)) _ s c hR (by omega))
 have HN := Lib.hid (fun w => nr_any (crc T s) 4 (by have := crc_lt h.lt s; omega) (by omega) w)
 rw [nb_four] at HN
 have hcl : ((crc T s : Nat) : Int) < 4294967296 := by have := crc_lt h.lt s; omega
 rw [str_size] at hcv
 have HX := Lib.hid hX
 clear h hX hR
 generalize Lib.bytesWorld w 5 (str s) = W at *
 generalize crc T s = C at *
 go_enter Tryz.func160,Tryz.ntmps160
 go_wp2_with fail
 refine (HS.out _).mono ?_
 rintro e w1 ⟨rfl,rfl⟩
 go_wp2_with fail
 refine (HN.out _).mono ?_
 rintro e w1 ⟨rfl,hx1⟩
 go_wp2_with fail
 go_ret
 exact ⟨rfl,HX.out.trans_ hx1⟩
theorem lg_frame (T : Nat → Nat) (w : World) (h : Half w T) (s : Bs) (hs : s.length < 2^29) : Calls Tryz.prog 114 #[.string (str s)] w fun e w' => e = .returned (.string (str (frameOf (crc T) s))) ∧ Ext No w w' := by
 have HN := Lib.hid (fun w => nr_any s.length 4 (by omega) (by omega) w)
 rw [nb_four] at HN
 have HS := Lib.hid (fun w (h : Half w T) => lg_sum T w h (n4 s.length ++ s) (by rw [List.length_append,n4_len]; omega))
 have HH := Lib.hid h
 have hsl : (s.length : Int) < 536870912 := by omega
 obtain ⟨N,hN⟩ : ∃ N,N = n4 s.length := ⟨_,rfl⟩
 obtain ⟨C,hC⟩ : ∃ C,C = n4 (crc T (N ++ s)) := ⟨_,rfl⟩
 have hF : frameOf (crc T) s = N ++ (C ++ s) := by unfold frameOf; rw [← hN,← hC]
 rw [hF]
 rw [← hN] at HN HS
 rw [← hC] at HS
 have lN : N.length = 4 := by rw [hN]; rfl
 have lC : C.length = 4 := by rw [hC]; rfl
 have z1 : ¬ (9223372036854775807 < 4 + s.length) := by omega
 have z2 : ¬ (9223372036854775807 < 8 + s.length) := by omega
 have a1 : str N ++ str s = str (N ++ s) := str_app _ _
 have a2 : str N ++ str C = str (N ++ C) := str_app _ _
 have a3 : str (N ++ C) ++ str s = str (N ++ (C ++ s)) := by rw [str_app,List.append_assoc]
 clear h hF hN hC
 go_enter Tryz.func114,Tryz.ntmps114
 go_wp2_with fail
 refine (HN.out _).mono ?_
 rintro e w1 ⟨rfl,hx1⟩
 have HX1 := Lib.hid hx1
 have HT := Lib.hid (HH.out.ext hx1 (fun h => h))
 clear hx1
 go_wp2_with fail
 refine (HS.out _ HT.out).mono ?_
 rintro e w2 ⟨rfl,hx2⟩
 go_wp2_with fail
 go_ret
 exact ⟨rfl,HX1.out.trans_ hx2⟩
theorem lg_head (T : Nat → Nat) (w : World) (h : Half w T) (epoch len : Nat) (he : epoch < 2^60) (hl : len < 2^32) : Calls Tryz.prog 122 #[.int .i64 (epoch : Int),.int .i64 (len : Int)] w fun e w' => e = .returned (.string (str (headOf (crc T) epoch len))) ∧ Ext No w w' := by
 have HN := Lib.hid (fun w => nr_any epoch 8 (by omega) (by omega) w)
 have HM := Lib.hid (fun w => nr_any len 4 (by omega) (by omega) w)
 rw [nb_eight] at HN
 rw [nb_four] at HM
 have HS := Lib.hid (fun w (h : Half w T) => lg_sum T w h (head0 epoch len) (by simp [head0,n8,n4]))
 have HP := Lib.hid (fun w => Tryz.strings_Repeat ⟨#[0]⟩ 44 w (by omega) (by show 1 * 44 ≤ _; omega))
 have hrep : (⟨(Lib.repeatL (⟨#[0]⟩ : ByteArray).data.toList 44).toArray⟩ : ByteArray) = str (zs 44) := repeat_zs 44
 rw [hrep] at HP
 have HH := Lib.hid h
 have he1 : (epoch : Int) < 1152921504606846976 := by omega
 have hl1 : (len : Int) < 4294967296 := by omega
 obtain ⟨Z,hZ⟩ : ∃ Z,Z = zs 44 := ⟨_,rfl⟩
 obtain ⟨G,hG⟩ : ∃ G : Bs,G = [65,81,87,76] := ⟨_,rfl⟩
 obtain ⟨N,hN⟩ : ∃ N,N = n8 epoch := ⟨_,rfl⟩
 obtain ⟨M,hM⟩ : ∃ M,M = n4 len := ⟨_,rfl⟩
 obtain ⟨C,hC⟩ : ∃ C,C = n4 (crc T (head0 epoch len)) := ⟨_,rfl⟩
 have h0 : head0 epoch len = G ++ (N ++ M) := by unfold head0; rw [← hG,← hN,← hM]
 have hF : headOf (crc T) epoch len = G ++ (N ++ (M ++ (C ++ Z))) := by unfold headOf; rw [← hC,← hZ,h0]; simp only [List.append_assoc]
 rw [hF]
 rw [← hN] at HN
 rw [← hM] at HM
 rw [← hC,h0] at HS
 rw [← hZ] at HP
 have lG : G.length = 4 := by rw [hG]; rfl
 have lN : N.length = 8 := by rw [hN]; rfl
 have lM : M.length = 4 := by rw [hM]; rfl
 have lC : C.length = 4 := by rw [hC]; rfl
 have lZ : Z.length = 44 := by rw [hZ]; exact zs_len 44
 have a1 : (⟨#[65,81,87,76]⟩ : ByteArray) ++ str N = str (G ++ N) := by rw [hG]; exact str_app [65,81,87,76] N
 have a2 : str (G ++ N) ++ str M = str (G ++ (N ++ M)) := by rw [str_app,List.append_assoc]
 have a3 : str (G ++ (N ++ M)) ++ str C = str (G ++ (N ++ (M ++ C))) := by rw [str_app]; simp only [List.append_assoc]
 have a4 : str (G ++ (N ++ (M ++ C))) ++ str Z = str (G ++ (N ++ (M ++ (C ++ Z)))) := by rw [str_app]; simp only [List.append_assoc]
 clear h hF hN hC hrep h0 hG hM hZ
 go_enter Tryz.func122,Tryz.ntmps122
 go_wp2_with fail
 refine (HN.out _).mono ?_
 rintro e w1 ⟨rfl,hx1⟩
 have HX1 := Lib.hid hx1
 clear hx1
 go_wp2_with fail
 refine (HM.out _).mono ?_
 rintro e w2 ⟨rfl,hx2⟩
 have HX2 := Lib.hid (HX1.out.trans_ hx2)
 have HT := Lib.hid (HH.out.ext HX2.out (fun h => h))
 clear hx2 HX1
 go_wp2_with fail
 refine (HS.out _ HT.out).mono ?_
 rintro e w3 ⟨rfl,hx3⟩
 have HX3 := Lib.hid (HX2.out.trans_ hx3)
 clear hx3 HX2
 go_wp2_with fail
 refine (HP.out _).mono ?_
 rintro e w4 ⟨rfl,hb4⟩
 go_wp2_with fail
 go_ret
 exact ⟨rfl,HX3.out.trans_ (Ext.of_below hb4 No)⟩
theorem Grow.of {D : Nat → Prop} {w w1 w2 w' : World} (h1 : w.heap.size ≤ w1.heap.size) (h2 : w2.heap.size ≤ w'.heap.size) {b : Nat} (h : Grow D w1 w2 b) : Grow D w w' b := by
 rcases h with h | h
 ·exact .inl h
 ·exact .inr ⟨by omega,by omega⟩
theorem Grow.back {D : Nat → Prop} {w w1 w2 : World} (h1 : w.heap.size ≤ w1.heap.size) {b : Nat} (hb : b < w.heap.size) (h : Grow D w1 w2 b) : D b := by
 rcases h with h | h
 ·exact h
 ·omega
def Dk.Near (k : Dk) (n : Nat) : Prop := k.left < n ∧ k.done < n ∧ k.pd.length < n
theorem Dk.does_near {k : Dk} {n : Nat} (h : k.Near n) : k.does.2.Near (n + 1) := by
 obtain ⟨h1,h2,h3⟩ := h
 unfold Dk.does
 split
 ·exact ⟨by show k.left < _; omega,by show k.done < _; omega,by show k.pd.length < _; omega⟩
 ·refine ⟨?_,by show k.done + 1 < _; omega,by show k.pd.length < _; omega⟩
  show (if k.armed then k.left - 1 else k.left) < n + 1
  split <;> omega
theorem Dk.Near.mono {k : Dk} {n n' : Nat} (h : k.Near n) (hn : n ≤ n') : k.Near n' := ⟨by have := h.1; omega,by have := h.2.1; omega,by have := h.2.2; omega⟩
theorem Dk.write_near {k : Dk} {n : Nat} (h : k.Near n) (i : Nat) (s : Bs) : (k.write i s).2.Near (n + 1) := by
 have h1 := Dk.does_near h
 have h2 := k.does_same.2.2.1
 unfold Dk.write
 split
 ·exact h.mono (by omega)
 ·split
  ·exact h1
  ·refine ⟨h1.1,h1.2.1,?_⟩
   show (k.pd ++ [(i,sect s)]).length < n + 1
   have := h.2.2
   simp; omega
theorem Dk.flush_near {k : Dk} {n : Nat} (h : k.Near n) : k.flush.2.Near (n + 1) := by
 have h1 := Dk.does_near h
 unfold Dk.flush
 split
 ·exact h.mono (by omega)
 ·split
  ·exact h1
  ·exact ⟨h1.1,h1.2.1,by show (0 : Nat) < _; omega⟩
theorem lg_write {w : World} {D Dd : Nat → Prop} {x d m kb : Nat} {l : Lg} {k : Dk} {T : Nat → Nat} (h : LogAt w D x d m l) (hd : DiskAt w Dd d kb k) (hT : Half w T) (hap : ∀ b,D b → ¬ Dd b) (hk : k.Near (2^29)) (epoch len : Nat) (he : epoch < 2^60) (hl : len < 2^32) :
  Calls Tryz.prog 117 #[.pointer (some ⟨x,0,none⟩),.int .i64 (epoch : Int),.int .i64 (len : Int)] w fun e w' => e = .returned (.int .i64 ((k.logHead (crc T) epoch len).1 : Int)) ∧ DiskAt w' (Grow Dd w w') d kb (k.logHead (crc T) epoch len).2 ∧ Ext Dd w w' := by
 obtain ⟨H,hH⟩ : ∃ H,H = headOf (crc T) epoch len := ⟨_,rfl⟩
 have HHD := Lib.hid (fun w hT => lg_head T w hT epoch len he hl)
 rw [← hH] at HHD
 have hlen : H.length = 64 := by rw [hH]; exact head_len _ _ _
 have e0 : k.logHead (crc T) epoch len = if (k.write 0 H).1 ≠ 0 then k.write 0 H else (k.write 0 H).2.flush := by unfold Dk.logHead; rw [hH]
 rw [e0]
 have hn1 : 0 < k.n := hd.n1
 have HW := Lib.hid (fun (w : World) (hd : DiskAt w Dd d kb k) => dk_write hd 0 hn1 H (by omega) (by have := hk.1; omega) (by have := hk.2.1; omega) (by have := hk.2.2; omega))
 have hk1 := Dk.write_near hk 0 H
 have HF := Lib.hid (fun (w : World) (D : Nat → Prop) (hd : DiskAt w D d kb (k.write 0 H).2) => dk_flush hd (by have := hk1.1; omega) (by have := hk1.2.1; omega) (by have := hk1.2.2; omega))
 have HL := Lib.hid h; have HDD := Lib.hid hd; have HTT := Lib.hid hT; have HAP := Lib.hid hap
 have HSO := Lib.hid hd.old
 obtain ⟨_,_,_,_,_,_,_,c0,c1,_,_,_,_,_,_,hlt,_⟩ := h.c
 clear h hd hT hap e0 hH hk hk1
 generalize k.write 0 H = kw at *
 obtain ⟨R,hR⟩ : ∃ R,R = if kw.1 ≠ 0 then kw else kw.2.flush := ⟨_,rfl⟩
 rw [← hR]
 have HR := Lib.hid hR
 clear hR
 have HC0 := Lib.hid c0; have HC1 := Lib.hid c1
 go_enter Tryz.func117,Tryz.ntmps117
 go_upto_region 1 with fail
 clear c0 c1
 have hs1 : w.drew.cell? ⟨x,0,none⟩ = some (.pointer (some ⟨d,0,none⟩)) := cell_ext ((Ext.refl No w).drew) HC0.out (fun h => h)
 have hs2 : w.drew.cell? ⟨x,1,none⟩ = some (.int .i64 0) := cell_ext ((Ext.refl No w).drew) HC1.out (fun h => h)
 have hx0 : Ext No w w.drew := (Ext.refl No w).drew
 have HX0 := Lib.hid hx0
 have HT1 := Lib.hid (HTT.out.ext hx0 (fun h => h))
 have HNX : Hid (¬ Dd x) := Lib.hid (HAP.out x HL.out.xx)
 clear hx0
 go_region_held3 (fun w' => w'.cell? ⟨x,0,none⟩ = some (.pointer (some ⟨d,0,none⟩)) ∧ w'.cell? ⟨x,1,none⟩ = some (.int .i64 0)) (first | exact ⟨hs1,hs2⟩ | exact ⟨cell_ext hx3 (cell_ext (HX0.out.trans_ hx2) HC0.out (fun h => h)) HNX.out,cell_ext hx3 (cell_ext (HX0.out.trans_ hx2) HC1.out (fun h => h)) HNX.out⟩ | exact ⟨cell_ext (HX0.out.trans_ hx2) HC0.out (fun h => h),cell_ext (HX0.out.trans_ hx2) HC1.out (fun h => h)⟩) (first
  | (go_at_call 122; refine (HHD.out _ HT1.out).mono ?_; rintro e w2 ⟨rfl,hx2⟩)
  | (go_at_call 161; refine (HW.out _ (HDD.out.ext (HX0.out.trans_ hx2) (fun _ _ h => h))).mono ?_; rintro e w3 ⟨rfl,hd3,hx3⟩))
 have HX2 := Lib.hid (HX0.out.trans_ hx2)
 have HX3 := Lib.hid ((HX2.out.of_no).trans_ hx3)
 have HD3 := Lib.hid hd3
 have c3 := cell_ext hx3 (cell_ext HX2.out HC0.out (fun h => h)) HNX.out
 have hsz3 := hx3.size
 clear hd3 hx2 hs1 hs2
 by_cases hc : kw.1 = 0
 ·have hR : R = kw.2.flush := by rw [HR.out,if_neg (by omega)]
  have hc0 : (kw.1 : Int) = 0 := by omega
  rw [hc0]
  have HR2 := Lib.hid hR
  clear hR
  have hxlt : x < w3.heap.size := by have := HX3.out.size; omega
  clear hc hc0 hx3
  go_wp2_with fail
  refine (HF.out _ _ HD3.out).mono ?_
  rintro e w4 ⟨rfl,hd4,hx4⟩
  go_wp2_with fail
  go_ret
  rw [HR2.out]
  exact ⟨rfl,hd4.mono (fun b hb => Grow.of HX2.out.size hx4.size hb) (Grow.old HSO.out (Nat.le_trans HX3.out.size hx4.size)),HX3.out.trans hx4 (fun b hb hg => Grow.back HX2.out.size hb hg)⟩
 ·have hR : R = kw := by rw [HR.out,if_pos hc]
  have HR2 := Lib.hid hR
  clear hR
  have hc0 : ((kw.1 : Int) == 0) = false := by simp; omega
  have hc1 : ((kw.1 : Int) != 0) = true := by simp; omega
  clear hc hx3
  go_wp2_with fail
  go_ret
  rw [HR2.out]
  exact ⟨rfl,HD3.out.mono (fun b hb => Grow.of HX2.out.size (Nat.le_refl _) hb) (Grow.old HSO.out HX3.out.size),HX3.out⟩
theorem wrap_tiny (a : Int) (h0 : 0 ≤ a) (h1 : a < 1099511627776) : IntKind.i64.wrap a = a := by
 rw [wrapEq]; unfold wrap64; omega
theorem conv_part {w : World} {g c o n : Nat} {all : Bs} (hA : ∀ j u,(bcs all)[j]? = some u → w.cell? ⟨g,j,none⟩ = some u) (ho : o < all.length) (hn : n = ((all.drop o).take 64).length) : (convert 98 9 (.slice (some ⟨g,o,none⟩) n c)).run Tryz.prog w = .ok (.string (str ((all.drop o).take 64))) w := by
 have h1 := run_convert_bytes_back (P := Tryz.prog) w 98 9 5 ⟨g,o,none⟩ c ((all.drop o).take 64) Tryz.underlying98 Tryz.underlying5 Tryz.underlying9 (fun j hj => by
  rw [Addr.add_none]
  refine hA (o + j) _ ?_
  rw [List.length_take,List.length_drop] at hj
  simp [bcs,List.getElem?_eq_getElem (show o + j < all.length by omega)])
 rw [← hn] at h1
 exact h1
def lays (q N j : Nat) (all : Bs) : List (Nat × Bs) := rowOf (1 + q + j) (cutS (N - j) (all.drop ((q + j) * 64)))
theorem lays_next {q N j : Nat} {all : Bs} (h : j < N) : lays q N j all = (1 + q + j,(all.drop ((q + j) * 64)).take 64) :: lays q N (j + 1) all := by
 unfold lays
 obtain ⟨n,hn⟩ : ∃ n,N - j = n + 1 := ⟨N - j - 1,by omega⟩
 rw [hn,show N - (j + 1) = n by omega,cutS,rowOf,List.drop_drop,show 1 + q + j + 1 = 1 + q + (j + 1) by omega,show (q + j) * 64 + 64 = (q + (j + 1)) * 64 by omega]
theorem lays_end {q N j : Nat} {all : Bs} (h : N ≤ j) : lays q N j all = [] := by
 unfold lays
 rw [show N - j = 0 by omega]; rfl
theorem lg_lay {w : World} {D Dd : Nat → Prop} {x d m kb g c : Nat} {l : Lg} {k : Dk} (h : LogAt w D x d m l) (hd : DiskAt w Dd d kb k) (hap : ∀ b,D b → ¬ Dd b) (hk : k.Near (2^28)) (all : Bs) (hA : ∀ j u,(bcs all)[j]? = some u → w.cell? ⟨g,j,none⟩ = some u) (hg : ¬ Dd g) (hgl : g < w.heap.size) (hc : all.length ≤ c) (hfit : all.length ≤ 64 * (m - 1)) (hbl : l.bytes.length ≤ all.length) (hmn : m ≤ k.n) :
  Calls Tryz.prog 116 #[.pointer (some ⟨x,0,none⟩),.slice (some ⟨g,0,none⟩) all.length c] w fun e w' => e = .returned (.int .i64 ((k.logLay l.bytes all).1 : Int)) ∧ DiskAt w' (Grow Dd w w') d kb (k.logLay l.bytes all).2 ∧ Ext Dd w w' := by
 obtain ⟨q,hq⟩ : ∃ q,q = l.bytes.length / 64 := ⟨_,rfl⟩
 obtain ⟨N,hN⟩ : ∃ N,N = (all.length + 63) / 64 - q := ⟨_,rfl⟩
 have e0 : k.logLay l.bytes all = if (k.writes (lays q N 0 all)).1 ≠ 0 then k.writes (lays q N 0 all) else (k.writes (lays q N 0 all)).2.flush := by
  unfold Dk.logLay lays
  rw [← hq,← hN,Nat.sub_zero,Nat.add_zero,Nat.add_zero]
 obtain ⟨R,hR⟩ : ∃ R,R = k.logLay l.bytes all := ⟨_,rfl⟩
 rw [← hR]
 rw [e0] at hR
 have HR := Lib.hid hR
 have HL := Lib.hid h; have HDD := Lib.hid hd; have HAP := Lib.hid hap; have HA := Lib.hid hA
 have HSO := Lib.hid hd.old
 have hm1 := h.m1; have hm2 := h.m2
 have HNX : Hid (¬ Dd x) := Lib.hid (hap x h.xx)
 have HNG := Lib.hid hg
 have HGL := Lib.hid hgl
 have HK := Lib.hid hk
 have HMN := Lib.hid hmn
 have hql : ((l.bytes.length : Nat) : Int) / 64 = (q : Int) := by omega
 have hqb : l.bytes.length / 64 = q := hq.symm
 obtain ⟨Ab,cb,_,_,_,_,_,c0,c1,_,_,c4,_,_,_,hlt,_⟩ := h.c
 obtain ⟨L,hL⟩ : ∃ L,L = l.bytes.length := ⟨_,rfl⟩
 rw [← hL] at c4 hql hqb hbl
 have hbig : (L : Int) < 9223372036854775807 := by
  omega
 have HC0 := Lib.hid c0; have HC1 := Lib.hid c1
 have hal : (all.length : Int) ≤ 4194304 := by omega
 clear h hd hap hA hg hk hmn e0 hR hq hL
 go_enter Tryz.func116,Tryz.ntmps116
 go_wp2_with fail
 clear c4 c0 c1
 have HFIT : Hid (all.length ≤ 64 * (m - 1) ∧ L ≤ all.length ∧ L / 64 = q ∧ N = (all.length + 63) / 64 - q ∧ 2 ≤ m ∧ m ≤ 65536) := Lib.hid ⟨hfit,hbl,hqb,hN,hm1,hm2⟩
 clear hfit hbl hqb hN hm1 hm2 hql hbig
 go_loopg [5] N (fun gk q5 wr => ∃ (j : Nat) (k' : Dk),j + gk = N ∧ q5 = .int .i64 (((q + j) * 64 : Nat) : Int) ∧ Hid (k.writes (lays q N 0 all) = k'.writes (lays q N j all)) ∧ Hid (DiskAt wr (Grow Dd w wr) d kb k') ∧ Hid (Ext Dd w wr) ∧ Hid (k'.Near (2^28 + j)) ∧ Hid (k'.n = k.n))
 case atStart => exact ⟨0,k,by omega,by go_num,Lib.hid rfl,Lib.hid (HDD.out.mono (fun _ hb => .inl hb) (Grow.old HSO.out (Nat.le_refl _))),Lib.hid (Ext.refl _ _),HK,Lib.hid rfl⟩
 case round =>
  obtain ⟨j,k',hj,rfl,HWL,HD,HX,HNR,HKN⟩ := hrel
  have HJ := Lib.hid hj
  by_cases hjn : j < N
  ·have HJN := Lib.hid hjn
   obtain ⟨o,ho⟩ : ∃ o,o = (q + j) * 64 := ⟨_,rfl⟩
   obtain ⟨f1,f2,f3,f4,f5,f6⟩ := HFIT.out
   have hol : o < all.length := by omega
   obtain ⟨e,he⟩ : ∃ e,e = min (o + 64) all.length := ⟨_,rfl⟩
   have hoe : o ≤ e := by omega
   have hel : e ≤ all.length := by omega
   have hmin : min ((o : Int) + 64) (all.length : Int) = (e : Int) := by omega
   have HNG2 : Hid (¬ Grow Dd w wr g) := Lib.hid (fun hg => by
    rcases hg with hg | hg
    ·exact HNG.out hg
    ·have := HGL.out; omega)
   have hA2 : ∀ j u,(bcs all)[j]? = some u → wr.drew.cell? ⟨g,j,none⟩ = some u := fun j u hu => cell_ext HX.out.drew (HA.out j u hu) HNG.out
   have HCV := Lib.hid (fun (w' : World) (hA2 : ∀ j u,(bcs all)[j]? = some u → w'.cell? ⟨g,j,none⟩ = some u) => conv_part (c := all.length - o) hA2 hol (n := e - o) (by rw [List.length_take,List.length_drop]; omega))
   have HA2 := Lib.hid hA2
   rw [← ho]
   have g1 : (0 : Int) ≤ o := by omega
   have g2 : (o : Int) ≤ e := by omega
   have g3 : (e : Int) ≤ all.length := by omega
   have g4 : (o : Int) < all.length := by omega
   have g5 : (all.length : Int) ≤ c := by omega
   have HO := Lib.hid ho
   have HE := Lib.hid (And.intro hoe (And.intro hel hol))
   clear hj ho he f1 f2 f3 f4 f5 f6 hA2 hc hoe hel hol
   obtain ⟨i1,hi1⟩ : ∃ i1,i1 = 1 + q + j := ⟨_,rfl⟩
   have hadd : (1 : Int) + (o : Int) / 64 = (i1 : Int) := by have := HO.out; omega
   have hob : (o : Int) / 64 < 65537 := by have := HE.out; omega
   have hob0 : (0 : Int) ≤ (o : Int) / 64 := by omega
   have hw1 : IntKind.i64.wrap 1 = 1 := by decide
   have hw2 : IntKind.i64.wrap ((o : Int) / 64) = (o : Int) / 64 := wrap_tiny _ (by omega) (by omega)
   have hw3 : IntKind.i64.wrap (1 + (o : Int) / 64) = (i1 : Int) := by rw [← hadd]; exact wrap_tiny _ (by omega) (by omega)
   clear hadd hob hob0
   obtain ⟨S,hS⟩ : ∃ S,S = (all.drop o).take 64 := ⟨_,rfl⟩
   have hsl : S.length ≤ 64 := by rw [hS,List.length_take]; omega
   rw [← hS] at HCV
   have hin : i1 < k'.n := by
    have h1 := HFIT.out; have h2 := HKN.out; have h3 := HMN.out
    omega
   have HW := Lib.hid (dk_write (HD.out.ext ((Ext.refl No wr).drew) (fun _ _ h => h)) i1 hin S hsl (by have := HNR.out.1; have := HFIT.out; omega) (by have := HNR.out.2.1; have := HFIT.out; omega) (by have := HNR.out.2.2; have := HFIT.out; omega))
   have hk1 := Lib.hid (Dk.write_near HNR.out i1 S)
   have hkn1 := Lib.hid ((Dk.write_n k' i1 S).trans HKN.out)
   have HNXT : Hid (k'.writes (lays q N j all) = if (k'.write i1 S).1 ≠ 0 then k'.write i1 S else (k'.write i1 S).2.writes (lays q N (j + 1) all)) := Lib.hid (by
    rw [lays_next hjn,← HO.out,← hS,← hi1]; rfl)
   generalize k'.write i1 S = kw at *
   have hs1 : wr.drew.cell? ⟨x,0,none⟩ = some (.pointer (some ⟨d,0,none⟩)) := cell_ext HX.out.drew HC0.out HNX.out
   have hs2 : wr.drew.cell? ⟨x,1,none⟩ = some (.int .i64 0) := cell_ext HX.out.drew HC1.out HNX.out
   have hs3 := HCV.out _ HA2.out
   have HS1 := Lib.hid hs1; have HS2 := Lib.hid hs2
   have HNX2 : Hid (¬ Grow Dd w wr x) := Lib.hid (fun hg => by
    rcases hg with hg | hg
    ·exact HNX.out hg
    ·omega)
   have hxr : x < wr.heap.size := by have := HX.out.size; omega
   clear hi1 hS hin hjn
   go_upto_region 5 with fail
   go_region_held3 (fun w' => w'.cell? ⟨x,0,none⟩ = some (.pointer (some ⟨d,0,none⟩)) ∧ w'.cell? ⟨x,1,none⟩ = some (.int .i64 0) ∧ (convert 98 9 (.slice (some ⟨g,o,none⟩) (e - o) (all.length - o))).run Tryz.prog w' = .ok (.string (str S)) w') (first | exact ⟨hs1,hs2,hs3⟩ | exact ⟨cell_ext hx3 HS1.out HNX2.out,cell_ext hx3 HS2.out HNX2.out,HCV.out _ (fun j u hu => cell_ext hx3 (HA2.out j u hu) HNG2.out)⟩) (first
    | (go_at_call 161; refine (HW.out).mono ?_; rintro e w3 ⟨rfl,hd3,hx3⟩))
   have HXX := Lib.hid (HX.out.trans ((Ext.refl (Grow Dd w wr) wr).drew.trans_ hx3) (fun b hb hg => Grow.back (Nat.le_refl _) hb hg))
   have hsz := hx3.size
   have hszd : wr.drew.heap.size = wr.heap.size := rfl
   have HD3 := Lib.hid (hd3.mono (D' := Grow Dd w w3) (fun b hb => Grow.trans (w1 := wr) HX.out.size (by omega) (by rcases hb with hb | hb; exact .inl hb; exact .inr ⟨by omega,hb.2⟩)) (Grow.old HSO.out HXX.out.size))
   clear hd3 hx3 hs1 hs2 hs3 hw1 hw2 hw3
   by_cases hc : kw.1 = 0
   ·have hW2 : Hid (k.writes (lays q N 0 all) = kw.2.writes (lays q N (j + 1) all)) := Lib.hid (by rw [HWL.out,HNXT.out,if_neg (by omega)])
    have hc0 : (kw.1 : Int) = 0 := by omega
    rw [hc0]
    have hmb : (o : Int) < 4194304 := by omega
    clear hc hc0 HWL HNXT
    go_wp2_with fail
    go_roundg (gk - 1)
    case rel => exact ⟨j + 1,kw.2,by have := HJ.out; have := HJN.out; omega,by have := HO.out; go_num,hW2,HD3,HXX,hk1,hkn1⟩
    case measure => have := HJ.out; have := HJN.out; omega
   ·have hRk : R = kw := by rw [HR.out,HWL.out,HNXT.out,if_pos hc,if_pos hc]
    have HRK := Lib.hid hRk
    have hc0 : ((kw.1 : Int) != 0) = true := by simp; omega
    clear hc hRk
    go_wp2_with fail
    go_ret
    rw [HRK.out]
    exact ⟨rfl,HD3.out,HXX.out⟩
  ·have hjN : j = N := by omega
   obtain ⟨f1,f2,f3,f4,f5,f6⟩ := HFIT.out
   have hge : ¬ ((((q + j) * 64 : Nat) : Int) < (all.length : Int)) := by omega
   have hk9 : k.writes (lays q N 0 all) = (0,k') := by rw [HWL.out,lays_end (by omega)]; rfl
   have HR9 : Hid (R = k'.flush) := Lib.hid (by rw [HR.out,hk9]; rfl)
   have HFL := Lib.hid (dk_flush HD.out (by have := HNR.out.1; omega) (by have := HNR.out.2.1; omega) (by have := HNR.out.2.2; omega))
   have hc9 := cell_ext HX.out HC0.out HNX.out
   have hxlt : x < wr.heap.size := by have := HX.out.size; omega
   generalize (((q + j) * 64 : Nat) : Int) = oo at *
   clear hj hjN f1 f2 f3 f4 f5 f6 hk9 hjn
   go_wp2_with fail
   refine (HFL.out).mono ?_
   rintro e w4 ⟨rfl,hd4,hx4⟩
   go_wp2_with fail
   go_ret
   rw [HR9.out]
   exact ⟨rfl,hd4.mono (fun b hb => Grow.of (Nat.le_refl _) hx4.size hb) (Grow.old HSO.out (Nat.le_trans HX.out.size hx4.size)),HX.out.trans hx4 (fun b hb hg => Grow.back (Nat.le_refl _) hb hg)⟩
theorem LogAt.anew {w : World} {D : Nat → Prop} {x d m : Nat} {l : Lg} (h : LogAt w D x d m l) : LogAt (((w.setCell ⟨x,3,none⟩ (.int .i64 ((l.epoch : Int) + 1))).setCell ⟨x,4,none⟩ (.slice none 0 0)).setCell ⟨x,5,none⟩ (.slice none 0 0)) D x d m { l with epoch := l.epoch + 1,bytes := [],recs := [] } := by
 obtain ⟨Ab,cb,Ar,cr,Ap,cp,h1,h2,h3,h4,h5⟩ := h.cells
 have hx : Ext (On x) w (((w.setCell ⟨x,3,none⟩ (.int .i64 ((l.epoch : Int) + 1))).setCell ⟨x,4,none⟩ (.slice none 0 0)).setCell ⟨x,5,none⟩ (.slice none 0 0)) := (((Ext.refl _ _).setF (F := On x) rfl 3 _).setF (F := On x) rfl 4 _).setF (F := On x) rfl 5 _
 refine ⟨⟨none,0,none,0,Ap,cp,((h1.set_ 3 _).set_ 4 _).set_ 5 _,⟨⟨rfl,.inl ⟨rfl,rfl⟩⟩,fun g hg => by cases hg⟩,⟨⟨rfl,.inl ⟨rfl,rfl⟩⟩,fun g hg => by cases hg⟩,h4.ext hx (fun b _ hne => hne),fun g hg => by cases hg⟩,h.xx,fun b hb => Nat.lt_of_lt_of_le (h.old b hb) hx.size,h.m1,h.m2⟩
theorem lg_reset {w : World} {D Dd : Nat → Prop} {x d m kb : Nat} {l : Lg} {k : Dk} {T : Nat → Nat} (h : LogAt w D x d m l) (hd : DiskAt w Dd d kb k) (hT : Half w T) (h0 : ¬ Dd 0) (hap : ∀ b,D b → ¬ Dd b) (hk : k.Near (2^29)) (he : l.epoch < 2^59) (hl : l.lost = false) (hp : l.pend = []) :
  Calls Tryz.prog 111 #[.pointer (some ⟨x,0,none⟩)] w fun e w' => e = .returned (.int .i64 ((k.logHead (crc T) (l.epoch + 1) 0).1 : Int)) ∧ DiskAt w' (Grow Dd w w') d kb (k.logHead (crc T) (l.epoch + 1) 0).2 ∧
   LogAt w' D x d m (if (k.logHead (crc T) (l.epoch + 1) 0).1 ≠ 0 then { l with lost := true } else { l with epoch := l.epoch + 1,bytes := [],recs := [] }) ∧ Ext (fun b => Dd b ∨ On x b) w w' := by
 have HU := Lib.hid (lg_up h)
 rw [hl] at HU
 have HW := Lib.hid (lg_write h hd hT hap hk (l.epoch + 1) 0 (by omega) (by omega))
 have HL := Lib.hid h
 have HAP := Lib.hid hap
 have HSO := Lib.hid hd.old
 have hxx := hap x h.xx
 obtain ⟨R,hR⟩ : ∃ R,R = k.logHead (crc T) (l.epoch + 1) 0 := ⟨_,rfl⟩
 rw [← hR] at HW ⊢
 obtain ⟨l9,h9⟩ : ∃ l9 : Lg,l9 = (if R.1 ≠ 0 then { l with lost := true } else { l with epoch := l.epoch + 1,bytes := [],recs := [] }) := ⟨_,rfl⟩
 rw [← h9]
 have H9 := Lib.hid h9
 clear h9
 obtain ⟨Ab,cb,Ar,cr,Ap,cp,_,c0,_,_,c3,c4,_,c6,_,hlt,hfz⟩ := h.c
 rw [hp] at c6
 have f3 := hfz 3
 have heb : (l.epoch : Int) < 576460752303423488 := by omega
 have hne : ((l.epoch : Int) == 4611686018427387904) = false := by simp; omega
 rw [show ((l.epoch + 1 : Nat) : Int) = (l.epoch : Int) + 1 by omega] at HW
 have hwp : IntKind.i64.wrap ((l.epoch : Int) + 1) = (l.epoch : Int) + 1 := by rw [wrapEq]; unfold wrap64; omega
 have HNX : Hid (¬ Dd x) := Lib.hid hxx
 have HC3 := Lib.hid c3
 have HLL := Lib.hid hl
 clear h hd hT hap hk hR hfz hp hl
 go_enter Tryz.func111,Tryz.ntmps111
 go_wp2_with fail
 refine (HU.out).mono ?_
 rintro e w1 ⟨rfl,rfl⟩
 go_wp2_with fail
 refine (HW.out).mono ?_
 rintro e w2 ⟨rfl,hd2,hx2⟩
 have HD2 := Lib.hid hd2; have HX2 := Lib.hid hx2
 have HL2 := Lib.hid (HL.out.ext hx2 HAP.out)
 have HLO := Lib.hid (lg_lose HL2.out R.1 HLL.out)
 clear hd2 hx2 c0 c3 c4 c6 f3
 go_wp2_with fail
 refine (HLO.out).mono ?_
 rintro e w3 ⟨rfl,hl3,hx3⟩
 have HL3 := Lib.hid hl3
 have hnd : ∀ b,Grow Dd w w2 b → ¬ On x b := fun b hb e => by
  have e' : b = x := e
  subst e'
  rcases hb with hb | hb
  ·exact HNX.out hb
  ·omega
 have HD3 := Lib.hid (HD2.out.ext hx3 hnd)
 have HX3 : Hid (Ext (fun b => Dd b ∨ On x b) w w3) := Lib.hid ((HX2.out.mono (fun b _ hb => .inl hb)).trans_ (hx3.mono (fun b _ hb => .inr hb)))
 have hsz3 := hx3.size
 have hsz2 := HX2.out.size
 have HND := Lib.hid hnd
 clear hl3 hnd hxx
 by_cases hc : R.1 = 0
 ·have hc0 : (R.1 : Int) = 0 := by omega
  have HCC := Lib.hid hc
  have HL4 : Hid (LogAt w3 D x d m l) := Lib.hid (by
   have := HL3.out
   rw [hc] at this
   have e : ({ l with lost := decide ((0 : Nat) ≠ 0) } : Lg) = l := by
    have := HLL.out
    cases l; simp_all
   rw [e] at this
   exact this)
  have HR4 := Lib.hid HL4.out.anew
  obtain ⟨_,_,_,_,_,_,_,_,_,_,y3,_,_,_,_,ylt,yfz⟩ := HL4.out.c
  have g3 := yfz 3
  have g4 := yfz 4
  have g5 := yfz 5
  rw [hc0]
  clear hc hc0 hx3 yfz
  go_wp2_with fail
  go_ret
  rw [H9.out,if_neg (by have := HCC.out; omega)]
  refine ⟨by rw [HCC.out]; rfl,?_,HR4.out,((HX3.out.setF (F := fun b => Dd b ∨ On x b) (.inr rfl) 3 _).setF (F := fun b => Dd b ∨ On x b) (.inr rfl) 4 _).setF (F := fun b => Dd b ∨ On x b) (.inr rfl) 5 _⟩
  have hx9 : Ext (On x) w3 (((w3.setCell ⟨x,3,none⟩ (.int .i64 ((l.epoch : Int) + 1))).setCell ⟨x,4,none⟩ (.slice none 0 0)).setCell ⟨x,5,none⟩ (.slice none 0 0)) := (((Ext.refl _ _).setF (F := On x) rfl 3 _).setF (F := On x) rfl 4 _).setF (F := On x) rfl 5 _
  exact (HD3.out.ext hx9 HND.out).mono (fun b hb => Grow.of (Nat.le_refl _) (Nat.le_trans hsz3 hx9.size) hb) (Grow.old HSO.out (Nat.le_trans hsz2 (Nat.le_trans hsz3 hx9.size)))
 ·have hc0 : ((R.1 : Int) != 0) = true := by simp; omega
  have HCC := Lib.hid hc
  have HL4 : Hid (LogAt w3 D x d m { l with lost := true }) := Lib.hid (by
   have := HL3.out
   rw [show decide (R.1 ≠ 0) = true by simp [hc]] at this
   exact this)
  clear hc hx3
  go_wp2_with fail
  go_ret
  rw [H9.out,if_pos HCC.out]
  exact ⟨rfl,HD3.out.mono (fun b hb => Grow.of (Nat.le_refl _) hsz3 hb) (Grow.old HSO.out (by omega)),HL4.out,HX3.out⟩
theorem owns_blk {w : World} {e : TypeId} {v : Value} {n : Nat} {xs : List Value} (h : w.ownsRow 0 e 1 v n xs) {b : Nat} (hb : v.ownBlock = some b) : ∃ cur,w.heap[b]? = some (.cells cur e (0,0)) := by
 rcases h.2 with ⟨h0,_⟩ | ⟨g,cap,cur,e1,_,hg,_⟩
 ·rw [h0] at hb; cases hb
 ·rw [e1] at hb
  have : g = b := by simpa [Value.ownBlock] using hb
  subst this
  exact ⟨cur,hg⟩
theorem owns_apart {w : World} {e e' : TypeId} {v v' : Value} {n n' : Nat} {xs xs' : List Value} (h : w.ownsRow 0 e 1 v n xs) (h' : w.ownsRow 0 e' 1 v' n' xs') (hne : e ≠ e') {b : Nat} (hb : v.ownBlock = some b) (hb' : v'.ownBlock = some b) : False := by
 obtain ⟨c,hc⟩ := owns_blk h hb
 obtain ⟨c',hc'⟩ := owns_blk h' hb'
 rw [hc] at hc'
 simp only [Option.some.injEq,Obj.cells.injEq] at hc'
 exact hne hc'.2.1
theorem LogAt.pended {w W w7 : World} {D : Nat → Prop} {x d m cp : Nat} {l : Lg} {rec : Bs} (h : LogAt W D x d m l) (hw : w.heap.size ≤ W.heap.size) (hD : ∀ b,D b → b < w.heap.size) {Ap : Option Addr} (hc : W.cell? ⟨x,6,none⟩ = some (.slice Ap 0 cp)) (hp : l.pend = []) {g cap : Nat}
  (hown : w7.ownsRow 0 9 1 (.slice (some ⟨g,0,none⟩) 1 cap) 1 [.string (str rec)]) {W6 : World} (hx : Ext No W W6) (hg : W6.grownBy w7 (Value.slice Ap 0 cp).ownBlock) (ha : (Value.slice Ap 0 cp).ownBlock = some g ∨ g = W6.heap.size) (hlt : g < w7.heap.size) :
  LogAt (w7.setCell ⟨x,6,none⟩ (.slice (some ⟨g,0,none⟩) 1 cap)) (Grow D w (w7.setCell ⟨x,6,none⟩ (.slice (some ⟨g,0,none⟩) 1 cap))) x d m { l with pend := [rec] } ∧ Ext D W (w7.setCell ⟨x,6,none⟩ (.slice (some ⟨g,0,none⟩) 1 cap)) := by
 obtain ⟨Ab,cb,Ar,cr,Ap2,cp2,h1,h2,h3,h4,h5⟩ := h.cells
 rw [hp] at h4 h5
 have e : Ap2 = Ap ∧ cp2 = cp := by
  have := h1.cell 6
  rw [hc] at this
  simp only [Lg.cells,hp] at this
  simp at this
  exact ⟨this.1.symm,this.2.symm⟩
 obtain ⟨rfl,rfl⟩ := e
 have hx7 : Ext (fun b => (Value.slice Ap2 0 cp2).ownBlock = some b) W w7 := ⟨hg.os.trans hx.os,hg.tape.trans hx.tape,hg.output.trans hx.output,Nat.le_trans hx.size hg.size,fun b hbl hne => (hg.block b (Nat.lt_of_lt_of_le hbl hx.size) (fun e => hne e.symm)).trans (hx.block b hbl (fun h => h))⟩
 have hsx := hx.size
 have hsz7 := hx7.size
 have hgx : g ≠ x := by
  rcases ha with ha | ha
  ·exact (h4.at_ g ha).2
  ·have := h.old x h.xx; omega
 have hDW : Ext D W w7 := hx7.mono (fun b _ hb => (h4.at_ b hb).1)
 have hxx : Ext (On x) w7 (w7.setCell ⟨x,6,none⟩ (.slice (some ⟨g,0,none⟩) 1 cap)) := (Ext.refl _ _).setF (F := On x) rfl 6 _
 have hb7 : Blk w7 x 179 (l.cells d m Ab cb Ar cr Ap2 cp2) := h1.ext hx7 (fun e => (h4.at_ x e).2 rfl)
 have h2b : Own w7 D x 5 (.slice Ab l.bytes.length cb) l.bytes.length (bcs l.bytes) := ⟨owns_ext h2.row hx7 (fun b hb e => owns_apart h2.row h4.row (by decide) hb e),h2.at_⟩
 have h3b : Own w7 D x 9 (.slice Ar l.recs.length cr) l.recs.length (strs l.recs) := ⟨owns_ext h3.row hx7 (fun b hb e => h5 b hb e),h3.at_⟩
 refine ⟨⟨⟨Ab,cb,Ar,cr,some ⟨g,0,none⟩,cap,?_,?_,?_,?_,?_⟩,.inl h.xx,Grow.old hD (by have := hxx.size; omega),h.m1,h.m2⟩,hDW.setF (F := D) h.xx 6 _⟩
 ·have e2 : ({ l with pend := [rec] } : Lg).cells d m Ab cb Ar cr (some ⟨g,0,none⟩) cap = (l.cells d m Ab cb Ar cr Ap2 cp2).setIfInBounds 6 (.slice (some ⟨g,0,none⟩) 1 cap) := rfl
  rw [e2]
  exact hb7.set_ 6 _
 ·exact (h2b.ext hxx (fun b _ hne => hne)).mono (fun _ hb => .inl hb)
 ·exact (h3b.ext hxx (fun b _ hne => hne)).mono (fun _ hb => .inl hb)
 ·refine ⟨owns_ext hown hxx (fun b hb e => ?_),fun b hb => ?_⟩
  ·have hb' : g = b := by simpa [Value.ownBlock] using hb
   have e' : b = x := e
   omega
  ·have hb' : g = b := by simpa [Value.ownBlock] using hb
   subst hb'
   refine ⟨?_,hgx⟩
   rcases ha with ha | ha
   ·exact .inl (h4.at_ g ha).1
   ·exact .inr ⟨by omega,by have := hxx.size; omega⟩
 ·intro b hb e
  have hb' : g = b := by simpa [Value.ownBlock] using e
  subst hb'
  rcases ha with ha | ha
  ·exact h5 g hb ha
  ·have := h.old g (h3.at_ g hb).1
   omega
theorem lg_add {w : World} {D : Nat → Prop} {x d m : Nat} {l : Lg} (h : LogAt w D x d m l) (hl : l.lost = false) (hp : l.pend = []) (hb : l.bytes.length ≤ 64 * (m - 1)) (rec : Bs) (hr : rec.length ≤ 65536) (hrm : rec.length + 8 ≤ 64 * (m - 1) - l.bytes.length) :
  Calls Tryz.prog 71 #[.pointer (some ⟨x,0,none⟩),.string (str rec)] w fun e w' => e = .returned (.int .i64 0) ∧ LogAt w' (Grow D w w') x d m { l with pend := [rec] } ∧ Ext D w w' := by
 have HU := Lib.hid (lg_up h)
 rw [hl] at HU
 have HR := Lib.hid (lg_room h hp hb)
 have HL := Lib.hid h
 have HP := Lib.hid hp
 obtain ⟨rm,hrm2⟩ : ∃ rm,rm = 64 * (m - 1) - l.bytes.length := ⟨_,rfl⟩
 rw [← hrm2] at HR hrm
 have hlt := h.c
 obtain ⟨Ab,cb,Ar,cr,Ap,cp,_,_,_,_,_,_,_,c6,_,hxl,hfz⟩ := hlt
 rw [hp] at c6
 have HC6 := Lib.hid c6
 have q1 : ¬ ((65536 : Int) < (rec.length : Int)) := by omega
 have q2 : ¬ ((rm : Int) < 8 + (rec.length : Int)) := by omega
 have q3 : (rec.length : Int) ≤ 65536 := by omega
 obtain ⟨l9,h9⟩ : ∃ l9 : Lg,l9 = { l with pend := [rec] } := ⟨_,rfl⟩
 rw [← h9]
 have H9 := Lib.hid h9
 clear h hl hp hb hrm hrm2 hr hfz h9 c6
 go_enter Tryz.func71,Tryz.ntmps71
 go_wp2_with fail
 refine (HU.out).mono ?_
 rintro e w1 ⟨rfl,rfl⟩
 go_wp2_with fail
 refine (HR.out).mono ?_
 rintro e w2 ⟨rfl,hx2⟩
 have HX2 := Lib.hid hx2
 have HL2 := Lib.hid (HL.out.ext hx2 (fun _ _ h => h))
 have c62 := cell_ext hx2 HC6.out (fun h => h)
 have f62 : w2.frozen? ⟨x,6,none⟩ = false := by
  obtain ⟨_,_,_,_,_,_,_,_,_,_,_,_,_,_,_,_,z⟩ := HL2.out.c
  exact z 6
 have hxl2 : x < w2.heap.size := by have := hx2.size; omega
 clear hx2
 obtain ⟨i0,hti,htz0,htz1,htz2⟩ := info_parts Tryz.info9
 have hX6 : Ext No w2 (w2.alloc (.cells #[.string (str rec)] 9)) := (Ext.refl No w2).alloc _
 have HOW : Hid ((w2.alloc (.cells #[.string (str rec)] 9)).ownsRow 0 9 1 (.slice Ap 0 cp) 0 [] ∧ (Value.slice Ap 0 cp).ownBlock ≠ some x) := Lib.hid (by
  obtain ⟨_,_,_,_,Ap2,cp2,z1,_,_,z4,_⟩ := HL2.out.cells
  have := z1.cell 6
  rw [c62] at this
  simp only [Lg.cells,HP.out] at this
  simp at this
  obtain ⟨rfl,rfl⟩ := this
  rw [HP.out] at z4
  exact ⟨owns_ext z4.row hX6 (fun _ _ h => h),fun e => (z4.at_ x e).2 rfl⟩)
 have HX6 := Lib.hid hX6
 have HC62 := Lib.hid c62
 have HSO := Lib.hid HL.out.old
 clear hX6
 go_upto_region 8 with fail
 go_wp2_with (at_builtin; refine wpList_append_lies _ (by rfl) _ _ 38 (by rfl) 0 9 i0 (.string ⟨#[]⟩) 1 16 Tryz.underlying38 hti htz0 htz1 htz2 (by rfl) (by decide) (.slice Ap 0 cp) 0 [] (by rfl) HOW.out.1 ⟨w2.heap.size,0,none⟩ 1 1 [.string (str rec)] (by rfl) (by rfl) (by exact World.news_of_block (cs := #[.string (str rec)]) (t := 9) (fr := (0,0)) (heap_alloc_new w2 _)) (fun u hu => by rw [List.mem_singleton.1 hu]; rfl) (by decide) (by unfold maxLen; omega) (by omega) (Nat.zero_le _) _ rfl ?_)
 intro g cap w7 hown7 hg7 ha7 hlt7
 have hPE := LogAt.pended (w := w) HL2.out HX2.out.size HSO.out HC62.out HP.out hown7 HX6.out hg7 (by simpa using ha7) hlt7
 have HPE := Lib.hid hPE
 have hx6s : x < (w2.alloc (.cells #[.string (str rec)] 9)).heap.size := Nat.lt_of_lt_of_le hxl2 HX6.out.size
 have c67 : w7.cell? ⟨x,6,none⟩ = some (.slice Ap 0 cp) := by
  rw [hg7.cell_far ⟨x,6,none⟩ hx6s (fun e => HOW.out.2 e.symm)]
  exact cell_ext HX6.out HC62.out (fun h => h)
 have f67 : w7.frozen? ⟨x,6,none⟩ = false := by
  rw [hg7.frozen_far ⟨x,6,none⟩ hx6s (fun e => HOW.out.2 e.symm)]
  obtain ⟨_,_,_,_,_,_,_,_,_,_,_,_,_,_,_,_,z⟩ := (HL2.out.ext HX6.out (fun _ _ h => h)).c
  exact z 6
 have hx7l : x < w7.heap.size := Nat.lt_of_lt_of_le hx6s hg7.size
 clear hown7 hg7 ha7 hlt7 hPE hx6s
 go_wp2_with fail
 go_ret
 rw [H9.out]
 exact ⟨rfl,HPE.out.1,HX2.out.of_no.trans_ HPE.out.2⟩
theorem Told.fail {w w' : World} {o : Option Nd} (h : Ext No w w') (ho : o = none) : Told w o (.returned (.tuple #[Nd.zero,.int .i64 5])) w' := by
 subst ho; exact ⟨h,rfl⟩
theorem str_ne_nil {s : Bs} (h : s ≠ []) : (str s == ⟨#[]⟩) = false := by
 match s,h with
 | [],h => exact absurd rfl h
 | a :: l,_ => rfl
theorem dec_back {Q : Ending → World → Prop} {a : Act} {w : World} (b : Nat) (cs : Array Value) (hb : Blk w b 40 cs) {v : Value} (hs : some 4 = some cs.size) (hp : a.tmps.getD 2 undef = .pointer (some ⟨b,0,none⟩)) (h3 : a.tmps.getD 3 undef = v) (hd : a.defers = [])
  (h : Q (.returned (.tuple #[.agg cs,v])) w) : bodyPost Tryz.prog Tryz.f48 Q Exit.ret a w := by
 refine bodyPost_ret (v := .tuple #[.agg cs,v]) (w := w) ?_ hd h
 have hl := run_loadVar_row w b 40 40 cs (0,0) _ hb Tryz.underlying40 rfl (by rw [← hs]; kernel_rfl)
 rw [results_cell_tmp rfl,hp,h3]
 simp [asAddr,Result.andThen,hl]
theorem dec_leaf (s : Bs) (w : World) (hl : s.length ≤ 500) (hk : (⟨s,false⟩ : Rst).byte.1 = 1) :
  Calls Tryz.prog 48 #[.string (str s)] w (Told w (dec s)) := by
 have hsz := str_size s
 have l1 := (⟨s,false⟩ : Rst).byte_le
 have l2 := (⟨s,false⟩ : Rst).byte.2.byte_le
 have hcnt := (⟨s,false⟩ : Rst).byte.2.byte_lt
 have HB := Lib.hid (fun p w h => byte_any ⟨s,false⟩ (show s.length < 1000000 by omega) p w h)
 have HB2 := Lib.hid (fun p w h => byte_any (⟨s,false⟩ : Rst).byte.2 (by simp only at l1; omega) p w h)
 have HD : Hid (dec s = if (decLoop (⟨s,false⟩ : Rst).byte.2.byte.1 ⟨true,[],[],[]⟩ (⟨s,false⟩ : Rst).byte.2.byte.2).2.bad then none
  else if (decLoop (⟨s,false⟩ : Rst).byte.2.byte.1 ⟨true,[],[],[]⟩ (⟨s,false⟩ : Rst).byte.2.byte.2).2.s.length ≠ 0 then none
  else if (decLoop (⟨s,false⟩ : Rst).byte.2.byte.1 ⟨true,[],[],[]⟩ (⟨s,false⟩ : Rst).byte.2.byte.2).1.ok then some (decLoop (⟨s,false⟩ : Rst).byte.2.byte.1 ⟨true,[],[],[]⟩ (⟨s,false⟩ : Rst).byte.2.byte.2).1 else none) := by
  show _ = _
  simp [dec,show ¬ 500 < s.length by omega,Rst.loop,Rst.head,hk]
 rw [hk] at HB
 have hlen : (⟨s,false⟩ : Rst).byte.2.byte.2.s.length < 1000000 := by simp only at l1; omega
 generalize (⟨s,false⟩ : Rst).byte.2.byte.2 = r2 at HB2 HD hlen
 generalize (⟨s,false⟩ : Rst).byte.2.byte.1 = cnt at HB2 HD hcnt
 generalize (⟨s,false⟩ : Rst).byte.2 = r1 at HB HB2
 generalize dec s = D at HD
 clear l1 l2 hk
 go_enter Tryz.func48,Tryz.ntmps48
 go_wp2_with fail
 have ea : Ext No w (((w.alloc (.cells #[.bool false,.slice none 0 0,.slice none 0 0,.slice none 0 0] 40)).alloc (.cells #[.string (str s),.bool false] 155)).alloc (.cells #[.bool false,.slice none 0 0,.slice none 0 0,.slice none 0 0] 40)) := (((Ext.refl _ w).alloc _).alloc _).alloc _
 have br := ((Blk.new w 40 #[.bool false,.slice none 0 0,.slice none 0 0,.slice none 0 0]).alloc (.cells #[.string (str s),.bool false] 155)).alloc (.cells #[.bool false,.slice none 0 0,.slice none 0 0,.slice none 0 0] 40)
 have bn := Blk.new_at (b := w.heap.size + 1 + 1) ((w.alloc (.cells #[.bool false,.slice none 0 0,.slice none 0 0,.slice none 0 0] 40)).alloc (.cells #[.string (str s),.bool false] 155)) 40 #[.bool false,.slice none 0 0,.slice none 0 0,.slice none 0 0] (by simp)
 have bp : RestAt (((w.alloc (.cells #[.bool false,.slice none 0 0,.slice none 0 0,.slice none 0 0] 40)).alloc (.cells #[.string (str s),.bool false] 155)).alloc (.cells #[.bool false,.slice none 0 0,.slice none 0 0,.slice none 0 0] 40)) (w.heap.size + 1) ⟨s,false⟩ := (Blk.new_at (w.alloc (.cells #[.bool false,.slice none 0 0,.slice none 0 0,.slice none 0 0] 40)) 155 #[.string (str s),.bool false] (by simp)).alloc (.cells #[.bool false,.slice none 0 0,.slice none 0 0,.slice none 0 0] 40)
 refine (HB.out _ _ bp).mono ?_
 rintro e w1 ⟨rfl,hr1,hx1⟩
 have en : ¬ On (w.heap.size + 1) w.heap.size := fun h => by unfold On at h; omega
 have en2 : ¬ On (w.heap.size + 1) (w.heap.size + 1 + 1) := fun h => by unfold On at h; omega
 have br := br.ext hx1 en
 have bn := bn.ext hx1 en2
 have ea1 := ea.on_new hx1 (by omega)
 clear bp ea
 go_wp2_with fail
 refine (HB2.out _ _ hr1).mono ?_
 rintro e w2 ⟨rfl,hr2,hx2⟩
 have br := br.ext hx2 en
 have bn := bn.ext hx2 en2
 have ea2 := ea1.on_new hx2 (by omega)
 obtain ⟨p0,p1,p2,p3,g0,g1,g2,g3,ln⟩ := bn.p4
 clear hr1 hx1 hx2 ea1
 go_wp2_with fail
 have bn2 : Blk (w2.setCell ⟨w.heap.size + 1 + 1,0,none⟩ (.bool true)) (w.heap.size + 1 + 1) 40 #[.bool true,.slice none 0 0,.slice none 0 0,.slice none 0 0] := bn.set_ 0 (.bool true)
 have br2 : Blk (w2.setCell ⟨w.heap.size + 1 + 1,0,none⟩ (.bool true)) w.heap.size 40 #[.bool false,.slice none 0 0,.slice none 0 0,.slice none 0 0] := br.far (show w.heap.size ≠ w.heap.size + 1 + 1 by omega) _
 have hr3 : RestAt (w2.setCell ⟨w.heap.size + 1 + 1,0,none⟩ (.bool true)) (w.heap.size + 1) r2 := Blk.far hr2 (show w.heap.size + 1 ≠ w.heap.size + 1 + 1 by omega) _
 have ea3 : Ext No w (w2.setCell ⟨w.heap.size + 1 + 1,0,none⟩ (.bool true)) := ea2.setNew (by omega) _ _
 clear p0 p1 p2 p3 g0 g1 g2 g3 br bn hr2 ea2
 obtain ⟨i0,hti,htz0,htz1,htz2⟩ := info_parts Tryz.info45
 go_loopg [33] cnt (fun gk i wr => ∃ (k : Nat) (A : Option Addr) (cap : Nat) (cs : List Cell) (r : Rst),k + gk = cnt ∧ i = .int .i64 (k : Int) ∧ cs.length = k ∧ wr.ownsRow (w.heap.size + 3) 45 4 (.slice A cs.length cap) cs.length (cellVals cs) ∧ Blk wr (w.heap.size + 1 + 1) 40 #[.bool true,.slice A cs.length cap,.slice none 0 0,.slice none 0 0] ∧ Blk wr w.heap.size 40 #[.bool false,.slice none 0 0,.slice none 0 0,.slice none 0 0] ∧ RestAt wr (w.heap.size + 1) r ∧ r.s.length < 1000000 ∧ (∀ c ∈ cs,c.fits) ∧ Hid (decLoop gk ⟨true,cs,[],[]⟩ r = decLoop cnt ⟨true,[],[],[]⟩ r2) ∧ Ext No w wr)
 case atStart => exact ⟨0,none,0,[],r2,by omega,rfl,rfl,World.ownsRow_nil _ _ _ _,bn2,br2,hr3,hlen,by simp,Lib.hid rfl,ea3⟩
 case round =>
  clear bn2 br2 hr3 ea3 hlen
  obtain ⟨k,A,cap,cs,r,hk0,rfl,hck,hown,bn,br,hr,hlen,hfit,hd,hE⟩ := hrel
  have HK0 := Lib.hid hk0; have HO := Lib.hid hown; have HE := Lib.hid hE; have HFI := Lib.hid hfit
  have hk : k ≤ cnt := by omega
  have hcb : cs.length < 256 := by omega
  have HCK := Lib.hid hck
  clear hk0 hck hown hE hfit
  obtain ⟨p0,p1,p2,p3,g0,g1,g2,g3,ln⟩ := bn.p4
  obtain ⟨x0,x1,x2,x3,y0,y1,y2,y3,lr⟩ := br.p4
  have z1 := hr.cell 1
  have z0 := hr.cell 0
  simp at z0 z1
  by_cases hlt : k < cnt
  ·cases hbad : r.bad
   ·rw [hbad] at z1
    have HBD := Lib.hid hbad
    clear hbad
    have HCL := Lib.hid (fun p w h => cell_take r hlen p w h)
    have hcf := r.cell_fits
    have hcle := r.cell_le
    generalize hc : r.cell = q at HCL hcf hcle
    obtain ⟨c,r'⟩ := q
    have HQ := Lib.hid hc
    clear hc
    have HCF := Lib.hid hcf
    simp only [Cell.agg] at HCL hcle
    have m0 : w.heap.size + 3 ≤ wr.heap.size := by omega
    have m2 : cs.length + 1 ≤ maxLen := by unfold maxLen; omega
    have m3 : (cs.length + 1) * 48 ≤ 140737488355328 := by omega
    have en3 : ∀ g,w.heap.size + 3 ≤ g → ¬ On (w.heap.size + 1) g := fun g hg => off_on (by omega)
    go_wp2_with fail
    go_region_law
     (first
      | (go_simp; go_at_call 89; refine (HCL.out _ _ (by exact hr)).mono ?_; rintro e w5 ⟨rfl,hr5,hx5⟩; have p5 := cell_ext hx5 (g := w.heap.size + 1 + 1) (i := 1) (u := .slice A cs.length cap) p1 en2; have bn5 := Blk.of_ext hx5 bn en2; have g5 := bn5.frozen 1; have l5 := bn5.lt; have m5 : w.heap.size + 3 ≤ w5.heap.size := Nat.le_trans m0 hx5.size; have m6 : ∀ o,w.heap.size + 3 ≤ (w5.alloc o).heap.size := (fun o => by simp; omega); have m7 : ∀ o,(w5.alloc o).heap.size = w5.heap.size + 1 := (fun o => by simp); have HO5 := Lib.hid (own_of_ext hx5 HO.out en3); have HX5 := Lib.hid hx5; have HR5 := Lib.hid hr5; clear hx5 hr5)
      | ((refine step_append_lies _ (by rfl) _ _ _ (by rfl) (w.heap.size + 3) 45 i0 (.agg #[.string ⟨#[]⟩,.string ⟨#[]⟩,.int .i64 0,.int .i64 0]) 4 48 Tryz.underlying37 hti htz0 htz1 htz2 rfl (by decide) (.slice A cs.length cap) cs.length (cellVals cs) (by rfl) (by exact HO5.out.alloc _) ⟨w5.heap.size,0,none⟩ 1 1 c.vals (by rfl) (by rfl) (by exact World.news_of_block (cs := #[.string (str c.key),.string (str c.val),.int .i64 (c.over : Int),.int .i64 (c.len : Int)]) (t := 45) (fr := (0,0)) (heap_alloc_new w5 _)) (by exact c.one) (by decide) m2 m3 (by exact m6 _) (w5.heap.size + 1) (by exact m7 _) ?_); intro g2 cap2 w6 hown2 hgrow2 hat2 hlt2; have HO6 := Lib.hid (own_push hown2); clear hown2; have bn6 := (bn5.alloc _).grown hgrow2 (own_ge HO.out (by omega)); have g6 := bn6.frozen 1; have p6 := bn6.cell 1; simp at p6; have l6 := bn6.lt))
    all_goals (
     go_wp2_with fail
     go_roundg (gk - 1)
     case rel =>
      have hd1 : decLoop (gk - 1) ⟨true,cs ++ [c],[],[]⟩ r' = decLoop gk ⟨true,cs,[],[]⟩ r := by
       obtain ⟨j,rfl⟩ : ∃ j,gk = j + 1 := ⟨gk - 1,by have := HK0.out; omega⟩
       simp [decLoop,HBD.out,Nd.one,HQ.out]
      have hck := HCK.out
      have ek : (cs ++ [c]).length = k + 1 := by simp; omega
      have h6 := (HO6.out.lt g2 rfl).1
      have hgne : g2 ≠ w.heap.size + 1 + 1 := by omega
      refine ⟨k + 1,some ⟨g2,0,none⟩,cap2,cs ++ [c],r',by have := HK0.out; omega,by go_num,ek,?_,?_,?_,?_,by omega,?_,Lib.hid (hd1.trans hd.out),?_⟩
      ·exact ownsRow_setCell_other HO6.out (by simp [Value.ownBlock]; omega) _
      ·have := bn6.set_ 1 (.slice (some ⟨g2,0,none⟩) (cs.length + 1) cap2)
       rw [ek,← hck]; exact this
      ·exact Blk.far (((Blk.of_ext HX5.out br en).alloc _).grown hgrow2 (own_ge HO.out (by omega))) (show w.heap.size ≠ w.heap.size + 1 + 1 by omega) _
      ·exact Blk.far ((Blk.alloc HR5.out _).grown hgrow2 (own_ge HO.out (by omega))) (show w.heap.size + 1 ≠ w.heap.size + 1 + 1 by omega) _
      ·intro d hd'
       rcases List.mem_append.1 hd' with h | h
       ·exact HFI.out d h
       ·simp at h; subst h; exact HCF.out
      ·exact ((((HE.out.drew).on_new HX5.out (by omega)).alloc _).grown hgrow2 (own_ge' HO.out (by omega))).setNew (by omega) _ _
     case measure => have := HK0.out; omega)
   ·have HBD := Lib.hid hbad
    rw [hbad] at z1
    clear hbad
    have hdn : D = none := by
     rw [HD.out,← hd.out,decLoop_stop _ _ _ HBD.out]
     simp [HBD.out]
    clear HD
    go_wp2_with fail
    have HRES := br.put4 (.bool false) (.slice none 0 0) (.slice none 0 0) (.slice none 0 0)
    refine dec_back w.heap.size _ HRES rfl rfl rfl rfl ?_
    exact Told.fail ((((HE.out.setNew (by omega) _ _).setNew (by omega) _ _).setNew (by omega) _ _).setNew (by omega) _ _) hdn
  ·have hg0 : gk = 0 := by have := HK0.out; omega
   subst hg0
   have hke : k = cnt := by omega
   subst hke
   have hdd := hd.out
   simp only [decLoop] at hdd
   rw [← hdd] at HD
   clear hdd
   cases hbad : r.bad
   ·rw [hbad] at z1
    simp only [hbad] at HD
    clear hbad
    by_cases hs0 : r.s = []
    ·simp only [hs0] at HD z0
     clear hs0
     have hcap := own_cap HO.out
     have hn : NodeAt wr (Lo (w.heap.size + 3)) A cap none 0 none 0 ⟨true,cs,[],[]⟩ := ⟨Rd.own_lo HO.out (by omega),Rd.nil_ _,Rd.nil_ _,hcap,by simp,by simp,by simp only; omega,by simp,by simp,own_nilcap HO.out,fun _ => rfl,fun _ => rfl⟩
     have hf : (⟨true,cs,[],[]⟩ : Nd).fits := ⟨HFI.out,by simp,by simp⟩
     have HC := Lib.hid (fun w' hn => check_any ⟨true,cs,[],[]⟩ w' (Lo (w.heap.size + 3)) A cap none 0 none 0 hn hf)
     simp only [Nd.value] at HC
     go_wp2_with fail
     refine (HC.out _ hn).mono ?_
     rintro e w5 ⟨rfl,hx5⟩
     have bn5 := bn.ext hx5 (fun h => h)
     have br5 := br.ext hx5 (fun h => h)
     obtain ⟨p0,p1,p2,p3,g0,g1,g2,g3,ln⟩ := bn5.p4
     obtain ⟨x0,x1,x2,x3,y0,y1,y2,y3,lr⟩ := br5.p4
     cases hok : (⟨true,cs,[],[]⟩ : Nd).ok
     ·have hdn : D = none := by rw [HD.out]; simp [hok]
      simp only [Nd.chk_bad hok]
      clear HD HC
      go_wp2_with fail
      have HRES := br5.put4 (.bool false) (.slice none 0 0) (.slice none 0 0) (.slice none 0 0)
      refine dec_back w.heap.size _ HRES rfl rfl rfl rfl ?_
      exact Told.fail (((((HE.out.trans_ hx5).setNew (by omega) _ _).setNew (by omega) _ _).setNew (by omega) _ _).setNew (by omega) _ _) hdn
     ·have hdn : D = some ⟨true,cs,[],[]⟩ := by rw [HD.out]; simp [hok]
      simp only [Nd.chk_ok hok]
      clear HD HC
      go_wp2_with fail
      have HRES := br5.put4 (.bool true) (.slice A cs.length cap) (.slice none 0 0) (.slice none 0 0)
      refine dec_back w.heap.size _ HRES rfl rfl rfl rfl ?_
      refine ⟨((((HE.out.trans_ hx5).setNew (by omega) _ _).setNew (by omega) _ _).setNew (by omega) _ _).setNew (by omega) _ _,?_⟩
      rw [hdn]
      have hin : Lo (w.heap.size + 3) w.heap.size := by unfold Lo; omega
      have hz : Ext (Lo (w.heap.size + 3)) wr ((((w5.setCell ⟨w.heap.size,0,none⟩ (.bool true)).setCell ⟨w.heap.size,1,none⟩ (.slice A cs.length cap)).setCell ⟨w.heap.size,2,none⟩ (.slice none 0 0)).setCell ⟨w.heap.size,3,none⟩ (.slice none 0 0)) := (((hx5.of_no.setF hin _ _).setF hin _ _).setF hin _ _).setF hin _ _
      exact ⟨A,cap,none,0,none,0,rfl,(hn.ext hz).mono (fun b _ hb => by unfold Old at hb; unfold Lo; omega)⟩
    ·have hdn : D = none := by
      rw [HD.out]
      simp [hs0]
     clear HD
     have hne := str_ne_nil hs0
     go_wp2_with fail
     have HRES := br.put4 (.bool false) (.slice none 0 0) (.slice none 0 0) (.slice none 0 0)
     refine dec_back w.heap.size _ HRES rfl rfl rfl rfl ?_
     exact Told.fail ((((HE.out.setNew (by omega) _ _).setNew (by omega) _ _).setNew (by omega) _ _).setNew (by omega) _ _) hdn
   ·have hdn : D = none := by
     rw [HD.out]
     simp [hbad]
    rw [hbad] at z1
    clear HD hbad
    go_wp2_with fail
    have HRES := br.put4 (.bool false) (.slice none 0 0) (.slice none 0 0) (.slice none 0 0)
    refine dec_back w.heap.size _ HRES rfl rfl rfl rfl ?_
    exact Told.fail ((((HE.out.setNew (by omega) _ _).setNew (by omega) _ _).setNew (by omega) _ _).setNew (by omega) _ _) hdn
theorem own_push1 {w : World} {base g cap : Nat} {ks : List Bs} {x : Bs} (h : w.ownsRow base 9 1 (.slice (some ⟨g,0,none⟩) (ks.length + 1) cap) (ks.length + 1) (keyVals ks ++ [.string (str x)])) :
  w.ownsRow base 9 1 (.slice (some ⟨g,0,none⟩) (ks ++ [x]).length cap) (ks ++ [x]).length (keyVals (ks ++ [x])) := by
 simpa [keyVals] using h
theorem own_push2 {w : World} {base g cap : Nat} {ks : List Nat} {x : Nat} (h : w.ownsRow base 3 1 (.slice (some ⟨g,0,none⟩) (ks.length + 1) cap) (ks.length + 1) (kidVals ks ++ [.int .i64 (x : Int)])) :
  w.ownsRow base 3 1 (.slice (some ⟨g,0,none⟩) (ks ++ [x]).length cap) (ks ++ [x]).length (kidVals (ks ++ [x])) := by
 simpa [kidVals] using h
theorem own_apart {w : World} {base base' : Nat} {e e' : TypeId} {sz sz' n n' : Nat} {v v' : Value} {xs xs' : List Value} (h : w.ownsRow base e sz v n xs) (h' : w.ownsRow base' e' sz' v' n' xs') (hne : e ≠ e') : v.ownBlock = none ∨ v.ownBlock ≠ v'.ownBlock := by
 rcases h.2 with ⟨rfl,_⟩ | ⟨g,cap,cur,rfl,_,hg,_⟩
 ·exact .inl rfl
 ·refine .inr ?_
  rcases h'.2 with ⟨rfl,_⟩ | ⟨g',cap',cur',rfl,_,hg',_⟩
  ·simp [Value.ownBlock]
  ·intro e2
   simp [Value.ownBlock] at e2
   subst e2
   rw [hg] at hg'
   injection hg' with hg'
   injection hg' with _ hg'
   exact hne hg'
structure BS (w wx : World) (A2 : Option Addr) (c2 : Nat) (A3 : Option Addr) (c3 : Nat) (ks : List Bs) (ids : List Nat) (r : Rst) : Prop where
 o2 : wx.ownsRow (w.heap.size + 3) 9 1 (.slice A2 ks.length c2) ks.length (keyVals ks)
 o3 : wx.ownsRow (w.heap.size + 3) 3 1 (.slice A3 ids.length c3) ids.length (kidVals ids)
 bn : Blk wx (w.heap.size + 1 + 1) 40 #[.bool false,.slice none 0 0,.slice A2 ks.length c2,.slice A3 ids.length c3]
 br : Blk wx w.heap.size 40 #[.bool false,.slice none 0 0,.slice none 0 0,.slice none 0 0]
 hr : RestAt wx (w.heap.size + 1) r
 hE : Ext No w wx
theorem one_int (x : Int) : ∀ u ∈ [Value.int .i64 x],u.oneCell' = true := by simp [Value.oneCell']
theorem one_str (x : ByteArray) : ∀ u ∈ [Value.string x],u.oneCell' = true := by simp [Value.oneCell']
theorem BS.step {w wx w5 : World} {A2 : Option Addr} {c2 : Nat} {A3 : Option Addr} {c3 : Nat} {ks : List Bs} {ids : List Nat} {r r' : Rst} (h : BS w wx A2 c2 A3 c3 ks ids r) (hx : Ext (On (w.heap.size + 1)) wx w5) (hr : RestAt w5 (w.heap.size + 1) r') (o : Obj) :
  BS w (w5.alloc o) A2 c2 A3 c3 ks ids r' :=
 ⟨(own_ext h.o2 hx (fun g hg => off_on (by omega))).alloc o,(own_ext h.o3 hx (fun g hg => off_on (by omega))).alloc o,(h.bn.ext hx (off_on (by omega))).alloc o,(h.br.ext hx (off_on (by omega))).alloc o,Blk.alloc hr o,(h.hE.on_new hx (by omega)).alloc o⟩
theorem BS.drew {w wx : World} {A2 : Option Addr} {c2 : Nat} {A3 : Option Addr} {c3 : Nat} {ks : List Bs} {ids : List Nat} {r : Rst} (h : BS w wx A2 c2 A3 c3 ks ids r) : BS w wx.drew A2 c2 A3 c3 ks ids r :=
 ⟨h.o2.drew,h.o3.drew,h.bn,h.br,h.hr,h.hE.drew⟩
theorem BS.keys {w w5 w6 : World} {A2 : Option Addr} {c2 : Nat} {A3 : Option Addr} {c3 : Nat} {ks : List Bs} {ids : List Nat} {r : Rst} {g cap : Nat} {x : Bs} (h : BS w w5 A2 c2 A3 c3 ks ids r)
  (ho : w6.ownsRow (w.heap.size + 3) 9 1 (.slice (some ⟨g,0,none⟩) (ks.length + 1) cap) (ks.length + 1) (keyVals ks ++ [.string (str x)])) (hg : w5.grownBy w6 (Value.slice A2 ks.length c2).ownBlock) :
  BS w (w6.setCell ⟨w.heap.size + 1 + 1,2,none⟩ (.slice (some ⟨g,0,none⟩) (ks.length + 1) cap)) (some ⟨g,0,none⟩) cap A3 c3 (ks ++ [x]) ids r := by
 have hs := h.hE.size
 have hg1 := (ho.lt g rfl).1
 have h3 := h.o3.kept hg (own_apart h.o3 h.o2 (by decide))
 refine ⟨ownsRow_setCell_other (own_push1 ho) (by show some g ≠ some (w.heap.size + 1 + 1); intro e; injection e with e; omega) _,ownsRow_setCell_other h3 (Ne.symm (own_ge h3 (show w.heap.size + 1 + 1 < w.heap.size + 3 by omega))) _,?_,?_,?_,?_⟩
 ·have := (h.bn.grown hg (own_ge h.o2 (by omega))).set_ 2 (.slice (some ⟨g,0,none⟩) (ks.length + 1) cap)
  simpa using this
 ·exact Blk.far (h.br.grown hg (own_ge h.o2 (by omega))) (show w.heap.size ≠ w.heap.size + 1 + 1 by omega) _
 ·exact Blk.far (Blk.grown hg h.hr (own_ge h.o2 (by omega))) (show w.heap.size + 1 ≠ w.heap.size + 1 + 1 by omega) _
 ·exact (h.hE.grown hg (own_ge' h.o2 (by omega))).setNew (by omega) _ _
theorem BS.kids {w w5 w6 : World} {A2 : Option Addr} {c2 : Nat} {A3 : Option Addr} {c3 : Nat} {ks : List Bs} {ids : List Nat} {r : Rst} {g cap : Nat} {x : Nat} (h : BS w w5 A2 c2 A3 c3 ks ids r)
  (ho : w6.ownsRow (w.heap.size + 3) 3 1 (.slice (some ⟨g,0,none⟩) (ids.length + 1) cap) (ids.length + 1) (kidVals ids ++ [.int .i64 (x : Int)])) (hg : w5.grownBy w6 (Value.slice A3 ids.length c3).ownBlock) :
  BS w (w6.setCell ⟨w.heap.size + 1 + 1,3,none⟩ (.slice (some ⟨g,0,none⟩) (ids.length + 1) cap)) A2 c2 (some ⟨g,0,none⟩) cap ks (ids ++ [x]) r := by
 have hs := h.hE.size
 have hg1 := (ho.lt g rfl).1
 have h3 := h.o2.kept hg (own_apart h.o2 h.o3 (by decide))
 refine ⟨ownsRow_setCell_other h3 (Ne.symm (own_ge h3 (show w.heap.size + 1 + 1 < w.heap.size + 3 by omega))) _,ownsRow_setCell_other (own_push2 ho) (by show some g ≠ some (w.heap.size + 1 + 1); intro e; injection e with e; omega) _,?_,?_,?_,?_⟩
 ·have := (h.bn.grown hg (own_ge h.o3 (by omega))).set_ 3 (.slice (some ⟨g,0,none⟩) (ids.length + 1) cap)
  simpa using this
 ·exact Blk.far (h.br.grown hg (own_ge h.o3 (by omega))) (show w.heap.size ≠ w.heap.size + 1 + 1 by omega) _
 ·exact Blk.far (Blk.grown hg h.hr (own_ge h.o3 (by omega))) (show w.heap.size + 1 ≠ w.heap.size + 1 + 1 by omega) _
 ·exact (h.hE.grown hg (own_ge' h.o3 (by omega))).setNew (by omega) _ _
theorem dec_branch (s : Bs) (w : World) (hl : s.length ≤ 500) (hk : (⟨s,false⟩ : Rst).byte.1 ≠ 1) :
  Calls Tryz.prog 48 #[.string (str s)] w (Told w (dec s)) := by
 have hsz := str_size s
 have l1 := (⟨s,false⟩ : Rst).byte_le
 have l2 := (⟨s,false⟩ : Rst).byte.2.byte_le
 have hcnt := (⟨s,false⟩ : Rst).byte.2.byte_lt
 have HB := Lib.hid (fun p w h => byte_any ⟨s,false⟩ (show s.length < 1000000 by omega) p w h)
 have HB2 := Lib.hid (fun p w h => byte_any (⟨s,false⟩ : Rst).byte.2 (by simp only at l1; omega) p w h)
 have hk' : ((⟨s,false⟩ : Rst).byte.1 : Int) ≠ 1 := by omega
 have HF := Lib.hid (fun p w h => four_take (⟨s,false⟩ : Rst).byte.2.byte.2 (by simp only at l1; omega) p w h)
 have HD : Hid (dec s = if (decLoop (⟨s,false⟩ : Rst).byte.2.byte.1 ⟨false,[],[],[(⟨s,false⟩ : Rst).byte.2.byte.2.four.1]⟩ (⟨s,false⟩ : Rst).byte.2.byte.2.four.2).2.bad then none
  else if (decLoop (⟨s,false⟩ : Rst).byte.2.byte.1 ⟨false,[],[],[(⟨s,false⟩ : Rst).byte.2.byte.2.four.1]⟩ (⟨s,false⟩ : Rst).byte.2.byte.2.four.2).2.s.length ≠ 0 then none
  else if (⟨s,false⟩ : Rst).byte.1 ≠ 2 then none
  else if (decLoop (⟨s,false⟩ : Rst).byte.2.byte.1 ⟨false,[],[],[(⟨s,false⟩ : Rst).byte.2.byte.2.four.1]⟩ (⟨s,false⟩ : Rst).byte.2.byte.2.four.2).1.ok then some (decLoop (⟨s,false⟩ : Rst).byte.2.byte.1 ⟨false,[],[],[(⟨s,false⟩ : Rst).byte.2.byte.2.four.1]⟩ (⟨s,false⟩ : Rst).byte.2.byte.2.four.2).1 else none) := by
  show _ = _
  simp [dec,show ¬ 500 < s.length by omega,Rst.loop,Rst.head,hk]
 have hfl := (⟨s,false⟩ : Rst).byte.2.byte.2.four_lt
 have hfe := (⟨s,false⟩ : Rst).byte.2.byte.2.four_le
 have hlen : (⟨s,false⟩ : Rst).byte.2.byte.2.four.2.s.length < 1000000 := by simp only at l1; omega
 generalize (⟨s,false⟩ : Rst).byte.2.byte.2.four.1 = k0 at HF HD hfl
 generalize (⟨s,false⟩ : Rst).byte.2.byte.2.four.2 = r3 at HF HD hlen hfe
 generalize (⟨s,false⟩ : Rst).byte.2.byte.2 = r2 at HB2 HF hfe
 generalize (⟨s,false⟩ : Rst).byte.2.byte.1 = cnt at HB2 HD hcnt
 generalize (⟨s,false⟩ : Rst).byte.2 = r1 at HB HB2
 generalize (⟨s,false⟩ : Rst).byte.1 = kd at HB HD hk hk'
 generalize dec s = D at HD
 clear l1 l2 hfe
 have hk1 : ((kd : Int) == 1) = false := by simp; omega
 clear hk hk'
 go_enter Tryz.func48,Tryz.ntmps48
 go_wp2_with fail
 have ea : Ext No w (((w.alloc (.cells #[.bool false,.slice none 0 0,.slice none 0 0,.slice none 0 0] 40)).alloc (.cells #[.string (str s),.bool false] 155)).alloc (.cells #[.bool false,.slice none 0 0,.slice none 0 0,.slice none 0 0] 40)) := (((Ext.refl _ w).alloc _).alloc _).alloc _
 have br := ((Blk.new w 40 #[.bool false,.slice none 0 0,.slice none 0 0,.slice none 0 0]).alloc (.cells #[.string (str s),.bool false] 155)).alloc (.cells #[.bool false,.slice none 0 0,.slice none 0 0,.slice none 0 0] 40)
 have bn := Blk.new_at (b := w.heap.size + 1 + 1) ((w.alloc (.cells #[.bool false,.slice none 0 0,.slice none 0 0,.slice none 0 0] 40)).alloc (.cells #[.string (str s),.bool false] 155)) 40 #[.bool false,.slice none 0 0,.slice none 0 0,.slice none 0 0] (by simp)
 have bp : RestAt (((w.alloc (.cells #[.bool false,.slice none 0 0,.slice none 0 0,.slice none 0 0] 40)).alloc (.cells #[.string (str s),.bool false] 155)).alloc (.cells #[.bool false,.slice none 0 0,.slice none 0 0,.slice none 0 0] 40)) (w.heap.size + 1) ⟨s,false⟩ := (Blk.new_at (w.alloc (.cells #[.bool false,.slice none 0 0,.slice none 0 0,.slice none 0 0] 40)) 155 #[.string (str s),.bool false] (by simp)).alloc (.cells #[.bool false,.slice none 0 0,.slice none 0 0,.slice none 0 0] 40)
 refine (HB.out _ _ bp).mono ?_
 rintro e w1 ⟨rfl,hr1,hx1⟩
 have en : ¬ On (w.heap.size + 1) w.heap.size := fun h => by unfold On at h; omega
 have en2 : ¬ On (w.heap.size + 1) (w.heap.size + 1 + 1) := fun h => by unfold On at h; omega
 have br := br.ext hx1 en
 have bn := bn.ext hx1 en2
 have ea1 := ea.on_new hx1 (by omega)
 clear bp ea
 go_wp2_with fail
 refine (HB2.out _ _ hr1).mono ?_
 rintro e w2 ⟨rfl,hr2,hx2⟩
 have br := br.ext hx2 en
 have bn := bn.ext hx2 en2
 have ea2 := ea1.on_new hx2 (by omega)
 obtain ⟨p0,p1,p2,p3,g0,g1,g2,g3,ln⟩ := bn.p4
 clear hr1 hx1 hx2 ea1
 go_upto_region 8 with fail
 have bn2 : Blk (w2.setCell ⟨w.heap.size + 1 + 1,0,none⟩ (.bool false)) (w.heap.size + 1 + 1) 40 #[.bool false,.slice none 0 0,.slice none 0 0,.slice none 0 0] := bn.set_ 0 (.bool false)
 have br2 : Blk (w2.setCell ⟨w.heap.size + 1 + 1,0,none⟩ (.bool false)) w.heap.size 40 #[.bool false,.slice none 0 0,.slice none 0 0,.slice none 0 0] := br.far (show w.heap.size ≠ w.heap.size + 1 + 1 by omega) _
 have hr3 : RestAt (w2.setCell ⟨w.heap.size + 1 + 1,0,none⟩ (.bool false)) (w.heap.size + 1) r2 := Blk.far hr2 (show w.heap.size + 1 ≠ w.heap.size + 1 + 1 by omega) _
 have ea3 : Ext No w (w2.setCell ⟨w.heap.size + 1 + 1,0,none⟩ (.bool false)) := ea2.setNew (by omega) _ _
 clear p0 p1 p2 p3 g0 g1 g2 g3 br bn hr2 ea2
 have hB3 : BS w (w2.setCell ⟨w.heap.size + 1 + 1,0,none⟩ (.bool false)) none 0 none 0 [] [] r2 := ⟨World.ownsRow_nil _ _ _ _,World.ownsRow_nil _ _ _ _,bn2,br2,hr3,ea3⟩
 generalize w2.setCell ⟨w.heap.size + 1 + 1,0,none⟩ (.bool false) = w3 at hB3 ⊢
 clear bn2 br2 hr3 ea3
 obtain ⟨i0,hti,htz0,htz1,htz2⟩ := info_parts Tryz.info3
 go_cut [29] (fun v wx => ∃ A3 c3,Hid (BS w wx none 0 A3 c3 [] [k0] r3))
 case first =>
  obtain ⟨p0,p1,p2,p3,g0,g1,g2,g3,ln⟩ := hB3.bn.p4
  have hr := hB3.hr
  have HB3 := Lib.hid hB3
  have m0 : w.heap.size + 3 ≤ w3.heap.size := by omega
  have bn := hB3.bn
  have m2 : 0 + 1 ≤ maxLen := by unfold maxLen; omega
  have m3 : (0 + 1) * 8 ≤ 140737488355328 := by omega
  have en3 : ∀ g,w.heap.size + 3 ≤ g → ¬ On (w.heap.size + 1) g := fun g hg => off_on (by omega)
  simp only [List.length_nil] at p2 p3
  clear hB3
  go_wp2_with fail
  go_region_law
   (first
    | (go_simp; go_at_call 88; refine (HF.out _ _ (by exact hr)).mono ?_; rintro e w5 ⟨rfl,hr5,hx5⟩; have p5 := cell_ext hx5 (g := w.heap.size + 1 + 1) (i := 3) (u := .slice none 0 0) p3 en2; have bn5 := Blk.of_ext hx5 bn en2; have g5 := bn5.frozen 3; have l5 := bn5.lt; have m5 : w.heap.size + 3 ≤ w5.heap.size := Nat.le_trans m0 hx5.size; have m6 : ∀ o,w.heap.size + 3 ≤ (w5.alloc o).heap.size := (fun o => by simp; omega); have m7 : ∀ o,(w5.alloc o).heap.size = w5.heap.size + 1 := (fun o => by simp); have HO5 := Lib.hid (own_of_ext hx5 HB3.out.o3 en3); have HX5 := Lib.hid hx5; have HR5 := Lib.hid hr5; clear hx5 hr5)
    | ((refine step_append_lies _ (by rfl) _ _ _ (by rfl) (w.heap.size + 3) 3 i0 (.int .i64 0) 1 8 Tryz.underlying35 hti htz0 htz1 htz2 rfl (by decide) (.slice none 0 0) ([] : List Nat).length (kidVals ([] : List Nat)) (by rfl) (by exact HO5.out.alloc _) ⟨w5.heap.size,0,none⟩ 1 1 [.int .i64 (k0 : Int)] (by rfl) (by rfl) (by exact World.news_of_block (cs := #[.int .i64 (k0 : Int)]) (t := 3) (fr := (0,0)) (heap_alloc_new w5 _)) (by exact one_int _) (by decide) m2 m3 (by exact m6 _) (w5.heap.size + 1) (by exact m7 _) ?_); intro g2 cap2 w6 hown2 hgrow2 hat2 hlt2; have HO6 := Lib.hid hown2; clear hown2; have bn6 := (bn5.alloc _).grown hgrow2 (own_ge HB3.out.o3 (by omega)); have g6 := bn6.frozen 3; have p6 := bn6.cell 3; simp at p6; have l6 := bn6.lt))
  all_goals (
   go_wp2_with fail
   go_meet
   exact ⟨_,_,Lib.hid (BS.kids (x := k0) (BS.step HB3.out.drew HX5.out HR5.out _) HO6.out hgrow2)⟩)
 case rest =>
  obtain ⟨A3,c3,HB4⟩ := hcut
  clear hB3
  obtain ⟨i1,hsi,hsz0,hsz1,hsz2⟩ := info_parts Tryz.info9
  go_wp2_with fail
  go_loopg [33] cnt (fun gk i wr => ∃ (k : Nat) (A2 : Option Addr) (c2 : Nat) (A3 : Option Addr) (c3 : Nat) (ks : List Bs) (ids : List Nat) (r : Rst),k + gk = cnt ∧ i = .int .i64 (k : Int) ∧ ks.length = k ∧ ids.length = k + 1 ∧ BS w wr A2 c2 A3 c3 ks ids r ∧ r.s.length < 1000000 ∧ (∀ k ∈ ks,k.length < 65536) ∧ (∀ i ∈ ids,i < 4294967296) ∧ Hid (decLoop gk ⟨false,[],ks,ids⟩ r = decLoop cnt ⟨false,[],[],[k0]⟩ r3))
  case atStart => exact ⟨0,none,0,A3,c3,[],[k0],r3,by omega,rfl,rfl,rfl,HB4.out,hlen,by simp,by simpa using hfl,Lib.hid rfl⟩
  case round =>
   clear HB4 hlen HB HB2 HF
   obtain ⟨k,A2,c2,A3,c3,ks,ids,r,hk0,rfl,hck,hci,hB,hlen,hfk,hfi,hd⟩ := hrel
   have HK0 := Lib.hid hk0; have HCK := Lib.hid hck; have HCI := Lib.hid hci; have HB := Lib.hid hB; have HFK := Lib.hid hfk; have HFI := Lib.hid hfi
   have hk : k ≤ cnt := by omega
   have hcb : ks.length < 256 := by omega
   have hib : ids.length < 257 := by omega
   obtain ⟨p0,p1,p2,p3,g0,g1,g2,g3,ln⟩ := hB.bn.p4
   obtain ⟨x0,x1,x2,x3,y0,y1,y2,y3,lr⟩ := hB.br.p4
   have hr := hB.hr
   have bn := hB.bn
   have br := hB.br
   have z1 := hr.cell 1
   have z0 := hr.cell 0
   simp at z0 z1
   clear hk0 hck hci hB hfk hfi
   by_cases hlt : k < cnt
   ·cases hbad : r.bad
    ·rw [hbad] at z1
     have HBD := Lib.hid hbad
     clear hbad
     have hl2 := r.text_le
     have hl3 := r.text.2.four_le
     have htl := r.text_len
     have hf4 := r.text.2.four_lt
     have HT := Lib.hid (fun p w h => text_take r hlen p w h)
     have HF := Lib.hid (fun p w h => four_take r.text.2 (by omega) p w h)
     have HQ : Hid (Nd.one ⟨false,[],ks,ids⟩ r = (⟨false,[],ks ++ [r.text.1],ids ++ [r.text.2.four.1]⟩,r.text.2.four.2)) := Lib.hid rfl
     generalize r.text.2.four.1 = x4 at HF HQ hf4
     generalize r.text.2.four.2 = r5 at HF HQ hl3
     generalize r.text.1 = xt at HT HQ htl
     generalize r.text.2 = r4 at HT HF hl2 hl3
     have m0 : w.heap.size + 3 ≤ wr.heap.size := by omega
     have m2 : ks.length + 1 ≤ maxLen := by unfold maxLen; omega
     have m3 : (ks.length + 1) * 16 ≤ 140737488355328 := by omega
     have m2' : ids.length + 1 ≤ maxLen := by unfold maxLen; omega
     have m3' : (ids.length + 1) * 8 ≤ 140737488355328 := by omega
     have en3 : ∀ g,w.heap.size + 3 ≤ g → ¬ On (w.heap.size + 1) g := fun g hg => off_on (by omega)
     go_upto_region 14 with fail
     go_cut [52] (fun v wx => ∃ A2' c2',Hid (BS w wx A2' c2' A3 c3 (ks ++ [xt]) ids r4))
     case first =>
      go_wp2_with fail
      go_region_law
       (first
      | (go_simp; go_at_call 90; refine (HT.out _ _ (by exact hr)).mono ?_; rintro e w5 ⟨rfl,hr5,hx5⟩; have p5 := cell_ext hx5 (g := w.heap.size + 1 + 1) (i := 2) (u := .slice A2 ks.length c2) p2 en2; have bn5 := Blk.of_ext hx5 bn en2; have g5 := bn5.frozen 2; have l5 := bn5.lt; have m5 : w.heap.size + 3 ≤ w5.heap.size := Nat.le_trans m0 hx5.size; have m6 : ∀ o,w.heap.size + 3 ≤ (w5.alloc o).heap.size := (fun o => by simp; omega); have m7 : ∀ o,(w5.alloc o).heap.size = w5.heap.size + 1 := (fun o => by simp); have HO5 := Lib.hid (own_of_ext hx5 HB.out.o2 en3); have HX5 := Lib.hid hx5; have HR5 := Lib.hid hr5; clear hx5 hr5)
      | ((refine step_append_lies _ (by rfl) _ _ _ (by rfl) (w.heap.size + 3) 9 i1 (.string ⟨#[]⟩) 1 16 Tryz.underlying38 hsi hsz0 hsz1 hsz2 rfl (by decide) (.slice A2 ks.length c2) ks.length (keyVals ks) (by rfl) (by exact HO5.out.alloc _) ⟨w5.heap.size,0,none⟩ 1 1 [.string (str xt)] (by rfl) (by rfl) (by exact World.news_of_block (cs := #[.string (str xt)]) (t := 9) (fr := (0,0)) (heap_alloc_new w5 _)) (by exact one_str _) (by decide) m2 m3 (by exact m6 _) (w5.heap.size + 1) (by exact m7 _) ?_); intro g2 cap2 w6 hown2 hgrow2 hat2 hlt2; have HO6 := Lib.hid hown2; clear hown2; have bn6 := (bn5.alloc _).grown hgrow2 (own_ge HB.out.o2 (by omega)); have g6 := bn6.frozen 2; have p6 := bn6.cell 2; simp at p6; have l6 := bn6.lt))
      all_goals (
       go_wp2_with fail
       go_meet
       exact ⟨_,_,Lib.hid (BS.keys (BS.step HB.out.drew HX5.out HR5.out _) HO6.out hgrow2)⟩)
     case rest =>
      obtain ⟨A2',c2',HB7⟩ := hcut
      clear p0 p1 p2 p3 g0 g1 g2 g3 ln x0 x1 x2 x3 y0 y1 y2 y3 lr hr bn br z0 z1 m0
      have hB7 := HB7.out
      obtain ⟨p0,p1,p2,p3,g0,g1,g2,g3,ln⟩ := hB7.bn.p4
      have hr := hB7.hr
      have bn := hB7.bn
      have m0 : w.heap.size + 3 ≤ _ := Nat.succ_le_of_lt ln
      clear hB7
      go_wp2_with fail
      go_region_law
       (first
      | (go_simp; go_at_call 88; refine (HF.out _ _ (by exact hr)).mono ?_; rintro e w5 ⟨rfl,hr5,hx5⟩; have p5 := cell_ext hx5 (g := w.heap.size + 1 + 1) (i := 3) (u := .slice A3 ids.length c3) p3 en2; have bn5 := Blk.of_ext hx5 bn en2; have g5 := bn5.frozen 3; have l5 := bn5.lt; have m5 : w.heap.size + 3 ≤ w5.heap.size := Nat.le_trans m0 hx5.size; have m6 : ∀ o,w.heap.size + 3 ≤ (w5.alloc o).heap.size := (fun o => by simp; omega); have m7 : ∀ o,(w5.alloc o).heap.size = w5.heap.size + 1 := (fun o => by simp); have HO5 := Lib.hid (own_of_ext hx5 HB7.out.o3 en3); have HX5 := Lib.hid hx5; have HR5 := Lib.hid hr5; clear hx5 hr5)
      | ((refine step_append_lies _ (by rfl) _ _ _ (by rfl) (w.heap.size + 3) 3 i0 (.int .i64 0) 1 8 Tryz.underlying35 hti htz0 htz1 htz2 rfl (by decide) (.slice A3 ids.length c3) ids.length (kidVals ids) (by rfl) (by exact HO5.out.alloc _) ⟨w5.heap.size,0,none⟩ 1 1 [.int .i64 (x4 : Int)] (by rfl) (by rfl) (by exact World.news_of_block (cs := #[.int .i64 (x4 : Int)]) (t := 3) (fr := (0,0)) (heap_alloc_new w5 _)) (by exact one_int _) (by decide) m2' m3' (by exact m6 _) (w5.heap.size + 1) (by exact m7 _) ?_); intro g2 cap2 w6 hown2 hgrow2 hat2 hlt2; have HO6 := Lib.hid hown2; clear hown2; have bn6 := (bn5.alloc _).grown hgrow2 (own_ge HB7.out.o3 (by omega)); have g6 := bn6.frozen 3; have p6 := bn6.cell 3; simp at p6; have l6 := bn6.lt))
      all_goals (
       go_wp2_with fail
       go_roundg (gk - 1)
       case rel =>
        have hd1 : decLoop (gk - 1) ⟨false,[],ks ++ [xt],ids ++ [x4]⟩ r5 = decLoop gk ⟨false,[],ks,ids⟩ r := by
         obtain ⟨j,rfl⟩ : ∃ j,gk = j + 1 := ⟨gk - 1,by have := HK0.out; omega⟩
         simp [decLoop,HBD.out,HQ.out]
        have hck := HCK.out
        have hci := HCI.out
        refine ⟨k + 1,A2',c2',_,_,ks ++ [xt],ids ++ [x4],r5,by have := HK0.out; omega,by go_num,by simp; omega,by simp; omega,BS.kids (BS.step HB7.out.drew HX5.out HR5.out _) HO6.out hgrow2,by omega,?_,?_,Lib.hid (hd1.trans hd.out)⟩
        ·intro y hy
         rcases List.mem_append.1 hy with h | h
         ·exact HFK.out y h
         ·simp at h; subst h; omega
        ·intro y hy
         rcases List.mem_append.1 hy with h | h
         ·exact HFI.out y h
         ·simp at h; subst h; omega
       case measure => have := HK0.out; omega)
    ·have HBD := Lib.hid hbad
     rw [hbad] at z1
     clear hbad
     have hdn : D = none := by
      rw [HD.out,← hd.out,decLoop_stop _ _ _ HBD.out]
      simp [HBD.out]
     clear HD
     go_wp2_with fail
     have HRES := br.put4 (.bool false) (.slice none 0 0) (.slice none 0 0) (.slice none 0 0)
     refine dec_back w.heap.size _ HRES rfl rfl rfl rfl ?_
     exact Told.fail ((((HB.out.hE.setNew (by omega) _ _).setNew (by omega) _ _).setNew (by omega) _ _).setNew (by omega) _ _) hdn
   ·have hg0 : gk = 0 := by have := HK0.out; omega
    subst hg0
    have hke : k = cnt := by omega
    subst hke
    have hdd := hd.out
    simp only [decLoop] at hdd
    rw [← hdd] at HD
    clear hdd
    cases hbad : r.bad
    ·rw [hbad] at z1
     simp only [hbad] at HD
     clear hbad
     by_cases hs0 : r.s = []
     ·simp only [hs0] at HD z0
      clear hs0
      by_cases hk2 : kd = 2
      ·subst hk2
       have hc2 := own_cap HB.out.o2
       have hc3 := own_cap HB.out.o3
       have hn : NodeAt wr (Lo (w.heap.size + 3)) none 0 A2 c2 A3 c3 ⟨false,[],ks,ids⟩ := ⟨Rd.nil_ _,Rd.own_lo HB.out.o2 (by omega),Rd.own_lo HB.out.o3 (by omega),by simp,hc2,hc3,by simp,by simp only; omega,by simp only; omega,fun _ => rfl,own_nilcap HB.out.o2,own_nilcap HB.out.o3⟩
       have hf : (⟨false,[],ks,ids⟩ : Nd).fits := ⟨by simp,HFK.out,HFI.out⟩
       have HC := Lib.hid (fun w' hn => check_any ⟨false,[],ks,ids⟩ w' (Lo (w.heap.size + 3)) none 0 A2 c2 A3 c3 hn hf)
       simp only [Nd.value] at HC
       go_wp2_with fail
       refine (HC.out _ hn).mono ?_
       rintro e w5 ⟨rfl,hx5⟩
       have bn5 := bn.ext hx5 (fun h => h)
       have br5 := br.ext hx5 (fun h => h)
       obtain ⟨p0,p1,p2,p3,g0,g1,g2,g3,ln⟩ := bn5.p4
       obtain ⟨x0,x1,x2,x3,y0,y1,y2,y3,lr⟩ := br5.p4
       cases hok : (⟨false,[],ks,ids⟩ : Nd).ok
       ·have hdn : D = none := by rw [HD.out]; simp [hok]
        simp only [Nd.chk_bad hok]
        clear HD HC
        go_wp2_with fail
        have HRES := br5.put4 (.bool false) (.slice none 0 0) (.slice none 0 0) (.slice none 0 0)
        refine dec_back w.heap.size _ HRES rfl rfl rfl rfl ?_
        exact Told.fail (((((HB.out.hE.trans_ hx5).setNew (by omega) _ _).setNew (by omega) _ _).setNew (by omega) _ _).setNew (by omega) _ _) hdn
       ·have hdn : D = some ⟨false,[],ks,ids⟩ := by rw [HD.out]; simp [hok]
        simp only [Nd.chk_ok hok]
        clear HD HC
        go_wp2_with fail
        have HRES := br5.put4 (.bool false) (.slice none 0 0) (.slice A2 ks.length c2) (.slice A3 ids.length c3)
        refine dec_back w.heap.size _ HRES rfl rfl rfl rfl ?_
        refine ⟨((((HB.out.hE.trans_ hx5).setNew (by omega) _ _).setNew (by omega) _ _).setNew (by omega) _ _).setNew (by omega) _ _,?_⟩
        rw [hdn]
        have hin : Lo (w.heap.size + 3) w.heap.size := by unfold Lo; omega
        have hz : Ext (Lo (w.heap.size + 3)) wr ((((w5.setCell ⟨w.heap.size,0,none⟩ (.bool false)).setCell ⟨w.heap.size,1,none⟩ (.slice none 0 0)).setCell ⟨w.heap.size,2,none⟩ (.slice A2 ks.length c2)).setCell ⟨w.heap.size,3,none⟩ (.slice A3 ids.length c3)) := (((hx5.of_no.setF hin _ _).setF hin _ _).setF hin _ _).setF hin _ _
        exact ⟨none,0,A2,c2,A3,c3,rfl,(hn.ext hz).mono (fun b _ hb => by unfold Old at hb; unfold Lo; omega)⟩
      ·have hdn : D = none := by
        rw [HD.out]
        simp [hk2]
       have hk2' : ((kd : Int) == 2) = false := by simp; omega
       clear HD
       go_wp2_with fail
       have HRES := br.put4 (.bool false) (.slice none 0 0) (.slice none 0 0) (.slice none 0 0)
       refine dec_back w.heap.size _ HRES rfl rfl rfl rfl ?_
       exact Told.fail ((((HB.out.hE.setNew (by omega) _ _).setNew (by omega) _ _).setNew (by omega) _ _).setNew (by omega) _ _) hdn
     ·have hdn : D = none := by
       rw [HD.out]
       simp [hs0]
      clear HD
      have hne := str_ne_nil hs0
      go_wp2_with fail
      have HRES := br.put4 (.bool false) (.slice none 0 0) (.slice none 0 0) (.slice none 0 0)
      refine dec_back w.heap.size _ HRES rfl rfl rfl rfl ?_
      exact Told.fail ((((HB.out.hE.setNew (by omega) _ _).setNew (by omega) _ _).setNew (by omega) _ _).setNew (by omega) _ _) hdn
    ·have hdn : D = none := by
      rw [HD.out]
      simp [hbad]
     rw [hbad] at z1
     clear HD hbad
     go_wp2_with fail
     have HRES := br.put4 (.bool false) (.slice none 0 0) (.slice none 0 0) (.slice none 0 0)
     refine dec_back w.heap.size _ HRES rfl rfl rfl rfl ?_
     exact Told.fail ((((HB.out.hE.setNew (by omega) _ _).setNew (by omega) _ _).setNew (by omega) _ _).setNew (by omega) _ _) hdn
end Go.Proofs.YtccnemmlkcmceaaGreatDoor
