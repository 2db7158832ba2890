/- Proofs about the given program, joined out of the texts S7, D3, D4, Z4. -/
import Derived.Test.YtccnemmlkcmceaaGreatDoorHE6
import Derived.Laws.ResultCell
import Derived.Deep.RegionLaw
set_option linter.unusedVariables false
set_option linter.unusedSimpArgs false
set_option maxRecDepth 100000
set_option maxHeartbeats 6400000
namespace Go.Proofs.YtccnemmlkcmceaaGreatDoor
open Go.RowKit
theorem encCells_take (cs:List Cell) (k:Nat) (c:Cell) (h:cs[k]? = some c):encCells (cs.take (k + 1)) = encCells (cs.take k) ++ c.enc:=by
 rw [List.take_add_one,h];simp [encCells]
theorem Cell.enc_len {c:Cell} (h:c.ok = true):c.enc.length ≤ 300:=by
 have:=Cell.ok_bounds h
 unfold Cell.enc txt
 split <;> simp [n4_len] <;> omega
theorem encCells_len (cs:List Cell) (h:∀ c ∈ cs,c.ok = true):(encCells cs).length ≤ cs.length * 300:=by
 induction cs with
 | nil=>simp [encCells]
 | cons c cs ih =>
  have h1:=Cell.enc_len (h c (by simp))
  have h2:=ih (fun c hc=>h c (by simp [hc]))
  simp only [encCells,List.flatMap_cons,List.length_append,List.length_cons] at *
  omega
theorem at_ne {g1 n cap g2 H x:Nat} (h:(Value.slice (some ⟨g1,0,none⟩) n cap).ownBlock = some g2 ∨ g2 = H) (h1:g1 ≠ x) (h2:x < H):g2 ≠ x:=by
 rcases h with h | h
 ·simp [Value.ownBlock] at h;omega
 ·omega
theorem le_ne {g1 n cap g2 H x:Nat} (h:(Value.slice (some ⟨g1,0,none⟩) n cap).ownBlock = some g2 ∨ H ≤ g2) (h1:g1 ≠ x) (h2:x < H):g2 ≠ x:=by
 rcases h with h | h
 ·simp [Value.ownBlock] at h;omega
 ·omega
theorem gb {w w':World} {row:Option Nat} (h:w.grownBy w' row) {B:Nat} (hb:B ≤ w.heap.size):B ≤ w'.heap.size:=Nat.le_trans hb h.size
theorem gba {w w':World} {row:Option Nat} {o:Obj} (h:((w.alloc o).drew).grownBy w' row) {B:Nat} (hb:B ≤ w.heap.size):B ≤ w'.heap.size:=Nat.le_trans (Nat.le_trans hb (by simp)) h.size
theorem cad {w:World} {g i:Nat} {v:Value} (h:w.cell? ⟨g,i,none⟩ = some v) (o:Obj):(w.alloc o).drew.cell? ⟨g,i,none⟩ = some v:=by
 have hlt:=World.block_lt_of_cell? w _ h
 exact (World.cell?_alloc_lt w o ⟨g,i,none⟩ hlt).trans h
theorem ne_own {g1 x n cap:Nat} (h:g1 ≠ x):some x ≠ (Value.slice (some ⟨g1,0,none⟩) n cap).ownBlock:=by simp [Value.ownBlock];omega
theorem lt_n4 {L L3:Bs} {n:Nat} (H:Hid (L ++ n4 n = L3)) (h:L.length < 999000):L3.length < 1000000:=by rw [← H.out];simp [n4_len];omega
theorem own_snoc {w:World} {base g cap:Nat} {L:Bs} {b:UInt8} {c:Int} (hb:(b.toNat:Int) = c) (h:w.ownsRow base 5 1 (.slice (some ⟨g,0,none⟩) (L.length + 1) cap) (L.length + 1) (bcs L ++ [.int .u8 c])) :
  Hid (w.ownsRow base 5 1 (.slice (some ⟨g,0,none⟩) (L.length + 1) cap) (L ++ [b]:Bs).length (bcs (L ++ [b]))):=by
 show World.ownsRow _ _ _ _ _ _ _
 rw [bcs_append,List.length_append]
 subst hb
 exact h
theorem enc_leaf (n:Nd) (w:World) (F:Nat → Prop) (A1:Option Addr) (c1:Nat) (A2:Option Addr) (c2:Nat) (A3:Option Addr) (c3:Nat) (hn:NodeAt w F A1 c1 A2 c2 A3 c3 n) (hno:n.ok = true) (hl:n.size ≤ 500) (hlf:n.leaf = true) :
  Calls Tryz.prog 180 #[n.value A1 c1 A2 c2 A3 c3] w fun e w'=>e = .returned (.tuple #[.string (str n.enc),.int .i64 0]) ∧ Ext No w w':=by
 have hO:=Nd.Ok.of hno
 have hf:=hO.fits
 have HC:=Lib.hid (fun w hn=>check_any n w F A1 c1 A2 c2 A3 c3 hn hf)
 have HS:=Lib.hid (fun w hn=>size_any n w F A1 c1 A2 c2 A3 c3 hn hf)
 rw [Nd.chk_ok hno] at HC
 clear hno
 have hl':¬ ((500:Int) < n.size):=by omega
 have HLF:=Lib.hid hlf
 obtain ⟨i0,hti,htz0,htz1,htz2⟩:=info_parts Tryz.info5
 go_enter Tryz.func180,Tryz.ntmps180
 simp only [Nd.value,hlf]
 simp only [Nd.value,hlf] at HC HS
 clear hlf
 go_wp2_with fail
 refine (HC.out _ (hn.ext ((Ext.refl _ w).alloc _))).mono ?_
 rintro e w1 ⟨rfl,hb1⟩
 have bb:=(Blk.new w 40 #[.bool true,.slice A1 n.cells.length c1,.slice A2 n.keys.length c2,.slice A3 n.kids.length c3]).ext hb1 (fun h=>h)
 have q0:=bb.cell 0
 have q1:=bb.cell 1
 have q2:=bb.cell 2
 have q3:=bb.cell 3
 have bl:=bb.lt
 simp at q0 q1 q2 q3
 go_wp2_with fail
 refine (HS.out _ (hn.ext (((Ext.refl _ w).alloc _).trans_ hb1.of_no))).mono ?_
 rintro e w2 ⟨rfl,hb2⟩
 have hE2:Ext No w w2:=by (repeat' (first | exact Ext.refl _ _ | assumption | apply Ext.alloc | apply Ext.drewN | apply Ext.drew | refine Ext.setNew ?_ (by first | omega | (simp;omega) | simp) _ _ | refine Ext.setF ?_ (by first | exact Or.inl rfl | exact Or.inr rfl | rfl) _ _ | refine Ext.trans_ ?_ (by assumption) | refine Ext.trans_ ?_ (Ext.of_no (by assumption))))
 have bb:=bb.ext hb2 (fun h=>h)
 have q0:=bb.cell 0
 have q1:=bb.cell 1
 have bl:=bb.lt
 simp at q0 q1
 have HE2:=Lib.hid hE2
 have hwr:=wrap_u8_small n.cells.length (by have:=hO.a1;omega)
 have hk255:(n.cells.length:Int) % 256 = n.cells.length:=by have:=hO.a1;omega
 have HB2:Hid (bcs [1,UInt8.ofNat n.cells.length] = [.int .u8 1,.int .u8 (n.cells.length:Int)]):=by
  have:=ofNat_lt n.cells.length (by have:=hO.a1;omega)
  show bcs _ = _
  simp only [bcs,List.map_cons,List.map_nil,this];rfl
 have HC1:=Lib.hid hn.cells
 have hcok:=hO.c
 have ha1:=hO.a1
 clear hn HC HS hb1 hb2 hE2 hl'
 go_wp2_with fail
 have hown3:=World.ownsRow_lit (base:=w.heap.size + 1) (e:=5) (size:=1) w2 #[.int .u8 1,.int .u8 (n.cells.length:Int)] 2 (by omega) (by decide) rfl
 have hE3:Ext No w (w2.alloc (.cells #[.int .u8 1,.int .u8 (n.cells.length:Int)] 5)):=HE2.out.alloc _
 have bb3:=bb.alloc (.cells #[.int .u8 1,.int .u8 (n.cells.length:Int)] 5)
 rw [← HB2.out] at hown3
 have hown3':(w2.alloc (.cells #[.int .u8 1,.int .u8 (n.cells.length:Int)] 5)).ownsRow (w.heap.size + 1) 5 1 (.slice (some ⟨w2.heap.size,0,none⟩) 2 2) 2 (bcs [1,UInt8.ofNat n.cells.length]):=by
  rw [HB2.out];exact World.ownsRow_lit (base:=w.heap.size + 1) (e:=5) (size:=1) w2 #[.int .u8 1,.int .u8 (n.cells.length:Int)] 2 (by omega) (by decide) rfl
 go_loopg [7,60] n.cells.length (fun gk v i wr=>∃ (k:Nat) (g cap:Nat) (L:Bs),k + gk = n.cells.length ∧ i = .int .i64 (k:Int) ∧ v = .slice (some ⟨g,0,none⟩) L.length cap ∧ wr.ownsRow (w.heap.size + 1) 5 1 (.slice (some ⟨g,0,none⟩) L.length cap) L.length (bcs L) ∧ L = [1,UInt8.ofNat n.cells.length] ++ encCells (n.cells.take k) ∧ Ext No w wr ∧ Blk wr w.heap.size 40 #[.bool true,.slice A1 n.cells.length c1,.slice A2 n.keys.length c2,.slice A3 n.kids.length c3])
 case atStart=>exact ⟨0,w2.heap.size,2,[1,UInt8.ofNat n.cells.length],by omega,rfl,rfl,hown3',by simp [encCells],hE3,bb3⟩
 case round =>
  clear hown3 hown3' hE3 bb3
  obtain ⟨k,g,cap,L,hk0,rfl,rfl,hown,hL,hE,bb⟩:=hrel
  have hk:k ≤ n.cells.length:=by omega
  have HK0:=Lib.hid hk0;have HL:=Lib.hid hL;have HO:=Lib.hid hown
  have hLb:L.length ≤ 2 + k * 300:=by
   have h1:=encCells_len (n.cells.take k) (fun x hx=>hcok x (List.mem_of_mem_take hx))
   have h2:(n.cells.take k).length ≤ k:=List.length_take_le _ _
   have h4:=Nat.mul_le_mul_right 300 h2
   rw [hL,List.length_append];simp;omega
  clear hk0 hL hown
  have HE:=Lib.hid hE
  have q1:=bb.cell 1
  have bl:=bb.lt
  simp at q1
  by_cases hlt:k < n.cells.length
  ·obtain ⟨x,hx⟩:∃ x,n.cells[k]? = some x:=⟨_,List.getElem?_eq_getElem hlt⟩
   have hxok:=hcok x (List.mem_of_getElem? hx)
   have hxb:=Cell.ok_bounds hxok
   obtain ⟨hx1,hx2,hx3,hx4,hx5⟩:=hxb
   obtain ⟨b,o,hA,_,e0,e1,e2,e3⟩:=(HC1.out.ext hE.of_no).cellAt hx
   subst hA
   have hbw:b < w.heap.size:=by
    obtain ⟨bw,ow,hAw,_,ew,_⟩:=HC1.out.cellAt hx
    injection hAw with hAw;injection hAw with hA1 hA2
    rw [hA1];exact World.block_lt_of_cell? w _ ew
   obtain ⟨hg1,hg2⟩:=HO.out.lt g rfl
   have lbr:b < wr.heap.size:=by omega
   have HX:=Lib.hid hx
   clear hx
   go_wp2_with fail
   refine (text_any (w.heap.size + 1) _ L x.key (by omega) _ (HO.out.alloc _) (by simp;omega) (by omega)).mono ?_
   rintro e w5 ⟨g1,cap1,rfl,hown1,hgrow1,hat1⟩
   generalize hL1:(L ++ UInt8.ofNat x.key.length :: x.key:Bs) = L1 at hown1 ⊢
   have HL1:=Lib.hid hL1;have HO1:=Lib.hid hown1
   have hL1b:L1.length ≤ 200 + k * 300:=by rw [← hL1];simp;omega
   clear hL1 hown1
   have hcb:=(Blk.new wr 45 #[.string (str x.key),.string (str x.val),.int .i64 (x.over:Int),.int .i64 (x.len:Int)])
   have hcb5:Blk w5 wr.heap.size 45 #[.string (str x.key),.string (str x.val),.int .i64 (x.over:Int),.int .i64 (x.len:Int)]:=(hgrow1.block _ (by simp) (by simp [Value.ownBlock];omega)).trans hcb
   have p1:=hcb5.cell 1
   have p2:=hcb5.cell 2
   have p3:=hcb5.cell 3
   have pl:=hcb5.lt
   simp at p1 p2 p3
   obtain ⟨hg3,hg4⟩:=HO1.out.lt g1 rfl
   have hgne:g1 ≠ wr.heap.size:=by
    rcases hat1 with h | h
    ·simp [Value.ownBlock] at h;omega
    ·simp at h;omega
   have m11:(L1 ++ [1]:Bs).length < 999000:=by simp;omega
   have m10:(L1 ++ [0]:Bs).length < 1000000:=by simp;omega
   have m1:w.heap.size + 1 ≤ w5.heap.size:=by omega
   have m2:L1.length + 1 ≤ maxLen:=by unfold maxLen;omega
   have m3:(L1.length + 1) * 1 ≤ 140737488355328:=by omega
   have m4:∀ o,w.heap.size + 1 ≤ (w5.alloc o).drew.heap.size:=fun o=>by simp;omega
   have m5:∀ o,(w5.alloc o).drew.heap.size = w5.heap.size + 1:=fun o=>by simp
   have m6:wr.heap.size < w5.heap.size + 1:=by omega
   have m7:x.len < 4294967296:=by omega
   have m8:x.over < 4294967296:=by omega
   have m9:x.val.length < 256:=by omega
   have n1:∀ u ∈ [Value.int .u8 1],u.oneCell' = true:=by simp [Value.oneCell']
   have n0:∀ u ∈ [Value.int .u8 0],u.oneCell' = true:=by simp [Value.oneCell']
   have m12:(L1 ++ [1]:Bs).length < 1000000:=by omega
   by_cases hov:(0:Int) < x.over
   ·have hov':0 < x.over:=by omega
    go_wp2_with fail
    go_region_held3 (fun w'=>w'.cell? ⟨wr.heap.size,2,none⟩ = some (.int .i64 (x.over:Int)) ∧ w'.cell? ⟨wr.heap.size,3,none⟩ = some (.int .i64 (x.len:Int))) (go_keep)
     (first
      | (go_at_call_of 202 (Value.int .i64 (x.len:Int));refine (four_any (w.heap.size + 1) _ (L1 ++ [1]) x.len m7 _ (by exact HO2.out) (by exact gba hgrow2 m1) m12).mono ?_;rintro e w7 ⟨g3,cap3,rfl,hown3,hgrow3,hat3⟩;generalize hL3:(L1 ++ [1] ++ n4 x.len:Bs) = L3 at hown3 ⊢;have HL3:=Lib.hid hL3;have HO3:=Lib.hid hown3;clear hL3 hown3;have r2:=cell_grown hgrow3 t2 (ne_own hg2ne);have r3:=cell_grown hgrow3 t3 (ne_own hg2ne))
      | (go_at_call_of 202 (Value.int .i64 (x.over:Int));refine (four_any (w.heap.size + 1) _ L3 x.over m8 _ (by exact HO3.out) (by exact gb hgrow3 (gba hgrow2 m1)) (by exact lt_n4 HL3 m11)).mono ?_;rintro e w8 ⟨g4,cap4,rfl,hown4,hgrow4,hat4⟩;generalize hL4:(L3 ++ n4 x.over:Bs) = L4 at hown4 ⊢;have HL4:=Lib.hid hL4;have HO4:=Lib.hid hown4;clear hL4 hown4;have hg3ne:g3 ≠ wr.heap.size:=le_ne hat3 hg2ne (gba hgrow2 pl);have s2:=cell_grown hgrow4 r2 (ne_own hg3ne);have s3:=cell_grown hgrow4 r3 (ne_own hg3ne))
      | ((refine step_append_lies _ (by rfl) _ _ _ (by rfl) (w.heap.size + 1) 5 i0 (.int .u8 0) 1 1 Tryz.underlying98 hti htz0 htz1 htz2 rfl (by decide) (.slice (some ⟨g1,0,none⟩) L1.length cap1) L1.length (bcs L1) (by rfl) (by exact HO1.out.alloc _) ⟨w5.heap.size,0,none⟩ 1 1 [.int .u8 1] (by rfl) (by rfl) (by exact World.news_of_block (cs:=#[.int .u8 1]) (t:=5) (fr:=(0,0)) (heap_alloc_new w5 _)) n1 (by decide) m2 m3 (by exact m4 _) (w5.heap.size + 1) (by exact m5 _) ?_);intro g2 cap2 w6 hown2 hgrow2 hat2 hlt2;have HO2:=own_snoc (L:=L1) (b:=1) (c:=1) rfl hown2;clear hown2;have hg2ne:g2 ≠ wr.heap.size:=at_ne hat2 hgne m6;have t2:=cell_grown hgrow2 (cad p2 _) (ne_own hgne);have t3:=cell_grown hgrow2 (cad p3 _) (ne_own hgne)))
    go_wp2_with fail
    go_roundg (gk - 1)
    case rel =>
     have z2:=hgrow2.size
     have z3:=hgrow3.size
     simp at z2 z3
     refine ⟨k + 1,g4,cap4,L4,by have:=HK0.out;omega,by go_num,rfl,HO4.out,?_,?_,?_⟩
     ·rw [← HL4.out,← HL3.out,← HL1.out,HL.out,encCells_take n.cells k x HX.out]
      simp [Cell.enc,txt,hov']
     ·have h1:=Ext.grown (HE.out.alloc _) hgrow1 (fun g' hg'=>by simp [Value.ownBlock] at hg';exact .inr (by omega))
      have h2:=Ext.grown (h1.alloc _).drew hgrow2 (fun g' hg'=>by simp [Value.ownBlock] at hg';exact .inr (by omega))
      have hg22:=(HO2.out.lt g2 rfl).1
      have hg33:=(HO3.out.lt g3 rfl).1
      exact Ext.grown (Ext.grown h2 hgrow3 (fun g' hg'=>by simp [Value.ownBlock] at hg';exact .inr (by omega))) hgrow4 (fun g' hg'=>by simp [Value.ownBlock] at hg';exact .inr (by omega))
     ·have hg22:=(HO2.out.lt g2 rfl).1
      have hg33:=(HO3.out.lt g3 rfl).1
      have w5l:=hgrow1.size
      simp at w5l
      exact (hgrow4.block _ (by omega) (by simp [Value.ownBlock];omega)).trans ((hgrow3.block _ (by omega) (by simp [Value.ownBlock];omega)).trans ((hgrow2.block _ (by simp;omega) (by simp [Value.ownBlock];omega)).trans ((Blk.alloc ((hgrow1.block _ (by simp;omega) (by simp [Value.ownBlock];omega)).trans (bb.alloc _)) _))))
    case measure=>have:=HK0.out;omega
   ·have hov':¬ 0 < x.over:=by omega
    go_wp2_with fail
    go_region_held3 (fun w'=>w'.cell? ⟨wr.heap.size,1,none⟩ = some (.string (str x.val))) (go_keep)
     (first
      | (go_at_call 203;refine (text_any (w.heap.size + 1) _ (L1 ++ [0]) x.val m9 _ (by exact HO2.out) (by exact gba hgrow2 m1) m10).mono ?_;rintro e w7 ⟨g3,cap3,rfl,hown3,hgrow3,hat3⟩;generalize hL3:(L1 ++ [0] ++ UInt8.ofNat x.val.length :: x.val:Bs) = L3 at hown3 ⊢;have HL3:=Lib.hid hL3;have HO3:=Lib.hid hown3;clear hL3 hown3;have r2:=cell_grown hgrow3 t2 (ne_own hg2ne))
      | ((refine step_append_lies _ (by rfl) _ _ _ (by rfl) (w.heap.size + 1) 5 i0 (.int .u8 0) 1 1 Tryz.underlying98 hti htz0 htz1 htz2 rfl (by decide) (.slice (some ⟨g1,0,none⟩) L1.length cap1) L1.length (bcs L1) (by rfl) (by exact HO1.out.alloc _) ⟨w5.heap.size,0,none⟩ 1 1 [.int .u8 0] (by rfl) (by rfl) (by exact World.news_of_block (cs:=#[.int .u8 0]) (t:=5) (fr:=(0,0)) (heap_alloc_new w5 _)) n0 (by decide) m2 m3 (by exact m4 _) (w5.heap.size + 1) (by exact m5 _) ?_);intro g2 cap2 w6 hown2 hgrow2 hat2 hlt2;have HO2:=own_snoc (L:=L1) (b:=0) (c:=0) rfl hown2;clear hown2;have hg2ne:g2 ≠ wr.heap.size:=at_ne hat2 hgne m6;have t2:=cell_grown hgrow2 (cad p1 _) (ne_own hgne)))
    go_wp2_with fail
    go_roundg (gk - 1)
    case rel =>
     have z2:=hgrow2.size
     simp at z2
     refine ⟨k + 1,g3,cap3,L3,by have:=HK0.out;omega,by go_num,rfl,HO3.out,?_,?_,?_⟩
     ·rw [← HL3.out,← HL1.out,HL.out,encCells_take n.cells k x HX.out]
      simp [Cell.enc,txt,hov']
     ·have h1:=Ext.grown (HE.out.alloc _) hgrow1 (fun g' hg'=>by simp [Value.ownBlock] at hg';exact .inr (by omega))
      have h2:=Ext.grown (h1.alloc _).drew hgrow2 (fun g' hg'=>by simp [Value.ownBlock] at hg';exact .inr (by omega))
      have hg22:=(HO2.out.lt g2 rfl).1
      exact Ext.grown h2 hgrow3 (fun g' hg'=>by simp [Value.ownBlock] at hg';exact .inr (by omega))
     ·have hg22:=(HO2.out.lt g2 rfl).1
      have w5l:=hgrow1.size
      simp at w5l
      exact (hgrow3.block _ (by omega) (by simp [Value.ownBlock];omega)).trans ((hgrow2.block _ (by simp;omega) (by simp [Value.ownBlock];omega)).trans ((Blk.alloc ((hgrow1.block _ (by simp;omega) (by simp [Value.ownBlock];omega)).trans (bb.alloc _)) _)))
    case measure=>have:=HK0.out;omega
  ·have hke:k = n.cells.length:=by omega
   have HKE:=Lib.hid hke
   clear hke
   have hconv:(convert 98 9 (.slice (some ⟨g,0,none⟩) L.length cap)).run Tryz.prog wr = .ok (.string (str L)) wr :=
    run_convert_bytes_back (P:=Tryz.prog) wr 98 9 5 ⟨g,0,none⟩ cap L Tryz.underlying98 Tryz.underlying5 Tryz.underlying9 (fun j hj=>HO.out.cells (g:=g) rfl j _ (by simp [bcs,hj]))
   go_wp2_with fail
   go_ret2
   refine ⟨?_,HE.out⟩
   have hfin:L = n.enc:=by
    rw [HL.out,HKE.out,List.take_length]
    unfold Nd.enc
    rw [HLF.out,if_pos rfl]
    simp
   rw [hfin]
   rfl
theorem Tryz.info45:(Tryz.prog.info? 45).map (fun i=>(i.zero,i.size,i.bytes)) = some (some (.agg #[.string ⟨#[]⟩,.string ⟨#[]⟩,.int .i64 0,.int .i64 0]),4,48):=by kernel_rfl
theorem Tryz.info9:(Tryz.prog.info? 9).map (fun i=>(i.zero,i.size,i.bytes)) = some (some (.string ⟨#[]⟩),1,16):=by kernel_rfl
theorem Tryz.info3:(Tryz.prog.info? 3).map (fun i=>(i.zero,i.size,i.bytes)) = some (some (.int .i64 0),1,8):=by kernel_rfl
def Nd.one (n:Nd) (r:Rst):Nd × Rst :=
 if n.leaf then ({ n with cells:=n.cells ++ [r.cell.1] },r.cell.2) else ({ n with keys:=n.keys ++ [r.text.1],kids:=n.kids ++ [r.text.2.four.1] },r.text.2.four.2)
def decLoop:Nat → Nd → Rst → Nd × Rst
 | 0,n,r=>(n,r)
 | k + 1,n,r=>if r.bad then (n,r) else decLoop k (n.one r).1 (n.one r).2
def Rst.head (r:Rst):Nd × Rst :=
 if r.byte.1 = 1 then (⟨true,[],[],[]⟩,r.byte.2.byte.2) else (⟨false,[],[],[r.byte.2.byte.2.four.1]⟩,r.byte.2.byte.2.four.2)
def Rst.loop (r:Rst):Nd × Rst:=decLoop r.byte.2.byte.1 r.head.1 r.head.2
def dec (s:Bs):Option Nd :=
 if 500 < s.length then none
 else if (⟨s,false⟩:Rst).loop.2.bad then none
 else if (⟨s,false⟩:Rst).loop.2.s.length ≠ 0 then none
 else if (⟨s,false⟩:Rst).byte.1 ≠ 1 ∧ (⟨s,false⟩:Rst).byte.1 ≠ 2 then none
 else if (⟨s,false⟩:Rst).loop.1.ok then some (⟨s,false⟩:Rst).loop.1 else none
def Old (w:World):Nat → Prop:=fun b=>b < w.heap.size
def Nd.zero:Value:=.agg #[.bool false,.slice none 0 0,.slice none 0 0,.slice none 0 0]
def Told (w:World) (o:Option Nd) (e:Ending) (w':World):Prop :=
 Ext No w w' ∧ match o with
  | none=>e = .returned (.tuple #[Nd.zero,.int .i64 5])
  | some n=>∃ A1 c1 A2 c2 A3 c3,e = .returned (.tuple #[n.value A1 c1 A2 c2 A3 c3,.int .i64 0]) ∧ NodeAt w' (Old w) A1 c1 A2 c2 A3 c3 n
def Lo (n:Nat):Nat → Prop:=fun b=>b < n
theorem Rd.own_lo {w':World} {base:Nat} {e:TypeId} {sz n cap:Nat} {A:Option Addr} {xs:List Value} (h:w'.ownsRow base e sz (.slice A n cap) n xs) (hs:0 < sz):Rd w' (Lo base) sz A n xs:=by
 refine ⟨h.1,fun hn=>?_⟩
 rcases h.2 with ⟨hv,h0⟩ | ⟨g,cap',cur,hv,hbg,hg,hnc,hcm,hcs,htake⟩
 ·omega
 ·injection hv with hA _ hc
  subst hA;subst hc
  refine ⟨g,0,rfl,fun h'=>by unfold Lo at h';omega,fun j u hu=>?_⟩
  have:=h.cells (g:=g) rfl j u hu
  rw [Nat.zero_add]
  simp only [Addr.add] at this
  split at this
  ·rename_i hj
   have:j = 0:=by simpa using hj
   subst this;assumption
  ·simpa using this
theorem NodeAt.mono {w:World} {F G:Nat → Prop} {A1:Option Addr} {c1:Nat} {A2:Option Addr} {c2:Nat} {A3:Option Addr} {c3:Nat} {n:Nd} (h:NodeAt w F A1 c1 A2 c2 A3 c3 n) (hG:∀ b,b < w.heap.size → G b → F b):NodeAt w G A1 c1 A2 c2 A3 c3 n :=
 ⟨h.cells.mono (by omega) hG,h.keys.mono (by omega) hG,h.kids.mono (by omega) hG,h.l1,h.l2,h.l3,h.b1,h.b2,h.b3,h.e1,h.e2,h.e3⟩
theorem Rd.own {w w':World} {base:Nat} {e:TypeId} {sz n cap:Nat} {A:Option Addr} {xs:List Value} (h:w'.ownsRow base e sz (.slice A n cap) n xs) (hb:w.heap.size ≤ base) (hs:0 < sz):Rd w' (Old w) sz A n xs:=by
 refine ⟨h.1,fun hn=>?_⟩
 rcases h.2 with ⟨hv,h0⟩ | ⟨g,cap',cur,hv,hbg,hg,hnc,hcm,hcs,htake⟩
 ·omega
 ·injection hv with hA _ hc
  subst hA;subst hc
  refine ⟨g,0,rfl,fun h'=>by unfold Old at h';omega,fun j u hu=>?_⟩
  have:=h.cells (g:=g) rfl j u hu
  rw [Nat.zero_add]
  simp only [Addr.add] at this
  split at this
  ·rename_i hj
   have:j = 0:=by simpa using hj
   subst this;assumption
  ·simpa using this
theorem own_cap {w:World} {base:Nat} {e:TypeId} {sz n cap:Nat} {A:Option Addr} {xs:List Value} (h:w.ownsRow base e sz (.slice A n cap) n xs):n ≤ cap:=by
 rcases h.2 with ⟨hv,h0⟩ | ⟨g,cap',cur,hv,hbg,hg,hnc,hcm,hcs,htake⟩
 ·omega
 ·injection hv with hA _ hc
  omega
theorem own_nilcap {w:World} {base:Nat} {e:TypeId} {sz n cap:Nat} {A:Option Addr} {xs:List Value} (h:w.ownsRow base e sz (.slice A n cap) n xs):A = none → cap = 0:=by
 rintro rfl
 rcases h.2 with ⟨hv,h0⟩ | ⟨g,cap',cur,hv,_⟩
 ·injection hv
 ·injection hv with hA;cases hA
theorem decLoop_stop (k:Nat) (n:Nd) (r:Rst) (h:r.bad = true):decLoop k n r = (n,r):=by
 match k with
 | 0=>rfl
 | k + 1=>simp [decLoop,h]
theorem Blk.new_at (w:World) (t:TypeId) (cs:Array Value) {b:Nat} (h:w.heap.size = b):Blk (w.alloc (.cells cs t)) b t cs:=h ▸ Blk.new w t cs
theorem Ext.on_new {F:Nat → Prop} {w0 w w':World} {p:Nat} (h:Ext F w0 w) (hx:Ext (On p) w w') (hp:w0.heap.size ≤ p):Ext F w0 w' :=
 ⟨hx.os.trans h.os,hx.tape.trans h.tape,hx.output.trans h.output,Nat.le_trans h.size hx.size,fun i hi hn=>(hx.block i (Nat.lt_of_lt_of_le hi h.size) (fun h'=>by unfold On at h';omega)).trans (h.block i hi hn)⟩
theorem off_on {p b:Nat} (h:b ≠ p):¬ On p b:=h
theorem Rst.cell_fits (r:Rst):r.cell.1.fits:=by
 have h1:=r.text_len
 have h2:=r.text.2.byte.2.text_len
 have h3:=r.text.2.byte.2.four_lt
 have h4:=r.text.2.byte.2.four.2.four_lt
 unfold Rst.cell
 split
 ·exact ⟨by simp only;omega,by simp only;omega,by simp,by simp⟩
 ·split
  ·exact ⟨by simp only;omega,by simp,by simp only;omega,by simp only;omega⟩
  ·exact ⟨by simp only;omega,by simp,by simp,by simp⟩
theorem own_push {w:World} {base g cap:Nat} {cs:List Cell} {c:Cell} (h:w.ownsRow base 45 4 (.slice (some ⟨g,0,none⟩) (cs.length + 1) cap) (cs.length + 1) (cellVals cs ++ c.vals)) :
  w.ownsRow base 45 4 (.slice (some ⟨g,0,none⟩) (cs ++ [c]).length cap) (cs ++ [c]).length (cellVals (cs ++ [c])):=by
 rw [cellVals_append,List.length_append]
 simpa [cellVals] using h
theorem own_ext {F:Nat → Prop} {w w':World} {base:Nat} {e:TypeId} {sz n:Nat} {v:Value} {xs:List Value} (h:w.ownsRow base e sz v n xs) (hx:Ext F w w') (hF:∀ g,base ≤ g → ¬ F g):w'.ownsRow base e sz v n xs:=by
 refine ⟨h.1,?_⟩
 rcases h.2 with h0 | ⟨g,cap,cur,hv,hbg,hg,rest⟩
 ·exact .inl h0
 ·exact .inr ⟨g,cap,cur,hv,hbg,(hx.block g (by
   rcases Nat.lt_or_ge g w.heap.size with hlt | hge
   ·exact hlt
   ·rw [Array.getElem?_eq_none hge] at hg;cases hg) (hF g hbg)).trans hg,rest⟩
theorem own_ge {w:World} {base:Nat} {e:TypeId} {sz n m cap:Nat} {A:Option Addr} {xs:List Value} (h:w.ownsRow base e sz (.slice A n cap) m xs) {x:Nat} (hx:x < base):some x ≠ (Value.slice A n cap).ownBlock:=by
 intro e'
 have:=h.lt x e'.symm
 omega
theorem own_ge' {w:World} {base:Nat} {e:TypeId} {sz n m cap:Nat} {A:Option Addr} {xs:List Value} (h:w.ownsRow base e sz (.slice A n cap) m xs) {B:Nat} (hx:B ≤ base) {F:Nat → Prop}:∀ g',(Value.slice A n cap).ownBlock = some g' → F g' ∨ B ≤ g':=by
 intro g' e'
 have:=h.lt g' e'
 exact .inr (by omega)
theorem Blk.grown {w w':World} {row:Option Nat} (h:w.grownBy w' row) {g:Nat} {t:TypeId} {cs:Array Value} (hb:Blk w g t cs) (hne:some g ≠ row):Blk w' g t cs:=(h.block g hb.lt hne).trans hb
theorem Cell.one (c:Cell):∀ u ∈ c.vals,u.oneCell' = true:=by
 intro u hu
 simp [Cell.vals] at hu
 rcases hu with rfl | rfl | rfl | rfl <;> simp [Value.oneCell']
theorem Blk.of_ext {F:Nat → Prop} {w w':World} {g:Nat} {t:TypeId} {cs:Array Value} (hx:Ext F w w') (h:Blk w g t cs) (hg:¬ F g):Blk w' g t cs:=h.ext hx hg
theorem own_of_ext {F:Nat → Prop} {w w':World} {base:Nat} {e:TypeId} {sz n:Nat} {v:Value} {xs:List Value} (hx:Ext F w w') (h:w.ownsRow base e sz v n xs) (hF:∀ g,base ≤ g → ¬ F g):w'.ownsRow base e sz v n xs:=own_ext h hx hF
theorem Told.fail {w w':World} {o:Option Nd} (h:Ext No w w') (ho:o = none):Told w o (.returned (.tuple #[Nd.zero,.int .i64 5])) w':=by
 subst ho;exact ⟨h,rfl⟩
theorem str_ne_nil {s:Bs} (h:s ≠ []):(str s == ⟨#[]⟩) = false:=by
 match s,h with
 | [],h=>exact absurd rfl h
 | a :: l,_=>rfl
theorem dec_back {Q:Ending → World → Prop} {a:Act} {w:World} (b:Nat) (cs:Array Value) (hb:Blk w b 40 cs) {v:Value} (hs:some 4 = some cs.size) (hp:a.tmps.getD 2 undef = .pointer (some ⟨b,0,none⟩)) (h3:a.tmps.getD 3 undef = v) (hd:a.defers = [])
  (h:Q (.returned (.tuple #[.agg cs,v])) w):bodyPost Tryz.prog Tryz.f48 Q Exit.ret a w:=by
 refine bodyPost_ret (v:=.tuple #[.agg cs,v]) (w:=w) ?_ hd h
 have hl:=run_loadVar_row w b 40 40 cs (0,0) _ hb Tryz.underlying40 rfl (by rw [← hs];kernel_rfl)
 rw [results_cell_tmp rfl,hp,h3]
 simp [asAddr,Result.andThen,hl]
theorem dec_leaf (s:Bs) (w:World) (hl:s.length ≤ 500) (hk:(⟨s,false⟩:Rst).byte.1 = 1) :
  Calls Tryz.prog 48 #[.string (str s)] w (Told w (dec s)):=by
 have hsz:=str_size s
 have l1:=(⟨s,false⟩:Rst).byte_le
 have l2:=(⟨s,false⟩:Rst).byte.2.byte_le
 have hcnt:=(⟨s,false⟩:Rst).byte.2.byte_lt
 have HB:=Lib.hid (fun p w h=>byte_any ⟨s,false⟩ (show s.length < 1000000 by omega) p w h)
 have HB2:=Lib.hid (fun p w h=>byte_any (⟨s,false⟩:Rst).byte.2 (by simp only at l1;omega) p w h)
 have HD:Hid (dec s = if (decLoop (⟨s,false⟩:Rst).byte.2.byte.1 ⟨true,[],[],[]⟩ (⟨s,false⟩:Rst).byte.2.byte.2).2.bad then none
  else if (decLoop (⟨s,false⟩:Rst).byte.2.byte.1 ⟨true,[],[],[]⟩ (⟨s,false⟩:Rst).byte.2.byte.2).2.s.length ≠ 0 then none
  else if (decLoop (⟨s,false⟩:Rst).byte.2.byte.1 ⟨true,[],[],[]⟩ (⟨s,false⟩:Rst).byte.2.byte.2).1.ok then some (decLoop (⟨s,false⟩:Rst).byte.2.byte.1 ⟨true,[],[],[]⟩ (⟨s,false⟩:Rst).byte.2.byte.2).1 else none):=by
  show _ = _
  simp [dec,show ¬ 500 < s.length by omega,Rst.loop,Rst.head,hk]
 rw [hk] at HB
 have hlen:(⟨s,false⟩:Rst).byte.2.byte.2.s.length < 1000000:=by simp only at l1;omega
 generalize (⟨s,false⟩:Rst).byte.2.byte.2 = r2 at HB2 HD hlen
 generalize (⟨s,false⟩:Rst).byte.2.byte.1 = cnt at HB2 HD hcnt
 generalize (⟨s,false⟩:Rst).byte.2 = r1 at HB HB2
 generalize dec s = D at HD
 clear l1 l2 hk
 go_enter Tryz.func48,Tryz.ntmps48
 go_wp2_with fail
 have ea:Ext No w (((w.alloc (.cells #[.bool false,.slice none 0 0,.slice none 0 0,.slice none 0 0] 40)).alloc (.cells #[.string (str s),.bool false] 155)).alloc (.cells #[.bool false,.slice none 0 0,.slice none 0 0,.slice none 0 0] 40)):=(((Ext.refl _ w).alloc _).alloc _).alloc _
 have br:=((Blk.new w 40 #[.bool false,.slice none 0 0,.slice none 0 0,.slice none 0 0]).alloc (.cells #[.string (str s),.bool false] 155)).alloc (.cells #[.bool false,.slice none 0 0,.slice none 0 0,.slice none 0 0] 40)
 have bn:=Blk.new_at (b:=w.heap.size + 1 + 1) ((w.alloc (.cells #[.bool false,.slice none 0 0,.slice none 0 0,.slice none 0 0] 40)).alloc (.cells #[.string (str s),.bool false] 155)) 40 #[.bool false,.slice none 0 0,.slice none 0 0,.slice none 0 0] (by simp)
 have bp:RestAt (((w.alloc (.cells #[.bool false,.slice none 0 0,.slice none 0 0,.slice none 0 0] 40)).alloc (.cells #[.string (str s),.bool false] 155)).alloc (.cells #[.bool false,.slice none 0 0,.slice none 0 0,.slice none 0 0] 40)) (w.heap.size + 1) ⟨s,false⟩:=(Blk.new_at (w.alloc (.cells #[.bool false,.slice none 0 0,.slice none 0 0,.slice none 0 0] 40)) 155 #[.string (str s),.bool false] (by simp)).alloc (.cells #[.bool false,.slice none 0 0,.slice none 0 0,.slice none 0 0] 40)
 refine (HB.out _ _ bp).mono ?_
 rintro e w1 ⟨rfl,hr1,hx1⟩
 have en:¬ On (w.heap.size + 1) w.heap.size:=fun h=>by unfold On at h;omega
 have en2:¬ On (w.heap.size + 1) (w.heap.size + 1 + 1):=fun h=>by unfold On at h;omega
 have br:=br.ext hx1 en
 have bn:=bn.ext hx1 en2
 have ea1:=ea.on_new hx1 (by omega)
 clear bp ea
 go_wp2_with fail
 refine (HB2.out _ _ hr1).mono ?_
 rintro e w2 ⟨rfl,hr2,hx2⟩
 have br:=br.ext hx2 en
 have bn:=bn.ext hx2 en2
 have ea2:=ea1.on_new hx2 (by omega)
 obtain ⟨p0,p1,p2,p3,g0,g1,g2,g3,ln⟩:=bn.p4
 clear hr1 hx1 hx2 ea1
 go_wp2_with fail
 have bn2:Blk (w2.setCell ⟨w.heap.size + 1 + 1,0,none⟩ (.bool true)) (w.heap.size + 1 + 1) 40 #[.bool true,.slice none 0 0,.slice none 0 0,.slice none 0 0]:=bn.set_ 0 (.bool true)
 have br2:Blk (w2.setCell ⟨w.heap.size + 1 + 1,0,none⟩ (.bool true)) w.heap.size 40 #[.bool false,.slice none 0 0,.slice none 0 0,.slice none 0 0]:=br.far (show w.heap.size ≠ w.heap.size + 1 + 1 by omega) _
 have hr3:RestAt (w2.setCell ⟨w.heap.size + 1 + 1,0,none⟩ (.bool true)) (w.heap.size + 1) r2:=Blk.far hr2 (show w.heap.size + 1 ≠ w.heap.size + 1 + 1 by omega) _
 have ea3:Ext No w (w2.setCell ⟨w.heap.size + 1 + 1,0,none⟩ (.bool true)):=ea2.setNew (by omega) _ _
 clear p0 p1 p2 p3 g0 g1 g2 g3 br bn hr2 ea2
 obtain ⟨i0,hti,htz0,htz1,htz2⟩:=info_parts Tryz.info45
 go_loopg [33] cnt (fun gk i wr=>∃ (k:Nat) (A:Option Addr) (cap:Nat) (cs:List Cell) (r:Rst),k + gk = cnt ∧ i = .int .i64 (k:Int) ∧ cs.length = k ∧ wr.ownsRow (w.heap.size + 3) 45 4 (.slice A cs.length cap) cs.length (cellVals cs) ∧ Blk wr (w.heap.size + 1 + 1) 40 #[.bool true,.slice A cs.length cap,.slice none 0 0,.slice none 0 0] ∧ Blk wr w.heap.size 40 #[.bool false,.slice none 0 0,.slice none 0 0,.slice none 0 0] ∧ RestAt wr (w.heap.size + 1) r ∧ r.s.length < 1000000 ∧ (∀ c ∈ cs,c.fits) ∧ Hid (decLoop gk ⟨true,cs,[],[]⟩ r = decLoop cnt ⟨true,[],[],[]⟩ r2) ∧ Ext No w wr)
 case atStart=>exact ⟨0,none,0,[],r2,by omega,rfl,rfl,World.ownsRow_nil _ _ _ _,bn2,br2,hr3,hlen,by simp,Lib.hid rfl,ea3⟩
 case round =>
  clear bn2 br2 hr3 ea3 hlen
  obtain ⟨k,A,cap,cs,r,hk0,rfl,hck,hown,bn,br,hr,hlen,hfit,hd,hE⟩:=hrel
  have HK0:=Lib.hid hk0;have HO:=Lib.hid hown;have HE:=Lib.hid hE;have HFI:=Lib.hid hfit
  have hk:k ≤ cnt:=by omega
  have hcb:cs.length < 256:=by omega
  have HCK:=Lib.hid hck
  clear hk0 hck hown hE hfit
  obtain ⟨p0,p1,p2,p3,g0,g1,g2,g3,ln⟩:=bn.p4
  obtain ⟨x0,x1,x2,x3,y0,y1,y2,y3,lr⟩:=br.p4
  have z1:=hr.cell 1
  have z0:=hr.cell 0
  simp at z0 z1
  by_cases hlt:k < cnt
  ·cases hbad:r.bad
   ·rw [hbad] at z1
    have HBD:=Lib.hid hbad
    clear hbad
    have HCL:=Lib.hid (fun p w h=>cell_take r hlen p w h)
    have hcf:=r.cell_fits
    have hcle:=r.cell_le
    generalize hc:r.cell = q at HCL hcf hcle
    obtain ⟨c,r'⟩:=q
    have HQ:=Lib.hid hc
    clear hc
    have HCF:=Lib.hid hcf
    simp only [Cell.agg] at HCL hcle
    have m0:w.heap.size + 3 ≤ wr.heap.size:=by omega
    have m2:cs.length + 1 ≤ maxLen:=by unfold maxLen;omega
    have m3:(cs.length + 1) * 48 ≤ 140737488355328:=by omega
    have en3:∀ g,w.heap.size + 3 ≤ g → ¬ On (w.heap.size + 1) g:=fun g hg=>off_on (by omega)
    go_wp2_with fail
    go_region_law
     (first
      | (go_simp;go_at_call 89;refine (HCL.out _ _ (by exact hr)).mono ?_;rintro e w5 ⟨rfl,hr5,hx5⟩;have p5:=cell_ext hx5 (g:=w.heap.size + 1 + 1) (i:=1) (u:=.slice A cs.length cap) p1 en2;have bn5:=Blk.of_ext hx5 bn en2;have g5:=bn5.frozen 1;have l5:=bn5.lt;have m5:w.heap.size + 3 ≤ w5.heap.size:=Nat.le_trans m0 hx5.size;have m6:∀ o,w.heap.size + 3 ≤ (w5.alloc o).heap.size:=(fun o=>by simp;omega);have m7:∀ o,(w5.alloc o).heap.size = w5.heap.size + 1:=(fun o=>by simp);have HO5:=Lib.hid (own_of_ext hx5 HO.out en3);have HX5:=Lib.hid hx5;have HR5:=Lib.hid hr5;clear hx5 hr5)
      | ((refine step_append_lies _ (by rfl) _ _ _ (by rfl) (w.heap.size + 3) 45 i0 (.agg #[.string ⟨#[]⟩,.string ⟨#[]⟩,.int .i64 0,.int .i64 0]) 4 48 Tryz.underlying37 hti htz0 htz1 htz2 rfl (by decide) (.slice A cs.length cap) cs.length (cellVals cs) (by rfl) (by exact HO5.out.alloc _) ⟨w5.heap.size,0,none⟩ 1 1 c.vals (by rfl) (by rfl) (by exact World.news_of_block (cs:=#[.string (str c.key),.string (str c.val),.int .i64 (c.over:Int),.int .i64 (c.len:Int)]) (t:=45) (fr:=(0,0)) (heap_alloc_new w5 _)) (by exact c.one) (by decide) m2 m3 (by exact m6 _) (w5.heap.size + 1) (by exact m7 _) ?_);intro g2 cap2 w6 hown2 hgrow2 hat2 hlt2;have HO6:=Lib.hid (own_push hown2);clear hown2;have bn6:=(bn5.alloc _).grown hgrow2 (own_ge HO.out (by omega));have g6:=bn6.frozen 1;have p6:=bn6.cell 1;simp at p6;have l6:=bn6.lt))
    all_goals (
     go_wp2_with fail
     go_roundg (gk - 1)
     case rel =>
      have hd1:decLoop (gk - 1) ⟨true,cs ++ [c],[],[]⟩ r' = decLoop gk ⟨true,cs,[],[]⟩ r:=by
       obtain ⟨j,rfl⟩:∃ j,gk = j + 1:=⟨gk - 1,by have:=HK0.out;omega⟩
       simp [decLoop,HBD.out,Nd.one,HQ.out]
      have hck:=HCK.out
      have ek:(cs ++ [c]).length = k + 1:=by simp;omega
      have h6:=(HO6.out.lt g2 rfl).1
      have hgne:g2 ≠ w.heap.size + 1 + 1:=by omega
      refine ⟨k + 1,some ⟨g2,0,none⟩,cap2,cs ++ [c],r',by have:=HK0.out;omega,by go_num,ek,?_,?_,?_,?_,by omega,?_,Lib.hid (hd1.trans hd.out),?_⟩
      ·exact ownsRow_setCell_other HO6.out (by simp [Value.ownBlock];omega) _
      ·have:=bn6.set_ 1 (.slice (some ⟨g2,0,none⟩) (cs.length + 1) cap2)
       rw [ek,← hck];exact this
      ·exact Blk.far (((Blk.of_ext HX5.out br en).alloc _).grown hgrow2 (own_ge HO.out (by omega))) (show w.heap.size ≠ w.heap.size + 1 + 1 by omega) _
      ·exact Blk.far ((Blk.alloc HR5.out _).grown hgrow2 (own_ge HO.out (by omega))) (show w.heap.size + 1 ≠ w.heap.size + 1 + 1 by omega) _
      ·intro d hd'
       rcases List.mem_append.1 hd' with h | h
       ·exact HFI.out d h
       ·simp at h;subst h;exact HCF.out
      ·exact ((((HE.out.drew).on_new HX5.out (by omega)).alloc _).grown hgrow2 (own_ge' HO.out (by omega))).setNew (by omega) _ _
     case measure=>have:=HK0.out;omega)
   ·have HBD:=Lib.hid hbad
    rw [hbad] at z1
    clear hbad
    have hdn:D = none:=by
     rw [HD.out,← hd.out,decLoop_stop _ _ _ HBD.out]
     simp [HBD.out]
    clear HD
    go_wp2_with fail
    have HRES:=br.put4 (.bool false) (.slice none 0 0) (.slice none 0 0) (.slice none 0 0)
    refine dec_back w.heap.size _ HRES rfl rfl rfl rfl ?_
    exact Told.fail ((((HE.out.setNew (by omega) _ _).setNew (by omega) _ _).setNew (by omega) _ _).setNew (by omega) _ _) hdn
  ·have hg0:gk = 0:=by have:=HK0.out;omega
   subst hg0
   have hke:k = cnt:=by omega
   subst hke
   have hdd:=hd.out
   simp only [decLoop] at hdd
   rw [← hdd] at HD
   clear hdd
   cases hbad:r.bad
   ·rw [hbad] at z1
    simp only [hbad] at HD
    clear hbad
    by_cases hs0:r.s = []
    ·simp only [hs0] at HD z0
     clear hs0
     have hcap:=own_cap HO.out
     have hn:NodeAt wr (Lo (w.heap.size + 3)) A cap none 0 none 0 ⟨true,cs,[],[]⟩:=⟨Rd.own_lo HO.out (by omega),Rd.nil_ _,Rd.nil_ _,hcap,by simp,by simp,by simp only;omega,by simp,by simp,own_nilcap HO.out,fun _=>rfl,fun _=>rfl⟩
     have hf:(⟨true,cs,[],[]⟩:Nd).fits:=⟨HFI.out,by simp,by simp⟩
     have HC:=Lib.hid (fun w' hn=>check_any ⟨true,cs,[],[]⟩ w' (Lo (w.heap.size + 3)) A cap none 0 none 0 hn hf)
     simp only [Nd.value] at HC
     go_wp2_with fail
     refine (HC.out _ hn).mono ?_
     rintro e w5 ⟨rfl,hx5⟩
     have bn5:=bn.ext hx5 (fun h=>h)
     have br5:=br.ext hx5 (fun h=>h)
     obtain ⟨p0,p1,p2,p3,g0,g1,g2,g3,ln⟩:=bn5.p4
     obtain ⟨x0,x1,x2,x3,y0,y1,y2,y3,lr⟩:=br5.p4
     cases hok:(⟨true,cs,[],[]⟩:Nd).ok
     ·have hdn:D = none:=by rw [HD.out];simp [hok]
      simp only [Nd.chk_bad hok]
      clear HD HC
      go_wp2_with fail
      have HRES:=br5.put4 (.bool false) (.slice none 0 0) (.slice none 0 0) (.slice none 0 0)
      refine dec_back w.heap.size _ HRES rfl rfl rfl rfl ?_
      exact Told.fail (((((HE.out.trans_ hx5).setNew (by omega) _ _).setNew (by omega) _ _).setNew (by omega) _ _).setNew (by omega) _ _) hdn
     ·have hdn:D = some ⟨true,cs,[],[]⟩:=by rw [HD.out];simp [hok]
      simp only [Nd.chk_ok hok]
      clear HD HC
      go_wp2_with fail
      have HRES:=br5.put4 (.bool true) (.slice A cs.length cap) (.slice none 0 0) (.slice none 0 0)
      refine dec_back w.heap.size _ HRES rfl rfl rfl rfl ?_
      refine ⟨((((HE.out.trans_ hx5).setNew (by omega) _ _).setNew (by omega) _ _).setNew (by omega) _ _).setNew (by omega) _ _,?_⟩
      rw [hdn]
      have hin:Lo (w.heap.size + 3) w.heap.size:=by unfold Lo;omega
      have hz:Ext (Lo (w.heap.size + 3)) wr ((((w5.setCell ⟨w.heap.size,0,none⟩ (.bool true)).setCell ⟨w.heap.size,1,none⟩ (.slice A cs.length cap)).setCell ⟨w.heap.size,2,none⟩ (.slice none 0 0)).setCell ⟨w.heap.size,3,none⟩ (.slice none 0 0)):=(((hx5.of_no.setF hin _ _).setF hin _ _).setF hin _ _).setF hin _ _
      exact ⟨A,cap,none,0,none,0,rfl,(hn.ext hz).mono (fun b _ hb=>by unfold Old at hb;unfold Lo;omega)⟩
    ·have hdn:D = none:=by
      rw [HD.out]
      simp [hs0]
     clear HD
     have hne:=str_ne_nil hs0
     go_wp2_with fail
     have HRES:=br.put4 (.bool false) (.slice none 0 0) (.slice none 0 0) (.slice none 0 0)
     refine dec_back w.heap.size _ HRES rfl rfl rfl rfl ?_
     exact Told.fail ((((HE.out.setNew (by omega) _ _).setNew (by omega) _ _).setNew (by omega) _ _).setNew (by omega) _ _) hdn
   ·have hdn:D = none:=by
     rw [HD.out]
     simp [hbad]
    rw [hbad] at z1
    clear HD hbad
    go_wp2_with fail
    have HRES:=br.put4 (.bool false) (.slice none 0 0) (.slice none 0 0) (.slice none 0 0)
    refine dec_back w.heap.size _ HRES rfl rfl rfl rfl ?_
    exact Told.fail ((((HE.out.setNew (by omega) _ _).setNew (by omega) _ _).setNew (by omega) _ _).setNew (by omega) _ _) hdn
theorem log_none (l d m:Nat) (w:World) (h:Blk w l 179 (logCells d m)) :
  Calls Tryz.prog 109 #[.pointer (some ⟨l,0,none⟩)] w fun e w'=>e = .returned (.bool false) ∧ w = w':=by
 have c0:=h.cell 0
 simp [logCells] at c0
 go_enter Tryz.func109,Tryz.ntmps109
 go_wp2
 go_ret
 exact ⟨rfl,rfl⟩
theorem log_records (l d m:Nat) (w:World) (h:Blk w l 179 (logCells d m)) :
  Calls Tryz.prog 81 #[.pointer (some ⟨l,0,none⟩)] w fun e w'=>e = .returned (.slice none 0 0) ∧ Ext No w w':=by
 have HN:=Lib.hid (log_none l d m w h)
 have HC:=Lib.hid (fun w=>Tryz.slices_Clone_nil_f124 0 0 w)
 have c5:=h.cell 5
 simp [logCells] at c5
 clear h
 go_enter Tryz.func81,Tryz.ntmps81
 go_wp2_with fail
 refine (HN.out).mono ?_
 rintro e w1 ⟨rfl,rfl⟩
 go_wp2_with fail
 refine (HC.out _).mono ?_
 rintro e w2 ⟨rfl,rfl⟩
 go_wp2_with fail
 go_ret
 exact ⟨rfl,Ext.refl _ _⟩
def dbCells (d l log high:Nat) (o:Option Addr):Array Value :=
 #[.pointer (some ⟨d,0,none⟩),.pointer (some ⟨l,0,none⟩),.int .i64 (log:Int),.int .i64 0,.int .i64 0,.int .i64 0,.int .i64 0,.int .i64 (high:Int),.int .i64 0,.int .i64 0,.pointer o,.bool false]
theorem db_settle (x d l m log high:Nat) (o:Option Addr) (w:World) (h:Blk w l 179 (logCells d m)) (hx:Blk w x 131 (dbCells d l log high o)) :
  Calls Tryz.prog 70 #[.pointer (some ⟨x,0,none⟩)] w fun e w'=>e = .returned (.int .i64 0) ∧ Ext No w w':=by
 have HR:=Lib.hid (log_records l d m w h)
 have c1:=hx.cell 1
 simp [dbCells] at c1
 clear h hx
 go_enter Tryz.func70,Tryz.ntmps70
 go_wp2_with fail
 refine (HR.out).mono ?_
 rintro e w1 ⟨rfl,hx1⟩
 go_wp2_with fail
 go_ret
 exact ⟨rfl,hx1⟩
theorem trim_zs (n:Nat):Lib.trimB (zs n) 0 = []:=by simp [Lib.trimB,Lib.trimLeftB,Lib.trimRightB,zs]
theorem blank_zs (w:World) :
  Calls Tryz.prog 84 #[.string (str (zs 512))] w fun e w'=>e = .returned (.bool true) ∧ Ext No w w':=by
 have hsz:(str (zs 512)).size = 512:=by rw [str_size,zs_len]
 have HT:=Lib.hid (fun w=>Tryz.strings_Trim_one (str (zs 512)) 0 (by decide) w (by omega))
 have ht:(⟨(Lib.trimB (str (zs 512)).data.toList 0).toArray⟩:ByteArray) = str []:=by rw [str_toList,trim_zs];rfl
 rw [ht] at HT
 obtain ⟨z,hz⟩:∃ z,z = str (zs 512):=⟨_,rfl⟩
 rw [← hz] at HT hsz ⊢
 clear hz ht
 go_enter Tryz.func84,Tryz.ntmps84
 go_wp2_with fail
 refine (HT.out _).mono ?_
 rintro e w1 ⟨rfl,hw⟩
 have hE:Ext No w w1:=by
  rcases hw with rfl | rfl
  ·exact Ext.refl _ _
  ·exact (Ext.refl _ _).drew
 simp only [str]
 go_wp2_with fail
 go_ret
 exact ⟨rfl,hE⟩
theorem db_count (x d kb n log:Nat) (w:World) (x0:w.cell? ⟨x,0,none⟩ = some (.pointer (some ⟨d,0,none⟩))) (x2:w.cell? ⟨x,2,none⟩ = some (.int .i64 (log:Int)))
  (h:Blk w d 140 (diskCells kb n)) (h1:1 ≤ n) (hn:n ≤ 65536) (hl:log ≤ n) :
  Calls Tryz.prog 56 #[.pointer (some ⟨x,0,none⟩)] w fun e w'=>e = .returned (.int .i64 (((n - log) / 8:Nat):Int)) ∧ ∃ k,w' = w.drewN k:=by
 have HD:=Lib.hid h
 have g1:(0:Int) ≤ (n:Int) - log:=by omega
 go_enter Tryz.func56,Tryz.ntmps56
 go_wp2_with (go_at_call 76;refine (xnone_no x d _ x0).mono ?_;rintro e w' ⟨rfl,rfl⟩)
 go_quiet ((go_at_call 93;exact Calls.quiet_of_same ((dsize_any d n ⟨kb,0,none⟩ _ (by exact HD.out.cell 0) h1).mono fun _ _ ⟨h1,h2⟩=>⟨h1,h2.symm⟩)))
 go_wp2
 go_ret
 exact ⟨ret_int (by omega),_,rfl⟩
end Go.Proofs.YtccnemmlkcmceaaGreatDoor
