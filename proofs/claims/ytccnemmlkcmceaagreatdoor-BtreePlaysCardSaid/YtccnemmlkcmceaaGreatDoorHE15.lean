/- Proofs about the given program, joined out of the texts P1, P2, P3, B1, B2. -/
import Derived.Test.YtccnemmlkcmceaaGreatDoorHE7
import Derived.Test.YtccnemmlkcmceaaGreatDoorHE12
set_option linter.unusedVariables false
set_option linter.unusedSimpArgs false
set_option maxRecDepth 100000
set_option maxHeartbeats 6400000
namespace Go.Proofs.YtccnemmlkcmceaaGreatDoor
open Go.RowKit
def Made (w:World) (n:Nd) (e:Ending) (w':World):Prop :=
 Ext No w w' ∧ ∃ A1 c1 A2 c2 A3 c3,e = .returned (n.value A1 c1 A2 c2 A3 c3) ∧ NodeAt w' (Old w) A1 c1 A2 c2 A3 c3 n
def Nd.put (n:Nd) (c:Cell):Nd :=
 { n with cells:=n.cells.take (n.find c.key).1 ++ c :: n.cells.drop (if (n.find c.key).2 then (n.find c.key).1 + 1 else (n.find c.key).1) }
theorem one_cells (cs:List Cell):∀ u ∈ cellVals cs,u.oneCell' = true:=by
 intro u hu
 simp only [cellVals,List.mem_flatMap] at hu
 obtain ⟨c,_,hc⟩:=hu
 exact c.one u hc
theorem one_keys (ks:List Bs):∀ u ∈ keyVals ks,u.oneCell' = true:=by
 intro u hu
 simp only [keyVals,List.mem_map] at hu
 obtain ⟨c,_,rfl⟩:=hu
 simp [Value.oneCell']
theorem one_kids (ks:List Nat):∀ u ∈ kidVals ks,u.oneCell' = true:=by
 intro u hu
 simp only [kidVals,List.mem_map] at hu
 obtain ⟨c,_,rfl⟩:=hu
 simp [Value.oneCell']
theorem Rd.take {w:World} {F:Nat → Prop} {sz:Nat} {A:Option Addr} {n:Nat} {xs:List Value} (h:Rd w F sz A n xs) (k:Nat) (hk:k ≤ n) (hs:0 < sz):Rd w F sz A k (xs.take (k * sz)):=by
 have hm:k * sz ≤ n * sz:=Nat.mul_le_mul_right sz hk
 refine ⟨by rw [List.length_take,h.1];omega,fun h0=>?_⟩
 obtain ⟨b,o,hA,hb,hc⟩:=h.2 (by omega)
 refine ⟨b,o,hA,hb,fun j u hu=>hc j u ?_⟩
 rw [List.getElem?_take] at hu
 split at hu
 ·exact hu
 ·cases hu
theorem Rd.drop {w:World} {F:Nat → Prop} {sz b o n:Nat} {xs:List Value} (h:Rd w F sz (some ⟨b,o,none⟩) n xs) (k:Nat) (hk:k ≤ n):Rd w F sz (some ⟨b,o + k * sz,none⟩) (n - k) (xs.drop (k * sz)):=by
 refine ⟨by rw [List.length_drop,h.1,Nat.sub_mul],fun h0=>?_⟩
 obtain ⟨b',o',hA,hb,hc⟩:=h.2 (by omega)
 injection hA with hA;injection hA with h1 h2
 subst h1;subst h2
 refine ⟨b,o + k * sz,rfl,hb,fun j u hu=>?_⟩
 rw [List.getElem?_drop] at hu
 have:=hc _ u hu
 rwa [← Nat.add_assoc] at this
theorem Rd.rest {w:World} {F:Nat → Prop} {sz n:Nat} {ad:Addr} {xs:List Value} (h:Rd w F sz (some ad) n xs) (k c:Nat) (hk:k ≤ n) (hc:n ≤ c):Rd w F sz (if c = k then some ad else some (ad.add (k * sz))) (n - k) (xs.drop (k * sz)):=by
 rcases Nat.eq_zero_or_pos (n - k) with h0 | h0
 ·refine ⟨by rw [List.length_drop,h.1,← Nat.sub_mul],fun h'=>absurd h' (by omega)⟩
 ·rw [if_neg (by omega)]
  obtain ⟨b,o,hA,_⟩:=h.2 (by omega)
  injection hA with hA
  subst hA
  rw [Addr.add_none]
  exact h.drop k hk
theorem put_any (n:Nd) (c:Cell) (w:World) (F:Nat → Prop) (A1:Option Addr) (c1:Nat) (A2:Option Addr) (c2:Nat) (A3:Option Addr) (c3:Nat) (hn:NodeAt w F A1 c1 A2 c2 A3 c3 n)
  (hlf:n.leaf = true) (hks:n.keys = []) (hkd:n.kids = []) (hso:Sorted (n.cells.map Cell.key)) (hlen:n.cells.length ≤ 1000) :
  Calls Tryz.prog 101 #[n.value A1 c1 A2 c2 A3 c3,c.agg] w (Made w (n.put c)):=by
 have HF:=Lib.hid (fun w hn=>find_any n c.key w F A1 c1 A2 c2 A3 c3 hn (fun _=>hso) (fun h=>by rw [hlf] at h;cases h))
 have hi:(n.find c.key).1 ≤ n.cells.length:=by
  simp only [Nd.find,hlf,if_true]
  have:=rank_le (n.cells.map Cell.key) c.key
  simpa using this
 have hi2:(n.find c.key).2 = true → (n.find c.key).1 < n.cells.length:=by
  simp only [Nd.find,hlf,if_true,decide_eq_true_eq]
  intro h
  rcases Nat.lt_or_ge (rank (n.cells.map Cell.key) c.key) n.cells.length with h' | h'
  ·exact h'
  ·rw [List.getElem?_eq_none (by simpa using h')] at h;simp at h
 obtain ⟨lf,cs,ks,kd⟩:=n
 simp only at hlf hks hkd hi hi2 hlen
 subst hlf;subst hks;subst hkd
 unfold Nd.put
 simp only
 generalize hi0:((⟨true,cs,[],[]⟩:Nd).find c.key).1 = i at HF hi hi2 ⊢
 generalize hi1:((⟨true,cs,[],[]⟩:Nd).find c.key).2 = there at HF hi2 ⊢
 clear hi0 hi1 hso
 simp only [Nd.value,List.length_nil] at HF ⊢
 simp only [Cell.agg] at ⊢
 have HN:=Lib.hid hn
 have hl1:=hn.l1
 have he1:=hn.e1
 have hb1:=hn.b1
 simp only at hl1 hb1
 clear hn
 obtain ⟨i0,hti,htz0,htz1,htz2⟩:=info_parts Tryz.info45
 obtain ⟨bh,hbh⟩:∃ bh,bh = if there then i + 1 else i:=⟨_,rfl⟩
 have hbl:bh ≤ cs.length:=by cases there <;> simp at hbh hi2 <;> omega
 have hib:i ≤ bh:=by cases there <;> simp at hbh <;> omega
 obtain ⟨L,hL⟩:∃ L,L = cs.take i ++ c :: cs.drop bh:=⟨_,rfl⟩
 rw [← hbh,← hL]
 have HL:=Lib.hid hL;have HBH:=Lib.hid hbh
 clear hL hbh hi2
 go_enter Tryz.func101,Tryz.ntmps101
 go_wp2_with fail
 refine (HF.out _ (HN.out.ext ((((Ext.refl F w).alloc _).alloc _).alloc _))).mono ?_
 rintro e w1 ⟨rfl,hx1⟩
 have bn:=(((Blk.new w 40 #[.bool true,.slice A1 cs.length c1,.slice A2 0 c2,.slice A3 0 c3]).alloc (.cells #[.string (str c.key),.string (str c.val),.int .i64 (c.over:Int),.int .i64 (c.len:Int)] 45)).alloc (.cells #[.bool false,.slice none 0 0,.slice none 0 0,.slice none 0 0] 40)).ext hx1 (fun h=>h)
 have bc:=((Blk.new_at (b:=w.heap.size + 1) (w.alloc (.cells #[.bool true,.slice A1 cs.length c1,.slice A2 0 c2,.slice A3 0 c3] 40)) 45 #[.string (str c.key),.string (str c.val),.int .i64 (c.over:Int),.int .i64 (c.len:Int)] (by simp)).alloc (.cells #[.bool false,.slice none 0 0,.slice none 0 0,.slice none 0 0] 40)).ext hx1 (fun h=>h)
 have br:=(Blk.new_at (b:=w.heap.size + 1 + 1) ((w.alloc (.cells #[.bool true,.slice A1 cs.length c1,.slice A2 0 c2,.slice A3 0 c3] 40)).alloc (.cells #[.string (str c.key),.string (str c.val),.int .i64 (c.over:Int),.int .i64 (c.len:Int)] 45)) 40 #[.bool false,.slice none 0 0,.slice none 0 0,.slice none 0 0] (by simp)).ext hx1 (fun h=>h)
 have hE1:Ext No w w1:=by (repeat' (first | exact Ext.refl _ _ | assumption | apply Ext.alloc | apply Ext.drewN | apply Ext.drew | refine Ext.setNew ?_ (by first | omega | (simp;omega) | simp) _ _ | refine Ext.setF ?_ (by first | exact Or.inl rfl | exact Or.inr rfl | rfl) _ _ | refine Ext.trans_ ?_ (by assumption) | refine Ext.trans_ ?_ (Ext.of_no (by assumption))))
 go_upto_if 20 with fail
 go_cut [7] (fun v wx=>v = .int .i64 (bh:Int) ∧ w1 = wx)
 case first =>
  have hb:=HBH.out
  cases there
  ·simp only [Bool.false_eq_true,if_false] at hb
   subst hb
   go_wp2_with fail
   go_meet
   exact ⟨rfl,rfl⟩
  ·simp only [if_true] at hb
   subst hb
   go_wp2_with fail
   go_meet
   exact ⟨by go_num,rfl⟩
 case rest =>
  obtain ⟨rfl,rfl⟩:=hcut
  have lw1:=br.lt
  obtain ⟨p0,p1,p2,p3,g0,g1,g2,g3,ln⟩:=bn.p4
  obtain ⟨q0,q1,q2,q3,f0,f1,f2,f3,lc⟩:=bc.p4
  have hb4:(bh:Int) ≤ cs.length:=by omega
  have hb5:(0:Int) ≤ (bh:Int):=by omega
  cases A1 with
  | none =>
   have hc0:c1 = 0:=he1 rfl
   have hcs:cs = []:=by
    rcases Nat.eq_zero_or_pos cs.length with h | h
    ·exact List.eq_nil_of_length_eq_zero h
    ·obtain ⟨b,o,hA,_⟩:=HN.out.cells.2 h;cases hA
   subst hcs;subst hc0
   have hi0:i = 0:=by simp at hi;omega
   have hb0:bh = 0:=by simp at hbl;omega
   subst hi0;subst hb0
   have HL:=Lib.hid (show L = [c] by simpa using HL.out)
   simp only [List.length_nil] at p1 bn
   go_wp2_with fail
   obtain ⟨W,hW⟩:∃ W,W = ((w1.alloc (.cells #[.string (str c.key),.string (str c.val),.int .i64 (c.over:Int),.int .i64 (c.len:Int)] 45)).alloc (.cells #[.slice none 0 0,.slice (some ⟨w1.heap.size,0,none⟩) 1 1,.slice none 0 0] 37)).drew:=⟨_,rfl⟩
   have hEW:Ext No w W:=by rw [hW];exact ((hE1.alloc _).alloc _).drew
   have hcb:Blk W w1.heap.size 45 #[.string (str c.key),.string (str c.val),.int .i64 (c.over:Int),.int .i64 (c.len:Int)]:=by rw [hW];exact (Blk.new w1 45 #[.string (str c.key),.string (str c.val),.int .i64 (c.over:Int),.int .i64 (c.len:Int)]).alloc _
   have hpb:Blk W (w1.heap.size + 1) 37 #[.slice none 0 0,.slice (some ⟨w1.heap.size,0,none⟩) 1 1,.slice none 0 0]:=by rw [hW];exact Blk.new_at (b:=w1.heap.size + 1) (w1.alloc (.cells #[.string (str c.key),.string (str c.val),.int .i64 (c.over:Int),.int .i64 (c.len:Int)] 45)) 37 _ (by simp)
   have hk1:Part.Ok W 4 ⟨none,0,0,[]⟩:=⟨Rd.nil_ _,fun _=>rfl,(fun u hu=>by cases hu),Nat.le_refl _⟩
   have hk2:Part.Ok W 4 ⟨some ⟨w1.heap.size,0,none⟩,1,1,c.vals⟩:=⟨⟨rfl,fun _=>⟨_,_,rfl,(fun h=>h),fun j u hu=>by rw [Nat.zero_add,hcb.cell j];simpa [Cell.vals] using hu⟩⟩,(fun h=>by cases h),c.one,Nat.le_refl _⟩
   have HCC:=Lib.hid (concat_cells [⟨none,0,0,[]⟩,⟨some ⟨w1.heap.size,0,none⟩,1,1,c.vals⟩,⟨none,0,0,[]⟩] (w1.heap.size + 1) 3 3 W rfl
    (by intro p hp;simp at hp;rcases hp with rfl | rfl | rfl <;> first | exact hk1 | exact hk2) (by simp [total]) (by omega) (by omega)
    (by
      intro j p hj;match j,hj with
      | 0,hj=>simp at hj;subst hj;exact hpb.cell 0
      | 1,hj=>simp at hj;subst hj;exact hpb.cell 1
      | 2,hj=>simp at hj;subst hj;exact hpb.cell 2
      | j + 3,hj=>simp at hj))
   have htot:total [⟨none,0,0,[]⟩,⟨some ⟨w1.heap.size,0,none⟩,1,1,c.vals⟩,⟨none,0,0,[]⟩] = ([c]:List Cell).length:=by simp [total]
   have hjoi:joined [⟨none,0,0,[]⟩,⟨some ⟨w1.heap.size,0,none⟩,1,1,c.vals⟩,⟨none,0,0,[]⟩] = cellVals [c]:=by simp [joined,cellVals]
   rw [htot,hjoi] at HCC
   have hLb:([c]:List Cell).length < 65536:=by simp
   clear htot hjoi
   rw [← HL.out] at HCC hLb
   have HEW:=Lib.hid hEW
   have hWs:W.heap.size = w1.heap.size + 1 + 1:=by rw [hW];simp
   clear hk1 hk2 hcb hpb hEW
   subst hW
   go_region_law ((go_simp;go_at_call 147;refine HCC.out.mono ?_;rintro e w2 ⟨A,cc,rfl,hown,hx2⟩;have HO:=Lib.hid hown;have HX2:=Lib.hid hx2;have bn2:=Blk.of_ext hx2 ((bn.alloc _).alloc _) (fun h=>h);have fz2:=bn2.frozen 1;have ce2:=bn2.cell 1;simp at ce2;clear hown hx2))
   all_goals (
    have br2:=Blk.of_ext HX2.out ((br.alloc _).alloc _) (fun h=>h)
    have bn3:=bn2.set_ 1 (.slice A L.length cc)
    have bn3:Blk (w2.setCell ⟨w.heap.size,1,none⟩ (.slice A L.length cc)) w.heap.size 40 #[.bool true,.slice A L.length cc,.slice A2 0 c2,.slice A3 0 c3]:=bn3
    have br3:=br2.far (p:=⟨w.heap.size,1,none⟩) (show w.heap.size + 1 + 1 ≠ w.heap.size by omega) (.slice A L.length cc)
    obtain ⟨p0,p1,p2,p3,g0,g1,g2,g3,ln⟩:=bn3.p4
    obtain ⟨r0,r1,r2,r3,s0,s1,s2,s3,lr⟩:=br3.p4
    go_wp2_with fail
    all_goals (
     refine bodyPost_ret (results_cell_row (P:=Tryz.prog) rfl _ _ (w.heap.size + 1 + 1) 40 _ (0,0) _ rfl (br3.put4 (.bool true) (.slice A L.length cc) (.slice A2 0 c2) (.slice A3 0 c3)) Tryz.underlying40 rfl (by kernel_rfl)) rfl ?_
     have hx0:Ext No w w2:=((((hE1.alloc _).alloc _).drew).trans_ HX2.out)
     refine ⟨((((hx0.setNew (by omega) _ _).setNew (by omega) _ _).setNew (by omega) _ _).setNew (by omega) _ _).setNew (by omega) _ _,A,cc,A2,c2,A3,c3,rfl,?_⟩
     have hcap:=own_cap HO.out
     have hin:Lo w1.heap.size w.heap.size:=by show w.heap.size < w1.heap.size;omega
     have hin':Lo w1.heap.size (w.heap.size + 1 + 1):=by show w.heap.size + 1 + 1 < w1.heap.size;omega
     have hn2:NodeAt w2 (Lo w1.heap.size) A cc A2 c2 A3 c3 ⟨true,L,[],[]⟩:=⟨(Rd.own_lo HO.out (by omega)).mono (by omega) (fun b _ hb=>by unfold Lo at hb ⊢;simp;omega),Rd.nil_ _,Rd.nil_ _,hcap,HN.out.l2,HN.out.l3,hLb,by simp,by simp,own_nilcap HO.out,HN.out.e2,HN.out.e3⟩
     have hz:Ext (Lo w1.heap.size) w2 _:=(((((Ext.refl _ w2).setF hin 1 (.slice A L.length cc)).setF hin' 0 (.bool true)).setF hin' 1 (.slice A L.length cc)).setF hin' 2 (.slice A2 0 c2)).setF hin' 3 (.slice A3 0 c3)
     exact (hn2.ext hz).mono (fun b _ hb=>by unfold Old at hb;unfold Lo;omega)))
  | some ad =>
   have hic:i ≤ c1:=by omega
   have hin2:(i:Int) ≤ c1:=by omega
   have hin3:(i:Int) ≤ cs.length:=by omega
   have hin4:(0:Int) ≤ (i:Int):=by omega
   have hin5:cs.length ≤ c1:=hl1
   go_wp2_with fail
   obtain ⟨W,hW⟩:∃ W,W = ((w1.alloc (.cells #[.string (str c.key),.string (str c.val),.int .i64 (c.over:Int),.int .i64 (c.len:Int)] 45)).alloc (.cells #[.slice (some ad) i i,.slice (some ⟨w1.heap.size,0,none⟩) 1 1,.slice (if c1 = bh then some ad else some (ad.add (bh * 4))) (cs.length - bh) (c1 - bh)] 37)).drew:=⟨_,rfl⟩
   have hEW:Ext No w W:=by rw [hW];exact ((hE1.alloc _).alloc _).drew
   have hcl:Rd W No 4 (some ad) cs.length (cellVals cs):=(HN.out.cells.mono (by omega) (fun _ _ h=>h.elim)).ext hEW
   have hcb:Blk W w1.heap.size 45 #[.string (str c.key),.string (str c.val),.int .i64 (c.over:Int),.int .i64 (c.len:Int)]:=by rw [hW];exact (Blk.new w1 45 #[.string (str c.key),.string (str c.val),.int .i64 (c.over:Int),.int .i64 (c.len:Int)]).alloc _
   have hpb:Blk W (w1.heap.size + 1) 37 #[.slice (some ad) i i,.slice (some ⟨w1.heap.size,0,none⟩) 1 1,.slice (if c1 = bh then some ad else some (ad.add (bh * 4))) (cs.length - bh) (c1 - bh)]:=by rw [hW];exact Blk.new_at (b:=w1.heap.size + 1) (w1.alloc (.cells #[.string (str c.key),.string (str c.val),.int .i64 (c.over:Int),.int .i64 (c.len:Int)] 45)) 37 _ (by simp)
   have hk1:Part.Ok W 4 ⟨some ad,i,i,cellVals (cs.take i)⟩:=⟨by rw [← cellVals_take];exact hcl.take i hi (by omega),(fun h=>by cases h),one_cells _,Nat.le_refl _⟩
   have hk2:Part.Ok W 4 ⟨some ⟨w1.heap.size,0,none⟩,1,1,c.vals⟩:=⟨⟨rfl,fun _=>⟨_,_,rfl,(fun h=>h),fun j u hu=>by rw [Nat.zero_add,hcb.cell j];simpa [Cell.vals] using hu⟩⟩,(fun h=>by cases h),c.one,Nat.le_refl _⟩
   have hk3:Part.Ok W 4 ⟨if c1 = bh then some ad else some (ad.add (bh * 4)),cs.length - bh,c1 - bh,cellVals (cs.drop bh)⟩:=⟨by rw [← cellVals_drop];exact hcl.rest bh c1 hbl hl1,(fun h=>by split at h <;> cases h),one_cells _,by simp only;omega⟩
   have HCC:=Lib.hid (concat_cells [⟨some ad,i,i,cellVals (cs.take i)⟩,⟨some ⟨w1.heap.size,0,none⟩,1,1,c.vals⟩,⟨if c1 = bh then some ad else some (ad.add (bh * 4)),cs.length - bh,c1 - bh,cellVals (cs.drop bh)⟩] (w1.heap.size + 1) 3 3 W rfl
    (by intro p hp;simp at hp;rcases hp with rfl | rfl | rfl;exact hk1;exact hk2;exact hk3) (by simp [total];omega) (by omega) (by omega)
    (by
      intro j p hj;match j,hj with
      | 0,hj=>simp at hj;subst hj;exact hpb.cell 0
      | 1,hj=>simp at hj;subst hj;exact hpb.cell 1
      | 2,hj=>simp at hj;subst hj;exact hpb.cell 2
      | j + 3,hj=>simp at hj))
   have htot:total [⟨some ad,i,i,cellVals (cs.take i)⟩,⟨some ⟨w1.heap.size,0,none⟩,1,1,c.vals⟩,⟨if c1 = bh then some ad else some (ad.add (bh * 4)),cs.length - bh,c1 - bh,cellVals (cs.drop bh)⟩] = (cs.take i ++ c :: cs.drop bh).length:=by simp [total];omega
   have hjoi:joined [⟨some ad,i,i,cellVals (cs.take i)⟩,⟨some ⟨w1.heap.size,0,none⟩,1,1,c.vals⟩,⟨if c1 = bh then some ad else some (ad.add (bh * 4)),cs.length - bh,c1 - bh,cellVals (cs.drop bh)⟩] = cellVals (cs.take i ++ c :: cs.drop bh):=by simp [joined,cellVals_append,cellVals_cons]
   rw [htot,hjoi] at HCC
   have hLb:(cs.take i ++ c :: cs.drop bh).length < 65536:=by simp;omega
   clear htot hjoi
   rw [← HL.out] at HCC hLb
   have HEW:=Lib.hid hEW
   have hWs:W.heap.size = w1.heap.size + 1 + 1:=by rw [hW];simp
   clear hk1 hk2 hk3 hcl hcb hpb hEW
   subst hW
   go_region_law ((go_simp;go_at_call 147;refine HCC.out.mono ?_;rintro e w2 ⟨A,cc,rfl,hown,hx2⟩;have HO:=Lib.hid hown;have HX2:=Lib.hid hx2;have bn2:=Blk.of_ext hx2 ((bn.alloc _).alloc _) (fun h=>h);have fz2:=bn2.frozen 1;have ce2:=bn2.cell 1;simp at ce2;clear hown hx2))
   all_goals (
    have br2:=Blk.of_ext HX2.out ((br.alloc _).alloc _) (fun h=>h)
    have bn3:=bn2.set_ 1 (.slice A L.length cc)
    have bn3:Blk (w2.setCell ⟨w.heap.size,1,none⟩ (.slice A L.length cc)) w.heap.size 40 #[.bool true,.slice A L.length cc,.slice A2 0 c2,.slice A3 0 c3]:=bn3
    have br3:=br2.far (p:=⟨w.heap.size,1,none⟩) (show w.heap.size + 1 + 1 ≠ w.heap.size by omega) (.slice A L.length cc)
    obtain ⟨p0,p1,p2,p3,g0,g1,g2,g3,ln⟩:=bn3.p4
    obtain ⟨r0,r1,r2,r3,s0,s1,s2,s3,lr⟩:=br3.p4
    go_wp2_with fail
    all_goals (
     refine bodyPost_ret (results_cell_row (P:=Tryz.prog) rfl _ _ (w.heap.size + 1 + 1) 40 _ (0,0) _ rfl (br3.put4 (.bool true) (.slice A L.length cc) (.slice A2 0 c2) (.slice A3 0 c3)) Tryz.underlying40 rfl (by kernel_rfl)) rfl ?_
     have hx0:Ext No w w2:=((((hE1.alloc _).alloc _).drew).trans_ HX2.out)
     refine ⟨((((hx0.setNew (by omega) _ _).setNew (by omega) _ _).setNew (by omega) _ _).setNew (by omega) _ _).setNew (by omega) _ _,A,cc,A2,c2,A3,c3,rfl,?_⟩
     have hcap:=own_cap HO.out
     have hin:Lo w1.heap.size w.heap.size:=by show w.heap.size < w1.heap.size;omega
     have hin':Lo w1.heap.size (w.heap.size + 1 + 1):=by show w.heap.size + 1 + 1 < w1.heap.size;omega
     have hn2:NodeAt w2 (Lo w1.heap.size) A cc A2 c2 A3 c3 ⟨true,L,[],[]⟩:=⟨(Rd.own_lo HO.out (by omega)).mono (by omega) (fun b _ hb=>by unfold Lo at hb ⊢;simp;omega),Rd.nil_ _,Rd.nil_ _,hcap,HN.out.l2,HN.out.l3,hLb,by simp,by simp,own_nilcap HO.out,HN.out.e2,HN.out.e3⟩
     have hz:Ext (Lo w1.heap.size) w2 _:=(((((Ext.refl _ w2).setF hin 1 (.slice A L.length cc)).setF hin' 0 (.bool true)).setF hin' 1 (.slice A L.length cc)).setF hin' 2 (.slice A2 0 c2)).setF hin' 3 (.slice A3 0 c3)
     exact (hn2.ext hz).mono (fun b _ hb=>by unfold Old at hb;unfold Lo;omega)))
def Nd.cut (n:Nd) (i:Nat):Nd:={ n with cells:=n.cells.take i ++ n.cells.drop (i + 1) }
theorem cut_any (n:Nd) (i:Nat) (w:World) (F:Nat → Prop) (A1:Option Addr) (c1:Nat) (A2:Option Addr) (c2:Nat) (A3:Option Addr) (c3:Nat) (hn:NodeAt w F A1 c1 A2 c2 A3 c3 n)
  (hlf:n.leaf = true) (hks:n.keys = []) (hkd:n.kids = []) (hi:i < n.cells.length) (hlen:n.cells.length ≤ 1000) :
  Calls Tryz.prog 103 #[n.value A1 c1 A2 c2 A3 c3,.int .i64 (i:Int)] w (Made w (n.cut i)):=by
 obtain ⟨lf,cs,ks,kd⟩:=n
 simp only at hlf hks hkd hi hlen
 subst hlf;subst hks;subst hkd
 unfold Nd.cut
 simp only [Nd.value,List.length_nil]
 have HN:=Lib.hid hn
 have hl1:=hn.l1
 have hb1:=hn.b1
 simp only at hl1 hb1
 obtain ⟨b,o,hA,_⟩:=hn.cells.2 (show 0 < cs.length by omega)
 obtain ⟨ad,had⟩:∃ ad,A1 = some ad:=⟨_,hA⟩
 subst had
 clear hn hA
 obtain ⟨i0,hti,htz0,htz1,htz2⟩:=info_parts Tryz.info45
 obtain ⟨L,hL⟩:∃ L,L = cs.take i ++ cs.drop (i + 1):=⟨_,rfl⟩
 rw [← hL]
 have HL:=Lib.hid hL
 clear hL
 have bn:=(Blk.new w 40 #[.bool true,.slice (some ad) cs.length c1,.slice A2 0 c2,.slice A3 0 c3]).alloc (.cells #[.bool false,.slice none 0 0,.slice none 0 0,.slice none 0 0] 40)
 have br:=Blk.new_at (b:=w.heap.size + 1) (w.alloc (.cells #[.bool true,.slice (some ad) cs.length c1,.slice A2 0 c2,.slice A3 0 c3] 40)) 40 #[.bool false,.slice none 0 0,.slice none 0 0,.slice none 0 0] (by simp)
 have hE1:Ext No w ((w.alloc (.cells #[.bool true,.slice (some ad) cs.length c1,.slice A2 0 c2,.slice A3 0 c3] 40)).alloc (.cells #[.bool false,.slice none 0 0,.slice none 0 0,.slice none 0 0] 40)):=((Ext.refl No w).alloc _).alloc _
 generalize hw1:(w.alloc (.cells #[.bool true,.slice (some ad) cs.length c1,.slice A2 0 c2,.slice A3 0 c3] 40)).alloc (.cells #[.bool false,.slice none 0 0,.slice none 0 0,.slice none 0 0] 40) = w1 at bn br hE1
 have hw1s:w1.heap.size = w.heap.size + 1 + 1:=by rw [← hw1];simp
 have hin1:(i:Int) < cs.length:=by omega
 have hin4:(0:Int) ≤ (i:Int):=by omega
 obtain ⟨p0,p1,p2,p3,g0,g1,g2,g3,ln⟩:=bn.p4
 have hic:i ≤ c1:=by omega
 have hin2:(i:Int) ≤ c1:=by omega
 have hin3:(i:Int) ≤ cs.length:=by omega
 have hin5:cs.length ≤ c1:=hl1
 have hin6:i + 1 ≤ cs.length:=by omega
 have hin7:(i:Int) + 1 ≤ cs.length:=by omega
 have hin8:(0:Int) ≤ (i:Int) + 1:=by omega
 have hin9:IntKind.i64.wrap ((i:Int) + 1) = (i:Int) + 1:=IntWalk.i64_in _ (by omega)
 have hin10:((i:Int) + 1).toNat = i + 1:=by omega
 obtain ⟨W,hW⟩:∃ W,W = (w1.alloc (.cells #[.slice (some ad) i i,.slice (if c1 = i + 1 then some ad else some (ad.add ((i + 1) * 4))) (cs.length - (i + 1)) (c1 - (i + 1))] 37)).drew:=⟨_,rfl⟩
 have hEW:Ext No w W:=by rw [hW];exact (hE1.alloc _).drew
 have hcl:Rd W No 4 (some ad) cs.length (cellVals cs):=(HN.out.cells.mono (by omega) (fun _ _ h=>h.elim)).ext hEW
 have hpb:Blk W (w.heap.size + 1 + 1) 37 #[.slice (some ad) i i,.slice (if c1 = i + 1 then some ad else some (ad.add ((i + 1) * 4))) (cs.length - (i + 1)) (c1 - (i + 1))]:=by rw [hW];exact Blk.new_at (b:=w.heap.size + 1 + 1) w1 37 _ hw1s
 have hk1:Part.Ok W 4 ⟨some ad,i,i,cellVals (cs.take i)⟩:=⟨by rw [← cellVals_take];exact hcl.take i (by omega) (by omega),(fun h=>by cases h),one_cells _,Nat.le_refl _⟩
 have hk3:Part.Ok W 4 ⟨if c1 = i + 1 then some ad else some (ad.add ((i + 1) * 4)),cs.length - (i + 1),c1 - (i + 1),cellVals (cs.drop (i + 1))⟩:=⟨by rw [← cellVals_drop];exact hcl.rest (i + 1) c1 hin6 hl1,(fun h=>by split at h <;> cases h),one_cells _,by simp only;omega⟩
 have HCC:=Lib.hid (concat_cells [⟨some ad,i,i,cellVals (cs.take i)⟩,⟨if c1 = i + 1 then some ad else some (ad.add ((i + 1) * 4)),cs.length - (i + 1),c1 - (i + 1),cellVals (cs.drop (i + 1))⟩] (w.heap.size + 1 + 1) 2 2 W rfl
  (by intro p hp;simp at hp;rcases hp with rfl | rfl;exact hk1;exact hk3) (by simp [total];omega) (by omega) (by omega)
  (by
    intro j p hj;match j,hj with
    | 0,hj=>simp at hj;subst hj;exact hpb.cell 0
    | 1,hj=>simp at hj;subst hj;exact hpb.cell 1
    | j + 2,hj=>simp at hj))
 have htot:total [⟨some ad,i,i,cellVals (cs.take i)⟩,⟨if c1 = i + 1 then some ad else some (ad.add ((i + 1) * 4)),cs.length - (i + 1),c1 - (i + 1),cellVals (cs.drop (i + 1))⟩] = (cs.take i ++ cs.drop (i + 1)).length:=by simp [total];omega
 have hjoi:joined [⟨some ad,i,i,cellVals (cs.take i)⟩,⟨if c1 = i + 1 then some ad else some (ad.add ((i + 1) * 4)),cs.length - (i + 1),c1 - (i + 1),cellVals (cs.drop (i + 1))⟩] = cellVals (cs.take i ++ cs.drop (i + 1)):=by simp [joined,cellVals_append]
 rw [htot,hjoi] at HCC
 have hLb:(cs.take i ++ cs.drop (i + 1)).length < 65536:=by simp;omega
 rw [← HL.out] at HCC hLb
 clear htot hjoi hk1 hk3 hcl hpb hEW
 subst hW
 go_enter Tryz.func103,Tryz.ntmps103
 go_wp2_with fail
 go_region_law ((go_simp;go_at_call 147;refine HCC.out.mono ?_;rintro e w2 ⟨A,cc,rfl,hown,hx2⟩;have HO:=Lib.hid hown;have HX2:=Lib.hid hx2;have bn2:=Blk.of_ext hx2 (bn.alloc _) (fun h=>h);have fz2:=bn2.frozen 1;have ce2:=bn2.cell 1;simp at ce2;clear hown hx2))
 all_goals (
  have br2:=Blk.of_ext HX2.out (br.alloc _) (fun h=>h)
  have bn3:=bn2.set_ 1 (.slice A L.length cc)
  have bn3:Blk (w2.setCell ⟨w.heap.size,1,none⟩ (.slice A L.length cc)) w.heap.size 40 #[.bool true,.slice A L.length cc,.slice A2 0 c2,.slice A3 0 c3]:=bn3
  have br3:=br2.far (p:=⟨w.heap.size,1,none⟩) (show w.heap.size + 1 ≠ w.heap.size by omega) (.slice A L.length cc)
  obtain ⟨p0,p1,p2,p3,g0,g1,g2,g3,ln⟩:=bn3.p4
  obtain ⟨r0,r1,r2,r3,s0,s1,s2,s3,lr⟩:=br3.p4
  go_wp2_with fail
  all_goals (
   refine bodyPost_ret (results_cell_row (P:=Tryz.prog) rfl _ _ (w.heap.size + 1) 40 _ (0,0) _ rfl (br3.put4 (.bool true) (.slice A L.length cc) (.slice A2 0 c2) (.slice A3 0 c3)) Tryz.underlying40 rfl (by kernel_rfl)) rfl ?_
   have hx0:Ext No w w2:=(((hE1.alloc _).drew).trans_ HX2.out)
   refine ⟨((((hx0.setNew (by omega) _ _).setNew (by omega) _ _).setNew (by omega) _ _).setNew (by omega) _ _).setNew (by omega) _ _,A,cc,A2,c2,A3,c3,rfl,?_⟩
   have hcap:=own_cap HO.out
   have hin:Lo w1.heap.size w.heap.size:=by show w.heap.size < w1.heap.size;omega
   have hin':Lo w1.heap.size (w.heap.size + 1):=by show w.heap.size + 1 < w1.heap.size;omega
   have hn2:NodeAt w2 (Lo w1.heap.size) A cc A2 c2 A3 c3 ⟨true,L,[],[]⟩:=⟨(Rd.own_lo HO.out (by omega)).mono (by omega) (fun b _ hb=>by unfold Lo at hb ⊢;simp;omega),Rd.nil_ _,Rd.nil_ _,hcap,HN.out.l2,HN.out.l3,hLb,by simp,by simp,own_nilcap HO.out,HN.out.e2,HN.out.e3⟩
   have hz:Ext (Lo w1.heap.size) w2 _:=(((((Ext.refl _ w2).setF hin 1 (.slice A L.length cc)).setF hin' 0 (.bool true)).setF hin' 1 (.slice A L.length cc)).setF hin' 2 (.slice A2 0 c2)).setF hin' 3 (.slice A3 0 c3)
   exact (hn2.ext hz).mono (fun b _ hb=>by unfold Old at hb;unfold Lo;omega)))
def Nd.part (n:Nd) (f t:Nat):Nd :=
 if n.leaf then ⟨true,(n.cells.drop f).take (t - f),[],[]⟩ else ⟨false,[],(n.keys.drop f).take (t - f),(n.kids.drop f).take (t + 1 - f)⟩
theorem Rd.sub {w:World} {F:Nat → Prop} {sz n:Nat} {ad:Addr} {xs:List Value} (h:Rd w F sz (some ad) n xs) (f t c:Nat) (hf:f ≤ t) (ht:t ≤ n) (hc:n ≤ c) (hs:0 < sz):Rd w F sz (if c = f then some ad else some (ad.add (f * sz))) (t - f) ((xs.drop (f * sz)).take ((t - f) * sz)) :=
 (h.rest f c (by omega) hc).take (t - f) (by omega) hs
theorem part_leaf (n:Nd) (f t:Nat) (w:World) (F:Nat → Prop) (A1:Option Addr) (c1:Nat) (A2:Option Addr) (c2:Nat) (A3:Option Addr) (c3:Nat) (hn:NodeAt w F A1 c1 A2 c2 A3 c3 n)
  (hlf:n.leaf = true) (h0:0 < n.cells.length) (hf:f < t) (ht:t ≤ n.cells.length) :
  Calls Tryz.prog 182 #[n.value A1 c1 A2 c2 A3 c3,.int .i64 (f:Int),.int .i64 (t:Int)] w (Made w (n.part f t)):=by
 obtain ⟨b,o,hA,_⟩:=hn.cells.2 h0
 obtain ⟨ad,had⟩:∃ ad,A1 = some ad:=⟨_,hA⟩
 subst had
 clear hA
 have hp:n.part f t = ⟨true,(n.cells.drop f).take (t - f),[],[]⟩:=by simp [Nd.part,hlf]
 rw [hp]
 have hl1:=hn.l1
 have hb1:=hn.b1
 have hEW:Ext No w ((w.alloc (.cells #[.bool true,.slice (some ad) n.cells.length c1,.slice A2 n.keys.length c2,.slice A3 n.kids.length c3] 40)).alloc (.cells #[.bool false,.slice none 0 0,.slice none 0 0,.slice none 0 0] 40)):=((Ext.refl No w).alloc _).alloc _
 have hcl:=((hn.cells.mono (G:=No) (by omega) (fun _ _ h=>h.elim)).ext hEW).sub f t c1 (by omega) ht hl1 (by omega)
 rw [cellVals_drop,cellVals_take] at hcl
 have hok:Part.Ok ((w.alloc (.cells #[.bool true,.slice (some ad) n.cells.length c1,.slice A2 n.keys.length c2,.slice A3 n.kids.length c3] 40)).alloc (.cells #[.bool false,.slice none 0 0,.slice none 0 0,.slice none 0 0] 40)) 4 ⟨if c1 = f then some ad else some (ad.add (f * 4)),t - f,c1 - f,cellVals ((n.cells.drop f).take (t - f))⟩ :=
  ⟨hcl,(fun h=>by split at h <;> cases h),one_cells _,by simp only;omega⟩
 have HCC:=Lib.hid (clone_cells _ _ hok (by simp only;omega))
 have hLl:((n.cells.drop f).take (t - f)).length = t - f:=by simp;omega
 obtain ⟨L,hL⟩:∃ L,L = (n.cells.drop f).take (t - f):=⟨_,rfl⟩
 rw [← hL] at hLl HCC ⊢
 have HLL:=Lib.hid hLl
 simp only [Nd.value,hlf,Part.v] at HCC ⊢
 have hi1:(f:Int) ≤ t:=by omega
 have hi2:(t:Int) ≤ c1:=by omega
 have hi3:(0:Int) ≤ f:=by omega
 have hi4:t ≤ c1:=by omega
 have hLb:t - f < 65536:=by omega
 generalize n.cells.length = nl at *
 generalize n.keys.length = kl at *
 generalize n.kids.length = il at *
 clear hp hl1 hb1 hEW hcl hok hLl hL hn hlf h0 ht
 have hcf:¬ c1 = f:=by omega
 simp only [hcf,if_false] at HCC
 go_enter Tryz.func182,Tryz.ntmps182
 go_wp2_with fail
 refine HCC.out.mono ?_
 rintro e w2 ⟨A,cc,rfl,hown,hx2⟩
 have HO:=Lib.hid hown;have HX2:=Lib.hid hx2
 have br:=(Blk.new_at (b:=w.heap.size + 1) (w.alloc (.cells #[.bool true,.slice (some ad) nl c1,.slice A2 kl c2,.slice A3 il c3] 40)) 40 #[.bool false,.slice none 0 0,.slice none 0 0,.slice none 0 0] (by simp)).ext hx2 (fun h=>h)
 obtain ⟨r0,r1,r2,r3,s0,s1,s2,s3,lr⟩:=br.p4
 clear hown hx2
 go_wp2_with fail
 refine bodyPost_ret (results_cell_row (P:=Tryz.prog) rfl _ _ (w.heap.size + 1) 40 _ (0,0) _ rfl (br.put4 (.bool true) (.slice A (t - f) cc) (.slice none 0 0) (.slice none 0 0)) Tryz.underlying40 rfl (by kernel_rfl)) rfl ?_
 have hx0:Ext No w w2:=(((Ext.refl No w).alloc _).alloc _).trans_ HX2.out
 refine ⟨(((hx0.setNew (by omega) _ _).setNew (by omega) _ _).setNew (by omega) _ _).setNew (by omega) _ _,A,cc,none,0,none,0,by rw [← HLL.out];rfl,?_⟩
 have hcap:=own_cap HO.out
 have hin':Lo (w.heap.size + 2) (w.heap.size + 1):=by show w.heap.size + 1 < w.heap.size + 2;omega
 have hn2:NodeAt w2 (Lo (w.heap.size + 2)) A cc none 0 none 0 ⟨true,L,[],[]⟩:=⟨by have:=(Rd.own_lo HO.out (by omega)).mono (G:=Lo (w.heap.size + 2)) (by omega) (fun b _ hb=>by unfold Lo at hb ⊢;simp;omega);rw [HLL.out];exact this,Rd.nil_ _,Rd.nil_ _,by rw [HLL.out];exact hcap,by simp,by simp,by rw [HLL.out];omega,by simp,by simp,own_nilcap HO.out,fun _=>rfl,fun _=>rfl⟩
 have hz:Ext (Lo (w.heap.size + 2)) w2 _:=((((Ext.refl _ w2).setF hin' 0 (.bool true)).setF hin' 1 (.slice A (t - f) cc)).setF hin' 2 (.slice none 0 0)).setF hin' 3 (.slice none 0 0)
 exact (hn2.ext hz).mono (fun b _ hb=>by unfold Old at hb;unfold Lo;omega)
def V.node (v:V) (id:Nat):Option Nd:=if v.err id = 0 then (if (v.pg id).kind = 2 then dec (v.pg id).body else none) else none
structure Stp where
 id:Nat
 n:Nd
 i:Nat
def V.wayLoop (v:V) (key:Bs):Nat → Nat → List Stp → Option (List Stp)
 | 0,_,_=>none
 | k + 1,id,out=>if id = 0 then some out else match v.node id with
  | none=>none
  | some n=>if out.length = 40 then none else
   if n.leaf then some (out ++ [⟨id,n,(n.find key).1⟩]) else v.wayLoop key k (n.kids.getD (n.find key).1 0) (out ++ [⟨id,n,(n.find key).1⟩])
def V.way (v:V) (root:Nat) (key:Bs):Option (List Stp):=v.wayLoop key 41 (v.r root) []
def hit (ws:List Stp) (key:Bs):Option Cell :=
 match ws.getLast? with
 | none=>none
 | some st=>match st.n.cells[st.i]? with
  | none=>none
  | some c=>if c.key = key then some c else none
def V.get (v:V) (root:Nat) (key:Bs):Bs × Bool × Nat :=
 if may key [] ≠ 0 then ([],false,may key []) else
 match v.way root key with
 | none=>([],false,5)
 | some ws=>match hit ws key with
  | none=>([],false,0)
  | some c=>match v.value c with
   | none=>([],false,5)
   | some b=>(b,true,0)
def V.wr (v:V) (id:Nat) (n:Nd):Nat × V:=if n.out.2 = 0 then v.set id 2 n.out.1 else (n.out.2,v)
def V.fresh (cap:Nat) (v:V) (n:Nd):Nat × Nat × V :=
 if (v.alloc cap).2.1 = 0 then ((v.alloc cap).1,((v.alloc cap).2.2.wr (v.alloc cap).1 n).1,((v.alloc cap).2.2.wr (v.alloc cap).1 n).2) else (0,(v.alloc cap).2.1,(v.alloc cap).2.2)
def V.spoil (v:V):V:={ v with spoilt:=true }
def V.sure (r:Nat × V):Nat × V:=if r.1 = 0 then r else (r.1,r.2.spoil)
def Nd.all (n:Nd):Nat:=if n.leaf then n.cells.length else n.keys.length
def Nd.gap (n:Nd):Nat:=if n.leaf then 0 else 1
def Nd.worse (n:Nd) (i:Nat):Nat:=max (n.part 0 i).size (n.part (i + n.gap) n.all).size
def Nd.bestLoop (n:Nd):Nat → Nat → Nat × Nat → Nat × Nat
 | 0,_,r=>r
 | f + 1,i,r=>n.bestLoop f (i + 1) (if n.worse i < r.2 then (i,n.worse i) else r)
def Nd.best (n:Nd):Nat:=(n.bestLoop (n.all - n.gap - 1) 1 (1,1073741824)).1
def Nd.mid (n:Nd) (k:Nat):Bs:=if n.leaf then (n.cells.map Cell.key).getD k [] else n.keys.getD k []
def Nd.split (n:Nd):Option (Nd × Nd × Bs) :=
 if n.ok = false ∨ n.all < 2 + n.gap then none else some (n.part 0 n.best,n.part (n.best + n.gap) n.all,n.mid n.best)
def Nd.glue (l r:Nd) (key:Bs):Nd:=if l.leaf then ⟨true,l.cells ++ r.cells,[],[]⟩ else ⟨false,l.cells ++ r.cells,l.keys ++ key :: r.keys,l.kids ++ r.kids⟩
def Nd.join (l r:Nd) (key:Bs):Option Nd:=if l.ok = false ∨ r.ok = false ∨ l.leaf ≠ r.leaf then none else if (l.glue r key).ok then some (l.glue r key) else none
def Nd.Sz (n:Nd):Nat:=if n.ok then n.size else 0
def V.grow (cap root:Nat):List Stp → Nd → V → Nat × V
 | [],_,v=>(0,v)
 | st :: up,n,v =>
  if (v.wr st.id n).1 ≠ 3 then v.wr st.id n else
  match n.split with
  | none=>(2,(v.wr st.id n).2)
  | some (l,r,key) =>
   if ((v.wr st.id n).2.wr st.id l).1 ≠ 0 then (v.wr st.id n).2.wr st.id l else
   if (((v.wr st.id n).2.wr st.id l).2.fresh cap r).2.1 ≠ 0 then (((v.wr st.id n).2.wr st.id l).2.fresh cap r).2 else
   match up with
   | [] =>
    if ((((v.wr st.id n).2.wr st.id l).2.fresh cap r).2.2.fresh cap ⟨false,[],[key],[st.id,(((v.wr st.id n).2.wr st.id l).2.fresh cap r).1]⟩).2.1 ≠ 0 then
     ((((v.wr st.id n).2.wr st.id l).2.fresh cap r).2.2.fresh cap ⟨false,[],[key],[st.id,(((v.wr st.id n).2.wr st.id l).2.fresh cap r).1]⟩).2 else
    (0,((((v.wr st.id n).2.wr st.id l).2.fresh cap r).2.2.fresh cap ⟨false,[],[key],[st.id,(((v.wr st.id n).2.wr st.id l).2.fresh cap r).1]⟩).2.2.setR root
     ((((v.wr st.id n).2.wr st.id l).2.fresh cap r).2.2.fresh cap ⟨false,[],[key],[st.id,(((v.wr st.id n).2.wr st.id l).2.fresh cap r).1]⟩).1)
   | p :: _ =>
    V.grow cap root up ⟨false,[],p.n.keys.insertIdx p.i key,p.n.kids.insertIdx (p.i + 1) (((v.wr st.id n).2.wr st.id l).2.fresh cap r).1⟩ (((v.wr st.id n).2.wr st.id l).2.fresh cap r).2.2
def V.put0 (cap root:Nat) (v:V) (key val:Bs):Nat × V :=
 match v.way root key with
 | none=>(5,v)
 | some ws =>
  if (v.mkCell cap key val).2.1 ≠ 0 then (v.mkCell cap key val).2 else
  match ws.getLast? with
  | none =>
   if ((v.mkCell cap key val).2.2.fresh cap ⟨true,[(v.mkCell cap key val).1],[],[]⟩).2.1 ≠ 0 then ((v.mkCell cap key val).2.2.fresh cap ⟨true,[(v.mkCell cap key val).1],[],[]⟩).2 else
   (0,((v.mkCell cap key val).2.2.fresh cap ⟨true,[(v.mkCell cap key val).1],[],[]⟩).2.2.setR root ((v.mkCell cap key val).2.2.fresh cap ⟨true,[(v.mkCell cap key val).1],[],[]⟩).1)
  | some st =>
   match hit ws key with
   | none=>V.grow cap root ws.reverse (st.n.put (v.mkCell cap key val).1) (v.mkCell cap key val).2.2
   | some c =>
    if ((v.mkCell cap key val).2.2.letGo c).1 ≠ 0 then (v.mkCell cap key val).2.2.letGo c else
    V.grow cap root ws.reverse (st.n.put (v.mkCell cap key val).1) ((v.mkCell cap key val).2.2.letGo c).2
def V.Put (cap root:Nat) (v:V) (key val:Bs):Nat × V:=if may key val ≠ 0 then (may key val,v) else V.sure (v.put0 cap root key val)
def V.settle (root:Nat) (v:V) (id:Nat) (n:Nd) (first:Bool):Nat × V :=
 if first = false ∨ (n.leaf = true ∧ 0 < n.cells.length) ∨ 0 < n.keys.length then v.wr id n else
 if (v.drop id).1 ≠ 0 then v.drop id else (0,(v.drop id).2.setR root (if n.leaf then 0 else n.kids.getD 0 0))
def V.beside (v:V) (p:Nd) (i:Nat) (n:Nd):Nat × Nat × Nd :=
 if p.keys = [] then (5,0,n) else
 if 0 < i then (match v.node (p.kids.getD (i - 1) 0) with
  | none=>(5,i - 1,n)
  | some l=>match l.join n (p.keys.getD (i - 1) []) with
   | none=>(2,i - 1,⟨false,[],[],[]⟩)
   | some b=>(0,i - 1,b))
 else (match v.node (p.kids.getD 1 0) with
  | none=>(5,0,n)
  | some r=>match n.join r (p.keys.getD 0 []) with
   | none=>(2,0,⟨false,[],[],[]⟩)
   | some b=>(0,0,b))
def V.share (cap root:Nat) (ws:List Stp) (up:Nd) (at_:Nat) (both:Nd) (v:V):Nat × V :=
 match both.split with
 | none=>(2,v)
 | some (l,r,key) =>
  if (v.wr (up.kids.getD at_ 0) l).1 ≠ 0 then v.wr (up.kids.getD at_ 0) l else
  if ((v.wr (up.kids.getD at_ 0) l).2.wr (up.kids.getD (at_ + 1) 0) r).1 ≠ 0 then (v.wr (up.kids.getD at_ 0) l).2.wr (up.kids.getD (at_ + 1) 0) r else
  V.grow cap root ws ⟨false,[],up.keys.set at_ key,up.kids⟩ ((v.wr (up.kids.getD at_ 0) l).2.wr (up.kids.getD (at_ + 1) 0) r).2
def V.shrink (cap root:Nat):List Stp → Nd → V → Nat × V
 | [],_,v=>(0,v)
 | [st],n,v=>v.settle root st.id n true
 | st :: p :: up,n,v =>
  if 166 ≤ n.Sz then v.settle root st.id n false else
  if (v.beside p.n p.i n).1 ≠ 0 then ((v.beside p.n p.i n).1,v) else
  if 500 < (v.beside p.n p.i n).2.2.Sz then V.share cap root (p :: up) p.n (v.beside p.n p.i n).2.1 (v.beside p.n p.i n).2.2 v else
  if (v.wr (p.n.kids.getD (v.beside p.n p.i n).2.1 0) (v.beside p.n p.i n).2.2).1 ≠ 0 then v.wr (p.n.kids.getD (v.beside p.n p.i n).2.1 0) (v.beside p.n p.i n).2.2 else
  if ((v.wr (p.n.kids.getD (v.beside p.n p.i n).2.1 0) (v.beside p.n p.i n).2.2).2.drop (p.n.kids.getD ((v.beside p.n p.i n).2.1 + 1) 0)).1 ≠ 0 then
   (v.wr (p.n.kids.getD (v.beside p.n p.i n).2.1 0) (v.beside p.n p.i n).2.2).2.drop (p.n.kids.getD ((v.beside p.n p.i n).2.1 + 1) 0) else
  V.shrink cap root (p :: up) ⟨false,[],p.n.keys.eraseIdx (v.beside p.n p.i n).2.1,p.n.kids.eraseIdx ((v.beside p.n p.i n).2.1 + 1)⟩
   ((v.wr (p.n.kids.getD (v.beside p.n p.i n).2.1 0) (v.beside p.n p.i n).2.2).2.drop (p.n.kids.getD ((v.beside p.n p.i n).2.1 + 1) 0)).2
def Nd.cutAt (n:Nd) (i:Nat):Nd:={ n with cells:=n.cells.take i ++ n.cells.drop (i + 1) }
def V.del0 (cap root:Nat) (v:V) (key:Bs):Bool × Nat × V :=
 match v.way root key with
 | none=>(false,5,v)
 | some ws=>match ws.getLast?,hit ws key with
  | some st,some c=>if (v.letGo c).1 ≠ 0 then (false,v.letGo c) else (true,V.shrink cap root ws.reverse (st.n.cutAt st.i) (v.letGo c).2)
  | _,_=>(false,0,v)
def V.Del (cap root:Nat) (v:V) (key:Bs):Bool × Nat × V :=
 if may key [] ≠ 0 then (false,may key [],v) else
 if (v.del0 cap root key).2.1 = 0 then v.del0 cap root key else (false,(v.del0 cap root key).2.1,(v.del0 cap root key).2.2.spoil)
def inB (low high k:Bs):Bool:=!(klt k low) && (high.isEmpty || klt k high)
def V.lookCells (v:V) (low high:Bs):List Cell → Nat → Option Nat
 | [],p=>some p
 | c :: cs,p=>if inB low high c.key then (match v.value c with
  | none=>none
  | some _=>v.lookCells low high cs (if 0 < c.over then p + max 1 ((c.len + 495) / 496) else p)) else none
def lookKids (f:Nat → Bs → Bs → Nat × Option Nat → Option (Nat × Option Nat)) (low high:Bs):Bool → List (Nat × Bs × Bs) → Nat × Option Nat → Option (Nat × Option Nat)
 | _,[],s=>some s
 | first,(kid,lo,hi) :: l,s=>if first = false ∧ inB low high lo = false then none else match f kid lo hi s with
  | none=>none
  | some s'=>lookKids f low high false l s'
def V.look (v:V):Nat → Nat → Nat → Bs → Bs → Nat × Option Nat → Option (Nat × Option Nat)
 | 0,_,_,_,_,_=>none
 | k + 1,id,deep,low,high,s=>match v.node id with
  | none=>none
  | some n=>if 40 < deep ∨ 65536 < s.1 + 1 then none else match v.lookCells low high n.cells (s.1 + 1) with
   | none=>none
   | some p=>if n.leaf then (if (s.2.isSome = true ∧ s.2 ≠ some deep) ∨ n.cells.length = 0 then none else some (p,some deep))
    else lookKids (fun kid lo hi s=>v.look k kid (deep + 1) lo hi s) low high true (n.kids.zip ((low :: n.keys).zip (n.keys ++ [high]))) (p,s.2)
def V.survey (v:V) (root:Nat):Option (Nat × Option Nat):=if v.r root = 0 then some (0,none) else v.look 42 (v.r root) 0 [] [] (0,none)
end Go.Proofs.YtccnemmlkcmceaaGreatDoor
