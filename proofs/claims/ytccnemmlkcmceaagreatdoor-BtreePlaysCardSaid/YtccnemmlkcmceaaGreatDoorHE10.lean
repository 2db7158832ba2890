/- Proofs about the given program, joined out of the texts D5, D6, Z5. -/
import Derived.Test.YtccnemmlkcmceaaGreatDoorHE8
set_option linter.unusedVariables false
set_option linter.unusedSimpArgs false
set_option maxRecDepth 100000
set_option maxHeartbeats 6400000
namespace Go.Proofs.YtccnemmlkcmceaaGreatDoor
open Go.RowKit
theorem own_push1 {w:World} {base g cap:Nat} {ks:List Bs} {x:Bs} (h:w.ownsRow base 9 1 (.slice (some ⟨g,0,none⟩) (ks.length + 1) cap) (ks.length + 1) (keyVals ks ++ [.string (str x)])) :
  w.ownsRow base 9 1 (.slice (some ⟨g,0,none⟩) (ks ++ [x]).length cap) (ks ++ [x]).length (keyVals (ks ++ [x])):=by
 simpa [keyVals] using h
theorem own_push2 {w:World} {base g cap:Nat} {ks:List Nat} {x:Nat} (h:w.ownsRow base 3 1 (.slice (some ⟨g,0,none⟩) (ks.length + 1) cap) (ks.length + 1) (kidVals ks ++ [.int .i64 (x:Int)])) :
  w.ownsRow base 3 1 (.slice (some ⟨g,0,none⟩) (ks ++ [x]).length cap) (ks ++ [x]).length (kidVals (ks ++ [x])):=by
 simpa [kidVals] using h
theorem own_apart {w:World} {base base':Nat} {e e':TypeId} {sz sz' n n':Nat} {v v':Value} {xs xs':List Value} (h:w.ownsRow base e sz v n xs) (h':w.ownsRow base' e' sz' v' n' xs') (hne:e ≠ e'):v.ownBlock = none ∨ v.ownBlock ≠ v'.ownBlock:=by
 rcases h.2 with ⟨rfl,_⟩ | ⟨g,cap,cur,rfl,_,hg,_⟩
 ·exact .inl rfl
 ·refine .inr ?_
  rcases h'.2 with ⟨rfl,_⟩ | ⟨g',cap',cur',rfl,_,hg',_⟩
  ·simp [Value.ownBlock]
  ·intro e2
   simp [Value.ownBlock] at e2
   subst e2
   rw [hg] at hg'
   injection hg' with hg'
   injection hg' with _ hg'
   exact hne hg'
structure BS (w wx:World) (A2:Option Addr) (c2:Nat) (A3:Option Addr) (c3:Nat) (ks:List Bs) (ids:List Nat) (r:Rst):Prop where
 o2:wx.ownsRow (w.heap.size + 3) 9 1 (.slice A2 ks.length c2) ks.length (keyVals ks)
 o3:wx.ownsRow (w.heap.size + 3) 3 1 (.slice A3 ids.length c3) ids.length (kidVals ids)
 bn:Blk wx (w.heap.size + 1 + 1) 40 #[.bool false,.slice none 0 0,.slice A2 ks.length c2,.slice A3 ids.length c3]
 br:Blk wx w.heap.size 40 #[.bool false,.slice none 0 0,.slice none 0 0,.slice none 0 0]
 hr:RestAt wx (w.heap.size + 1) r
 hE:Ext No w wx
theorem one_int (x:Int):∀ u ∈ [Value.int .i64 x],u.oneCell' = true:=by simp [Value.oneCell']
theorem one_str (x:ByteArray):∀ u ∈ [Value.string x],u.oneCell' = true:=by simp [Value.oneCell']
theorem BS.step {w wx w5:World} {A2:Option Addr} {c2:Nat} {A3:Option Addr} {c3:Nat} {ks:List Bs} {ids:List Nat} {r r':Rst} (h:BS w wx A2 c2 A3 c3 ks ids r) (hx:Ext (On (w.heap.size + 1)) wx w5) (hr:RestAt w5 (w.heap.size + 1) r') (o:Obj) :
  BS w (w5.alloc o) A2 c2 A3 c3 ks ids r' :=
 ⟨(own_ext h.o2 hx (fun g hg=>off_on (by omega))).alloc o,(own_ext h.o3 hx (fun g hg=>off_on (by omega))).alloc o,(h.bn.ext hx (off_on (by omega))).alloc o,(h.br.ext hx (off_on (by omega))).alloc o,Blk.alloc hr o,(h.hE.on_new hx (by omega)).alloc o⟩
theorem BS.drew {w wx:World} {A2:Option Addr} {c2:Nat} {A3:Option Addr} {c3:Nat} {ks:List Bs} {ids:List Nat} {r:Rst} (h:BS w wx A2 c2 A3 c3 ks ids r):BS w wx.drew A2 c2 A3 c3 ks ids r :=
 ⟨h.o2.drew,h.o3.drew,h.bn,h.br,h.hr,h.hE.drew⟩
theorem BS.keys {w w5 w6:World} {A2:Option Addr} {c2:Nat} {A3:Option Addr} {c3:Nat} {ks:List Bs} {ids:List Nat} {r:Rst} {g cap:Nat} {x:Bs} (h:BS w w5 A2 c2 A3 c3 ks ids r)
  (ho:w6.ownsRow (w.heap.size + 3) 9 1 (.slice (some ⟨g,0,none⟩) (ks.length + 1) cap) (ks.length + 1) (keyVals ks ++ [.string (str x)])) (hg:w5.grownBy w6 (Value.slice A2 ks.length c2).ownBlock) :
  BS w (w6.setCell ⟨w.heap.size + 1 + 1,2,none⟩ (.slice (some ⟨g,0,none⟩) (ks.length + 1) cap)) (some ⟨g,0,none⟩) cap A3 c3 (ks ++ [x]) ids r:=by
 have hs:=h.hE.size
 have hg1:=(ho.lt g rfl).1
 have h3:=h.o3.kept hg (own_apart h.o3 h.o2 (by decide))
 refine ⟨ownsRow_setCell_other (own_push1 ho) (by show some g ≠ some (w.heap.size + 1 + 1);intro e;injection e with e;omega) _,ownsRow_setCell_other h3 (Ne.symm (own_ge h3 (show w.heap.size + 1 + 1 < w.heap.size + 3 by omega))) _,?_,?_,?_,?_⟩
 ·have:=(h.bn.grown hg (own_ge h.o2 (by omega))).set_ 2 (.slice (some ⟨g,0,none⟩) (ks.length + 1) cap)
  simpa using this
 ·exact Blk.far (h.br.grown hg (own_ge h.o2 (by omega))) (show w.heap.size ≠ w.heap.size + 1 + 1 by omega) _
 ·exact Blk.far (Blk.grown hg h.hr (own_ge h.o2 (by omega))) (show w.heap.size + 1 ≠ w.heap.size + 1 + 1 by omega) _
 ·exact (h.hE.grown hg (own_ge' h.o2 (by omega))).setNew (by omega) _ _
theorem BS.kids {w w5 w6:World} {A2:Option Addr} {c2:Nat} {A3:Option Addr} {c3:Nat} {ks:List Bs} {ids:List Nat} {r:Rst} {g cap:Nat} {x:Nat} (h:BS w w5 A2 c2 A3 c3 ks ids r)
  (ho:w6.ownsRow (w.heap.size + 3) 3 1 (.slice (some ⟨g,0,none⟩) (ids.length + 1) cap) (ids.length + 1) (kidVals ids ++ [.int .i64 (x:Int)])) (hg:w5.grownBy w6 (Value.slice A3 ids.length c3).ownBlock) :
  BS w (w6.setCell ⟨w.heap.size + 1 + 1,3,none⟩ (.slice (some ⟨g,0,none⟩) (ids.length + 1) cap)) A2 c2 (some ⟨g,0,none⟩) cap ks (ids ++ [x]) r:=by
 have hs:=h.hE.size
 have hg1:=(ho.lt g rfl).1
 have h3:=h.o2.kept hg (own_apart h.o2 h.o3 (by decide))
 refine ⟨ownsRow_setCell_other h3 (Ne.symm (own_ge h3 (show w.heap.size + 1 + 1 < w.heap.size + 3 by omega))) _,ownsRow_setCell_other (own_push2 ho) (by show some g ≠ some (w.heap.size + 1 + 1);intro e;injection e with e;omega) _,?_,?_,?_,?_⟩
 ·have:=(h.bn.grown hg (own_ge h.o3 (by omega))).set_ 3 (.slice (some ⟨g,0,none⟩) (ids.length + 1) cap)
  simpa using this
 ·exact Blk.far (h.br.grown hg (own_ge h.o3 (by omega))) (show w.heap.size ≠ w.heap.size + 1 + 1 by omega) _
 ·exact Blk.far (Blk.grown hg h.hr (own_ge h.o3 (by omega))) (show w.heap.size + 1 ≠ w.heap.size + 1 + 1 by omega) _
 ·exact (h.hE.grown hg (own_ge' h.o3 (by omega))).setNew (by omega) _ _
theorem dec_branch (s:Bs) (w:World) (hl:s.length ≤ 500) (hk:(⟨s,false⟩:Rst).byte.1 ≠ 1) :
  Calls Tryz.prog 48 #[.string (str s)] w (Told w (dec s)):=by
 have hsz:=str_size s
 have l1:=(⟨s,false⟩:Rst).byte_le
 have l2:=(⟨s,false⟩:Rst).byte.2.byte_le
 have hcnt:=(⟨s,false⟩:Rst).byte.2.byte_lt
 have HB:=Lib.hid (fun p w h=>byte_any ⟨s,false⟩ (show s.length < 1000000 by omega) p w h)
 have HB2:=Lib.hid (fun p w h=>byte_any (⟨s,false⟩:Rst).byte.2 (by simp only at l1;omega) p w h)
 have hk':((⟨s,false⟩:Rst).byte.1:Int) ≠ 1:=by omega
 have HF:=Lib.hid (fun p w h=>four_take (⟨s,false⟩:Rst).byte.2.byte.2 (by simp only at l1;omega) p w h)
 have HD:Hid (dec s = if (decLoop (⟨s,false⟩:Rst).byte.2.byte.1 ⟨false,[],[],[(⟨s,false⟩:Rst).byte.2.byte.2.four.1]⟩ (⟨s,false⟩:Rst).byte.2.byte.2.four.2).2.bad then none
  else if (decLoop (⟨s,false⟩:Rst).byte.2.byte.1 ⟨false,[],[],[(⟨s,false⟩:Rst).byte.2.byte.2.four.1]⟩ (⟨s,false⟩:Rst).byte.2.byte.2.four.2).2.s.length ≠ 0 then none
  else if (⟨s,false⟩:Rst).byte.1 ≠ 2 then none
  else if (decLoop (⟨s,false⟩:Rst).byte.2.byte.1 ⟨false,[],[],[(⟨s,false⟩:Rst).byte.2.byte.2.four.1]⟩ (⟨s,false⟩:Rst).byte.2.byte.2.four.2).1.ok then some (decLoop (⟨s,false⟩:Rst).byte.2.byte.1 ⟨false,[],[],[(⟨s,false⟩:Rst).byte.2.byte.2.four.1]⟩ (⟨s,false⟩:Rst).byte.2.byte.2.four.2).1 else none):=by
  show _ = _
  simp [dec,show ¬ 500 < s.length by omega,Rst.loop,Rst.head,hk]
 have hfl:=(⟨s,false⟩:Rst).byte.2.byte.2.four_lt
 have hfe:=(⟨s,false⟩:Rst).byte.2.byte.2.four_le
 have hlen:(⟨s,false⟩:Rst).byte.2.byte.2.four.2.s.length < 1000000:=by simp only at l1;omega
 generalize (⟨s,false⟩:Rst).byte.2.byte.2.four.1 = k0 at HF HD hfl
 generalize (⟨s,false⟩:Rst).byte.2.byte.2.four.2 = r3 at HF HD hlen hfe
 generalize (⟨s,false⟩:Rst).byte.2.byte.2 = r2 at HB2 HF hfe
 generalize (⟨s,false⟩:Rst).byte.2.byte.1 = cnt at HB2 HD hcnt
 generalize (⟨s,false⟩:Rst).byte.2 = r1 at HB HB2
 generalize (⟨s,false⟩:Rst).byte.1 = kd at HB HD hk hk'
 generalize dec s = D at HD
 clear l1 l2 hfe
 have hk1:((kd:Int) == 1) = false:=by simp;omega
 clear hk hk'
 go_enter Tryz.func48,Tryz.ntmps48
 go_wp2_with fail
 have ea:Ext No w (((w.alloc (.cells #[.bool false,.slice none 0 0,.slice none 0 0,.slice none 0 0] 40)).alloc (.cells #[.string (str s),.bool false] 155)).alloc (.cells #[.bool false,.slice none 0 0,.slice none 0 0,.slice none 0 0] 40)):=(((Ext.refl _ w).alloc _).alloc _).alloc _
 have br:=((Blk.new w 40 #[.bool false,.slice none 0 0,.slice none 0 0,.slice none 0 0]).alloc (.cells #[.string (str s),.bool false] 155)).alloc (.cells #[.bool false,.slice none 0 0,.slice none 0 0,.slice none 0 0] 40)
 have bn:=Blk.new_at (b:=w.heap.size + 1 + 1) ((w.alloc (.cells #[.bool false,.slice none 0 0,.slice none 0 0,.slice none 0 0] 40)).alloc (.cells #[.string (str s),.bool false] 155)) 40 #[.bool false,.slice none 0 0,.slice none 0 0,.slice none 0 0] (by simp)
 have bp:RestAt (((w.alloc (.cells #[.bool false,.slice none 0 0,.slice none 0 0,.slice none 0 0] 40)).alloc (.cells #[.string (str s),.bool false] 155)).alloc (.cells #[.bool false,.slice none 0 0,.slice none 0 0,.slice none 0 0] 40)) (w.heap.size + 1) ⟨s,false⟩:=(Blk.new_at (w.alloc (.cells #[.bool false,.slice none 0 0,.slice none 0 0,.slice none 0 0] 40)) 155 #[.string (str s),.bool false] (by simp)).alloc (.cells #[.bool false,.slice none 0 0,.slice none 0 0,.slice none 0 0] 40)
 refine (HB.out _ _ bp).mono ?_
 rintro e w1 ⟨rfl,hr1,hx1⟩
 have en:¬ On (w.heap.size + 1) w.heap.size:=fun h=>by unfold On at h;omega
 have en2:¬ On (w.heap.size + 1) (w.heap.size + 1 + 1):=fun h=>by unfold On at h;omega
 have br:=br.ext hx1 en
 have bn:=bn.ext hx1 en2
 have ea1:=ea.on_new hx1 (by omega)
 clear bp ea
 go_wp2_with fail
 refine (HB2.out _ _ hr1).mono ?_
 rintro e w2 ⟨rfl,hr2,hx2⟩
 have br:=br.ext hx2 en
 have bn:=bn.ext hx2 en2
 have ea2:=ea1.on_new hx2 (by omega)
 obtain ⟨p0,p1,p2,p3,g0,g1,g2,g3,ln⟩:=bn.p4
 clear hr1 hx1 hx2 ea1
 go_upto_region 8 with fail
 have bn2:Blk (w2.setCell ⟨w.heap.size + 1 + 1,0,none⟩ (.bool false)) (w.heap.size + 1 + 1) 40 #[.bool false,.slice none 0 0,.slice none 0 0,.slice none 0 0]:=bn.set_ 0 (.bool false)
 have br2:Blk (w2.setCell ⟨w.heap.size + 1 + 1,0,none⟩ (.bool false)) w.heap.size 40 #[.bool false,.slice none 0 0,.slice none 0 0,.slice none 0 0]:=br.far (show w.heap.size ≠ w.heap.size + 1 + 1 by omega) _
 have hr3:RestAt (w2.setCell ⟨w.heap.size + 1 + 1,0,none⟩ (.bool false)) (w.heap.size + 1) r2:=Blk.far hr2 (show w.heap.size + 1 ≠ w.heap.size + 1 + 1 by omega) _
 have ea3:Ext No w (w2.setCell ⟨w.heap.size + 1 + 1,0,none⟩ (.bool false)):=ea2.setNew (by omega) _ _
 clear p0 p1 p2 p3 g0 g1 g2 g3 br bn hr2 ea2
 have hB3:BS w (w2.setCell ⟨w.heap.size + 1 + 1,0,none⟩ (.bool false)) none 0 none 0 [] [] r2:=⟨World.ownsRow_nil _ _ _ _,World.ownsRow_nil _ _ _ _,bn2,br2,hr3,ea3⟩
 generalize w2.setCell ⟨w.heap.size + 1 + 1,0,none⟩ (.bool false) = w3 at hB3 ⊢
 clear bn2 br2 hr3 ea3
 obtain ⟨i0,hti,htz0,htz1,htz2⟩:=info_parts Tryz.info3
 go_cut [29] (fun v wx=>∃ A3 c3,Hid (BS w wx none 0 A3 c3 [] [k0] r3))
 case first =>
  obtain ⟨p0,p1,p2,p3,g0,g1,g2,g3,ln⟩:=hB3.bn.p4
  have hr:=hB3.hr
  have HB3:=Lib.hid hB3
  have m0:w.heap.size + 3 ≤ w3.heap.size:=by omega
  have bn:=hB3.bn
  have m2:0 + 1 ≤ maxLen:=by unfold maxLen;omega
  have m3:(0 + 1) * 8 ≤ 140737488355328:=by omega
  have en3:∀ g,w.heap.size + 3 ≤ g → ¬ On (w.heap.size + 1) g:=fun g hg=>off_on (by omega)
  simp only [List.length_nil] at p2 p3
  clear hB3
  go_wp2_with fail
  go_region_law
   (first
    | (go_simp;go_at_call 88;refine (HF.out _ _ (by exact hr)).mono ?_;rintro e w5 ⟨rfl,hr5,hx5⟩;have p5:=cell_ext hx5 (g:=w.heap.size + 1 + 1) (i:=3) (u:=.slice none 0 0) p3 en2;have bn5:=Blk.of_ext hx5 bn en2;have g5:=bn5.frozen 3;have l5:=bn5.lt;have m5:w.heap.size + 3 ≤ w5.heap.size:=Nat.le_trans m0 hx5.size;have m6:∀ o,w.heap.size + 3 ≤ (w5.alloc o).heap.size:=(fun o=>by simp;omega);have m7:∀ o,(w5.alloc o).heap.size = w5.heap.size + 1:=(fun o=>by simp);have HO5:=Lib.hid (own_of_ext hx5 HB3.out.o3 en3);have HX5:=Lib.hid hx5;have HR5:=Lib.hid hr5;clear hx5 hr5)
    | ((refine step_append_lies _ (by rfl) _ _ _ (by rfl) (w.heap.size + 3) 3 i0 (.int .i64 0) 1 8 Tryz.underlying35 hti htz0 htz1 htz2 rfl (by decide) (.slice none 0 0) ([]:List Nat).length (kidVals ([]:List Nat)) (by rfl) (by exact HO5.out.alloc _) ⟨w5.heap.size,0,none⟩ 1 1 [.int .i64 (k0:Int)] (by rfl) (by rfl) (by exact World.news_of_block (cs:=#[.int .i64 (k0:Int)]) (t:=3) (fr:=(0,0)) (heap_alloc_new w5 _)) (by exact one_int _) (by decide) m2 m3 (by exact m6 _) (w5.heap.size + 1) (by exact m7 _) ?_);intro g2 cap2 w6 hown2 hgrow2 hat2 hlt2;have HO6:=Lib.hid hown2;clear hown2;have bn6:=(bn5.alloc _).grown hgrow2 (own_ge HB3.out.o3 (by omega));have g6:=bn6.frozen 3;have p6:=bn6.cell 3;simp at p6;have l6:=bn6.lt))
  all_goals (
   go_wp2_with fail
   go_meet
   exact ⟨_,_,Lib.hid (BS.kids (x:=k0) (BS.step HB3.out.drew HX5.out HR5.out _) HO6.out hgrow2)⟩)
 case rest =>
  obtain ⟨A3,c3,HB4⟩:=hcut
  clear hB3
  obtain ⟨i1,hsi,hsz0,hsz1,hsz2⟩:=info_parts Tryz.info9
  go_wp2_with fail
  go_loopg [33] cnt (fun gk i wr=>∃ (k:Nat) (A2:Option Addr) (c2:Nat) (A3:Option Addr) (c3:Nat) (ks:List Bs) (ids:List Nat) (r:Rst),k + gk = cnt ∧ i = .int .i64 (k:Int) ∧ ks.length = k ∧ ids.length = k + 1 ∧ BS w wr A2 c2 A3 c3 ks ids r ∧ r.s.length < 1000000 ∧ (∀ k ∈ ks,k.length < 65536) ∧ (∀ i ∈ ids,i < 4294967296) ∧ Hid (decLoop gk ⟨false,[],ks,ids⟩ r = decLoop cnt ⟨false,[],[],[k0]⟩ r3))
  case atStart=>exact ⟨0,none,0,A3,c3,[],[k0],r3,by omega,rfl,rfl,rfl,HB4.out,hlen,by simp,by simpa using hfl,Lib.hid rfl⟩
  case round =>
   clear HB4 hlen HB HB2 HF
   obtain ⟨k,A2,c2,A3,c3,ks,ids,r,hk0,rfl,hck,hci,hB,hlen,hfk,hfi,hd⟩:=hrel
   have HK0:=Lib.hid hk0;have HCK:=Lib.hid hck;have HCI:=Lib.hid hci;have HB:=Lib.hid hB;have HFK:=Lib.hid hfk;have HFI:=Lib.hid hfi
   have hk:k ≤ cnt:=by omega
   have hcb:ks.length < 256:=by omega
   have hib:ids.length < 257:=by omega
   obtain ⟨p0,p1,p2,p3,g0,g1,g2,g3,ln⟩:=hB.bn.p4
   obtain ⟨x0,x1,x2,x3,y0,y1,y2,y3,lr⟩:=hB.br.p4
   have hr:=hB.hr
   have bn:=hB.bn
   have br:=hB.br
   have z1:=hr.cell 1
   have z0:=hr.cell 0
   simp at z0 z1
   clear hk0 hck hci hB hfk hfi
   by_cases hlt:k < cnt
   ·cases hbad:r.bad
    ·rw [hbad] at z1
     have HBD:=Lib.hid hbad
     clear hbad
     have hl2:=r.text_le
     have hl3:=r.text.2.four_le
     have htl:=r.text_len
     have hf4:=r.text.2.four_lt
     have HT:=Lib.hid (fun p w h=>text_take r hlen p w h)
     have HF:=Lib.hid (fun p w h=>four_take r.text.2 (by omega) p w h)
     have HQ:Hid (Nd.one ⟨false,[],ks,ids⟩ r = (⟨false,[],ks ++ [r.text.1],ids ++ [r.text.2.four.1]⟩,r.text.2.four.2)):=Lib.hid rfl
     generalize r.text.2.four.1 = x4 at HF HQ hf4
     generalize r.text.2.four.2 = r5 at HF HQ hl3
     generalize r.text.1 = xt at HT HQ htl
     generalize r.text.2 = r4 at HT HF hl2 hl3
     have m0:w.heap.size + 3 ≤ wr.heap.size:=by omega
     have m2:ks.length + 1 ≤ maxLen:=by unfold maxLen;omega
     have m3:(ks.length + 1) * 16 ≤ 140737488355328:=by omega
     have m2':ids.length + 1 ≤ maxLen:=by unfold maxLen;omega
     have m3':(ids.length + 1) * 8 ≤ 140737488355328:=by omega
     have en3:∀ g,w.heap.size + 3 ≤ g → ¬ On (w.heap.size + 1) g:=fun g hg=>off_on (by omega)
     go_upto_region 14 with fail
     go_cut [52] (fun v wx=>∃ A2' c2',Hid (BS w wx A2' c2' A3 c3 (ks ++ [xt]) ids r4))
     case first =>
      go_wp2_with fail
      go_region_law
       (first
      | (go_simp;go_at_call 90;refine (HT.out _ _ (by exact hr)).mono ?_;rintro e w5 ⟨rfl,hr5,hx5⟩;have p5:=cell_ext hx5 (g:=w.heap.size + 1 + 1) (i:=2) (u:=.slice A2 ks.length c2) p2 en2;have bn5:=Blk.of_ext hx5 bn en2;have g5:=bn5.frozen 2;have l5:=bn5.lt;have m5:w.heap.size + 3 ≤ w5.heap.size:=Nat.le_trans m0 hx5.size;have m6:∀ o,w.heap.size + 3 ≤ (w5.alloc o).heap.size:=(fun o=>by simp;omega);have m7:∀ o,(w5.alloc o).heap.size = w5.heap.size + 1:=(fun o=>by simp);have HO5:=Lib.hid (own_of_ext hx5 HB.out.o2 en3);have HX5:=Lib.hid hx5;have HR5:=Lib.hid hr5;clear hx5 hr5)
      | ((refine step_append_lies _ (by rfl) _ _ _ (by rfl) (w.heap.size + 3) 9 i1 (.string ⟨#[]⟩) 1 16 Tryz.underlying38 hsi hsz0 hsz1 hsz2 rfl (by decide) (.slice A2 ks.length c2) ks.length (keyVals ks) (by rfl) (by exact HO5.out.alloc _) ⟨w5.heap.size,0,none⟩ 1 1 [.string (str xt)] (by rfl) (by rfl) (by exact World.news_of_block (cs:=#[.string (str xt)]) (t:=9) (fr:=(0,0)) (heap_alloc_new w5 _)) (by exact one_str _) (by decide) m2 m3 (by exact m6 _) (w5.heap.size + 1) (by exact m7 _) ?_);intro g2 cap2 w6 hown2 hgrow2 hat2 hlt2;have HO6:=Lib.hid hown2;clear hown2;have bn6:=(bn5.alloc _).grown hgrow2 (own_ge HB.out.o2 (by omega));have g6:=bn6.frozen 2;have p6:=bn6.cell 2;simp at p6;have l6:=bn6.lt))
      all_goals (
       go_wp2_with fail
       go_meet
       exact ⟨_,_,Lib.hid (BS.keys (BS.step HB.out.drew HX5.out HR5.out _) HO6.out hgrow2)⟩)
     case rest =>
      obtain ⟨A2',c2',HB7⟩:=hcut
      clear p0 p1 p2 p3 g0 g1 g2 g3 ln x0 x1 x2 x3 y0 y1 y2 y3 lr hr bn br z0 z1 m0
      have hB7:=HB7.out
      obtain ⟨p0,p1,p2,p3,g0,g1,g2,g3,ln⟩:=hB7.bn.p4
      have hr:=hB7.hr
      have bn:=hB7.bn
      have m0:w.heap.size + 3 ≤ _:=Nat.succ_le_of_lt ln
      clear hB7
      go_wp2_with fail
      go_region_law
       (first
      | (go_simp;go_at_call 88;refine (HF.out _ _ (by exact hr)).mono ?_;rintro e w5 ⟨rfl,hr5,hx5⟩;have p5:=cell_ext hx5 (g:=w.heap.size + 1 + 1) (i:=3) (u:=.slice A3 ids.length c3) p3 en2;have bn5:=Blk.of_ext hx5 bn en2;have g5:=bn5.frozen 3;have l5:=bn5.lt;have m5:w.heap.size + 3 ≤ w5.heap.size:=Nat.le_trans m0 hx5.size;have m6:∀ o,w.heap.size + 3 ≤ (w5.alloc o).heap.size:=(fun o=>by simp;omega);have m7:∀ o,(w5.alloc o).heap.size = w5.heap.size + 1:=(fun o=>by simp);have HO5:=Lib.hid (own_of_ext hx5 HB7.out.o3 en3);have HX5:=Lib.hid hx5;have HR5:=Lib.hid hr5;clear hx5 hr5)
      | ((refine step_append_lies _ (by rfl) _ _ _ (by rfl) (w.heap.size + 3) 3 i0 (.int .i64 0) 1 8 Tryz.underlying35 hti htz0 htz1 htz2 rfl (by decide) (.slice A3 ids.length c3) ids.length (kidVals ids) (by rfl) (by exact HO5.out.alloc _) ⟨w5.heap.size,0,none⟩ 1 1 [.int .i64 (x4:Int)] (by rfl) (by rfl) (by exact World.news_of_block (cs:=#[.int .i64 (x4:Int)]) (t:=3) (fr:=(0,0)) (heap_alloc_new w5 _)) (by exact one_int _) (by decide) m2' m3' (by exact m6 _) (w5.heap.size + 1) (by exact m7 _) ?_);intro g2 cap2 w6 hown2 hgrow2 hat2 hlt2;have HO6:=Lib.hid hown2;clear hown2;have bn6:=(bn5.alloc _).grown hgrow2 (own_ge HB7.out.o3 (by omega));have g6:=bn6.frozen 3;have p6:=bn6.cell 3;simp at p6;have l6:=bn6.lt))
      all_goals (
       go_wp2_with fail
       go_roundg (gk - 1)
       case rel =>
        have hd1:decLoop (gk - 1) ⟨false,[],ks ++ [xt],ids ++ [x4]⟩ r5 = decLoop gk ⟨false,[],ks,ids⟩ r:=by
         obtain ⟨j,rfl⟩:∃ j,gk = j + 1:=⟨gk - 1,by have:=HK0.out;omega⟩
         simp [decLoop,HBD.out,HQ.out]
        have hck:=HCK.out
        have hci:=HCI.out
        refine ⟨k + 1,A2',c2',_,_,ks ++ [xt],ids ++ [x4],r5,by have:=HK0.out;omega,by go_num,by simp;omega,by simp;omega,BS.kids (BS.step HB7.out.drew HX5.out HR5.out _) HO6.out hgrow2,by omega,?_,?_,Lib.hid (hd1.trans hd.out)⟩
        ·intro y hy
         rcases List.mem_append.1 hy with h | h
         ·exact HFK.out y h
         ·simp at h;subst h;omega
        ·intro y hy
         rcases List.mem_append.1 hy with h | h
         ·exact HFI.out y h
         ·simp at h;subst h;omega
       case measure=>have:=HK0.out;omega)
    ·have HBD:=Lib.hid hbad
     rw [hbad] at z1
     clear hbad
     have hdn:D = none:=by
      rw [HD.out,← hd.out,decLoop_stop _ _ _ HBD.out]
      simp [HBD.out]
     clear HD
     go_wp2_with fail
     have HRES:=br.put4 (.bool false) (.slice none 0 0) (.slice none 0 0) (.slice none 0 0)
     refine dec_back w.heap.size _ HRES rfl rfl rfl rfl ?_
     exact Told.fail ((((HB.out.hE.setNew (by omega) _ _).setNew (by omega) _ _).setNew (by omega) _ _).setNew (by omega) _ _) hdn
   ·have hg0:gk = 0:=by have:=HK0.out;omega
    subst hg0
    have hke:k = cnt:=by omega
    subst hke
    have hdd:=hd.out
    simp only [decLoop] at hdd
    rw [← hdd] at HD
    clear hdd
    cases hbad:r.bad
    ·rw [hbad] at z1
     simp only [hbad] at HD
     clear hbad
     by_cases hs0:r.s = []
     ·simp only [hs0] at HD z0
      clear hs0
      by_cases hk2:kd = 2
      ·subst hk2
       have hc2:=own_cap HB.out.o2
       have hc3:=own_cap HB.out.o3
       have hn:NodeAt wr (Lo (w.heap.size + 3)) none 0 A2 c2 A3 c3 ⟨false,[],ks,ids⟩:=⟨Rd.nil_ _,Rd.own_lo HB.out.o2 (by omega),Rd.own_lo HB.out.o3 (by omega),by simp,hc2,hc3,by simp,by simp only;omega,by simp only;omega,fun _=>rfl,own_nilcap HB.out.o2,own_nilcap HB.out.o3⟩
       have hf:(⟨false,[],ks,ids⟩:Nd).fits:=⟨by simp,HFK.out,HFI.out⟩
       have HC:=Lib.hid (fun w' hn=>check_any ⟨false,[],ks,ids⟩ w' (Lo (w.heap.size + 3)) none 0 A2 c2 A3 c3 hn hf)
       simp only [Nd.value] at HC
       go_wp2_with fail
       refine (HC.out _ hn).mono ?_
       rintro e w5 ⟨rfl,hx5⟩
       have bn5:=bn.ext hx5 (fun h=>h)
       have br5:=br.ext hx5 (fun h=>h)
       obtain ⟨p0,p1,p2,p3,g0,g1,g2,g3,ln⟩:=bn5.p4
       obtain ⟨x0,x1,x2,x3,y0,y1,y2,y3,lr⟩:=br5.p4
       cases hok:(⟨false,[],ks,ids⟩:Nd).ok
       ·have hdn:D = none:=by rw [HD.out];simp [hok]
        simp only [Nd.chk_bad hok]
        clear HD HC
        go_wp2_with fail
        have HRES:=br5.put4 (.bool false) (.slice none 0 0) (.slice none 0 0) (.slice none 0 0)
        refine dec_back w.heap.size _ HRES rfl rfl rfl rfl ?_
        exact Told.fail (((((HB.out.hE.trans_ hx5).setNew (by omega) _ _).setNew (by omega) _ _).setNew (by omega) _ _).setNew (by omega) _ _) hdn
       ·have hdn:D = some ⟨false,[],ks,ids⟩:=by rw [HD.out];simp [hok]
        simp only [Nd.chk_ok hok]
        clear HD HC
        go_wp2_with fail
        have HRES:=br5.put4 (.bool false) (.slice none 0 0) (.slice A2 ks.length c2) (.slice A3 ids.length c3)
        refine dec_back w.heap.size _ HRES rfl rfl rfl rfl ?_
        refine ⟨((((HB.out.hE.trans_ hx5).setNew (by omega) _ _).setNew (by omega) _ _).setNew (by omega) _ _).setNew (by omega) _ _,?_⟩
        rw [hdn]
        have hin:Lo (w.heap.size + 3) w.heap.size:=by unfold Lo;omega
        have hz:Ext (Lo (w.heap.size + 3)) wr ((((w5.setCell ⟨w.heap.size,0,none⟩ (.bool false)).setCell ⟨w.heap.size,1,none⟩ (.slice none 0 0)).setCell ⟨w.heap.size,2,none⟩ (.slice A2 ks.length c2)).setCell ⟨w.heap.size,3,none⟩ (.slice A3 ids.length c3)):=(((hx5.of_no.setF hin _ _).setF hin _ _).setF hin _ _).setF hin _ _
        exact ⟨none,0,A2,c2,A3,c3,rfl,(hn.ext hz).mono (fun b _ hb=>by unfold Old at hb;unfold Lo;omega)⟩
      ·have hdn:D = none:=by
        rw [HD.out]
        simp [hk2]
       have hk2':((kd:Int) == 2) = false:=by simp;omega
       clear HD
       go_wp2_with fail
       have HRES:=br.put4 (.bool false) (.slice none 0 0) (.slice none 0 0) (.slice none 0 0)
       refine dec_back w.heap.size _ HRES rfl rfl rfl rfl ?_
       exact Told.fail ((((HB.out.hE.setNew (by omega) _ _).setNew (by omega) _ _).setNew (by omega) _ _).setNew (by omega) _ _) hdn
     ·have hdn:D = none:=by
       rw [HD.out]
       simp [hs0]
      clear HD
      have hne:=str_ne_nil hs0
      go_wp2_with fail
      have HRES:=br.put4 (.bool false) (.slice none 0 0) (.slice none 0 0) (.slice none 0 0)
      refine dec_back w.heap.size _ HRES rfl rfl rfl rfl ?_
      exact Told.fail ((((HB.out.hE.setNew (by omega) _ _).setNew (by omega) _ _).setNew (by omega) _ _).setNew (by omega) _ _) hdn
    ·have hdn:D = none:=by
      rw [HD.out]
      simp [hbad]
     rw [hbad] at z1
     clear HD hbad
     go_wp2_with fail
     have HRES:=br.put4 (.bool false) (.slice none 0 0) (.slice none 0 0) (.slice none 0 0)
     refine dec_back w.heap.size _ HRES rfl rfl rfl rfl ?_
     exact Told.fail ((((HB.out.hE.setNew (by omega) _ _).setNew (by omega) _ _).setNew (by omega) _ _).setNew (by omega) _ _) hdn
theorem decode_any (s:Bs) (w:World) (hs:s.length < 1000000):Calls Tryz.prog 48 #[.string (str s)] w (Told w (dec s)):=by
 by_cases hl:s.length ≤ 500
 ·by_cases hk:(⟨s,false⟩:Rst).byte.1 = 1
  ·exact dec_leaf s w hl hk
  ·exact dec_branch s w hl hk
 ·have hd:dec s = none:=by simp [dec];omega
  have hsz:=str_size s
  have hl':(500:Int) < s.length:=by omega
  rw [hd]
  clear hd hl
  go_enter Tryz.func48,Tryz.ntmps48
  go_wp2_with fail
  have br:=(Blk.new w 40 #[.bool false,.slice none 0 0,.slice none 0 0,.slice none 0 0])
  refine dec_back w.heap.size _ br rfl rfl rfl rfl ?_
  exact Told.fail ((Ext.refl No w).alloc _) rfl
def Nd.out (n:Nd):Bs × Nat:=if n.ok = false then ([],2) else if 500 < n.size then ([],3) else (n.enc,0)
theorem encode_any (n:Nd) (w:World) (F:Nat → Prop) (A1:Option Addr) (c1:Nat) (A2:Option Addr) (c2:Nat) (A3:Option Addr) (c3:Nat) (hn:NodeAt w F A1 c1 A2 c2 A3 c3 n) (hf:n.fits) :
  Calls Tryz.prog 180 #[n.value A1 c1 A2 c2 A3 c3] w fun e w'=>e = .returned (.tuple #[.string (str n.out.1),.int .i64 n.out.2]) ∧ Ext No w w':=by
 unfold Nd.out
 cases hok:n.ok
 ·simpa using enc_bad n w F A1 c1 A2 c2 A3 c3 hn hf hok
 ·by_cases hl:500 < n.size
  ·simpa [hl] using enc_long n w F A1 c1 A2 c2 A3 c3 hn hf hok hl
  ·cases hlf:n.leaf
   ·simpa [hl] using enc_branch n w F A1 c1 A2 c2 A3 c3 hn hok (by omega) hlf
   ·simpa [hl] using enc_leaf n w F A1 c1 A2 c2 A3 c3 hn hok (by omega) hlf
theorem take_app (a b:Bs) (n:Nat) (h:a.length = n):(⟨a ++ b,false⟩:Rst).take n = (a,⟨b,false⟩):=by
 unfold Rst.take
 rw [if_neg (by simp;omega)]
 subst h
 simp
theorem byte_app (x:UInt8) (b:Bs):(⟨x :: b,false⟩:Rst).byte = (x.toNat,⟨b,false⟩):=by
 unfold Rst.byte
 have:=take_app [x] b 1 rfl
 simp only [List.singleton_append] at this
 rw [this];rfl
theorem text_app (s b:Bs) (h:s.length < 256):(⟨txt s ++ b,false⟩:Rst).text = (s,⟨b,false⟩):=by
 unfold Rst.text txt
 simp only [List.cons_append]
 rw [byte_app]
 have:(UInt8.ofNat s.length).toNat = s.length:=by simp;omega
 simp only [this]
 exact take_app s b _ rfl
theorem four_app (n:Nat) (b:Bs) (h:n < 4294967296):(⟨n4 n ++ b,false⟩:Rst).four = (n,⟨b,false⟩):=by
 unfold Rst.four
 rw [take_app (n4 n) b 4 rfl]
 have:=v4_n4 n h []
 simp only [List.append_nil] at this
 rw [this]
theorem cell_app (c:Cell) (b:Bs) (h:c.ok = true):(⟨c.enc ++ b,false⟩:Rst).cell = (c,⟨b,false⟩):=by
 have hb:=Cell.ok_bounds h
 unfold Cell.enc Rst.cell
 by_cases ho:0 < c.over
 ·rw [if_pos ho]
  simp only [List.append_assoc,List.cons_append]
  rw [text_app _ _ (by omega)]
  simp only [byte_app]
  rw [if_neg (by decide),if_pos (by decide),four_app _ _ (by omega)]
  simp only
  rw [four_app _ _ (by omega)]
  have hv:c.val = []:=by
   unfold Cell.ok at h
   rw [if_neg (by omega)] at h
   simp only [Bool.and_eq_true] at h
   simpa using h.2
  have:decide (c.over = 0) = false:=by simp;omega
  simp only [this,Bool.or_self,← hv]
 ·rw [if_neg ho]
  simp only [List.append_assoc,List.cons_append]
  rw [text_app _ _ (by omega)]
  simp only [byte_app]
  rw [if_pos (by decide),text_app _ _ (by omega)]
  have h0:c.over = 0:=by omega
  have hl:c.len = 0:=by
   unfold Cell.ok at h
   rw [if_pos h0] at h
   simp only [Bool.and_eq_true,decide_eq_true_eq] at h
   exact h.1.2
  simp only [← h0]
  cases c;simp at h0 hl;simp [h0,hl]
theorem loop_cells (cs:List Cell):∀ (cs0:List Cell) (b:Bs),(∀ c ∈ cs,c.ok = true) → decLoop cs.length ⟨true,cs0,[],[]⟩ ⟨encCells cs ++ b,false⟩ = (⟨true,cs0 ++ cs,[],[]⟩,⟨b,false⟩):=by
 induction cs with
 | nil=>intro cs0 b _;simp [decLoop,encCells]
 | cons c cs ih =>
  intro cs0 b h
  have h1:=h c (by simp)
  simp only [List.length_cons,decLoop,Bool.false_eq_true,if_false]
  have e:encCells (c :: cs) ++ b = c.enc ++ (encCells cs ++ b):=by simp [encCells]
  rw [e]
  have e1:Nd.one ⟨true,cs0,[],[]⟩ ⟨c.enc ++ (encCells cs ++ b),false⟩ = (⟨true,cs0 ++ [c],[],[]⟩,⟨encCells cs ++ b,false⟩):=by
   unfold Nd.one
   rw [cell_app c _ h1]
   rfl
  rw [e1,ih _ _ (fun d hd=>h d (by simp [hd]))]
  simp
theorem loop_keys (ks:List Bs):∀ (is:List Nat) (ks0:List Bs) (is0:List Nat) (b:Bs),is.length = ks.length → (∀ k ∈ ks,k.length < 256) → (∀ i ∈ is,i < 4294967296) →
  decLoop ks.length ⟨false,[],ks0,is0⟩ ⟨encKeys ks is ++ b,false⟩ = (⟨false,[],ks0 ++ ks,is0 ++ is⟩,⟨b,false⟩):=by
 induction ks with
 | nil =>
      intro is ks0 is0 b hl _ _;have:is = []:=by simpa using hl
      subst this;simp [decLoop,encKeys]
 | cons k ks ih =>
  intro is ks0 is0 b hl hk hi
  match is,hl with
  | i :: is,hl =>
   have h1:=hk k (by simp)
   have h2:=hi i (by simp)
   simp only [List.length_cons,decLoop,Bool.false_eq_true,if_false]
   have e:encKeys (k :: ks) (i :: is) ++ b = txt k ++ (n4 i ++ (encKeys ks is ++ b)):=by simp [encKeys]
   rw [e]
   have e1:Nd.one ⟨false,[],ks0,is0⟩ ⟨txt k ++ (n4 i ++ (encKeys ks is ++ b)),false⟩ = (⟨false,[],ks0 ++ [k],is0 ++ [i]⟩,⟨encKeys ks is ++ b,false⟩):=by
    unfold Nd.one
    rw [text_app k _ h1]
    simp only
    rw [four_app i _ h2]
    rfl
   rw [e1,ih _ _ _ _ (by simpa using hl) (fun d hd=>hk d (by simp [hd])) (fun d hd=>hi d (by simp [hd]))]
   simp
theorem dec_enc (n:Nd) (hok:n.ok = true) (hl:n.enc.length ≤ 500):dec n.enc = some n:=by
 have hO:=Nd.Ok.of hok
 cases hlf:n.leaf
 ·obtain ⟨h1,h2⟩:=hO.br hlf
  obtain ⟨lf,cs,ks,is⟩:=n
  simp only at hlf h1 h2
  subst hlf;subst h1
  match is,h2 with
  | i0 :: is,h2 =>
   have hi0:=hO.fits.i i0 (by simp)
   have hks:ks.length < 256:=by have:=hO.a2;simp only at this;omega
   have hb:∀ k ∈ ks,k.length < 256:=fun k hk=>by have:=keyOk_len (hO.k k hk);omega
   have hkt:(UInt8.ofNat ks.length).toNat = ks.length:=by simp;omega
   have e:(⟨false,[],ks,i0 :: is⟩:Nd).enc = 2 :: UInt8.ofNat ks.length :: (n4 i0 ++ (encKeys ks is ++ [])):=by simp [Nd.enc]
   rw [e] at hl ⊢
   have e1:(⟨2 :: UInt8.ofNat ks.length :: (n4 i0 ++ (encKeys ks is ++ [])),false⟩:Rst).byte = (2,⟨UInt8.ofNat ks.length :: (n4 i0 ++ (encKeys ks is ++ [])),false⟩):=byte_app _ _
   have e2:(⟨UInt8.ofNat ks.length :: (n4 i0 ++ (encKeys ks is ++ [])),false⟩:Rst).byte = (ks.length,⟨n4 i0 ++ (encKeys ks is ++ []),false⟩):=by rw [byte_app,hkt]
   have e3:=four_app i0 (encKeys ks is ++ []) hi0
   have e4:(⟨2 :: UInt8.ofNat ks.length :: (n4 i0 ++ (encKeys ks is ++ [])),false⟩:Rst).loop = (⟨false,[],ks,i0 :: is⟩,⟨[],false⟩):=by
    unfold Rst.loop Rst.head
    simp only [e1,e2,e3]
    rw [if_neg (by decide)]
    rw [loop_keys ks is [] [i0] [] (by simp at h2;omega) hb (fun i hi=>hO.fits.i i (by simp [hi]))]
    simp
   unfold dec
   rw [if_neg (by omega)]
   simp only [e4,e1]
   simp [hok]
 ·obtain ⟨h1,h2⟩:=hO.lf hlf
  obtain ⟨lf,cs,ks,is⟩:=n
  simp only at hlf h1 h2
  subst hlf;subst h1;subst h2
  have hcs:cs.length < 256:=by have:=hO.a1;simp only at this;omega
  have hkt:(UInt8.ofNat cs.length).toNat = cs.length:=by simp;omega
  have e:(⟨true,cs,[],[]⟩:Nd).enc = 1 :: UInt8.ofNat cs.length :: (encCells cs ++ []):=by simp [Nd.enc]
  rw [e] at hl ⊢
  have e1:(⟨1 :: UInt8.ofNat cs.length :: (encCells cs ++ []),false⟩:Rst).byte = (1,⟨UInt8.ofNat cs.length :: (encCells cs ++ []),false⟩):=byte_app _ _
  have e2:(⟨UInt8.ofNat cs.length :: (encCells cs ++ []),false⟩:Rst).byte = (cs.length,⟨encCells cs ++ [],false⟩):=by rw [byte_app,hkt]
  have e4:(⟨1 :: UInt8.ofNat cs.length :: (encCells cs ++ []),false⟩:Rst).loop = (⟨true,cs,[],[]⟩,⟨[],false⟩):=by
   unfold Rst.loop Rst.head
   simp only [e1,e2]
   simp only [if_true]
   rw [loop_cells cs [] [] hO.c]
   simp
  unfold dec
  rw [if_neg (by omega)]
  simp only [e4,e1]
  simp [hok]
structure NewDb (w:World) (kb d l x n log:Nat) (o:Option Addr):Prop where
 kept:Blk w kb 142 (madeCells zero64 (n * 64))
 disk:Blk w d 140 (diskCells kb n)
 wal:Blk w l 179 (logCells d log)
 db:Blk w x 131 (dbCells d l log 1 o)
theorem db_open (d kb n log:Nat) (w:World) (h:Blk w d 140 (diskCells kb n)) (hk:Blk w kb 142 (madeCells zero64 (n * 64))) (hn:n ≤ 65536) (hl:2 ≤ log) (hln:log + 32 ≤ n) :
  Calls Tryz.prog 43 #[.pointer (some ⟨d,0,none⟩),.int .i64 (log:Int)] w fun e w'=>∃ l x,e = .returned (.tuple #[.pointer (some ⟨x,0,none⟩),.int .i64 0]) ∧ NewDb w' kb d l x n log none ∧ Ext No w w' ∧ w.heap.size ≤ x ∧ w.heap.size ≤ l:=by
 have HD:=Lib.hid h;have HK:=Lib.hid hk
 have HW:=Lib.hid (wal_new d kb n log hl (by omega) hn w h hk)
 have g1:¬ ((((n - log) / 8:Nat):Int) < 4):=by omega
 generalize hcn:(n - log) / 8 = cn at g1
 have HCN:=Lib.hid hcn
 clear h hk hcn
 go_enter Tryz.func43,Tryz.ntmps43
 go_wp2_with fail
 refine (HW.out).mono ?_
 rintro e w1 ⟨rfl,hb1,hx1⟩
 have HB1:=Lib.hid hb1
 have HX1:=Lib.hid hx1
 have hx2:Ext No w1 (w1.alloc (.cells (dbCells d w.heap.size log 0 none) 131)):=(Ext.refl No w1).alloc _
 have hb2:=Blk.new w1 131 (dbCells d w.heap.size log 0 none)
 have hl2:=hb1.ext hx2 (fun h=>h)
 have hd2:=(HD.out.ext hx1 (fun h=>h)).ext hx2 (fun h=>h)
 have hk2:=(HK.out.ext hx1 (fun h=>h)).ext hx2 (fun h=>h)
 have HC:=Lib.hid (db_count w1.heap.size d kb n log _ (hb2.cell 0) (hb2.cell 2) hd2 (by omega) hn (by omega))
 rw [HCN.out] at HC
 have HB2:=Lib.hid hb2;have HL2:=Lib.hid hl2;have HD2:=Lib.hid hd2;have HK2:=Lib.hid hk2;have HX2:=Lib.hid hx2
 clear hb1 hx1 hx2 hb2 hl2 hd2 hk2
 go_wp2_with fail
 refine (HC.out).mono ?_
 rintro e w3 ⟨rfl,k,hw3⟩
 have hx3:Ext No (w1.alloc (.cells (dbCells d w.heap.size log 0 none) 131)) w3:=by rw [hw3];exact (Ext.refl No _).drewN k
 have HX3:=Lib.hid hx3
 have HR:=Lib.hid (log_records w.heap.size d log w3 (HL2.out.ext hx3 (fun h=>h)))
 clear hw3 hx3
 go_wp2_with fail
 refine (HR.out).mono ?_
 rintro e w4 ⟨rfl,hx4⟩
 have HX4:=Lib.hid ((HX2.out.trans_ HX3.out).trans_ hx4)
 have hb4:=HB2.out.ext (HX3.out.trans_ hx4) (fun h=>h)
 have HB4:=Lib.hid hb4
 have hl4:=Lib.hid (HL2.out.ext (HX3.out.trans_ hx4) (fun h=>h))
 have hd4:=Lib.hid (HD2.out.ext (HX3.out.trans_ hx4) (fun h=>h))
 have hk4:=Lib.hid (HK2.out.ext (HX3.out.trans_ hx4) (fun h=>h))
 clear hx4 hb4
 go_wp2_with fail
 go_loopg [38] 0 (fun gk k wr=>k = .int .i64 0 ∧ w4 = wr)
 case atStart=>exact ⟨rfl,rfl⟩
 case round =>
  obtain ⟨rfl,rfl⟩:=hrel
  have HS:=Lib.hid (db_settle w1.heap.size d w.heap.size log log 0 none w4 hl4.out HB4.out)
  go_wp2_with fail
  refine (HS.out).mono ?_
  rintro e w5 ⟨rfl,hx5⟩
  have HX5:=Lib.hid hx5
  have hb5:=HB4.out.ext hx5 (fun h=>h)
  have HB5:=Lib.hid hb5
  have HI:=Lib.hid (image_zero w1.heap.size d kb n log 0 w5 (hb5.cell 0) (hb5.cell 2) (hd4.out.ext hx5 (fun h=>h)) (hk4.out.ext hx5 (fun h=>h)) hn (by omega))
  clear hx5 hb5
  go_wp2_with fail
  refine (HI.out).mono ?_
  rintro e w6 ⟨rfl,hx6⟩
  have HX6:=Lib.hid hx6
  have HBL:=Lib.hid (fun w=>blank_zs w)
  clear hx6
  obtain ⟨z,hz⟩:∃ z,z = str (zs 512):=⟨_,rfl⟩
  rw [← hz] at HBL ⊢
  clear hz
  go_wp2_with fail
  refine (HBL.out _).mono ?_
  rintro e w7 ⟨rfl,hx7⟩
  have hx57:=(HX5.out.trans_ HX6.out).trans_ hx7
  have hb7:=HB4.out.ext hx57 (fun h=>h)
  have f7:=hb7.frozen 7
  have c7:=hb7.cell 7
  simp [dbCells] at c7
  have l7:=hb7.lt
  have hne1:d ≠ w1.heap.size:=by have:=HD.out.lt;have:=HX1.out.size;omega
  have hne2:kb ≠ w1.heap.size:=by have:=HK.out.lt;have:=HX1.out.size;omega
  have hne3:w.heap.size ≠ w1.heap.size:=by have:=HB1.out.lt;omega
  have HB7:=Lib.hid hb7;have HX7:=Lib.hid hx57
  clear hb7 hx57 hx7
  go_wp2_with fail
  go_ret2
  refine ⟨w.heap.size,w1.heap.size,rfl,⟨?_,?_,?_,?_⟩,?_,HX1.out.size,Nat.le_refl _⟩
  ·exact (hk4.out.ext HX7.out (fun h=>h)).far hne2 _
  ·exact (hd4.out.ext HX7.out (fun h=>h)).far hne1 _
  ·exact (hl4.out.ext HX7.out (fun h=>h)).far hne3 _
  ·exact HB7.out.set_ 7 (.int .i64 1)
  ·exact ((HX1.out.trans_ HX4.out).trans_ HX7.out).setNew HX1.out.size _ _
end Go.Proofs.YtccnemmlkcmceaaGreatDoor
