/- Proofs about the given program, joined out of the texts PK, DK4, PG1, PG3, PX, PB2, N2, MK, BG1, E8, R2, C0, C5, LB, CB. -/
import Derived.Test.YtccnemmlkcmceaaGreatDoorHE34
import Derived.Test.YtccnemmlkcmceaaGreatDoorHEA7
set_option linter.unusedVariables false
set_option linter.unusedSimpArgs false
set_option maxRecDepth 100000
set_option maxHeartbeats 6400000
namespace Go.Proofs.YtccnemmlkcmceaaGreatDoor
open Go.RowKit
theorem pages_lookup {l:List (Nat × Bs)} (hn:(l.map (·.1)).Nodup) (f:Nat → Bs) (i:Nat):pages l f i = (l.lookup i).getD (f i):=by
 unfold pages
 induction l generalizing f with
 | nil=>rfl
 | cons p l ih =>
  obtain ⟨a,b⟩:=p
  have h:=List.nodup_cons.1 hn
  rw [List.foldl_cons,List.lookup_cons]
  by_cases hi:a = i
  ·subst hi
   have hno:∀ q ∈ l,q.1 ≠ a:=fun q hq e=>h.1 (List.mem_map.2 ⟨q,hq,e⟩)
   simp only [if_true,beq_self_eq_true,Option.getD_some]
   have:∀ (l:List (Nat × Bs)) (b:Bs),(∀ q ∈ l,q.1 ≠ a) → l.foldl (fun b p=>if p.1 = a then p.2 else b) b = b:=by
    intro l
    induction l with
    | nil=>intro b _;rfl
    | cons q l ih =>
     intro b h
     rw [List.foldl_cons,if_neg (h q (by simp))]
     exact ih b (fun r hr=>h r (by simp [hr]))
   exact this l b hno
  ·have hb:(i == a) = false:=by simpa using fun e=>hi e.symm
   simp only [if_neg hi,hb]
   exact ih h.2 f
theorem conv_sector {w:World} {g o:Nat} {b:Bs} (hb:b.length = 64) (h:∀ x,x < 64 → w.cell? ⟨g,o + x,none⟩ = some (.int .u8 ((b.getD x 0).toNat:Int))):(convert 98 9 (.slice (some ⟨g,o,none⟩) 64 64)).run Tryz.prog w = .ok (.string (str b)) w:=by
 have h1:=run_convert_bytes_back (P:=Tryz.prog) w 98 9 5 ⟨g,o,none⟩ 64 b Tryz.underlying98 Tryz.underlying5 Tryz.underlying9 (fun j hj=>by
  rw [Addr.add_none,h j (by omega)]
  simp [hj])
 rw [hb] at h1
 exact h1
theorem dk_read {w:World} {D:Nat → Prop} {d kb:Nat} {k:Dk} (h:DiskAt w D d kb k) (i:Nat) (hi:i < k.n) (hpd:k.pd.length < 2^30) (hd:k.down = false) :
  Calls Tryz.prog 119 #[.pointer (some ⟨d,0,none⟩),.int .i64 (i:Int)] w fun e w'=>e = .returned (.tuple #[.string (str (k.cur i)),.int .i64 0]) ∧ Ext No w w':=by
 have HU:=Lib.hid (dk_up h)
 rw [hd] at HU
 have HI:=Lib.hid (dk_is h i hi)
 have HH:=Lib.hid h
 obtain ⟨C,hC⟩:∃ C,C = k.cur i:=⟨_,rfl⟩
 rw [← hC]
 have HC:=Lib.hid hC
 obtain ⟨A0,c0',_,c0,c1,_,_,_,_,hlt,_⟩:=h.c
 have hpb:(k.pd.length:Int) < 1073741824:=by omega
 have h1:(0:Int) ≤ i:=by omega
 have h2:(i:Int) < k.n:=by omega
 clear h hC hd
 go_enter Tryz.func119,Tryz.ntmps119
 go_wp2_with fail
 refine (HU.out).mono ?_
 rintro e w1 ⟨rfl,rfl⟩
 go_wp2_with fail
 refine (HI.out).mono ?_
 rintro e w1 ⟨rfl,rfl⟩
 go_wp2_with fail
 go_loopg [7] k.pd.length (fun gk q7 wr=>gk ≤ k.pd.length ∧ q7 = .int .i64 ((gk:Int) - 1) ∧ Hid (C = (k.pd.take gk).foldl (fun b p=>if p.1 = i then p.2 else b) (k.K i)) ∧ Hid (Ext No w wr))
 case atStart=>exact ⟨Nat.le_refl _,rfl,Lib.hid (by rw [List.take_length];exact HC.out),Lib.hid (Ext.refl No w)⟩
 case round =>
  obtain ⟨hk,rfl,hL,hX⟩:=hrel
  have HK:=Lib.hid hk
  by_cases h0:gk = 0
  ·subst h0
   have HD:=Lib.hid (HH.out.ext hX.out (fun _ _ h=>h))
   obtain ⟨_,_,_,x0,_,_,_,_,_,xlt,_⟩:=HD.out.c
   obtain ⟨cs,y0,y1,y2⟩:=HD.out.kept
   have hcv:=conv_sector (w:=wr) (g:=kb) (o:=i * 64) (HD.out.klen i hi) (fun x hx=>by rw [y0.cell];exact y2 i hi x hx)
   clear hk y0 y1 y2 c0 c1
   go_wp2_with fail
   go_ret2
   refine ⟨?_,hX.out⟩
   rw [hL.out];rfl
  ·obtain ⟨j,rfl⟩:∃ j,gk = j + 1:=⟨gk - 1,by omega⟩
   obtain ⟨p,hp⟩:∃ p,k.pd[j]? = some p:=⟨_,List.getElem?_eq_getElem (by omega)⟩
   have HD:=Lib.hid (HH.out.ext hX.out (fun _ _ h=>h))
   obtain ⟨g,c,x1,x2,x3,x4⟩:=load_pend HD.out hp
   have hpl:=(HD.out.plen p (List.mem_of_getElem? hp)).2
   have HX3:=Lib.hid x3
   have HPL:=Lib.hid hpl
   have hst:=run_store_box wr (i:=p.1) hpl
   have hB:=Blk.new wr 144 (wrVals p.1 p.2).toArray
   have hcv:=conv_sector (w:=wr.alloc (.cells (wrVals p.1 p.2).toArray 144)) (g:=wr.heap.size) (o:=1) hpl (fun x hx=>by
    rw [hB.cell,Nat.add_comm]
    simp [wrVals,bcs,List.getElem?_eq_getElem (show x < p.2.length by omega)])
   have hb0:(wr.alloc (.cells (wrVals p.1 p.2).toArray 144)).cell? ⟨wr.heap.size,0,none⟩ = some (.int .i64 (p.1:Int)):=hB.cell 0
   have HXW:=Lib.hid (hX.out.alloc (.cells (wrVals p.1 p.2).toArray 144))
   have xlt:=HD.out.old d HD.out.dd
   have hj1:(0:Int) ≤ j:=by omega
   have hj2:(j:Int) < k.pd.length:=by omega
   clear hk c0 c1 hB x3
   have ej:(((j + 1:Nat):Int) - 1) = (j:Int):=by omega
   rw [ej]
   go_upto_region 9 with fail
   refine wp_region_lit ?_
   iterate 6 (refine wpList_step (fun K hK=>?_);go_simp;refine hK _ _ ?_;clear hK K)
   refine wpList_load_mid (P:=Tryz.prog) (by rfl) 144 (.tmp 33) (by rfl) g (j * 65) (by rfl) (wrVals p.1 p.2) _ HX3.out Tryz.underlying144 rfl (by rw [wrVals_len HPL.out];kernel_rfl) ?_
   refine wpList_step (fun K hK=>?_);go_simp;refine hK _ _ ?_;clear hK K
   have hwl:=wrVals_len (i:=p.1) hpl
   refine wpList_step (fun K hK=>?_);go_simp;refine hK _ _ ?_;clear hK K hst hwl
   generalize wr.alloc (.cells (wrVals p.1 p.2).toArray 144) = W1 at hb0 hcv HXW ⊢
   generalize wrVals p.1 p.2 = WV
   by_cases hpi:p.1 = i
   ·have hpi':(p.1:Int) = (i:Int):=by omega
    have HPI:=Lib.hid hpi
    clear x1 x2 x4 hpl hj1 hj2 hpi
    go_wp2_with fail
    go_ret2
    refine ⟨?_,HXW.out⟩
    rw [hL.out,List.take_add_one,hp,Option.toList_some,cur_snoc,if_pos HPI.out];rfl
   ·have hpi':((p.1:Int) == (i:Int)) = false:=by simp;omega
    have HPI:=Lib.hid hpi
    clear hcv x1 x2 x4 hpl hpi
    clear ej
    go_wp2_with fail
    go_roundg j
    case rel =>
     refine ⟨by have:=HK.out;omega,by go_num,Lib.hid ?_,HXW⟩
     rw [hL.out,List.take_add_one,hp,Option.toList_some,cur_snoc,if_neg HPI.out]
    case measure=>omega
theorem or4u (b0 b1 b2 b3:Nat) (h0:b0 < 256) (h1:b1 < 256) (h2:b2 < 256) (h3:b3 < 256) :
  bits .or .u32 (bits .or .u32 (bits .or .u32 (IntKind.u32.wrap (b0:Int)) (IntKind.u32.wrap (IntKind.u32.wrap (b1:Int) * 256))) (IntKind.u32.wrap (IntKind.u32.wrap (b2:Int) * 65536))) (IntKind.u32.wrap (IntKind.u32.wrap (b3:Int) * 16777216)) =
   ((b0 + 256 * b1 + 65536 * b2 + 16777216 * b3:Nat):Int):=by
 have e1:((b1:Int) * 256) = ((b1 * 2 ^ 8:Nat):Int):=by omega
 have e2:((b2:Int) * 65536) = ((b2 * 2 ^ 16:Nat):Int):=by omega
 have e3:((b3:Int) * 16777216) = ((b3 * 2 ^ 24:Nat):Int):=by omega
 rw [wrap_small32 b0 (by omega),wrap_small32 b1 (by omega),wrap_small32 b2 (by omega),wrap_small32 b3 (by omega),e1,e2,e3,wrap_small32 _ (by omega),wrap_small32 _ (by omega),wrap_small32 _ (by omega),
  u32_or_nat _ _ (by omega) (by omega),or_add _ _ 8 (by omega),u32_or_nat _ _ (by omega) (by omega),or_add _ _ 16 (by omega),u32_or_nat _ _ (by omega) (by omega),or_add _ _ 24 (by omega)]
 omega
theorem get4_any (s:ByteArray) (hn:4 ≤ s.size) (w:World) :
  Calls Tryz.prog 127 #[.string s] w fun e w'=>e = .returned (.int .u32 (v4 s:Int)) ∧ ∃ k,w' = w.drewN k:=by
 have i0:∀ w,(Instr.index 9 (.string s) (.int .i64 0)).run Tryz.prog w = .ok (.int .u8 (bt s 0:Int)) w:=fun w=>idx9 s 0 (by omega) w
 have i1:∀ w,(Instr.index 9 (.string s) (.int .i64 1)).run Tryz.prog w = .ok (.int .u8 (bt s 1:Int)) w:=fun w=>idx9 s 1 (by omega) w
 have i2:∀ w,(Instr.index 9 (.string s) (.int .i64 2)).run Tryz.prog w = .ok (.int .u8 (bt s 2:Int)) w:=fun w=>idx9 s 2 (by omega) w
 have i3:∀ w,(Instr.index 9 (.string s) (.int .i64 3)).run Tryz.prog w = .ok (.int .u8 (bt s 3:Int)) w:=fun w=>idx9 s 3 (by omega) w
 have hor:=Lib.hid (or4u (bt s 0) (bt s 1) (bt s 2) (bt s 3) (bt_lt s 0) (bt_lt s 1) (bt_lt s 2) (bt_lt s 3))
 go_enter Tryz.func127,Tryz.ntmps127
 go_wp2_with fail
 go_quiet (fail)
 go_wp2_with fail
 go_ret
 trace_state
 exact ⟨ret_int (by exact hor.out),_,rfl⟩
end Go.Proofs.YtccnemmlkcmceaaGreatDoor
namespace Go.Proofs.YtccnemmlkcmceaaGreatDoor
open Go.RowKit Go.BigFrame
theorem bytesIn {W W':World} {S:Bs} (h:Ext No (Lib.bytesWorld W 5 (str S)) W'):Rd W' No 1 (some ⟨W.heap.size,0,none⟩) S.length (bcs S) :=
 ⟨by rw [bcs_len];omega,fun _=>⟨W.heap.size,0,rfl,fun h=>h,fun j u hu=>by
  have hj:=(List.getElem?_eq_some_iff.1 hu).1
  rw [bcs_len] at hj
  have:=Lib.bytesWorld_cell W 5 (str S) j (by rw [str_size];exact hj)
  rw [Nat.zero_add]
  refine cell_ext h ?_ (fun h=>h)
  rw [this,← hu]
  simp [bcs,hj,str]⟩⟩
theorem or2 (b0 b1:Nat) (h0:b0 < 256) (h1:b1 < 256):bits .or .i64 (IntKind.i64.wrap (b0:Int)) (IntKind.i64.wrap (IntKind.i64.wrap (b1:Int) * 256)) = ((b0 + 256 * b1:Nat):Int):=by
 have e1:((b1:Int) * 256) = ((b1 * 2 ^ 8:Nat):Int):=by omega
 rw [wrap_small b0 (by omega),wrap_small b1 (by omega),e1,wrap_small _ (by omega),i64_or_nat _ _ (by omega) (by omega),or_add _ _ 8 (by omega)]
 omega
theorem bt_at {C:Bs} {i:Nat} {b:UInt8} (h:C[i]? = some b):bt (str C) i = b.toNat:=by
 unfold bt
 rw [str_toList,List.getD_eq_getElem?_getD,h];rfl
theorem sealed_at (cr:Bs → Nat) (id kind:Nat) (body:Bs):(sealed cr id kind body)[4]? = some (UInt8.ofNat kind) ∧ (sealed cr id kind body)[5]? = some 0 ∧ (sealed cr id kind body)[6]? = some (UInt8.ofNat (body.length % 256)) ∧ (sealed cr id kind body)[7]? = some (UInt8.ofNat (body.length / 256)):=⟨rfl,rfl,rfl,rfl⟩
theorem sealed_body {cr:Bs → Nat} {id kind:Nat} {body:Bs} (hb:body.length ≤ 500):(str (sealed cr id kind body)).extract 8 (8 + body.length) = str body ∧ (str (sealed cr id kind body)).extract (8 + body.length) 508 = str (zs (500 - body.length)):=by
 have h1:∀ (l:Bs) (a b:Nat),(str l).extract a b = str ((l.take b).drop a):=fun l a b=>by
  simp [str,ByteArray.extract,ByteArray.copySlice,List.drop_take]
 have e:sealed cr id kind body = (n4 id ++ [UInt8.ofNat kind,0,UInt8.ofNat (body.length % 256),UInt8.ofNat (body.length / 256)]) ++ (body ++ (zs (500 - body.length) ++ n4 (cr (seal0 id kind body)))):=by
  unfold sealed seal0
  simp only [List.append_assoc]
 have hl:(n4 id ++ [UInt8.ofNat kind,0,UInt8.ofNat (body.length % 256),UInt8.ofNat (body.length / 256)]).length = 8:=rfl
 generalize n4 id ++ [UInt8.ofNat kind,0,UInt8.ofNat (body.length % 256),UInt8.ofNat (body.length / 256)] = H at *
 rw [h1,h1,e]
 constructor
 ·rw [← hl,List.take_append,List.take_of_length_le (by omega),List.drop_left' rfl,Nat.add_sub_cancel_left,List.take_left' rfl]
 ·rw [← List.append_assoc,← List.append_assoc,List.take_left' (by simp only [List.length_append,zs_len,hl];omega),List.append_assoc,← List.append_assoc,List.drop_left' (by rw [List.length_append,hl])]
theorem popen_any (T:Nat → Nat) (id kind:Nat) (body:Bs) (hid:id < 2147483648) (hk:1 ≤ kind ∧ kind ≤ 255) (hb:body.length ≤ 500) (w:World) (h:Half w T) :
  Calls Tryz.prog 85 #[.int .i64 (id:Int),.string (str (sealed (crc T) id kind body))] w fun e w'=>e = .returned (.tuple #[.int .i64 (kind:Int),.string (str body),.int .i64 0]) ∧ Ext No w w':=by
 have HIS:=Lib.hid (fun w=>pis_any id hid w)
 obtain ⟨S,hS⟩:∃ S,S = seal0 id kind body:=⟨_,rfl⟩
 have hSl:S.length = 508:=by rw [hS];exact seal0_len hb
 obtain ⟨C,hC⟩:∃ C,C = sealed (crc T) id kind body:=⟨_,rfl⟩
 have hCS:C = S ++ n4 (crc T S):=by rw [hC,hS];rfl
 have hCl:C.length = 512:=by rw [hC];exact sealed_len hb
 rw [← hC]
 have HT:=Lib.hid h
 have hcv:=fun w=>Lib.run_convert_string_bytes (P:=Tryz.prog) w 9 98 5 (str S) (u:=.string) Tryz.underlying9 Tryz.underlying98 Tryz.underlying5
 have x1:(str C).extract 0 508 = str S:=by rw [str_take,hCS,List.take_left' hSl]
 have x2:(str C).extract 508 512 = str (n4 (crc T S)):=by
  have:=str_drop C 508
  rw [hCl,hCS,List.drop_left' hSl,← hCS] at this
  exact this
 have hsz:(str C).size = 512:=by rw [str_size,hCl]
 obtain ⟨N,hN⟩:∃ N,N = crc T S:=⟨_,rfl⟩
 rw [← hN] at x2
 have HGET:=Lib.hid (fun w=>get4_any (str (n4 N)) (by rw [str_size,n4_len];omega) w)
 have hv:v4 (str (n4 N)) = N:=by have:=v4_n4 N (by rw [hN];exact crc_lt h.lt S) [];rw [List.append_nil] at this;exact this
 rw [hv] at HGET
 have HSUM:Hid (∀ W W' c,Ext No w W → Ext No (Lib.bytesWorld W 5 (str S)) W' → Calls Tryz.prog 126 #[.slice (some ⟨W.heap.size,0,none⟩) S.length c] W' fun e w''=>e = .returned (.int .u32 (N:Int)) ∧ W' = w''):=Lib.hid (fun W W' c h1 h2=>by
  have hHT:=(HT.out.ext h1 (fun h=>h)).ext ((Ext.of_below (Lib.bytesWorld_below W 5 (str S)) No).trans_ h2) (fun h=>h)
  have:=sum_any T W' hHT (some ⟨W.heap.size,0,none⟩) S c (bytesIn h2) (by omega)
  rw [← hN] at this
  exact this)
 have HS:=Lib.hid hS;have HC:=Lib.hid hC;have HCS:=Lib.hid hCS;have HCL:=Lib.hid hCl;have HSL:=Lib.hid hSl;have HN:=Lib.hid hN;have HID:=Lib.hid hid
 clear h hid hS hSl hC hCS hCl hN hv
 rw [str_size] at hsz
 go_enter Tryz.func85,Tryz.ntmps85
 go_upto_region 3 with fail
 have HE0:Hid (Ext No w w.drew):=Lib.hid ((Ext.refl No w).drew)
 go_region_with (first | (go_at_call 126;refine (HSUM.out w.drew _ _ HE0.out (Ext.refl _ _)).mono ?_;rintro e w5 ⟨rfl,rfl⟩) | (go_at_call 127;refine (HGET.out _).mono ?_;rintro e w6 ⟨rfl,k6,rfl⟩))
 have HX5:Hid (Ext No w ((Lib.bytesWorld w.drew 5 (str S)).drewN k6)):=Lib.hid ((HE0.out.trans_ (Ext.of_below (Lib.bytesWorld_below w.drew 5 (str S)) No)).drewN k6)
 generalize (Lib.bytesWorld w.drew 5 (str S)).drewN k6 = W5 at *
 go_upto_region 5 with fail
 obtain ⟨B6,hB6⟩:∃ B6,B6 = bt (str C) 6:=⟨_,rfl⟩
 obtain ⟨B7,hB7⟩:∃ B7,B7 = bt (str C) 7:=⟨_,rfl⟩
 have i6:∀ w,(Instr.index 9 (.string (str C)) (.int .i64 6)).run Tryz.prog w = .ok (.int .u8 (B6:Int)) w:=fun w=>by rw [hB6];exact idx9 (str C) 6 (by rw [str_size];have:=HCL.out;omega) w
 have i7:∀ w,(Instr.index 9 (.string (str C)) (.int .i64 7)).run Tryz.prog w = .ok (.int .u8 (B7:Int)) w:=fun w=>by rw [hB7];exact idx9 (str C) 7 (by rw [str_size];have:=HCL.out;omega) w
 have HB6:=Lib.hid hB6;have HB7:=Lib.hid hB7
 clear hB6 hB7
 go_quiet (fail)
 go_upto_region 6 with fail
 obtain ⟨q4,q5,q6,q7⟩:=sealed_at (crc T) id kind body
 rw [← HC.out] at q4 q5 q6 q7
 have ho2:bits .or .i64 (IntKind.i64.wrap (B6:Int)) (IntKind.i64.wrap (IntKind.i64.wrap (B7:Int) * 256)) = (body.length:Int):=by
  rw [or2 B6 B7 (by rw [HB6.out];exact bt_lt _ _) (by rw [HB7.out];exact bt_lt _ _),HB6.out,HB7.out,bt_at q6,bt_at q7,UInt8.toNat_ofNat',UInt8.toNat_ofNat']
  omega
 rw [ho2]
 have i4:∀ w,(Instr.index 9 (.string (str C)) (.int .i64 4)).run Tryz.prog w = .ok (.int .u8 (kind:Int)) w:=fun w=>by
  have:=idx9 (str C) 4 (by rw [str_size];have:=HCL.out;omega) w
  rw [bt_at q4,UInt8.toNat_ofNat',Nat.mod_eq_of_lt (by omega)] at this
  exact this
 have i5:∀ w,(Instr.index 9 (.string (str C)) (.int .i64 5)).run Tryz.prog w = .ok (.int .u8 0) w:=fun w=>by
  have:=idx9 (str C) 5 (by rw [str_size];have:=HCL.out;omega) w
  rw [bt_at q5] at this
  exact this
 have HG2:Hid (∀ w,Calls Tryz.prog 127 #[.string (str C)] w fun e w'=>e = .returned (.int .u32 (id:Int)) ∧ ∃ k,w' = w.drewN k):=Lib.hid (fun w=>by
  have h1:=get4_any (str C) (by rw [str_size];have:=HCL.out;omega) w
  have h2:v4 (str C) = id:=by
   rw [HC.out]
   unfold sealed seal0
   rw [List.append_assoc]
   exact v4_n4 id (by have:=HID.out;omega) _
  rw [h2] at h1
  exact h1)
 obtain ⟨b1,b2⟩:=sealed_body (cr:=crc T) (id:=id) (kind:=kind) hb
 rw [← HC.out] at b1 b2
 have HTR:Hid (∀ w,Calls Tryz.prog 125 #[.string (str (zs (500 - body.length))),.string ⟨#[0]⟩] w fun e w'=>e = .returned (.string ⟨#[]⟩) ∧ Ext No w w'):=Lib.hid (fun w=>by
  have ht:(⟨(Lib.trimB (str (zs (500 - body.length))).data.toList 0).toArray⟩:ByteArray) = ⟨#[]⟩:=by rw [str_toList,trim_zs]
  have h1:=Tryz.strings_Trim_one (str (zs (500 - body.length))) 0 (by decide) w (by rw [str_size,zs_len];omega)
  rw [ht] at h1
  refine h1.mono ?_
  rintro e w1 ⟨rfl,hw⟩
  refine ⟨rfl,?_⟩
  rcases hw with rfl | rfl
  ·exact Ext.refl _ _
  ·exact (Ext.refl _ _).drew)
 obtain ⟨Z,hZ⟩:∃ Z,Z = zs (500 - body.length):=⟨_,rfl⟩
 rw [← hZ] at b2 HTR
 obtain ⟨n,hn⟩:∃ n,n = body.length:=⟨_,rfl⟩
 rw [← hn] at b1 b2 hb ⊢
 have g1:¬ (500 < (n:Int)):=by omega
 have g2:(0:Int) ≤ 8 + (n:Int):=by omega
 have g3:(8:Int) + (n:Int) ≤ 508:=by omega
 have g4:((kind:Int) == 0) = false:=by simp;omega
 have g5:IntKind.i64.wrap (id:Int) = (id:Int):=wrap_small id (by have:=HID.out;omega)
 have g6:(8 + (n:Int)).toNat = 8 + n:=by omega
 have g7:IntKind.i64.wrap (kind:Int) = (kind:Int):=wrap_small kind (by omega)
 have HX6:=Lib.hid (HX5.out.drewN nq)
 clear q4 q5 q6 q7 ho2 hb hk hZ hn i6 i7 hcv x1 x2
 generalize W5.drewN nq = W6 at *
 go_upto_region 8 with (first | (go_at_call 128;refine (HIS.out _).mono ?_;rintro e w1 ⟨rfl,rfl⟩) | (go_at_call 127;refine (HG2.out _).mono ?_;rintro e w1 ⟨rfl,k7,rfl⟩) | (go_at_call 125;refine (HTR.out _).mono ?_;rintro e w1 ⟨rfl,hx8⟩))
 have HX8:=Lib.hid ((HX6.out.drewN k7).trans_ hx8)
 clear hx8
 go_quiet (fail)
 go_wp2_with fail
 go_ret3
 exact ⟨rfl,HX8.out.drewN _⟩
end Go.Proofs.YtccnemmlkcmceaaGreatDoor
namespace Go.Proofs.YtccnemmlkcmceaaGreatDoor
open Go.RowKit
theorem pages_not {l:List (Nat × Bs)} {g:Nat → Bs} {i:Nat} (h:i ∉ l.map (·.1)):pages l g i = g i:=by
 unfold pages
 induction l generalizing g with
 | nil=>rfl
 | cons p l ih =>
  rw [List.foldl_cons,if_neg (fun e=>h (by simp [e]))]
  exact ih (fun hm=>h (by simp [hm]))
end Go.Proofs.YtccnemmlkcmceaaGreatDoor
namespace Go.Proofs.YtccnemmlkcmceaaGreatDoor
open Go.RowKit Go.BigFrame
def pageFst (c:Nat → Bs) (log id n:Nat):Bs:=((List.range n).map fun j=>c (log + id * 8 + j)).flatten
theorem pageFst_succ (c:Nat → Bs) (log id n:Nat):pageFst c log id (n + 1) = pageFst c log id n ++ c (log + id * 8 + n):=by
 unfold pageFst
 rw [List.range_succ,List.map_append,List.flatten_append];simp
theorem cur_len {k:Dk} (h1:∀ i,i < k.n → (k.K i).length = 64) (h2:∀ p ∈ k.pd,p.1 < k.n ∧ p.2.length = 64) {i:Nat} (hi:i < k.n):(k.cur i).length = 64:=by
 unfold Dk.cur
 have:∀ (l:List (Nat × Bs)) (b:Bs),(∀ p ∈ l,p.2.length = 64) → b.length = 64 → (l.foldl (fun b p=>if p.1 = i then p.2 else b) b).length = 64:=by
  intro l
  induction l with
  | nil=>intro b _ hb;exact hb
  | cons p l ih =>
   intro b hl hb
   rw [List.foldl_cons]
   refine ih _ (fun q hq=>hl q (by simp [hq])) ?_
   split
   ·exact hl p (by simp)
   ·exact hb
 exact this _ _ (fun p hp=>(h2 p hp).2) (h1 i hi)
theorem pageFst_len {k:Dk} (h1:∀ i,i < k.n → (k.K i).length = 64) (h2:∀ p ∈ k.pd,p.1 < k.n ∧ p.2.length = 64) {log id:Nat} (hi:log + id * 8 + 8 ≤ k.n):∀ n,n ≤ 8 → (pageFst k.cur log id n).length = n * 64
 | 0,_=>rfl
 | n + 1,hn=>by
  rw [pageFst_succ,List.length_append,pageFst_len h1 h2 hi n (by omega),cur_len h1 h2 (by omega)];omega
theorem image_any {w:World} {Dd Dl:Nat → Prop} {a:Dbp} {o:Option Addr} {lost:Bool} {T:Nat → Nat} {b:Db} (h:DbAt w Dd Dl a o lost T b) (id:Nat) (hi:a.log + id * 8 + 8 ≤ b.k.n) (hpd:b.k.pd.length < 2^30) (hd:b.k.down = false) :
  Calls Tryz.prog 83 #[.pointer (some ⟨a.x,0,none⟩),.int .i64 (id:Int)] w fun e w'=>e = .returned (.tuple #[.string (str (pageOf b.k.cur a.log id)),.int .i64 0]) ∧ Ext No w w':=by
 have HR:=Lib.hid (fun k (hk8:k < 8) w (h:DiskAt w Dd a.d a.kb b.k)=>(show ((a.log + id * 8 + k:Nat):Int) = (a.log:Int) + (id:Int) * 8 + (k:Int) by omega) ▸ dk_read h (a.log + id * 8 + k) (by omega) hpd hd)
 have x0:w.cell? ⟨a.x,0,none⟩ = some (.pointer (some ⟨a.d,0,none⟩)):=h.db.cell 0
 have x2:w.cell? ⟨a.x,2,none⟩ = some (.int .i64 (a.log:Int)):=h.db.cell 2
 have hn:=h.disk.n2
 have HPL:=Lib.hid (fun n hn=>pageFst_len h.disk.klen h.disk.plen hi n hn)
 have HCL:=Lib.hid (fun k (hk8:k < 8)=>cur_len h.disk.klen h.disk.plen (i:=a.log + id * 8 + k) (by omega))
 have HD:=Lib.hid h.disk
 have hb2:(a.log:Int) + (id:Int) * 8 + 8 ≤ 65536:=by omega
 obtain ⟨P,hP⟩:∃ P,P = pageOf b.k.cur a.log id:=⟨_,rfl⟩
 rw [← hP]
 have HP:=Lib.hid hP
 clear h hP hpd hd hn
 generalize a.x = x at *
 generalize a.d = d at *
 generalize a.log = log at *
 go_enter Tryz.func83,Tryz.ntmps83
 go_wp2_with fail
 go_loopg [6,10] 8 (fun gk s k wr=>∃ (K:Nat) (L:Bs),K + gk = 8 ∧ k = .int .i64 (K:Int) ∧ s = .string (str L) ∧ Hid (L = pageFst b.k.cur log id K) ∧ Ext No w wr)
 case atStart=>exact ⟨0,[],rfl,rfl,rfl,Lib.hid rfl,Ext.refl _ _⟩
 case round =>
  obtain ⟨K,L,hK,rfl,rfl,HL,hE⟩:=hrel
  have y0:=cell_ext hE x0 (fun h=>h)
  have y2:=cell_ext hE x2 (fun h=>h)
  have l0:=World.block_lt_of_cell? wr _ y0
  simp only at l0
  have HE:=Lib.hid hE
  have HKK:=Lib.hid hK
  clear hE
  by_cases h8:K < 8
  ·have HR1:=Lib.hid (fun (i:Upd wr)=>HR.out K h8 (up wr i) (HD.out.ext (HE.out.trans_ (up_ext wr i)) (fun _ _ h=>h)))
   obtain ⟨S,hS⟩:∃ S,S = b.k.cur (log + id * 8 + K):=⟨_,rfl⟩
   rw [← hS] at HR1
   have HS:=Lib.hid hS
   have h8':(K:Int) < 8:=by omega
   have b1:(log:Int) + (id:Int) * 8 + K < 65536:=by omega
   have b2:(0:Int) ≤ (log:Int) + (id:Int) * 8 + K:=by omega
   have H8:=Lib.hid h8
   clear hK h8 hi hS hb2
   go_wp2_with fail
   refine wp_region_up (by kernel_rfl) (by kernel_rfl) ?_;(repeat (go_big_quiet_step ((go_at_call 119;exact Calls.up_of (HR1.out _)))));refine wpQuiet_nil ?_;intro _ hw';obtain ⟨⟨wq,hq⟩,hw''⟩:=hw';change _ = wq at hw'';subst hw''
   clear HR HD HR1 b1 b2 x0 x2 y0 y2 l0
   have hzs:S.length = 64:=by rw [HS.out];exact HCL.out K H8.out
   have hll:L.length ≤ 448:=by rw [HL.out,HPL.out K (by have:=H8.out;omega)];have:=H8.out;omega
   go_wp2_with fail
   go_roundg (gk - 1)
   case rel=>exact ⟨K + 1,L ++ S,by have:=HKK.out;have:=H8.out;omega,by go_num,by rw [str_app],Lib.hid (by rw [pageFst_succ,HL.out,HS.out]),HE.out.trans_ hq⟩
   case measure=>have:=HKK.out;have:=H8.out;omega
  ·have hK8:K = 8:=by omega
   subst hK8
   have HLP:Hid (L = P):=Lib.hid (by rw [HL.out,HP.out];rfl)
   clear hK h8 hi hb2
   go_wp2_with fail
   go_ret2
   rw [HLP.out]
   exact ⟨rfl,HE.out⟩
end Go.Proofs.YtccnemmlkcmceaaGreatDoor
namespace Go.Proofs.YtccnemmlkcmceaaGreatDoor
open Go.RowKit
theorem eql_tx_same (a:Addr) (w:World):(binOp .eql 25 (.pointer (some a)) (.pointer (some a))).run Tryz.prog w = .ok (.bool true) w:=by
 obtain ⟨j,hj⟩:∃ j,Tryz.prog.info? 111 = some j:=by
  have h:(Tryz.prog.info? 111).isSome = true:=by kernel_rfl
  exact Option.isSome_iff_exists.1 h
 exact Go.run_eql_ptr_same w a Tryz.underlying25 hj
theorem abort_any (s:Sys) (hs:s.Ok) (w:World) (v:V) (h:TxAt w s v) (hf:w.frozen? ⟨s.x,10,none⟩ = false) :
  Calls Tryz.prog 31 #[.pointer (some ⟨s.t,0,none⟩)] w fun e w'=>e = .returned (.tuple #[]) ∧ w' = w.setCell ⟨s.x,10,none⟩ (.pointer none):=by
 have t0:=h.c0
 have x10:=hs.x10 w h.db
 have k:=fun w=>eql_tx_same ⟨s.t,0,none⟩ w
 have HE:=Lib.hid (end_any s hs w v h hf)
 clear h
 go_enter Tryz.func31,Tryz.ntmps31
 go_wp2_with fail
 refine HE.out.mono ?_
 rintro e w1 ⟨rfl,rfl⟩
 go_wp2_with fail
 go_end0
 exact ⟨rfl,rfl⟩
section
variable {cap:Nat} {sp:Bool} {v u x:V}
theorem V.StepsB.clean (h:V.StepsB cap false v u):u.spoilt = v.spoilt:=by
 induction h with
 | refl=>rfl
 | @alloc u h ih =>
  unfold V.alloc
  split
  ·split
   ·exact ih
   ·exact ih
  ·exact ih
 | @set u id k b h1 h2 h ih =>
  unfold V.set
  split
  ·exact ih
  ·exact ih
 | @drop u id h ih =>
  unfold V.drop
  split
  ·exact ih
  ·exact ih
 | setR i n h ih=>exact ih
 | spoil h _ _=>cases h
theorem V.StepsB.mark (h:V.StepsB cap sp v u):u.marked = false → v.marked = false ∧ u.r = v.r ∧ u.high = v.high ∧ u.free = v.free ∧ u.cnt = v.cnt:=by
 induction h with
 | refl=>exact fun h=>⟨h,rfl,rfl,rfl,rfl⟩
 | @alloc u h ih =>
  unfold V.alloc
  split
  ·split
   ·exact ih
   ·exact fun h=>by cases h
  ·exact fun h=>by cases h
 | @set u id k b h1 h2 h ih =>
  unfold V.set
  split
  ·exact ih
  ·exact ih
 | @drop u id h ih =>
  unfold V.drop
  split
  ·exact fun h=>by cases h
  ·exact ih
 | setR i n h ih=>exact fun h=>by cases h
 | spoil _ h ih=>exact ih
end
def dbSys (a:Dbp) (Dd Dl:Nat → Prop) (T:Nat → Nat) (b:Db) (base:Nat → Leaf) (t m:Nat):Sys :=
 ⟨a.d,a.x,t,m,⟨a.kb,0,none⟩,b.k.n,a.log,fun w=>DbAt w Dd Dl a (some ⟨t,0,none⟩) false T b,b.m.high,base,fun id=>str (pageOf b.k.cur a.log id)⟩
def Kept (cr:Bs → Nat) (f:Nat → Bs) (high:Nat) (pg:Nat → Leaf):Prop:=∀ i,1 ≤ i → i < high → f i = sealed cr i (pg i).kind (pg i).body ∧ 1 ≤ (pg i).kind ∧ (pg i).kind ≤ 255 ∧ (pg i).body.length ≤ 500
theorem dbSys_ok {w0:World} {a:Dbp} {Dd Dl:Nat → Prop} {T:Nat → Nat} {b:Db} {base:Nat → Leaf} {t m:Nat} {o:Option Addr} (h:DbAt w0 Dd Dl a o false T b) (ht:w0.heap.size ≤ t) (hm:w0.heap.size ≤ m) (hd:b.k.down = false) (hpd:b.k.pd.length < 2^30) (hcap:a.log + b.m.high * 8 ≤ b.k.n) (hk:Kept (crc T) (pageOf b.k.cur a.log) b.m.high base):(dbSys a Dd Dl T b base t m).Ok:=by
 have hxl:=h.db.lt
 have hdl:=h.disk.old
 have hll:=h.wal.old
 have h0:0 < w0.heap.size:=World.block_lt_of_cell? w0 _ (h.half.cell 0 (by decide))
 have hF:∀ g,g < w0.heap.size → ¬ (dbSys a Dd Dl T b base t m).F g:=fun g hg hf=>by
  rcases hf with hf | hf
  ·have:g = t:=hf
   omega
  ·have:g = m:=hf
   omega
 have hn2:=h.disk.n2
 refine ⟨fun w w' hx hw=>DbAt.ext hw hx (fun g hg=>hF g (hdl g hg)) (fun g hg=>hF g (hll g hg)) (hF _ hxl) (hF 0 h0),fun w hw=>(DbAt.db hw).cell 0,fun w hw=>(DbAt.db hw).cell 2,fun w hw=>(DbAt.db hw).cell 10,fun w hw=>(DbAt.db hw).cell 11,fun w hw=>?_,fun w hw=>?_,?_,?_,h.disk.n1,hn2,h.ll,fun w id hw h1 h2=>?_,fun w id hw h1 h2=>?_⟩
 ·obtain ⟨A,c,_,c0,_⟩:=(DbAt.disk hw).c
  exact c0
 ·obtain ⟨A,c,_,_,_,c2,_⟩:=(DbAt.disk hw).c
  rw [hd] at c2
  exact c2
 ·show t ≠ a.x;omega
 ·show t ≠ a.d
  have:=hdl _ h.disk.dd
  omega
 ·exact image_any hw id (by have h3:id < b.m.high:=h2;omega) hpd hd
 ·obtain ⟨k1,k2,k3,k4⟩:=hk id h1 h2
  show Calls Tryz.prog 85 #[.int .i64 (id:Int),.string (str (pageOf b.k.cur a.log id))] w _
  rw [k1]
  exact popen_any T id (base id).kind (base id).body (by have h3:id < b.m.high:=h2;omega) ⟨k2,k3⟩ k4 w (DbAt.half hw)
def Mt.v (m:Mt) (pg:Nat → Leaf):V:=⟨m.r,m.high,m.free,m.cnt,pg,false,false⟩
theorem begin_db {w:World} {a:Dbp} {Dd Dl:Nat → Prop} {T:Nat → Nat} {b:Db} (base:Nat → Leaf) (h:DbAt w Dd Dl a none false T b) (hd:b.k.down = false) (h1:1 ≤ b.m.high) (hcap:a.log + b.m.high * 8 ≤ b.k.n) (hc:b.m.cnt ≤ b.m.high) :
  Calls Tryz.prog 33 #[.pointer (some ⟨a.x,0,none⟩)] w fun e w'=>e = .returned (.tuple #[.pointer (some ⟨w.heap.size + 1,0,none⟩),.int .i64 0]) ∧
   TxAt w' (dbSys a Dd Dl T b base (w.heap.size + 1) w.heap.size) (b.m.v base) ∧ Ext (On a.x) w w':=by
 have hn:1 ≤ b.k.n:=h.disk.n1
 have HU:Hid (Calls Tryz.prog 74 #[.pointer (some ⟨a.x,0,none⟩)] w fun e w'=>e = .returned (.int .i64 0) ∧ w = w'):=Lib.hid (by
  obtain ⟨A,c,_,c0,_,c2,_⟩:=h.disk.c
  have:=xup_any a.x a.d b.k.n ⟨a.kb,0,none⟩ w b.k.down false c0 hn c2 (h.db.cell 0) (h.db.cell 11)
  rw [hd] at this
  exact this)
 have hx:=h.db
 obtain ⟨y0,y1,y2,y3,y4,y5,y6,y7,y8,y9,y10,y11⟩:w.cell? ⟨a.x,0,none⟩ = _ ∧ w.cell? ⟨a.x,1,none⟩ = _ ∧ w.cell? ⟨a.x,2,none⟩ = _ ∧ w.cell? ⟨a.x,3,none⟩ = _ ∧ w.cell? ⟨a.x,4,none⟩ = _ ∧ w.cell? ⟨a.x,5,none⟩ = _ ∧ w.cell? ⟨a.x,6,none⟩ = _ ∧ w.cell? ⟨a.x,7,none⟩ = _ ∧ w.cell? ⟨a.x,8,none⟩ = _ ∧ w.cell? ⟨a.x,9,none⟩ = _ ∧ w.cell? ⟨a.x,10,none⟩ = _ ∧ w.cell? ⟨a.x,11,none⟩ = _ :=
  ⟨hx.cell 0,hx.cell 1,hx.cell 2,hx.cell 3,hx.cell 4,hx.cell 5,hx.cell 6,hx.cell 7,hx.cell 8,hx.cell 9,hx.cell 10,hx.cell 11⟩
 simp [dbVals] at y0 y1 y2 y3 y4 y5 y6 y7 y8 y9 y10 y11
 have fz:=hx.frozen
 have lx:=hx.lt
 have H:=Lib.hid h;have H1:=Lib.hid h1;have HCAP:=Lib.hid hcap;have HC:=Lib.hid hc
 have hmk:∀ w,(Instr.makeMap 109 none).run Tryz.prog w = .ok (.map (some w.heap.size)) (w.alloc (.map #[] 0)):=fun w=>rfl
 clear h hx h1 hcap hc hn
 obtain ⟨x,hxe⟩:∃ x,x = a.x:=⟨_,rfl⟩
 rw [← hxe] at HU y0 y1 y2 y3 y4 y5 y6 y7 y8 y9 y10 y11 lx ⊢
 have fz2:∀ i,w.frozen? ⟨x,i,none⟩ = false:=by rw [hxe];exact fz
 have HXE:=Lib.hid hxe
 clear hxe fz
 go_enter Tryz.func33,Tryz.ntmps33
 go_wp2_with fail
 refine (HU.out).mono ?_
 rintro e w1 ⟨rfl,rfl⟩
 go_wp2_with fail
 go_ret2
 obtain ⟨u,hu⟩:∃ u,u = w.setCell ⟨x,10,none⟩ (.pointer (some ⟨w.heap.size + 1,0,none⟩)):=⟨_,rfl⟩
 rw [← hu]
 have hE0:Ext (On x) w u:=by rw [hu];exact (Ext.refl (On x) w).setF (F:=On x) rfl _ _
 have hus:u.heap.size = w.heap.size:=by rw [hu];simp [World.setCell]
 obtain ⟨cs,hcs⟩:∃ cs,cs = (b.m.v base).cells (dbSys a Dd Dl T b base (w.heap.size + 1) w.heap.size):=⟨_,rfl⟩
 have hE:Ext (On x) w ((u.alloc (.map #[] 0)).alloc (.cells cs 111)):=(hE0.alloc _).alloc _
 rw [hcs] at hE
 have hE1:Ext No u ((u.alloc (.map #[] 0)).alloc (.cells cs 111)):=((Ext.refl No u).alloc _).alloc _
 rw [hcs] at hE1
 have hx:=H.out
 have hP:=hx.parts
 have hb:Blk u a.x 131 (dbVals a b.m (some ⟨w.heap.size + 1,0,none⟩) false):=by rw [hu,HXE.out];exact hx.db.set_ 10 _
 rw [HXE.out] at hE
 have hfin:∀ w',w' = ((u.alloc (.map #[] 0)).alloc (.cells ((b.m.v base).cells (dbSys a Dd Dl T b base (w.heap.size + 1) w.heap.size)) 111)) → TxAt w' (dbSys a Dd Dl T b base (w.heap.size + 1) w.heap.size) (b.m.v base) ∧ Ext (On x) w w':=by
  rintro w' rfl
  refine ⟨⟨?_,⟨?_,?_,hb.ext hE1 (fun h=>h),?_,hP,hx.ll⟩,H1.out,?_,Nat.le_refl _,HC.out,[],⟨by simp,#[],0,?_,rfl,by simp [Stamps]⟩,by simp,?_⟩,by rw [HXE.out];exact hE⟩
  ·have:=Blk.new (u.alloc (.map #[] 0)) 111 ((b.m.v base).cells (dbSys a Dd Dl T b base (w.heap.size + 1) w.heap.size))
   have e:(u.alloc (.map #[] 0)).heap.size = w.heap.size + 1:=by simp [hus]
   rw [e] at this
   exact this
  ·exact hx.disk.ext hE (fun g hg e=>hP.xd (by have e':g = a.x:=e;rw [← e'];exact hg))
  ·exact hx.wal.ext hE (fun g hg e=>hP.xl (by have e':g = a.x:=e;rw [← e'];exact hg))
  ·exact hx.half.ext hE (fun e=>hP.zx (by have e':0 = a.x:=e;exact e'.symm))
  ·show b.m.high ≤ (b.k.n - a.log) / 8
   have:=HCAP.out;omega
  ·have h1:(u.alloc (.map #[] 0)).heap[w.heap.size]? = some (.map #[] 0):=by rw [← hus];exact heap_alloc_new u _
   exact (Below.heap_alloc _ _ _ (by show w.heap.size < _;simp [hus])).trans h1
  ·intro i h1 h2
   exact ⟨.inr h2,rfl⟩
 refine ⟨rfl,?_⟩
 exact hfin _ (by rw [HXE.out];rfl)
theorem get_told {g:Bool} {v:V} {root:Nat} {key:Bs} {P:List Nat} {E:List Ent} (hT:TreeOf g v root P E) (hm:may key [] = 0) :
  v.get root key = (match E.lookup key with | none=>([],false,0) | some b=>(b,true,0)):=by
 unfold V.get
 rw [if_neg (by omega)]
 rcases hT with ⟨h0,rfl,rfl⟩ | ⟨h,hh,hS⟩
 ·have:v.way root key = some []:=by unfold V.way;rw [h0];rfl
  rw [this]
  rfl
 ·obtain ⟨ups,st,rt,lo,hi,P',L,R,A,B,QA,QB,EA,EB,hl⟩:=locate (key:=key) hS hh
  have hg:=hl.get
  rw [hl.way]
  simp only
  cases hx:hit (st :: ups).reverse key with
  | none=>rw [hx] at hg;simp only at hg;rw [hg]
  | some c =>
   rw [hx] at hg
   simp only at hg
   obtain ⟨b,h1,h2⟩:=hg
   simp only [h1,h2]
def refGet (E:List Ent) (key:Bs):Ending :=
 if may key [] = 0 then (match E.lookup key with
  | some b=>.returned (.tuple #[.string (str b),.bool true,.int .i64 0])
  | none=>.returned (.tuple #[.string (str []),.bool false,.int .i64 0]))
 else .returned (.tuple #[.string (str []),.bool false,.int .i64 (may key []:Int)])
theorem TreeOf.kept {g:Bool} {v v':V} {root:Nat} {P:List Nat} {E:List Ent} (h:TreeOf g v root P E) (hr:v'.r root = v.r root) (hs:∀ p ∈ P,v.err p = 0 → v'.err p = 0 ∧ v'.pg p = v.pg p):TreeOf g v' root P E:=by
 rcases h with ⟨h0,rfl,rfl⟩ | ⟨h,hh,hS⟩
 ·exact .inl ⟨by rw [hr,h0],rfl,rfl⟩
 ·refine .inr ⟨h,hh,?_⟩
  rw [hr]
  exact hS.same hs
theorem get_full (s:Sys) (hs:s.Ok) (w:World) (v:V) (h:TxAt w s v) (hg:v.Good) (gx i:Nat) (hx:Blk w gx 70 (treeCells s i)) (hi:i < 4) (key:Bs) :
  Calls Tryz.prog 23 #[.pointer (some ⟨gx,0,none⟩),.string (str key)] w fun e w'=>e = .returned (.tuple #[.string (str (v.get i key).1),.bool (v.get i key).2.1,.int .i64 ((v.get i key).2.2:Int)]) ∧ Ext No w w':=by
 refine get_any' s hs w v h hg gx i hx hi key (fun ws c hw hh=>value_any' s hs v hg c ?_)
 have hok:=way_ok hw
 unfold hit at hh
 split at hh
 ·cases hh
 ·rename_i st hst
  have hn:=(hok.all st (List.mem_of_getLast? hst)).1
  have hf:=Nd.Ok.fits (Nd.Ok.of (V.node_ok hn))
  split at hh
  ·cases hh
  ·rename_i c' hc'
   split at hh
   ·injection hh with hh
    subst hh
    exact hf.c _ (List.mem_of_getElem? hc')
   ·cases hh
def heldB (E L:List Ent):Bool:=L.all fun e=>E.lookup e.1 == some e.2
theorem heldB_drop {E L:List Ent} {k:Nat} {e:Ent} (he:L[k]? = some e):heldB E (L.drop k) = ((E.lookup e.1 == some e.2) && heldB E (L.drop (k + 1))):=by
 have hlt:=(List.getElem?_eq_some_iff.1 he).1
 rw [List.drop_eq_getElem_cons hlt,(List.getElem?_eq_some_iff.1 he).2]
 rfl
theorem holds_any (s:Sys) (hs:s.Ok) (w:World) (v:V) (h:TxAt w s v) (hg:v.Good) (gx i:Nat) (hx:Blk w gx 70 (treeCells s i)) (hi:i < 4) (P:List Nat) (E:List Ent) (hT:TreeOf true v i P E)
  (A:Option Addr) (c:Nat) (L:List Ent) (hr:Rd w No 2 A L.length (entVals L)) (hb:L.length < 65536) (hm:∀ e ∈ L,may e.1 [] = 0) :
  Calls Tryz.prog 29 #[.pointer (some ⟨gx,0,none⟩),.slice A L.length c] w fun e w'=>e = .returned (.bool (heldB E L)) ∧ Ext No w w':=by
 have HG:=Lib.hid (fun w' (e:Ext No w w') key (hk:may key [] = 0)=>get_told (key:=key) hT hk ▸ get_full s hs w' v (h.no hs e) hg gx i (hx.ext e (fun h=>h)) hi key)
 have HR:=Lib.hid hr
 have HM:=Lib.hid hm
 obtain ⟨D,hD⟩:∃ D,D = heldB E L:=⟨_,rfl⟩
 rw [← hD]
 clear h hg hx hT hr hm
 go_enter Tryz.func29,Tryz.ntmps29
 go_wp2_with fail
 go_loopg [12] L.length (fun gk i wr=>∃ (k:Nat),k + gk = L.length ∧ i = .int .i64 (k:Int) ∧ Hid (D = heldB E (L.drop k)) ∧ Ext No w wr)
 case atStart=>exact ⟨0,by omega,rfl,Lib.hid hD,Ext.refl _ _⟩
 case round =>
  obtain ⟨k,hk,rfl,hd,hE⟩:=hrel
  have HE:=Lib.hid hE
  have HK:=Lib.hid hk
  by_cases hlt:k < L.length
  ·obtain ⟨e,he⟩:∃ e,L[k]? = some e:=⟨_,List.getElem?_eq_getElem hlt⟩
   obtain ⟨b,o,rfl,_,k0,k1⟩:=(HR.out.ext hE).entAt he
   have lc:=World.block_lt_of_cell? wr _ k0
   simp only at lc
   have hlt':(k:Int) < (L.length:Int):=by omega
   have hme:=HM.out e (List.mem_of_getElem? he)
   have HGK:=Lib.hid (HG.out (wr.alloc (.cells #[.string (str e.1),.string (str e.2)] 49)) (hE.alloc _) e.1 hme)
   have hd2:=hd.out.trans (heldB_drop he)
   have HBK:=Lib.hid (Blk.new wr 49 #[.string (str e.1),.string (str e.2)])
   have HEA:=Lib.hid (hE.alloc (.cells #[.string (str e.1),.string (str e.2)] 49))
   clear hk hE hd hD hme
   obtain ⟨W,hW⟩:∃ W,W = wr.alloc (.cells #[.string (str e.1),.string (str e.2)] 49):=⟨_,rfl⟩
   rw [← hW] at HGK HBK HEA
   cases hq:E.lookup e.1 with
   | none =>
    rw [hq] at HGK hd2
    have HD2:=Lib.hid (show D = false by rw [hd2];rfl)
    clear hd2 hq
    go_wp2_with fail
    rw [← hW]
    refine (HGK.out).mono ?_
    rintro e' w2 ⟨rfl,hx2⟩
    have hb2:=HBK.out.ext hx2 (fun h=>h)
    have c0:=hb2.cell 0
    have c1:=hb2.cell 1
    have cl:=hb2.lt
    simp at c0 c1
    have HX2:=Lib.hid hx2
    clear hx2 hb2
    by_cases h0:e.2 = []
    ·rw [h0] at c1
     go_wp2_with fail
     go_ret
     exact ⟨by rw [HD2.out];rfl,HEA.out.trans_ HX2.out⟩
    ·have h1:(([]:Bs) == e.2) = false:=by
      cases h:e.2 with
      | nil=>exact absurd h h0
      | cons a b=>rfl
     go_wp2_with fail
     go_ret
     exact ⟨by rw [HD2.out];rfl,HEA.out.trans_ HX2.out⟩
   | some bv =>
    rw [hq] at HGK hd2
    by_cases hbv:bv = e.2
    ·subst hbv
     have HD2:=Lib.hid (show D = heldB E (L.drop (k + 1)) by rw [hd2];simp)
     clear hd2 hq
     go_wp2_with fail
     rw [← hW]
     refine (HGK.out).mono ?_
     rintro e' w2 ⟨rfl,hx2⟩
     have hb2:=HBK.out.ext hx2 (fun h=>h)
     have c0:=hb2.cell 0
     have c1:=hb2.cell 1
     have cl:=hb2.lt
     simp at c0 c1
     have HX2:=Lib.hid hx2
     clear hx2 hb2
     go_wp2_with fail
     go_roundg (gk - 1)
     case rel=>exact ⟨k + 1,by have:=HK.out;omega,by go_num,HD2,HEA.out.trans_ HX2.out⟩
     case measure=>have:=HK.out;omega
    ·have HD2:=Lib.hid (show D = false by rw [hd2];simp [hbv])
     have h1:(bv == e.2) = false:=by simpa using hbv
     clear hd2 hq
     go_wp2_with fail
     rw [← hW]
     refine (HGK.out).mono ?_
     rintro e' w2 ⟨rfl,hx2⟩
     have hb2:=HBK.out.ext hx2 (fun h=>h)
     have c0:=hb2.cell 0
     have c1:=hb2.cell 1
     have cl:=hb2.lt
     simp at c0 c1
     have HX2:=Lib.hid hx2
     clear hx2 hb2
     go_wp2_with fail
     go_ret
     exact ⟨by rw [HD2.out];rfl,HEA.out.trans_ HX2.out⟩
  ·have hk':k = L.length:=by omega
   have HDF:Hid (D = true):=Lib.hid (by rw [hd.out,hk',List.drop_length];rfl)
   subst hk'
   clear hd
   go_wp2_with fail
   go_ret
   exact ⟨by rw [HDF.out];rfl,HE.out⟩
def V.check (v:V) (root:Nat):Nat:=if (v.survey root).isSome then 0 else 5
theorem checkt_any (s:Sys) (hs:s.Ok) (w:World) (v:V) (h:TxAt w s v) (hg:v.Good) (gx i:Nat) (hx:Blk w gx 70 (treeCells s i)) (hi:i < 4) :
  Calls Tryz.prog 22 #[.pointer (some ⟨gx,0,none⟩)] w fun e w'=>e = .returned (.int .i64 (v.check i:Int)) ∧ Ext No w w':=by
 have HS:=Lib.hid (survey_any s hs w v h hg gx i hx hi)
 unfold V.check
 generalize v.survey i = R at *
 clear h hg hx
 cases R with
 | none =>
  go_enter Tryz.func22,Tryz.ntmps22
  go_wp2_with fail
  refine (HS.out).mono ?_
  rintro e w1 ⟨hx1,p,d,rfl⟩
  go_wp2_with fail
  go_ret
  exact ⟨rfl,by (repeat' (first | exact Ext.refl _ _ | assumption | apply Ext.alloc | apply Ext.drewN | apply Ext.drew | refine Ext.setNew ?_ (by first | omega | (simp;omega) | simp) _ _ | refine Ext.setF ?_ (by first | exact Or.inl rfl | exact Or.inr rfl | rfl) _ _ | refine Ext.trans_ ?_ (by assumption) | refine Ext.trans_ ?_ (Ext.of_no (by assumption))))⟩
 | some r =>
  obtain ⟨p,d⟩:=r
  go_enter Tryz.func22,Tryz.ntmps22
  go_wp2_with fail
  refine (HS.out).mono ?_
  rintro e w1 ⟨hx1,rfl,_⟩
  go_wp2_with fail
  go_ret
  exact ⟨rfl,by (repeat' (first | exact Ext.refl _ _ | assumption | apply Ext.alloc | apply Ext.drewN | apply Ext.drew | refine Ext.setNew ?_ (by first | omega | (simp;omega) | simp) _ _ | refine Ext.setF ?_ (by first | exact Or.inl rfl | exact Or.inr rfl | rfl) _ _ | refine Ext.trans_ ?_ (by assumption) | refine Ext.trans_ ?_ (Ext.of_no (by assumption))))⟩
theorem heldB_self {E:List Ent} (h:SortedE E):heldB E E = true:=by
 have key:∀ {F:List Ent},SortedE F → ∀ e ∈ F,F.lookup e.1 = some e.2:=by
  intro F hF
  induction F with
  | nil=>simp
  | cons a F ih =>
   intro e he
   obtain ⟨k,b⟩:=a
   have h1:=List.pairwise_cons.1 hF
   rcases List.mem_cons.1 he with rfl | he
   ·simp
   ·have h2:=h1.1 e he
    have h3:(e.1 == k) = false:=by
     have:=klt_ne h2
     simpa using fun e1=>this e1.symm
    rw [List.lookup_cons,h3]
    exact ih h1.2 e he
 unfold heldB
 rw [List.all_eq_true]
 intro e he
 rw [key h e he]
 simp
theorem One.check {v:V} {root:Nat} {P:List Nat} {E:List Ent} (hT:TreeOf true v root P E) (hp:P.length ≤ 65000):v.check root = 0:=by
 obtain ⟨d,hd⟩:=survey_done hT hp
 unfold V.check
 rw [hd]
 rfl
end Go.Proofs.YtccnemmlkcmceaaGreatDoor
