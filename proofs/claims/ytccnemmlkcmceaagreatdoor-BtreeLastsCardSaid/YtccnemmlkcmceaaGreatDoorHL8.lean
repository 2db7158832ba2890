/- Proofs about the given program, joined out of the texts PG2, PG3, PX, PY. -/
import Derived.Test.YtccnemmlkcmceaaGreatDoorHL5
import Derived.Test.YtccnemmlkcmceaaGreatDoorHL6
import Derived.Lib.AtoiErrMem
set_option linter.unusedVariables false
set_option linter.unusedSimpArgs false
set_option maxRecDepth 100000
set_option maxHeartbeats 6400000
namespace Go.Proofs.YtccnemmlkcmceaaGreatDoor
open Go.RowKit
theorem Ny:Tryz.zeroCells218=(dn (zs 512)).toArray:=by kernel_rfl
theorem Tg {W:World}{g:Nat}{L body:Bs}(h:ax W g 218 (dn L).toArray) (hL:L.length=512) (hb:body.length<=500) (ty:TypeId) :
  (Builtin.copy_ #[98,9] ty #[.slice (some ⟨g,8,none⟩) 504 504,.string (au body)]).run Tryz.prog W=.ok (goInt body.length) (W.setRow g (dn (jm L 8 body)).toArray):=by
 have h5:(Tryz.prog.info? 5).map (·.size)=some 1:=by kernel_rfl
 have hs:(dn L).toArray.size=512:=by simp[dn,hL]
 have h:=Lib.run_copy_row_string (P:=Tryz.prog) W 98 9 ty 5 g 8 504 504 (au body) (dn L).toArray 218 Tryz.underlying98 h5 h (by rw[az];omega) (by rw[az,hs];omega);rw[az,jC]at h;have e:dn (jm L 8 body)=(dn L).take 8++dn body++(dn L).drop (8+body.length):=by
  unfold jm;rw[iO,iO,List.append_assoc];simp[dn,List.map_take,List.map_drop]
 rw[e];exact h
theorem JS (a b:Nat):zs (a+b)=zs a++zs b:=by simp[zs]
theorem PU (a b:Nat):(zs a).drop b=zs (a-b):=by simp[zs]
theorem NQ {id kind:Nat}{body:Bs}(hb:body.length<=500) :
  jm ((((jm (zs 512) 0 (n4 id)).set 4 (UInt8.ofNat kind)).set 6 (UInt8.ofNat (body.length%256))).set 7 (UInt8.ofNat (body.length / 256))) 8 body=pJ id kind body++zs 4:=by
 have h1:jm (zs 512) 0 (n4 id)=n4 id++([0,0,0,0]++zs 504):=by
  unfold jm;rw[List.take_zero,List.nil_append,PU,bX,show 512-(0+4)=4+504 from rfl,JS];rfl
 have h2:(((jm (zs 512) 0 (n4 id)).set 4 (UInt8.ofNat kind)).set 6 (UInt8.ofNat (body.length%256))).set 7 (UInt8.ofNat (body.length / 256))=(n4 id ++ [UInt8.ofNat kind,0,UInt8.ofNat (body.length%256),UInt8.ofNat (body.length / 256)])++zs 504:=by
  rw[h1];generalize zs 504=Z;rfl
 rw[h2];have hl:(n4 id ++ [UInt8.ofNat kind,0,UInt8.ofNat (body.length%256),UInt8.ofNat (body.length / 256)]).length=8:=rfl;unfold jm pJ;rw[List.take_left' hl,<-List.drop_drop,List.drop_left' hl,PU,show 504-body.length=(500-body.length)+4 by omega,JS];simp only[List.append_assoc]
theorem Kh (T:Nat->Nat) (id kind:Nat) (body:Bs) (hid:id<2147483648) (hk:1<=kind/\kind<=255) (hb:body.length<=500) (w:World) (h:gJ w T) :
  Calls Tryz.prog 104 #[.int .i64 (id:Int),.int .i64 (kind:Int),.string (au body)] w fun e w'=>e=.returned (.tuple #[.string (au (dY (bT T) id kind body)),.int .i64 0])/\ah No w w':=by
 have HIS:=aa (fun w=>P9 id hid w);obtain⟨C,hC⟩:∃C,C=dY (bT T) id kind body:=⟨_,rfl⟩;rw[<-hC];have HC:=aa hC;have k1:¬((kind:Int)<1):=by omega
 have k2:¬(255<(kind:Int)):=by omega
 have b1:¬(500<(body.length:Int)):=by omega
 have HB:=aa hb;have HK:=aa hk;have QZ:=aa hid;have HT:=aa h;have u1:IntKind.u32.wrap (id:Int)=(id:Int):=fJ id (by omega);clear h hC hid hk hb;go_enter Tryz.func104,Tryz.ntmps104;go_upto_region 5 with (go_at_call 128;refine(HIS.out _).mono ?_;rintro e w1 ⟨rfl,rfl⟩);go_upto_region 6 with fail;rw[Ny];have TS:=aa (ax.new w 218 (dn (zs 512)).toArray);have gK:=aa ((ah.refl No w).alloc (.cells (dn (zs 512)).toArray 218));obtain⟨L0,hL0⟩:∃L0,L0=zs 512:=⟨_,rfl⟩;rw[<-hL0]at TS gK ⊢;have Ni:L0.length=512:=by rw[hL0,ni]
 have HL0:=aa hL0;have eZ:(w.alloc (.cells (dn L0).toArray 218)).heap.size=w.heap.size+1:=by simp
 have G6:=aa eZ;generalize w.alloc (.cells (dn L0).toArray 218)=W at *;have kL:w.heap.size<W.heap.size:=by omega
 have YD:=aa (Ku id (by have:=QZ.out;omega) W w.heap.size 0 512 512 L0 TS.out (by omega) (by omega) (by omega) (by omega));have abq:=aa Ni;clear hL0 Ni eZ;go_wp2_with fail;refine(YD.out).mono ?_;rintro e w2 ⟨rfl,dO,aH⟩;obtain⟨L1,Wx⟩:∃L1,L1=jm L0 0 (n4 id):=⟨_,rfl⟩;rw[<-Wx]at dO;have ng:=aa dO;have dx:=aa (gK.out.trans aH (fun b hb e=>by have e':b=w.heap.size:=e;omega));have TM:=aa Wx;have JF:L1.length=512:=by rw[Wx,FT (by rw[abq.out,bX];omega)];exact abq.out
 have afE:=aa JF;have s4:(w2.cell? ⟨w.heap.size,4,none⟩).isSome=true:=by rw[dO.cell,kD];simp;omega
 have s6:(w2.cell? ⟨w.heap.size,6,none⟩).isSome=true:=by rw[dO.cell,kD];simp;omega
 have s7:(w2.cell? ⟨w.heap.size,7,none⟩).isSome=true:=by rw[dO.cell,kD];simp;omega
 obtain⟨v4,k4⟩:=Option.isSome_iff_exists.1 s4;obtain⟨v6,k6⟩:=Option.isSome_iff_exists.1 s6;obtain⟨v7,k7⟩:=Option.isSome_iff_exists.1 s7;have f:=dO.frozen;have lg:=dO.lt;clear Wx JF dO aH s4 s6 s7 YD;go_upto_region 8 with fail;obtain⟨L2,Z_⟩:∃L2,L2=((L1.set 4 (UInt8.ofNat kind)).set 6 (UInt8.ofNat (body.length%256))).set 7 (UInt8.ofNat (body.length / 256)):=⟨_,rfl⟩;have vQ:=aa Z_;have e4:(kind:Int)=((UInt8.ofNat kind).toNat:Int):=by rw[UInt8.toNat_ofNat'];have:=HK.out;omega
 have e6:((body.length:Int)%256)=((UInt8.ofNat (body.length%256)).toNat:Int):=by rw[UInt8.toNat_ofNat'];omega
 have e7:((body.length:Int) / 256)=((UInt8.ofNat (body.length / 256)).toNat:Int):=by rw[UInt8.toNat_ofNat'];have:=HB.out;omega
 have X6:Hid (ax (((w2.setCell ⟨w.heap.size,4,none⟩ (.int .u8 (kind:Int))).setCell ⟨w.heap.size,6,none⟩ (.int .u8 ((body.length:Int)%256))).setCell ⟨w.heap.size,7,none⟩ (.int .u8 ((body.length:Int) / 256))) w.heap.size 218 (dn L2).toArray):=aa (by
  rw[e4,e6,e7,vQ.out,<-qW,<-qW,<-qW]
  exact(((ng.out.aQ _ _).aQ _ _).aQ _ _))
 have iF:Hid (ah No w (((w2.setCell ⟨w.heap.size,4,none⟩ (.int .u8 (kind:Int))).setCell ⟨w.heap.size,6,none⟩ (.int .u8 ((body.length:Int)%256))).setCell ⟨w.heap.size,7,none⟩ (.int .u8 ((body.length:Int) / 256)))):=aa (((dx.out.ai (Nat.le_refl _) _ _).ai (Nat.le_refl _) _ _).ai (Nat.le_refl _) _ _);have vJ:L2.length=512:=by rw[Z_];simp only[List.length_set];exact afE.out
 have aiU:=aa vJ;clear e4 e6 e7 Z_ k4 k6 k7 f lg;generalize (((w2.setCell ⟨w.heap.size,4,none⟩ (.int .u8 (kind:Int))).setCell ⟨w.heap.size,6,none⟩ (.int .u8 ((body.length:Int)%256))).setCell ⟨w.heap.size,7,none⟩ (.int .u8 ((body.length:Int) / 256)))=W3 at *;have hcp:=Tg X6.out vJ HB.out 3;obtain⟨L3,Ym⟩:∃L3,L3=jm L2 8 body:=⟨_,rfl⟩;rw[<-Ym]at hcp;have G8:=aa Ym;have BF:L3.length=512:=by rw[Ym,FT (by have:=HB.out;omega)];exact vJ
 have abp:=aa BF;have lg3:=X6.out.lt;clear Ym vJ BF;go_upto_region 9 with fail;have Q3:Hid (ax (W3.setRow w.heap.size (dn L3).toArray) w.heap.size 218 (dn L3).toArray):=aa (setRow_heap W3 w.heap.size _ _ _ _ X6.out);have Bl:Hid (ah No w (W3.setRow w.heap.size (dn L3).toArray)):=aa (iF.out.trans (G:=fun b=>b=w.heap.size) ⟨rfl,rfl,rfl,by simp,fun b _ hb=>setRow_other W3 w.heap.size b _ hb⟩ (fun b hb e=>by have e':b=w.heap.size:=e;omega));clear hcp lg3;generalize W3.setRow w.heap.size (dn L3).toArray=W4 at *;obtain⟨S,hS⟩:∃S,S=pJ id kind body:=⟨_,rfl⟩;have HS:=aa hS;have Yk:S.length=508:=by rw[hS];exact uF HB.out
 have afG:Hid (L3=S++zs 4):=aa (by rw[G8.out,vQ.out,TM.out,HL0.out,HS.out];exact NQ HB.out);obtain⟨CS,Yq⟩:∃CS,CS=bT T S:=⟨_,rfl⟩;have HCS:=aa Yq;have ajc:w.heap.size<W4.heap.size:=Q3.out.lt
 have ac_:Hid (∀c w',ah No W4 w'->Calls Tryz.prog 126 #[.slice (some ⟨w.heap.size,0,none⟩) 508 c] w' fun e w''=>e=.returned (.int .u32 (CS:Int))/\w'=w''):=aa (fun c w' hx=>by
  have hHT:=HT.out.ext (Bl.out.ag hx) (fun h=>h)
  have h1:=Hr T w' hHT (some ⟨w.heap.size,0,none⟩) S c ⟨by rw[lK];omega,fun _=>⟨w.heap.size,0,rfl,fun h=>h,fun j u hu=>by
   rw[Nat.zero_add,(Q3.out.ext hx (fun h=>h)).cell j];have hj:=(List.getElem?_eq_some_iff.1 hu).1;rw[lK]at hj;rw[kD,afG.out,List.getElem?_append_left hj]
   rw[<-hu];simp[dn]⟩⟩ (by omega)
  rw[Yk,<-Yq]at h1
  exact h1)
 have ae4:CS<4294967296:=by rw[Yq];exact Jf HT.out.lt S
 have uz:Hid (∀w',ah No W4 w'->Calls Tryz.prog 154 #[.slice (some ⟨w.heap.size,508,none⟩) 4 4,.int .u32 (CS:Int)] w' fun e w''=>e=.returned (.tuple #[])/\ax w'' w.heap.size 218 (dn (jm L3 508 (n4 CS))).toArray/\ah (fun b=>b=w.heap.size) w' w''):=aa (fun w' hx=>Ku CS ae4 w' w.heap.size 508 4 4 L3 (Q3.out.ext hx (fun h=>h)) (by rw[abp.out];omega) (by omega) (by omega) (by rw[abp.out];omega));clear hS Yk Yq ae4
 go_region_with (first|(go_at_call 126;refine(ac_.out _ _ (by first|exact(ah.refl No _).drew|exact ah.refl _ _)).mono ?_;rintro e w5 ⟨rfl,rfl⟩)|(go_at_call 154;refine(uz.out _ (by first|exact(ah.refl No _).drew|exact ah.refl _ _)).mono ?_;rintro e w6 ⟨rfl,wN,kH⟩))
 have Ha:Hid (ax w6 w.heap.size 218 (dn C).toArray):=aa (by
  have e:jm L3 508 (n4 CS)=C:=by
   rw[afG.out,HC.out,HCS.out,HS.out];have hl:(pJ id kind body).length=508:=uF HB.out;unfold jm dY;rw[List.take_left' hl,bX,List.drop_eq_nil_of_le (by rw[List.length_append,hl,ni];omega),List.append_nil]
  rw[<-e];exact wN)
 have hCl:C.length=512:=by rw[HC.out];exact jD HB.out
 have wP:Hid (ah No w w6):=aa ((Bl.out.drew).trans kH (fun b hb e=>by have e':b=w.heap.size:=e;omega));have QD:(convert 98 9 (.slice (some ⟨w.heap.size,0,none⟩) 512 512)).run Tryz.prog w6=.ok (.string (au C)) w6:=by
  have h1:=run_convert_bytes_back (P:=Tryz.prog) w6 98 9 5 ⟨w.heap.size,0,none⟩ 512 C Tryz.underlying98 Tryz.underlying5 Tryz.underlying9 (fun j hj=>by
   rw[Addr.iP,Nat.zero_add,Ha.out.cell j,kD,List.getElem?_eq_getElem hj];rfl)
  rw[hCl]at h1;exact h1
 have lg6:=Ha.out.lt;clear wN kH hCl;go_wp2_with fail;go_ret2;exact⟨rfl,wP.out⟩
end Go.Proofs.YtccnemmlkcmceaaGreatDoor
namespace Go.Proofs.YtccnemmlkcmceaaGreatDoor
open Go.RowKit Go.BigFrame
theorem aar {W W':World}{S:Bs}(h:ah No (Lib.bytesWorld W 5 (au S)) W'):Rd W' No 1 (some ⟨W.heap.size,0,none⟩) S.length (dn S) :=
 ⟨by rw[lK];omega,fun _=>⟨W.heap.size,0,rfl,fun h=>h,fun j u hu=>by
  have hj:=(List.getElem?_eq_some_iff.1 hu).1;rw[lK]at hj;have:=Lib.bytesWorld_cell W 5 (au S) j (by rw[az];exact hj);rw[Nat.zero_add];refine aj h ?_ (fun h=>h);rw[this,<-hu]
  simp[dn,hj,au]⟩⟩
theorem or2 (b0 b1:Nat) (h0:b0<256) (h1:b1<256):bits .or .i64 (IntKind.i64.wrap (b0:Int)) (IntKind.i64.wrap (IntKind.i64.wrap (b1:Int)*256))=((b0+256*b1:Nat):Int):=by
 have e1:((b1:Int)*256)=((b1*2 ^ 8:Nat):Int):=by omega
 rw[dJ b0 (by omega),dJ b1 (by omega),e1,dJ _ (by omega),qL _ _ (by omega) (by omega),sZ _ _ 8 (by omega)];omega
theorem QP {C:Bs}{i:Nat}{b:UInt8}(h:C[i]?=some b):bt (au C) i=b.toNat:=by
 unfold bt;rw[jC,List.getD_eq_getElem?_getD,h];rfl
theorem Rs (cr:Bs->Nat) (id kind:Nat) (body:Bs):(dY cr id kind body)[4]?=some (UInt8.ofNat kind)/\(dY cr id kind body)[5]?=some 0/\(dY cr id kind body)[6]?=some (UInt8.ofNat (body.length%256))/\(dY cr id kind body)[7]?=some (UInt8.ofNat (body.length / 256)):=⟨rfl,rfl,rfl,rfl⟩
theorem Kg {cr:Bs->Nat}{id kind:Nat}{body:Bs}(hb:body.length<=500):(au (dY cr id kind body)).extract 8 (8+body.length)=au body/\(au (dY cr id kind body)).extract (8+body.length) 508=au (zs (500-body.length)):=by
 have h1:∀(l:Bs) (a b:Nat),(au l).extract a b=au ((l.take b).drop a):=fun l a b=>by
  simp[au,ByteArray.extract,ByteArray.copySlice,List.drop_take]
 have e:dY cr id kind body=(n4 id ++ [UInt8.ofNat kind,0,UInt8.ofNat (body.length%256),UInt8.ofNat (body.length / 256)])++(body++(zs (500-body.length)++n4 (cr (pJ id kind body)))):=by
  unfold dY pJ;simp only[List.append_assoc]
 have hl:(n4 id ++ [UInt8.ofNat kind,0,UInt8.ofNat (body.length%256),UInt8.ofNat (body.length / 256)]).length=8:=rfl;generalize n4 id ++ [UInt8.ofNat kind,0,UInt8.ofNat (body.length%256),UInt8.ofNat (body.length / 256)]=H at *;rw[h1,h1,e];constructor
 ·rw[<-hl,List.take_append,List.take_of_length_le (by omega),List.drop_left' rfl,Nat.add_sub_cancel_left,List.take_left' rfl]
 ·rw[<-List.append_assoc,<-List.append_assoc,List.take_left' (by simp only[List.length_append,ni,hl];omega),List.append_assoc,<-List.append_assoc,List.drop_left' (by rw[List.length_append,hl])]
theorem yO (T:Nat->Nat) (id kind:Nat) (body:Bs) (hid:id<2147483648) (hk:1<=kind/\kind<=255) (hb:body.length<=500) (w:World) (h:gJ w T) :
  Calls Tryz.prog 85 #[.int .i64 (id:Int),.string (au (dY (bT T) id kind body))] w fun e w'=>e=.returned (.tuple #[.int .i64 (kind:Int),.string (au body),.int .i64 0])/\ah No w w':=by
 have HIS:=aa (fun w=>P9 id hid w);obtain⟨S,hS⟩:∃S,S=pJ id kind body:=⟨_,rfl⟩;have Yk:S.length=508:=by rw[hS];exact uF hb
 obtain⟨C,hC⟩:∃C,C=dY (bT T) id kind body:=⟨_,rfl⟩;have Yq:C=S++n4 (bT T S):=by rw[hC,hS];rfl
 have hCl:C.length=512:=by rw[hC];exact jD hb
 rw[<-hC];have HT:=aa h;have QD:=fun w=>Lib.run_convert_string_bytes (P:=Tryz.prog) w 9 98 5 (au S) (u:=.string) Tryz.underlying9 Tryz.underlying98 Tryz.underlying5
 have x1:(au C).extract 0 508=au S:=by rw[pE,Yq,List.take_left' Yk]
 have x2:(au C).extract 508 512=au (n4 (bT T S)):=by
  have:=nk C 508;rw[hCl,Yq,List.drop_left' Yk,<-Yq]at this;exact this
 have eZ:(au C).size=512:=by rw[az,hCl]
 obtain⟨N,hN⟩:∃N,N=bT T S:=⟨_,rfl⟩;rw[<-hN]at x2;have afL:=aa (fun w=>Md (au (n4 N)) (by rw[az,bX];omega) w);have hv:v4 (au (n4 N))=N:=by have:=o_ N (by rw[hN];exact Jf h.lt S) [];rw[List.append_nil]at this;exact this
 rw[hv]at afL
 have ac_:Hid (∀W W' c,ah No w W->ah No (Lib.bytesWorld W 5 (au S)) W'->Calls Tryz.prog 126 #[.slice (some ⟨W.heap.size,0,none⟩) S.length c] W' fun e w''=>e=.returned (.int .u32 (N:Int))/\W'=w''):=aa (fun W W' c h1 h2=>by
  have hHT:=(HT.out.ext h1 (fun h=>h)).ext ((ah.of_below (Lib.bytesWorld_below W 5 (au S)) No).ag h2) (fun h=>h);have:=Hr T W' hHT (some ⟨W.heap.size,0,none⟩) S c (aar h2) (by omega);rw[<-hN]at this
  exact this)
 have HS:=aa hS;have HC:=aa hC;have HCS:=aa Yq;have G_:=aa hCl;have HSL:=aa Yk;have HN:=aa hN;have QZ:=aa hid;clear h hid hS Yk hC Yq hCl hN hv;rw[az]at eZ;go_enter Tryz.func85,Tryz.ntmps85;go_upto_region 3 with fail;have uB:Hid (ah No w w.drew):=aa ((ah.refl No w).drew)
 go_region_with (first|(go_at_call 126;refine(ac_.out w.drew _ _ uB.out (ah.refl _ _)).mono ?_;rintro e w5 ⟨rfl,rfl⟩)|(go_at_call 127;refine(afL.out _).mono ?_;rintro e w6 ⟨rfl,k6,rfl⟩))
 have jl:Hid (ah No w ((Lib.bytesWorld w.drew 5 (au S)).drewN k6)):=aa ((uB.out.ag (ah.of_below (Lib.bytesWorld_below w.drew 5 (au S)) No)).drewN k6);generalize (Lib.bytesWorld w.drew 5 (au S)).drewN k6=W5 at *;go_upto_region 5 with fail;obtain⟨B6,hB6⟩:∃B6,B6=bt (au C) 6:=⟨_,rfl⟩;obtain⟨B7,hB7⟩:∃B7,B7=bt (au C) 7:=⟨_,rfl⟩;have i6:∀w,(Instr.index 9 (.string (au C)) (.int .i64 6)).run Tryz.prog w=.ok (.int .u8 (B6:Int)) w:=fun w=>by rw[hB6];exact oI (au C) 6 (by rw[az];have:=G_.out;omega) w
 have i7:∀w,(Instr.index 9 (.string (au C)) (.int .i64 7)).run Tryz.prog w=.ok (.int .u8 (B7:Int)) w:=fun w=>by rw[hB7];exact oI (au C) 7 (by rw[az];have:=G_.out;omega) w
 have Ha:=aa hB6;have JB:=aa hB7;clear hB6 hB7;go_quiet (fail);go_upto_region 6 with fail;obtain⟨q4,q5,q6,q7⟩:=Rs (bT T) id kind body;rw[<-HC.out]at q4 q5 q6 q7;have ho2:bits .or .i64 (IntKind.i64.wrap (B6:Int)) (IntKind.i64.wrap (IntKind.i64.wrap (B7:Int)*256))=(body.length:Int):=by
  rw[or2 B6 B7 (by rw[Ha.out];exact jd _ _) (by rw[JB.out];exact jd _ _),Ha.out,JB.out,QP q6,QP q7,UInt8.toNat_ofNat',UInt8.toNat_ofNat'];omega
 rw[ho2];have i4:∀w,(Instr.index 9 (.string (au C)) (.int .i64 4)).run Tryz.prog w=.ok (.int .u8 (kind:Int)) w:=fun w=>by
  have:=oI (au C) 4 (by rw[az];have:=G_.out;omega) w;rw[QP q4,UInt8.toNat_ofNat',Nat.mod_eq_of_lt (by omega)]at this;exact this
 have i5:∀w,(Instr.index 9 (.string (au C)) (.int .i64 5)).run Tryz.prog w=.ok (.int .u8 0) w:=fun w=>by
  have:=oI (au C) 5 (by rw[az];have:=G_.out;omega) w;rw[QP q5]at this;exact this
 have Jy:Hid (∀w,Calls Tryz.prog 127 #[.string (au C)] w fun e w'=>e=.returned (.int .u32 (id:Int))/\∃k,w'=w.drewN k):=aa (fun w=>by
  have h1:=Md (au C) (by rw[az];have:=G_.out;omega) w;have h2:v4 (au C)=id:=by
   rw[HC.out];unfold dY pJ;rw[List.append_assoc];exact o_ id (by have:=QZ.out;omega) _
  rw[h2]at h1
  exact h1)
 obtain⟨b1,b2⟩:=Kg (cr:=bT T) (id:=id) (kind:=kind) hb;rw[<-HC.out]at b1 b2
 have HTR:Hid (∀w,Calls Tryz.prog 125 #[.string (au (zs (500-body.length))),.string ⟨#[0]⟩] w fun e w'=>e=.returned (.string ⟨#[]⟩)/\ah No w w'):=aa (fun w=>by
  have ht:(⟨(Lib.trimB (au (zs (500-body.length))).data.toList 0).toArray⟩:ByteArray)=⟨#[]⟩:=by rw[jC,P6]
  have h1:=Tryz.strings_Trim_one (au (zs (500-body.length))) 0 (by decide) w (by rw[az,ni];omega);rw[ht]at h1;refine h1.mono ?_;rintro e w1 ⟨rfl,hw⟩;refine⟨rfl,?_⟩;rcases hw with rfl|rfl
  ·exact ah.refl _ _
  ·exact(ah.refl _ _).drew)
 obtain⟨Z,hZ⟩:∃Z,Z=zs (500-body.length):=⟨_,rfl⟩;rw[<-hZ]at b2 HTR;obtain⟨n,hn⟩:∃n,n=body.length:=⟨_,rfl⟩;rw[<-hn]at b1 b2 hb ⊢;have g1:¬(500<(n:Int)):=by omega
 have g2:(0:Int)<=8+(n:Int):=by omega
 have g3:(8:Int)+(n:Int)<=508:=by omega
 have g4:((kind:Int)==0)=false:=by simp;omega
 have g5:IntKind.i64.wrap (id:Int)=(id:Int):=dJ id (by have:=QZ.out;omega);have g6:(8+(n:Int)).toNat=8+n:=by omega
 have g7:IntKind.i64.wrap (kind:Int)=(kind:Int):=dJ kind (by omega);have wP:=aa (jl.out.drewN nq);clear q4 q5 q6 q7 ho2 hb hk hZ hn i6 i7 QD x1 x2;generalize W5.drewN nq=W6 at *;go_upto_region 8 with (first|(go_at_call 128;refine(HIS.out _).mono ?_;rintro e w1 ⟨rfl,rfl⟩)|(go_at_call 127;refine(Jy.out _).mono ?_;rintro e w1 ⟨rfl,k7,rfl⟩)|(go_at_call 125;refine(HTR.out _).mono ?_;rintro e w1 ⟨rfl,kK⟩));have MU:=aa ((wP.out.drewN k7).ag kK);clear kK;go_quiet (fail);go_wp2_with fail
 go_ret3
 exact⟨rfl,MU.out.drewN _⟩
end Go.Proofs.YtccnemmlkcmceaaGreatDoor
namespace Go.Proofs.YtccnemmlkcmceaaGreatDoor
open Go.RowKit
def nQ (k:Dk) (c:Nat->Bs):Prop:=∃sub:List (Nat×Bs),sub.Sublist k.pd/\∀j,c j=sub.foldl (fun b p=>if p.1=j then p.2 else b) (k.K j)
theorem SL {sub:List (Nat×Bs)}{j:Nat}(h:∀p∈sub,p.1≠j) (b:Bs):sub.foldl (fun b p=>if p.1=j then p.2 else b) b=b:=by
 induction sub with
 | nil=>rfl
 | cons p l ih =>
  rw[List.foldl_cons,if_neg (h p (by simp))];exact ih (fun q hq=>h q (by simp[hq]))
theorem nQ.not {k:Dk}{c:Nat->Bs}(h:nQ k c) {j:Nat}(hj:∀p∈k.pd,p.1≠j):c j=k.K j:=by
 obtain⟨sub,hs,hc⟩:=h;rw[hc j];exact SL (fun p hp=>hj p (hs.subset hp)) _
theorem nQ.same {k k':Dk}{c:Nat->Bs}(h:nQ k c) (h1:k.K=k'.K) (h2:k.pd=k'.pd):nQ k' c:=by
 obtain⟨sub,hs,hc⟩:=h;exact⟨sub,by rw[<-h2];exact hs,fun j=>by rw[<-h1];exact hc j⟩
theorem nQ.clean {k:Dk}{c:Nat->Bs}(h:nQ k c) (h1:k.pd = []):c=k.K:=funext fun j=>h.not (by rw[h1];simp)
theorem Gr:∀{sub:List (Nat×Bs)}{j:Nat}{b:Bs},sub.foldl (fun b p=>if p.1=j then p.2 else b) b=b\/∃p∈sub,p.1=j/\sub.foldl (fun b p=>if p.1=j then p.2 else b) b=p.2
 | [],j,b=>.inl rfl
 | p::l,j,b=>by
  rw[List.foldl_cons];rcases Gr (sub:=l) (j:=j) (b:=if p.1=j then p.2 else b)with h|⟨q,hq,h1,h2⟩
  ·by_cases hp:p.1=j
   ·rw[if_pos hp]at h ⊢
    exact .inr ⟨p,by simp,hp,h⟩
   ·rw[if_neg hp]at h ⊢
    exact .inl h
  ·exact .inr ⟨q,by simp[hq],h1,h2⟩
theorem nQ.one {k:Dk}{c:Nat->Bs}(h:nQ k c) (j:Nat):c j=k.K j\/∃p∈k.pd,p.1=j/\c j=p.2:=by
 obtain⟨sub,hs,hc⟩:=h;rw[hc j];rcases Gr (sub:=sub) (j:=j) (b:=k.K j)with h|⟨p,hp,h1,h2⟩
 ·exact .inl h
 ·exact .inr ⟨p,hs.subset hp,h1,h2⟩
def mR (c:Nat->Bs) (bytes:Bs):Prop:=∀i,i<bytes.length->(c (1+i / 64))[i%64]?=bytes[i]?
structure rO (cr:Bs->Nat) (c:Nat->Bs) (ak:Nat) (bytes:Bs) (ls:List (List (Nat×Bs))):Prop where
 hd:c 0=bZ cr ak bytes.length\/(c 0=zs 64/\ak=0/\bytes = []/\ls = [])
 by_:mR c bytes
 en:bytes=ls.flatMap fun l=>aM cr (aB l)
def mr (cap:Nat) (l:List (Nat×Bs)):Prop:=l ≠ []/\(aB l).length<=65536/\∀p∈l,p.1<cap/\p.2.length=512
def jk (ls:List (List (Nat×Bs))):List Nat:=ls.flatten.map (·.1)
def nO (cr:Bs->Nat) (log cap E:Nat) (c:Nat->Bs) (f:Nat->Bs):Prop :=
 ∃ak bytes ls,rO cr c ak bytes ls/\bytes.length<=64*(log-1)/\(∀l∈ls,mr cap l)/\ak<=E/\∀id,pages ls.flatten (aJ c log) id=f id
structure kZ (cr:Bs->Nat) (log cap:Nat) (k:Dk) (ak:Nat) (bytes:Bs) (ls:List (List (Nat×Bs))) (f:Nat->Bs):Prop where
 lg:rO cr k.K ak bytes ls
 fits:bytes.length<=64*(log-1)
 ok:∀l∈ls,mr cap l
 pd:∀p∈k.pd,∃id j,p.1=log+id*8+j/\j<8/\id∈jk ls
 pg:∀id,id∉jk ls->aJ k.K log id=f id
 pl:∀id,id∈jk ls->∀g,pages ls.flatten g id=f id
def Cur (log:Nat) (k:Dk) (f:Nat->Bs):Prop:=∀id,aJ k.cur log id=f id
theorem xh (a b:List (Nat×Bs)) (g:Nat->Bs) (i:Nat):pages (a++b) g i=pages b (pages a g) i:=by
 unfold pages;rw[List.foldl_append]
theorem jI {l:List (Nat×Bs)}{g:Nat->Bs}{i:Nat}(h:i∉l.map (·.1)):pages l g i=g i:=by
 unfold pages
 induction l generalizing g with
 | nil=>rfl
 | cons p l ih =>
  rw[List.foldl_cons,if_neg (fun e=>h (by simp[e]))];exact ih (fun hm=>h (by simp[hm]))
theorem UO {l:List (Nat×Bs)}{g g':Nat->Bs}{i:Nat}(h:i∈l.map (·.1)):pages l g i=pages l g' i:=by
 unfold pages;have hh:∀(l:List (Nat×Bs)) (b b':Bs),i∈l.map (·.1)->l.foldl (fun b p=>if p.1=i then p.2 else b) b=l.foldl (fun b p=>if p.1=i then p.2 else b) b':=by
  intro l
  induction l with
  | nil=>intro b b' h;cases h
  | cons p l ih =>
   intro b b' h;rw[List.foldl_cons,List.foldl_cons]
   by_cases hp:p.1=i
   ·rw[if_pos hp,if_pos hp]
   ·rw[if_neg hp,if_neg hp]
    exact ih _ _ (by
     rcases List.mem_cons.1 h with h|h
     ·exact absurd h.symm hp
     ·exact h)
 exact hh l _ _ h
theorem d_ {c c':Nat->Bs}{log id:Nat}(h:∀j,j<8->c (log+id*8+j)=c' (log+id*8+j)):aJ c log id=aJ c' log id:=by
 unfold aJ;congr 1;apply List.map_congr_left;intro j hj;exact h j (List.mem_range.1 hj)
theorem mR.same {c c':Nat->Bs}{bytes:Bs}{log:Nat}(h:mR c bytes) (hb:bytes.length<=64*(log-1)) (hs:∀j,j<log->c' j=c j):mR c' bytes:=by
 intro i hi;rw[hs _ (by omega)];exact h i hi
theorem rO.same {cr:Bs->Nat}{c c':Nat->Bs}{ak log:Nat}{bytes:Bs}{ls:List (List (Nat×Bs))}(h:rO cr c ak bytes ls) (df:2<=log) (hb:bytes.length<=64*(log-1)) (hs:∀j,j<log->c' j=c j):rO cr c' ak bytes ls :=
 ⟨by rw[hs 0 (by omega)];exact h.hd,h.by_.same hb hs,h.en⟩
section
variable {cr:Bs->Nat}{log cap E ak:Nat}{k:Dk}{bytes:Bs}{ls:List (List (Nat×Bs))}{f:Nat->Bs}{c:Nat->Bs}
theorem kZ.low (h:kZ cr log cap k ak bytes ls f) (hc:nQ k c):∀j,j<log->c j=k.K j:=fun j hj=>hc.not (fun p hp=>by
 obtain⟨id,i,h1,_⟩:=h.pd p hp
 omega)
theorem kZ.far (h:kZ cr log cap k ak bytes ls f) {id:Nat}(hid:id∉jk ls):∀p∈k.pd,∀j,j<8->p.1≠log+id*8+j:=fun p hp j hj e=>by
 obtain⟨id',i,h1,h2,h3⟩:=h.pd p hp;have:id=id':=by omega
 subst this;exact hid h3
theorem kZ.shows (h:kZ cr log cap k ak bytes ls f) (df:2<=log) (hE:ak<=E) (hc:nQ k c):nO cr log cap E c f:=by
 refine⟨ak,bytes,ls,h.lg.same df h.fits (h.low hc),h.fits,h.ok,hE,fun id=>?_⟩
 by_cases hid:id∈jk ls
 ·exact h.pl id hid _
 ·rw[jI hid,<-h.pg id hid]
  exact d_ (fun j hj=>hc.not (fun p hp=>h.far hid p hp j hj))
theorem kZ.same {k':Dk}(h:kZ cr log cap k ak bytes ls f) (h1:k'.K=k.K) (h2:k'.pd=k.pd):kZ cr log cap k' ak bytes ls f :=
 ⟨by rw[h1];exact h.lg,h.fits,h.ok,by rw[h2];exact h.pd,by rw[h1];exact h.pg,h.pl⟩
theorem Ms (k:Dk):nQ k k.cur:=⟨k.pd,List.Sublist.refl _,fun j=>rfl⟩
theorem kZ.flush (h:kZ cr log cap k ak bytes ls f) (df:2<=log) (Sw:Cur log k f) (h0:k.flush.1=0):kZ cr log cap k.flush.2 ak bytes ls f/\k.flush.2.pd = []/\(∀id,aJ k.flush.2.K log id=f id):=by
 obtain⟨h1,h2,_⟩:=Dk.nI h0;have hp:∀id,aJ k.flush.2.K log id=f id:=by rw[h1];exact Sw
 exact⟨⟨by rw[h1];exact h.lg.same df h.fits (h.low (Ms k)),h.fits,h.ok,by rw[h2];simp,fun id _=>hp id,h.pl⟩,h2,hp⟩
theorem CO (hp:k.pd = []) (e len:Nat):((k.aO cr e len).1=0->(∀j,(k.aO cr e len).2.K j=if j=0 then bZ cr e len else k.K j)/\(k.aO cr e len).2.pd = []) /\
  ((k.aO cr e len).1≠0->∀c,nQ (k.aO cr e len).2 c->c=k.K\/(∀j,c j=if j=0 then bZ cr e len else k.K j)):=by
 have hs:fO (bZ cr e len)=bZ cr e len:=FN (xJ _ _ _);unfold Dk.aO
 by_cases h1:(k.write 0 (bZ cr e len)).1≠0
 ·rw[if_pos h1]
  refine⟨fun h=>absurd h h1,fun _ c hc=>.inl ?_⟩;obtain⟨h2,h3⟩:=Dk.JV h1;rw[hc.clean (by rw[h3,hp]),h2]
 ·rw[if_neg h1]
  obtain⟨h2,h3⟩:=Dk.sN (k:=k) (i:=0) (s:=bZ cr e len) (by simpa using h1);rw[hp,hs]at h3;generalize (k.write 0 (bZ cr e len)).2=k1 at *;constructor
  ·intro h0
   obtain⟨h4,h5,_⟩:=Dk.nI h0;refine⟨fun j=>?_,h5⟩;rw[h4];unfold Dk.cur;rw[h3,h2];show(if 0=j then _ else _)=_
   by_cases hj:j=0
   ·rw[if_pos hj,if_pos hj.symm]
   ·rw[if_neg hj,if_neg (fun e=>hj e.symm)]
  ·intro h0 c hc
   obtain⟨h4,h5,_⟩:=Dk.ug h0;obtain⟨sub,mK,Gg⟩:=hc.same (k':=k1) h4 h5;rw[h3]at mK;rw[h2]at Gg
   match sub,mK with
   | [],_=>exact .inl (funext Gg)
   | p::l,mK =>
    have hl:l.length+1<=1:=mK.length_le;have:l = []:=List.eq_nil_of_length_eq_zero (by omega);subst this;have Lu:p ∈ [(0,bZ cr e len)]:=mK.subset (by simp);have:p=(0,bZ cr e len):=List.mem_singleton.1 Lu;subst this
    right
    intro j;rw[Gg j];show(if 0=j then _ else _)=_
    by_cases hj:j=0
    ·rw[if_pos hj,if_pos hj.symm]
    ·rw[if_neg hj,if_neg (fun e=>hj e.symm)]
theorem rO.empty {c:Nat->Bs}{e:Nat}(h:c 0=bZ cr e 0):rO cr c e [] []:=⟨.inl h,fun i hi=>by simp at hi,rfl⟩
theorem Hy {s:Db}(h:kZ cr log cap s.k s.ak s.bytes ls f) (df:2<=log) (Sw:Cur log s.k f) (hr:s.recs=ls.map aB) :
  ((s.settle cr).1=0->∃ls',kZ cr log cap (s.settle cr).2.k (s.settle cr).2.ak (s.settle cr).2.bytes ls' f/\Cur log (s.settle cr).2.k f/\(s.settle cr).2.recs=ls'.map aB/\(s.settle cr).2.ak<=s.ak+1/\(s.recs = []\/(s.settle cr).2.bytes = [])) /\
  ((s.settle cr).1≠0->∀c,nQ (s.settle cr).2.k c->nO cr log cap (s.ak+1) c f):=by
 unfold Db.settle
 by_cases h0:s.recs = []
 ·rw[if_pos h0]
  exact⟨fun _=>⟨ls,h,Sw,hr,Nat.le_succ _,.inl h0⟩,fun h=>absurd rfl h⟩
 ·rw[if_neg h0]
  by_cases h1:s.k.flush.1≠0
  ·rw[if_pos h1]
   refine⟨fun h=>absurd h h1,fun _ c hc=>?_⟩;obtain⟨h4,h5,_⟩:=Dk.ug h1;exact h.shows df (by omega) (hc.same h4 h5)
  ·rw[if_neg h1]
   obtain⟨r1,r2,r3⟩:=h.flush df Sw (by simpa using h1);generalize s.k.flush.2=k1 at *;have hh:=CO (cr:=cr) r2 (s.ak+1) 0
   by_cases h2:(k1.aO cr (s.ak+1) 0).1≠0
   ·rw[if_pos h2]
    refine⟨fun h=>absurd h h2,fun _ c hc=>?_⟩;rcases hh.2 h2 c hc with rfl|hc
    ·exact r1.shows df (by omega) ⟨[],List.nil_sublist _,fun j=>rfl⟩
    ·refine⟨s.ak+1,[],[],rO.empty (by rw[hc 0];rfl),by simp,by simp,Nat.le_refl _,fun id=>?_⟩
     show aJ c log id=f id;rw[<-r3 id];exact d_ (fun j hj=>by rw[hc,if_neg (by omega)])
   ·rw[if_neg h2]
    obtain⟨h3,h4⟩:=hh.1 (by simpa using h2);refine⟨fun _=>⟨[],⟨rO.empty (by rw[h3 0];rfl),by simp,by simp,by rw[h4];simp,fun id _=>?_,fun id hid=>by simp[jk]at hid⟩,fun id=>?_,rfl,Nat.le_refl _,.inr rfl⟩,fun h=>absurd rfl h⟩
    ·rw[<-r3 id]
     exact d_ (fun j hj=>by rw[h3,if_neg (by omega)])
    ·show aJ (Dk.cur _) log id=f id
     rw[<-r3 id];refine d_ (fun j hj=>?_);unfold Dk.cur;rw[h4];show(k1.aO cr (s.ak+1) 0).2.K _=_;rw[h3,if_neg (by omega)]
theorem sK:∀(l:List (Nat×Bs)) (k:Dk),∃n,(k.writes l).2.K=k.K/\(k.writes l).2.pd=k.pd++(l.take n).map (fun p=>(p.1,fO p.2))/\((k.writes l).1=0->n=l.length)
 | [],k=>⟨0,rfl,by simp[Dk.writes],fun _=>rfl⟩
 | p::l,k=>by
  rw[Dk.writes]
  by_cases h1:(k.write p.1 p.2).1≠0
  ·rw[if_pos h1]
   obtain⟨h2,h3⟩:=Dk.JV h1;exact⟨0,h2,by rw[h3];simp,fun h=>absurd h h1⟩
  ·rw[if_neg h1]
   obtain⟨h2,h3⟩:=Dk.sN (k:=k) (i:=p.1) (s:=p.2) (by simpa using h1);obtain⟨n,g1,g2,g3⟩:=sK l (k.write p.1 p.2).2;refine⟨n+1,g1.trans h2,?_,fun h=>by rw[g3 h];rfl⟩;rw[g2,h3];simp
end
section
variable {cr:Bs->Nat}{log cap E ak:Nat}{k:Dk}{bytes all:Bs}{ls:List (List (Nat×Bs))}{f:Nat->Bs}{c:Nat->Bs}
theorem p8:∀(n:Nat) (s:Bs) (t:Nat),t<n->(jg n s)[t]?=some ((s.drop (t*64)).take 64)
 | 0,s,t,h=>by omega
 | n+1,s,0,h=>by simp[jg]
 | n+1,s,t+1,h=>by
  rw[jg,List.getElem?_cons_succ,p8 n (s.drop 64) t (by omega),List.drop_drop,show 64+t*64=(t+1)*64 by omega]
theorem FP:∀(l:List Bs) (a t:Nat),(gD a l)[t]?=(l[t]?).map fun b=>(a+t,b)
 | [],a,t=>by simp[gD]
 | b::l,a,0=>by simp[gD]
 | b::l,a,t+1=>by
  rw[gD,List.getElem?_cons_succ,FP l,List.getElem?_cons_succ,show a+1+t=a+(t+1) by omega]
def u_ (bytes all:Bs):List (Nat×Bs):=gD (1+bytes.length / 64) (jg ((all.length+63) / 64-bytes.length / 64) (all.drop (bytes.length / 64*64)))
theorem tO {p:Nat×Bs}(h:p∈u_ bytes all):1+bytes.length / 64<=p.1/\p.1<1+(all.length+63) / 64/\p.2=(all.drop ((p.1-1)*64)).take 64:=by
 obtain⟨t,ht⟩:=List.getElem?_of_mem h;unfold u_ at ht;rw[FP]at ht
 by_cases bu:t<(all.length+63) / 64-bytes.length / 64
 ·rw[p8 _ _ _ bu]at ht
  simp only[Option.map_some,Option.some.injEq]at ht;subst ht;refine⟨by simp,by show 1+bytes.length / 64+t<_;omega,?_⟩;show((all.drop (bytes.length / 64*64)).drop (t*64)).take 64=(all.drop ((1+bytes.length / 64+t-1)*64)).take 64;rw[List.drop_drop,show bytes.length / 64*64+t*64=(1+bytes.length / 64+t-1)*64 by omega]
 ·rw[List.getElem?_eq_none (by rw[jr];omega)]at ht
  cases ht
theorem UG {s:Bs}{i:Nat}(h:i<s.length):(fO s)[i]?=s[i]?:=by
 unfold fO;rw[List.getElem?_append_left h]
theorem Ky {i:Nat}(h:i<all.length):(fO ((all.drop (i / 64*64)).take 64))[i%64]?=all[i]?:=by
 have hi:i / 64*64+i%64=i:=by omega
 rw[UG (by rw[List.length_take,List.length_drop];omega),List.getElem?_take,if_pos (by omega),List.getElem?_drop,hi]
theorem kZ.laying {k':Dk}(h:kZ cr log cap k ak bytes ls f) (df:2<=log) (hE:ak<=E) (Lt:∀i,i<bytes.length->all[i]?=bytes[i]?) (ha:bytes.length<=all.length) (gP:all.length<=64*(log-1))
  (hK:k'.K=k.K) (tV:∀p∈k'.pd,p∈k.pd\/∃q∈u_ bytes all,p=(q.1,fO q.2)) (hc:nQ k' c):nO cr log cap E c f:=by
 have hn:∀j,(∀p∈k.pd,p.1≠j)->(∀q∈u_ bytes all,q.1≠j)->c j=k.K j:=fun j h1 h2=>by
  rw[<-hK];refine hc.not (fun p hp=>?_);rcases tV p hp with hp|⟨q,hq,rfl⟩
  ·exact h1 p hp
  ·exact h2 q hq
 have nC:∀j,j<log->∀p∈k.pd,p.1≠j:=fun j hj p hp=>by
  obtain⟨id,i,h1,_⟩:=h.pd p hp;omega
 have h0:c 0=k.K 0:=hn 0 (nC 0 (by omega)) (fun q hq=>by have:=(tO hq).1;omega);have hb:mR c bytes:=fun i hi=>by
  rcases hc.one (1+i / 64)with h1|⟨p,hp,h1,h2⟩
  ·rw[h1,hK];exact h.lg.by_ i hi
  ·rcases tV p hp with hp|⟨q,hq,rfl⟩
   ·exact absurd h1 (nC _ (by have:=h.fits;omega) p hp)
   ·have h3:=tO hq
    simp only at h1 h2;rw[h2,h3.2.2,h1,show(1+i / 64-1)*64=i / 64*64 by omega,Ky (by omega)];exact Lt i hi
 refine⟨ak,bytes,ls,⟨by rw[h0];exact h.lg.hd,hb,h.lg.en⟩,h.fits,h.ok,hE,fun id=>?_⟩
 by_cases hid:id∈jk ls
 ·exact h.pl id hid _
 ·rw[jI hid,<-h.pg id hid]
  exact d_ (fun j hj=>hn _ (fun p hp=>h.far hid p hp j hj) (fun q hq=>by have:=(tO hq).2.1;omega))
structure ahy (cr:Bs->Nat) (log cap:Nat) (k:Dk) (ak:Nat) (bytes all:Bs) (ls:List (List (Nat×Bs))) (f:Nat->Bs):Prop where
 rest:kZ cr log cap k ak bytes ls f
 pd:k.pd = []
 all:mR k.K all
 pg:∀id,aJ k.K log id=f id
theorem R4 (h:kZ cr log cap k ak bytes ls f) (df:2<=log) (hE:ak<=E) (Sw:Cur log k f) (Lt:∀i,i<bytes.length->all[i]?=bytes[i]?) (ha:bytes.length<=all.length) (gP:all.length<=64*(log-1)) :
  ((k.bV bytes all).1=0->ahy cr log cap (k.bV bytes all).2 ak bytes all ls f)/\((k.bV bytes all).1≠0->∀c,nQ (k.bV bytes all).2 c->nO cr log cap E c f):=by
 have e:k.bV bytes all=if (k.writes (u_ bytes all)).1≠0 then k.writes (u_ bytes all)else (k.writes (u_ bytes all)).2.flush:=rfl
 rw[e];obtain⟨n,g1,g2,g3⟩:=sK (u_ bytes all) k;have tV:∀p∈(k.writes (u_ bytes all)).2.pd,p∈k.pd\/∃q∈u_ bytes all,p=(q.1,fO q.2):=fun p hp=>by
  rw[g2]at hp;rcases List.mem_append.1 hp with hp|hp
  ·exact .inl hp
  ·obtain⟨q,hq,rfl⟩:=List.mem_map.1 hp
   exact .inr ⟨q,List.mem_of_mem_take hq,rfl⟩
 by_cases h1:(k.writes (u_ bytes all)).1≠0
 ·rw[if_pos h1]
  exact⟨fun h=>absurd h h1,fun _ c hc=>h.laying df hE Lt ha gP g1 tV hc⟩
 ·rw[if_neg h1]
  have hcw:=Dk.kY (l:=u_ bytes all) (k:=k) (by simpa using h1);generalize (k.writes (u_ bytes all)).2=k1 at *
  by_cases h2:k1.flush.1≠0
  ·refine⟨fun h=>absurd h h2,fun _ c hc=>?_⟩
   obtain⟨h4,h5,_⟩:=Dk.ug h2;exact h.laying df hE Lt ha gP g1 tV (hc.same h4 h5)
  ·refine⟨fun _=>?_,fun h=>absurd h h2⟩
   obtain⟨h4,h5,_⟩:=Dk.nI (k:=k1) (by simpa using h2);have aeD:∀j,k1.flush.2.K j=over (u_ bytes all) k.cur j:=fun j=>by rw[h4];exact hcw j
   have nC:∀j,j<log->k.cur j=k.K j:=h.low (Ms k);have ad7:∀j,(∀q∈u_ bytes all,q.1≠j)->k1.flush.2.K j=k.cur j:=fun j hj=>by rw[aeD];exact KH hj
   have VJ:∀id,aJ k1.flush.2.K log id=f id:=fun id=>by
    rw[<-Sw id];exact d_ (fun j hj=>ad7 _ (fun q hq=>by have:=(tO hq).2.1;omega))
   have fF:mR k1.flush.2.K all:=fun i hi=>by
    rw[aeD];unfold u_;rw[xq]
    by_cases hq:bytes.length / 64<=i / 64
    ·rw[if_pos ⟨by omega,by rw[jr];omega⟩,List.getD_eq_getElem?_getD,p8 _ _ _ (by omega),Option.getD_some,List.drop_drop]
     rw[show bytes.length / 64*64+(1+i / 64-(1+bytes.length / 64))*64=i / 64*64 by omega];exact Ky hi
    ·rw[if_neg (by omega),nC _ (by omega),h.lg.by_ i (by omega)]
     exact(Lt i (by omega)).symm
   refine⟨⟨⟨?_,fun i hi=>?_,h.lg.en⟩,h.fits,h.ok,by rw[h5];simp,fun id _=>VJ id,h.pl⟩,h5,fF,VJ⟩
   ·rw[ad7 0 (fun q hq=>by have:=(tO hq).1;omega),nC 0 (by omega)]
    exact h.lg.hd
   ·rw[fF i (by omega),Lt i hi]
theorem kX (cr:Bs->Nat) (rec:Bs):(aM cr rec).length=rec.length+8:=by
 simp only[aM,List.length_append,bX];omega
theorem xD (ls:List (List (Nat×Bs))) (l:List (Nat×Bs)):jk (ls ++ [l])=jk ls++l.map (·.1):=by simp[jk]
theorem SN (ls:List (List (Nat×Bs))) (l:List (Nat×Bs)):(ls ++ [l]).flatten=ls.flatten++l:=by simp
theorem Y6 {ls:List (List (Nat×Bs))}{l:List (Nat×Bs)}(kV:∀id,id∈jk ls->∀g,pages ls.flatten g id=f id):∀id,id∈jk (ls ++ [l])->∀g,pages (ls ++ [l]).flatten g id=pages l f id:=by
 intro id hid g;rw[SN,xh]
 by_cases h1:id∈l.map (·.1)
 ·exact UO h1
 ·rw[jI h1,jI h1]
  rw[xD]at hid;rcases List.mem_append.1 hid with h2|h2
  ·exact kV id h2 g
  ·exact absurd h2 h1
theorem NF {s:Db}{l:List (Nat×Bs)}(h:kZ cr log cap s.k s.ak s.bytes ls f) (df:2<=log) (hE:s.ak<=E) (Sw:Cur log s.k f) (hr:s.recs=ls.map aB) (hl:mr cap l) (rG:(aB l).length+8<=s.room log) :
  ((s.sync cr (aB l)).1=0->kZ cr log cap (s.sync cr (aB l)).2.k (s.sync cr (aB l)).2.ak (s.sync cr (aB l)).2.bytes (ls ++ [l]) (pages l f)/\(s.sync cr (aB l)).2.k.pd = []/\(∀id,aJ (s.sync cr (aB l)).2.k.K log id=f id)/\(s.sync cr (aB l)).2.recs=(ls ++ [l]).map aB/\(s.sync cr (aB l)).2.ak=s.ak) /\
  ((s.sync cr (aB l)).1≠0->∀c,nQ (s.sync cr (aB l)).2.k c->nO cr log cap E c f\/nO cr log cap E c (pages l f)):=by
 have hb:=h.fits;unfold Db.room at rG;obtain⟨all,ha⟩:∃all,all=s.bytes++aM cr (aB l):=⟨_,rfl⟩;have bY:all.length=s.bytes.length+((aB l).length+8):=by rw[ha,List.length_append,kX]
 have Lt:∀i,i<s.bytes.length->all[i]?=s.bytes[i]?:=fun i hi=>by rw[ha,List.getElem?_append_left hi]
 have Sn:=R4 h df hE Sw Lt (by omega) (by omega);unfold Db.sync;rw[<-ha]
 by_cases h1:(s.k.bV s.bytes all).1≠0
 ·rw[if_pos h1]
  exact⟨fun h=>absurd h h1,fun _ c hc=>.inl (Sn.2 h1 c hc)⟩
 ·rw[if_neg h1]
  have hL:=Sn.1 (by simpa using h1);generalize (s.k.bV s.bytes all).2=k1 at *;have hh:=CO (cr:=cr) hL.pd s.ak all.length;have Qz:all=(ls ++ [l]).flatMap fun l=>aM cr (aB l):=by
   rw[ha,List.flatMap_append,<-h.lg.en];simp
  have aX:∀x∈ls ++ [l],mr cap x:=fun x hx=>by
   rcases List.mem_append.1 hx with hx|hx
   ·exact h.ok x hx
   ·rw[List.mem_singleton.1 hx];exact hl
  have kV:=Y6 (l:=l) h.pl
  -- a disk with the new head
  have A7:∀c:Nat->Bs,(∀j,c j=if j=0 then bZ cr s.ak all.length else k1.K j)->rO cr c s.ak all (ls ++ [l])/\∀id,aJ c log id=f id:=fun c hc=>by
   refine⟨⟨.inl (by rw[hc 0];rfl),fun i hi=>by rw[hc,if_neg (by omega)];exact hL.all i hi,Qz⟩,fun id=>?_⟩;rw[<-hL.pg id];exact d_ (fun j hj=>by rw[hc,if_neg (by omega)])
  by_cases h2:(k1.aO cr s.ak all.length).1≠0
  ·rw[if_pos h2]
   refine⟨fun h=>absurd h h2,fun _ c hc=>?_⟩;rcases hh.2 h2 c hc with rfl|hc
   ·exact .inl (hL.rest.shows df hE ⟨[],List.nil_sublist _,fun j=>rfl⟩)
   ·obtain⟨n1,n2⟩:=A7 c hc
    refine .inr ⟨s.ak,all,ls ++ [l],n1,by omega,aX,hE,fun id=>?_⟩
    by_cases hid:id∈jk (ls ++ [l])
    ·exact kV id hid _
    ·rw[jI hid,n2 id]
     rw[xD]at hid;exact(jI (fun hm=>hid (List.mem_append.2 (.inr hm)))).symm
  ·rw[if_neg h2]
   obtain⟨h3,h4⟩:=hh.1 (by simpa using h2);obtain⟨n1,n2⟩:=A7 _ h3;refine⟨fun _=>⟨⟨n1,by show all.length<=_;omega,aX,by rw[h4];simp,fun id hid=>?_,kV⟩,h4,n2,by rw[hr];simp,rfl⟩,fun h=>absurd rfl h⟩;show aJ (k1.aO cr s.ak all.length).2.K log id=_;rw[n2 id];rw[xD]at hid;exact(jI (fun hm=>hid (List.mem_append.2 (.inr hm)))).symm
theorem Ol {log:Nat}{l:List (Nat×Bs)}{p:Nat×Bs}(h:p∈bI log l):∃id j,p.1=log+id*8+j/\j<8/\id∈l.map (·.1):=by
 obtain⟨q,hq,ZE⟩:=List.mem_flatMap.1 h;have h1:=yN ZE;rw[jr]at h1;exact⟨q.1,p.1-(log+q.1*8),by omega,by omega,List.mem_map.2 ⟨q,hq,rfl⟩⟩
theorem CX {s:Db}{l:List (Nat×Bs)}{m:Mt}(h:kZ cr log cap s.k s.ak s.bytes ls f) (df:2<=log) (hE:s.ak<=E) (Sw:Cur log s.k f) (hr:s.recs=ls.map aB) (hl:mr cap l) (rG:(aB l).length+8<=s.room log) :
  ((s.keep cr log l m).1=0->kZ cr log cap (s.keep cr log l m).2.k (s.keep cr log l m).2.ak (s.keep cr log l m).2.bytes (ls ++ [l]) (pages l f)/\Cur log (s.keep cr log l m).2.k (pages l f)/\(s.keep cr log l m).2.recs=(ls ++ [l]).map aB/\(s.keep cr log l m).2.ak=s.ak/\(s.keep cr log l m).2.m=m) /\
  ((s.keep cr log l m).1≠0->∀c,nQ (s.keep cr log l m).2.k c->nO cr log cap E c f\/nO cr log cap E c (pages l f)):=by
 have hS:=NF h df hE Sw hr hl rG;unfold Db.keep;generalize s.sync cr (aB l)=S at *
 by_cases h1:S.1≠0
 ·rw[if_pos h1]
  exact⟨fun h=>absurd h h1,hS.2⟩
 ·rw[if_neg h1]
  obtain⟨r1,r2,r3,r4,r5⟩:=hS.1 (by simpa using h1);obtain⟨n,g1,g2,g3⟩:=sK (bI log l) S.2.k;have hR:kZ cr log cap (S.2.k.writes (bI log l)).2 S.2.ak S.2.bytes (ls ++ [l]) (pages l f):=by
   refine⟨by rw[g1];exact r1.lg,r1.fits,r1.ok,fun p hp=>?_,by rw[g1];exact r1.pg,r1.pl⟩;rw[g2,r2,List.nil_append]at hp;obtain⟨q,hq,rfl⟩:=List.mem_map.1 hp;obtain⟨id,j,e1,e2,e3⟩:=Ol (List.mem_of_mem_take hq);exact⟨id,j,e1,e2,by rw[xD];exact List.mem_append.2 (.inr e3)⟩
  refine⟨fun h0=>⟨hR,fun id=>?_,r4,r5,rfl⟩,fun _ c hc=>.inr (hR.shows df (by rw[r5];exact hE) hc)⟩;have hc:∀j,S.2.k.cur j=S.2.k.K j:=fun j=>by unfold Dk.cur;rw[r2];rfl
  have e:aJ (S.2.k.writes (bI log l)).2.cur log id=aJ (over (bI log l) S.2.k.cur) log id:=d_ (fun j _=>Dk.kY h0 _);rw[e,qE l _ log (fun p hp=>(hl.2.2 p hp).2)];have:aJ S.2.k.cur log=f:=funext fun i=>by rw[<-r3 i];exact d_ (fun j _=>hc _)
  rw[this]
theorem yg {s:Db}{l:List (Nat×Bs)}{m:Mt}(h:kZ cr log cap s.k s.ak s.bytes ls f) (df:2<=log) (hE:s.ak+1<=E) (Sw:Cur log s.k f) (hr:s.recs=ls.map aB) (hl:l = []\/(aB l).length>65536\/mr cap l) :
  ((s.aV cr log false l m).1=0->(l = []/\(s.aV cr log false l m).2=s)\/∃ls',kZ cr log cap (s.aV cr log false l m).2.k (s.aV cr log false l m).2.ak (s.aV cr log false l m).2.bytes ls' (pages l f)/\Cur log (s.aV cr log false l m).2.k (pages l f)/\(s.aV cr log false l m).2.recs=ls'.map aB/\(s.aV cr log false l m).2.ak<=s.ak+1/\(s.aV cr log false l m).2.m=m) /\
  ((s.aV cr log false l m).1≠0->∀c,nQ (s.aV cr log false l m).2.k c->nO cr log cap E c f\/nO cr log cap E c (pages l f)):=by
 unfold Db.aV;rw[if_neg (by simp)]
 by_cases h0:l = []
 ·rw[if_pos h0]
  exact⟨fun _=>.inl ⟨h0,rfl⟩,fun h=>absurd rfl h⟩
 ·rw[if_neg h0]
  by_cases h1:(aB l).length>65536\/(aB l).length+8>64*(log-1)
  ·rw[if_pos h1]
   exact⟨fun h=>(by cases h),fun _ c hc=>.inl (h.shows df (by omega) hc)⟩
  ·rw[if_neg h1]
   have LG:mr cap l:=by
    rcases hl with hl|hl|hl
    ·exact absurd hl h0
    ·omega
    ·exact hl
   by_cases h2:(aB l).length+8>s.room log
   ·rw[if_pos h2]
    have hS:=Hy (cr:=cr) h df Sw hr;have hm:(s.settle cr).2.ak<=s.ak+1:=by
     unfold Db.settle;split
     ·exact Nat.le_succ _
     ·split
      ·exact Nat.le_succ _
      ·split
       ·exact Nat.le_succ _
       ·exact Nat.le_refl _
    generalize s.settle cr=S at *
    by_cases h3:S.1≠0
    ·rw[if_pos h3]
     refine⟨fun h=>absurd h h3,fun _ c hc=>.inl ?_⟩;obtain⟨a,b,cc,d1,d2,d3,d4,d5⟩:=hS.2 h3 c hc;exact⟨a,b,cc,d1,d2,d3,by omega,d5⟩
    ·rw[if_neg h3]
     obtain⟨ls',r1,r2,r3,r4,r5⟩:=hS.1 (by simpa using h3);have rG:(aB l).length+8<=S.2.room log:=by
      have hb:S.2.bytes = []:=by
       rcases r5 with r5|r5
       ·exfalso
        have:ls = []:=by rw[r5]at hr;simpa using hr.symm
        have hb:=h.lg.en;rw[this]at hb;unfold Db.room at h2;rw[hb]at h2;simp at h2;omega
       ·exact r5
      unfold Db.room;rw[hb,List.length_nil];omega
     obtain⟨k1,k2⟩:=CX (m:=m) r1 df (E:=E) (by omega) r2 r3 LG rG;refine⟨fun h=>?_,k2⟩;obtain⟨q1,q2,q3,q4,q5⟩:=k1 h;exact .inr ⟨_,q1,q2,q3,by omega,q5⟩
   ·rw[if_neg h2]
    obtain⟨k1,k2⟩:=CX (m:=m) h df (E:=E) (by omega) Sw hr LG (by omega);refine⟨fun h=>?_,k2⟩;obtain⟨q1,q2,q3,q4,q5⟩:=k1 h;exact .inr ⟨_,q1,q2,q3,by omega,q5⟩
end
end Go.Proofs.YtccnemmlkcmceaaGreatDoor
