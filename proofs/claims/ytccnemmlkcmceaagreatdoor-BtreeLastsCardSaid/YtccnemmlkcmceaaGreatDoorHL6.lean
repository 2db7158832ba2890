/- Proofs about the given program, joined out of the texts PG1, Z4, N1, N2, BA, Z5, Z6, Z7, W2, W3, W4. -/
import Derived.Test.YtccnemmlkcmceaaGreatDoorHL3
set_option linter.unusedVariables false
set_option linter.unusedSimpArgs false
set_option maxRecDepth 100000
set_option maxHeartbeats 6400000
namespace Go.Proofs.YtccnemmlkcmceaaGreatDoor
open Go.RowKit
def jm (L:Bs) (o:Nat) (s:Bs):Bs:=L.take o++(s++L.drop (o+s.length))
theorem FT {L:Bs}{o:Nat}{s:Bs}(h:o+s.length<=L.length):(jm L o s).length=L.length:=by
 unfold jm;rw[List.length_append,List.length_append,List.length_take,List.length_drop];omega
theorem Ry {L:Bs}{o:Nat}{s:Bs}(h:o+s.length<=L.length) (i:Nat):(jm L o s)[i]?=if o<=i/\i<o+s.length then s[i-o]? else L[i]?:=by
 unfold jm
 by_cases h1:i<o
 ·rw[if_neg (by omega),List.getElem?_append_left (by rw[List.length_take];omega),List.getElem?_take,if_pos h1]
 ·rw[List.getElem?_append_right (by rw[List.length_take];omega),List.length_take,Nat.min_eq_left (by omega)]
  by_cases h2:i<o+s.length
  ·rw[if_pos (by omega),List.getElem?_append_left (by omega)]
  ·rw[if_neg (by omega),List.getElem?_append_right (by omega),List.getElem?_drop]
   congr 1;omega
theorem kD (L:Bs) (i:Nat):(dn L).toArray[i]?=(L[i]?).map fun b=>.int .u8 (b.toNat:Int):=by simp[dn]
theorem qW (L:Bs) (i:Nat) (b:UInt8):(dn L).toArray.setIfInBounds i (.int .u8 (b.toNat:Int))=(dn (L.set i b)).toArray:=by
 apply Array.ext_getElem?;intro j;rw[Array.getElem?_setIfInBounds,kD,kD,List.getElem?_set];have hs:(dn L).toArray.size=L.length:=by simp[dn]
 by_cases h:i=j
 ·subst h
  rw[if_pos rfl,if_pos rfl,hs]
  by_cases hl:i<L.length
  ·rw[if_pos hl,if_pos hl];rfl
  ·rw[if_neg hl,if_neg hl];rfl
 ·rw[if_neg h,if_neg h]
theorem NN {L:Bs}{o:Nat}(h:o+4<=L.length) (a b c d:UInt8):(((L.set o a).set (o+1) b).set (o+2) c).set (o+3) d=jm L o [a,b,c,d]:=by
 apply List.ext_getElem?;intro i;rw[Ry (by simpa using h)];simp only[List.getElem?_set,List.length_set,List.length_cons,List.length_nil]
 by_cases h0:i=o
 ·subst h0
  simp[show i<L.length by omega]
 ·by_cases h1:i=o+1
  ·subst h1;simp[show o+1<L.length by omega]
  ·by_cases h2:i=o+2
   ·subst h2;simp[show o+2<L.length by omega]
   ·by_cases h3:i=o+3
    ·subst h3;simp[show o+3<L.length by omega]
    ·rw[if_neg (by omega),if_neg (by omega),if_neg (by omega),if_neg (by omega),if_neg (by omega)]
theorem P9 (id:Nat) (h:id<2147483648) (w:World):Calls Tryz.prog 128 #[.int .i64 (id:Int)] w fun e w'=>e=.returned (.bool true)/\w=w':=by
 have h1:(0:Int)<=id:=by omega
 have h2:(id:Int)<2147483648:=by omega
 go_enter Tryz.func128,Tryz.ntmps128;go_wp2_with fail;go_ret;exact⟨rfl,rfl⟩
theorem ME (x k:Nat):((UInt8.ofNat (x / k%256)).toNat:Int)=(x:Int) / k%256:=by
 rw[UInt8.toNat_ofNat',Int.natCast_emod,Int.natCast_emod,Int.natCast_ediv];omega
theorem Ku (x:Nat) (hx:x<4294967296) (w:World) (g o n c:Nat) (L:Bs) (h:ax w g 218 (dn L).toArray) (ho:o+4<=L.length) (hn:4<=n) (hc:n<=c) (hoL:L.length<100000) :
  Calls Tryz.prog 154 #[.slice (some ⟨g,o,none⟩) n c,.int .u32 (x:Int)] w fun e w'=>e=.returned (.tuple #[])/\ax w' g 218 (dn (jm L o (n4 x))).toArray/\ah (fun b=>b=g) w w':=by
 obtain⟨L4,hL4⟩:∃L4,L4=jm L o (n4 x):=⟨_,rfl⟩;rw[<-hL4];have H4:=aa hL4;have lg:=h.lt;have f:=h.frozen;have HB:=aa h;have jQ:(4:Int)<=n:=by omega
 have s0:(w.cell? ⟨g,o,none⟩).isSome=true:=by rw[h.cell,kD];simp;omega
 have s1:(w.cell? ⟨g,o+1,none⟩).isSome=true:=by rw[h.cell,kD];simp;omega
 have s2:(w.cell? ⟨g,o+2,none⟩).isSome=true:=by rw[h.cell,kD];simp;omega
 have s3:(w.cell? ⟨g,o+3,none⟩).isSome=true:=by rw[h.cell,kD];simp;omega
 obtain⟨v0,k0⟩:=Option.isSome_iff_exists.1 s0;obtain⟨v1,k1⟩:=Option.isSome_iff_exists.1 s1;obtain⟨v2,k2⟩:=Option.isSome_iff_exists.1 s2;obtain⟨v3,k3⟩:=Option.isSome_iff_exists.1 s3;clear h hL4 s0 s1 s2 s3;go_enter Tryz.func154,Tryz.ntmps154;go_wp2_with fail
 go_end0
 refine⟨rfl,?_,((((ah.refl (fun b=>b=g) w).ay (b:=g) rfl _ _).ay (b:=g) rfl _ _).ay (b:=g) rfl _ _).ay (b:=g) rfl _ _⟩;have e0:((x:Int)%256)=((UInt8.ofNat (x%256)).toNat:Int):=by rw[UInt8.toNat_ofNat'];omega
 have e3:((x:Int) / 16777216)=((UInt8.ofNat (x / 16777216%256)).toNat:Int):=by rw[UInt8.toNat_ofNat'];omega
 have e1:((x:Int) / 256%256)=((UInt8.ofNat (x / 256%256)).toNat:Int):=(ME x 256).symm;have e2:((x:Int) / 65536%256)=((UInt8.ofNat (x / 65536%256)).toNat:Int):=(ME x 65536).symm;rw[e0,e1,e2,e3];have:=(((HB.out.aQ o (.int .u8 ((UInt8.ofNat (x%256)).toNat:Int))).aQ (o+1) (.int .u8 ((UInt8.ofNat (x / 256%256)).toNat:Int))).aQ (o+2) (.int .u8 ((UInt8.ofNat (x / 65536%256)).toNat:Int))).aQ (o+3) (.int .u8 ((UInt8.ofNat (x / 16777216%256)).toNat:Int));rw[qW,qW,qW,qW,NN ho]at this;rw[H4.out];exact this
theorem fJ (a:Nat) (h:a<4294967296):IntKind.u32.wrap (a:Int)=(a:Int):=by
 rw[IntKind.wrap_u32'];omega
theorem agf (b0 b1 b2 b3:Nat) (h0:b0<256) (h1:b1<256) (h2:b2<256) (h3:b3<256) :
  bits .or .u32 (bits .or .u32 (bits .or .u32 (IntKind.u32.wrap (b0:Int)) (IntKind.u32.wrap (IntKind.u32.wrap (b1:Int)*256))) (IntKind.u32.wrap (IntKind.u32.wrap (b2:Int)*65536))) (IntKind.u32.wrap (IntKind.u32.wrap (b3:Int)*16777216)) =
   ((b0+256*b1+65536*b2+16777216*b3:Nat):Int):=by
 have e1:((b1:Int)*256)=((b1*2 ^ 8:Nat):Int):=by omega
 have e2:((b2:Int)*65536)=((b2*2 ^ 16:Nat):Int):=by omega
 have e3:((b3:Int)*16777216)=((b3*2 ^ 24:Nat):Int):=by omega
 rw[fJ b0 (by omega),fJ b1 (by omega),fJ b2 (by omega),fJ b3 (by omega),e1,e2,e3,fJ _ (by omega),fJ _ (by omega),fJ _ (by omega),
  u32_or_nat _ _ (by omega) (by omega),sZ _ _ 8 (by omega),u32_or_nat _ _ (by omega) (by omega),sZ _ _ 16 (by omega),u32_or_nat _ _ (by omega) (by omega),sZ _ _ 24 (by omega)]
 omega
theorem Md (s:ByteArray) (hn:4<=s.size) (w:World) :
  Calls Tryz.prog 127 #[.string s] w fun e w'=>e=.returned (.int .u32 (v4 s:Int))/\∃k,w'=w.drewN k:=by
 have i0:∀w,(Instr.index 9 (.string s) (.int .i64 0)).run Tryz.prog w=.ok (.int .u8 (bt s 0:Int)) w:=fun w=>oI s 0 (by omega) w
 have i1:∀w,(Instr.index 9 (.string s) (.int .i64 1)).run Tryz.prog w=.ok (.int .u8 (bt s 1:Int)) w:=fun w=>oI s 1 (by omega) w
 have i2:∀w,(Instr.index 9 (.string s) (.int .i64 2)).run Tryz.prog w=.ok (.int .u8 (bt s 2:Int)) w:=fun w=>oI s 2 (by omega) w
 have i3:∀w,(Instr.index 9 (.string s) (.int .i64 3)).run Tryz.prog w=.ok (.int .u8 (bt s 3:Int)) w:=fun w=>oI s 3 (by omega) w
 have hor:=aa (agf (bt s 0) (bt s 1) (bt s 2) (bt s 3) (jd s 0) (jd s 1) (jd s 2) (jd s 3));go_enter Tryz.func127,Tryz.ntmps127;go_wp2_with fail;go_quiet (fail);go_wp2_with fail;go_ret
 trace_state
 exact⟨lF (by exact hor.out),_,rfl⟩
theorem U5 (l d m:Nat) (w:World) (h:ax w l 179 (gM d m)) :
  Calls Tryz.prog 109 #[.pointer (some ⟨l,0,none⟩)] w fun e w'=>e=.returned (.bool false)/\w=w':=by
 have c0:=h.cell 0;simp[gM]at c0;go_enter Tryz.func109,Tryz.ntmps109;go_wp2;go_ret;exact⟨rfl,rfl⟩
theorem Aa (l d m:Nat) (w:World) (h:ax w l 179 (gM d m)) :
  Calls Tryz.prog 81 #[.pointer (some ⟨l,0,none⟩)] w fun e w'=>e=.returned (.slice none 0 0)/\ah No w w':=by
 have HN:=aa (U5 l d m w h);have HC:=aa (fun w=>Tryz.rT 0 0 w);have c5:=h.cell 5;simp[gM]at c5;clear h;go_enter Tryz.func81,Tryz.ntmps81;go_wp2_with fail;refine(HN.out).mono ?_;rintro e w1 ⟨rfl,rfl⟩;go_wp2_with fail;refine(HC.out _).mono ?_;rintro e w2 ⟨rfl,rfl⟩;go_wp2_with fail;go_ret;exact⟨rfl,ah.refl _ _⟩
def iZ (d l log high:Nat) (o:Option Addr):Array Value :=
 #[.pointer (some ⟨d,0,none⟩),.pointer (some ⟨l,0,none⟩),.int .i64 (log:Int),.int .i64 0,.int .i64 0,.int .i64 0,.int .i64 0,.int .i64 (high:Int),.int .i64 0,.int .i64 0,.pointer o,.bool false]
theorem Td (x d l m log high:Nat) (o:Option Addr) (w:World) (h:ax w l 179 (gM d m)) (hx:ax w x 131 (iZ d l log high o)) :
  Calls Tryz.prog 70 #[.pointer (some ⟨x,0,none⟩)] w fun e w'=>e=.returned (.int .i64 0)/\ah No w w':=by
 have HR:=aa (Aa l d m w h);have c1:=hx.cell 1;simp[iZ]at c1;clear h hx;go_enter Tryz.func70,Tryz.ntmps70;go_wp2_with fail;refine(HR.out).mono ?_;rintro e w1 ⟨rfl,aT⟩;go_wp2_with fail;go_ret;exact⟨rfl,aT⟩
theorem P6 (n:Nat):Lib.trimB (zs n) 0 = []:=by simp[Lib.trimB,Lib.trimLeftB,Lib.trimRightB,zs]
theorem MG (w:World) :
  Calls Tryz.prog 84 #[.string (au (zs 512))] w fun e w'=>e=.returned (.bool true)/\ah No w w':=by
 have eZ:(au (zs 512)).size=512:=by rw[az,ni]
 have HT:=aa (fun w=>Tryz.strings_Trim_one (au (zs 512)) 0 (by decide) w (by omega));have ht:(⟨(Lib.trimB (au (zs 512)).data.toList 0).toArray⟩:ByteArray)=au []:=by rw[jC,P6];rfl
 rw[ht]at HT;obtain⟨z,hz⟩:∃z,z=au (zs 512):=⟨_,rfl⟩;rw[<-hz]at HT eZ ⊢;clear hz ht;go_enter Tryz.func84,Tryz.ntmps84;go_wp2_with fail;refine(HT.out _).mono ?_;rintro e w1 ⟨rfl,hw⟩;have hE:ah No w w1:=by
  rcases hw with rfl|rfl
  ·exact ah.refl _ _
  ·exact(ah.refl _ _).drew
 simp only[au];go_wp2_with fail;go_ret;exact⟨rfl,hE⟩
theorem Xb (x d kb n log:Nat) (w:World) (x0:w.cell? ⟨x,0,none⟩=some (.pointer (some ⟨d,0,none⟩))) (x2:w.cell? ⟨x,2,none⟩=some (.int .i64 (log:Int)))
  (h:ax w d 140 (dU kb n)) (h1:1<=n) (hn:n<=65536) (hl:log<=n) :
  Calls Tryz.prog 56 #[.pointer (some ⟨x,0,none⟩)] w fun e w'=>e=.returned (.int .i64 (((n-log) / 8:Nat):Int))/\∃k,w'=w.drewN k:=by
 have HD:=aa h;have g1:(0:Int)<=(n:Int)-log:=by omega
 go_enter Tryz.func56,Tryz.ntmps56;go_wp2_with (go_at_call 76;refine(sJ x d _ x0).mono ?_;rintro e w' ⟨rfl,rfl⟩);go_quiet ((go_at_call 93;exact Calls.quiet_of_same ((pX d n ⟨kb,0,none⟩ _ (by exact HD.out.cell 0) h1).mono fun _ _ ⟨h1,h2⟩=>⟨h1,h2.symm⟩)));go_wp2;go_ret;exact⟨lF (by omega),_,rfl⟩
inductive Xw (w:World):Value->Prop
 | nil:Xw w (.pointer none)
 | tx (gx:Nat) (i:Value) (h:ax w gx 70 #[.pointer none,i]):Xw w (.pointer (some ⟨gx,0,none⟩))
theorem nV {Q:Ending->World->Prop}{a:Act}{w:World}(b:Nat) (cs:Array Value) (hb:ax w b 118 cs) {v:Value}(hs:some 2=some cs.size) (hp:a.tmps.getD 2 undef=.pointer (some ⟨b,0,none⟩)) (h3:a.tmps.getD 3 undef=v) (hd:a.defers = [])
  (h:Q (.returned (.tuple #[.agg cs,v])) w):bodyPost Tryz.prog Tryz.f58 Q Exit.ret a w:=by
 refine bodyPost_ret (v:=.tuple #[.agg cs,v]) (w:=w) ?_ hd h;have hl:=run_loadVar_row w b 118 118 cs (0,0) _ hb Tryz.underlying118 rfl (by rw[<-hs];kernel_rfl);rw[results_cell_tmp rfl,hp,h3];simp[asAddr,Result.andThen,hl]
structure ahx (w:World) (s:bH):Prop where
 t0:w.cell? ⟨s.t,0,none⟩=some (.pointer (some ⟨s.x,0,none⟩))
 x10:w.cell? ⟨s.x,10,none⟩=some (.pointer none)
theorem aag (s:bH) (hs:s.Ok) (w:World) (v:V) (h:aD w s v) (hf:w.frozen? ⟨s.x,10,none⟩=false) :
  Calls Tryz.prog 66 #[.pointer (some ⟨s.t,0,none⟩)] w fun e w'=>e=.returned (.tuple #[])/\w'=w.setCell ⟨s.x,10,none⟩ (.pointer none):=by
 have t0:=h.c0;have x10:=hs.x10 w h.db;go_enter Tryz.func66,Tryz.ntmps66;go_wp2_with fail
 go_end0
 exact⟨rfl,rfl⟩
def V.link (v:V) (id:Nat):Option (Nat×Bs) :=
 if v.err id=0 then (if (v.pg id).kind=3/\4<(v.pg id).body.length then some (v4 (au (v.pg id).body),(v.pg id).body.drop 4)else none)else none
def V.jV (v:V) (len:Nat):Nat->Nat->Bs->Option Bs
 | 0,_,b=>some b
 | k+1,id,b=>if id=0\/len<b.length then some b else match v.link id with
  | none=>none
  | some (n,s)=>v.jV len k n (b++s)
def V.value (v:V) (c:aA):Option Bs :=
 if c.over=0 then some c.val else match v.jV c.len (c.len+2) c.over []with
  | none=>none
  | some b=>if b.length=c.len then some b else none
def bE (cap:Nat) (val:Bs):Nat->Nat->V->Nat×Nat×V
 | 0,next,v=>(next,0,v)
 | k+1,next,v =>
  if (v.alloc cap).2.1=0 then
   (if ((v.alloc cap).2.2.set (v.alloc cap).1 3 (n4 next++(val.drop (k*496)).take 496)).1=0 then bE cap val k (v.alloc cap).1 ((v.alloc cap).2.2.set (v.alloc cap).1 3 (n4 next++(val.drop (k*496)).take 496)).2
   else (0,((v.alloc cap).2.2.set (v.alloc cap).1 3 (n4 next++(val.drop (k*496)).take 496)).1,((v.alloc cap).2.2.set (v.alloc cap).1 3 (n4 next++(val.drop (k*496)).take 496)).2))
  else (0,(v.alloc cap).2.1,(v.alloc cap).2.2)
def V.chain (cap:Nat) (v:V) (val:Bs):Nat×Nat×V:=bE cap val ((val.length-1) / 496+1) 0 v
def V.f_:Nat->Nat->V->Nat×V
 | 0,_,v=>(0,v)
 | k+1,id,v=>if id=0 then (0,v)else match v.link id with
  | none=>(5,v)
  | some (n,_)=>if (v.drop id).1=0 then V.f_ k n (v.drop id).2 else v.drop id
def V.bG (v:V) (c:aA):Nat×V:=V.f_ (v.high+1) c.over v
def V.aI (cap:Nat) (v:V) (key val:Bs):aA×Nat×V :=
 if 3+key.length+val.length<=160 then (⟨key,val,0,0⟩,0,v)else (⟨key,[],(v.chain cap val).1,val.length⟩,(v.chain cap val).2.1,(v.chain cap val).2.2)
structure kF (w:World) (kb d l x n log:Nat) (o:Option Addr):Prop where
 kept:ax w kb 142 (madeCells eH (n*64))
 disk:ax w d 140 (dU kb n)
 o9:ax w l 179 (gM d log)
 db:ax w x 131 (iZ d l log 1 o)
theorem aal (d kb n log:Nat) (w:World) (h:ax w d 140 (dU kb n)) (hk:ax w kb 142 (madeCells eH (n*64))) (hn:n<=65536) (hl:2<=log) (hln:log+32<=n) :
  Calls Tryz.prog 43 #[.pointer (some ⟨d,0,none⟩),.int .i64 (log:Int)] w fun e w'=>∃l x,e=.returned (.tuple #[.pointer (some ⟨x,0,none⟩),.int .i64 0])/\kF w' kb d l x n log none/\ah No w w'/\w.heap.size<=x/\w.heap.size<=l:=by
 have HD:=aa h;have HK:=aa hk;have HW:=aa (YQ d kb n log hl (by omega) hn w h hk);have g1:¬((((n-log) / 8:Nat):Int)<4):=by omega
 generalize Ug:(n-log) / 8=cn at g1;have M6:=aa Ug;clear h hk Ug;go_enter Tryz.func43,Tryz.ntmps43;go_wp2_with fail;refine(HW.out).mono ?_;rintro e w1 ⟨rfl,hb1,aT⟩;have TS:=aa hb1;have gK:=aa aT;have aH:ah No w1 (w1.alloc (.cells (iZ d w.heap.size log 0 none) 131)):=(ah.refl No w1).alloc _;have dO:=ax.new w1 131 (iZ d w.heap.size log 0 none);have vJ:=hb1.ext aH (fun h=>h);have hd2:=(HD.out.ext aT (fun h=>h)).ext aH (fun h=>h);have lJ:=(HK.out.ext aT (fun h=>h)).ext aH (fun h=>h);have HC:=aa (Xb w1.heap.size d kb n log _ (dO.cell 0) (dO.cell 2) hd2 (by omega) hn (by omega));rw[M6.out]at HC;have ng:=aa dO;have vQ:=aa vJ;have mE:=aa hd2;have JO:=aa lJ;have dx:=aa aH;clear hb1 aT aH dO vJ hd2 lJ;go_wp2_with fail;refine(HC.out).mono ?_;rintro e w3 ⟨rfl,k,Iu⟩;have bC:ah No (w1.alloc (.cells (iZ d w.heap.size log 0 none) 131)) w3:=by rw[Iu];exact(ah.refl No _).drewN k
 have iF:=aa bC;have HR:=aa (Aa w.heap.size d log w3 (vQ.out.ext bC (fun h=>h)));clear Iu bC;go_wp2_with fail;refine(HR.out).mono ?_;rintro e w4 ⟨rfl,ib⟩;have Bl:=aa ((dx.out.ag iF.out).ag ib);have hb4:=ng.out.ext (iF.out.ag ib) (fun h=>h);have Q3:=aa hb4;have hl4:=aa (vQ.out.ext (iF.out.ag ib) (fun h=>h));have QC:=aa (mE.out.ext (iF.out.ag ib) (fun h=>h));have hk4:=aa (JO.out.ext (iF.out.ag ib) (fun h=>h));clear ib hb4;go_wp2_with fail;go_loopg [38] 0 (fun gk k wr=>k=.int .i64 0/\w4=wr)
 case atStart=>exact⟨rfl,rfl⟩
 case round =>
  obtain⟨rfl,rfl⟩:=hrel;have HS:=aa (Td w1.heap.size d w.heap.size log log 0 none w4 hl4.out Q3.out);go_wp2_with fail;refine(HS.out).mono ?_;rintro e w5 ⟨rfl,bU⟩;have jl:=aa bU;have vK:=Q3.out.ext bU (fun h=>h);have AL:=aa vK;have HI:=aa (Ou w1.heap.size d kb n log 0 w5 (vK.cell 0) (vK.cell 2) (QC.out.ext bU (fun h=>h)) (hk4.out.ext bU (fun h=>h)) hn (by omega));clear bU vK;go_wp2_with fail;refine(HI.out).mono ?_;rintro e w6 ⟨rfl,kH⟩;have wP:=aa kH;have JQ:=aa (fun w=>MG w);clear kH;obtain⟨z,hz⟩:∃z,z=au (zs 512):=⟨_,rfl⟩;rw[<-hz]at JQ ⊢;clear hz;go_wp2_with fail;refine(JQ.out _).mono ?_;rintro e w7 ⟨rfl,eX⟩;have abW:=(jl.out.ag wP.out).ag eX;have LX:=Q3.out.ext abW (fun h=>h);have f7:=LX.frozen 7;have c7:=LX.cell 7;simp[iZ]at c7;have l7:=LX.lt;have Dp:d≠w1.heap.size:=by have:=HD.out.lt;have:=gK.out.size;omega
  have tX:kb≠w1.heap.size:=by have:=HK.out.lt;have:=gK.out.size;omega
  have agJ:w.heap.size≠w1.heap.size:=by have:=TS.out.lt;omega
  have JB:=aa LX;have nS:=aa abW;clear LX abW eX;go_wp2_with fail;go_ret2;refine⟨w.heap.size,w1.heap.size,rfl,⟨?_,?_,?_,?_⟩,?_,gK.out.size,Nat.le_refl _⟩
  ·exact(hk4.out.ext nS.out (fun h=>h)).far tX _
  ·exact(QC.out.ext nS.out (fun h=>h)).far Dp _
  ·exact(hl4.out.ext nS.out (fun h=>h)).far agJ _
  ·exact JB.out.aQ 7 (.int .i64 1)
  ·exact((gK.out.ag Bl.out).ag nS.out).ai gK.out.size _ _
theorem UY (w:World) (kb d l x n log:Nat) (o:Option Addr) (h:kF w kb d l x n log o) (hn:1<=n) :
  Calls Tryz.prog 74 #[.pointer (some ⟨x,0,none⟩)] w fun e w'=>e=.returned (.int .i64 0)/\w=w':=by
 exact He x d n ⟨kb,0,none⟩ w false false (h.disk.cell 0) hn (h.disk.cell 2) (h.db.cell 0) (h.db.cell 11)
def tu (kb d l x n log t:Nat) (m:Nat):bH:=⟨d,x,t,m,⟨kb,0,none⟩,n,log,fun w=>kF w kb d l x n log (some ⟨t,0,none⟩),1,fun _=>⟨0,[]⟩,fun _=>au []⟩
def v0:V:=⟨fun _=>0,1,0,0,fun _=>⟨0,[]⟩,false,false⟩
theorem PZ:v0.Good:=⟨[],by simp,rfl,rfl,fun a=>by simp only[v0];constructor <;> (intro h;first|(obtain⟨h1,h2,_⟩:=h;omega)|cases h),fun k a h=>by simp at h,by decide,by decide,fun a h1 h2=>by simp[v0]⟩
theorem kF.ext {F:Nat->Prop}{w w':World}{kb d l x n log:Nat}{o:Option Addr}(h:kF w kb d l x n log o) (he:ah F w w') (h1:¬F kb) (h2:¬F d) (h3:¬F l) (h4:¬F x):kF w' kb d l x n log o :=
 ⟨h.kept.ext he h1,h.disk.ext he h2,h.o9.ext he h3,h.db.ext he h4⟩
theorem RN {kb d l x n log t m H:Nat}(h1:1<=n) (h2:n<=65536) (h3:log<=n) (ht:H<=t) (hm:H<=m) (k1:kb<H) (k2:d<H) (k3:l<H) (k4:x<H):(tu kb d l x n log t m).Ok:=by
 have off:∀b,b<H->¬(tu kb d l x n log t m).F b:=fun b hb hf=>by
  rcases hf with hf|hf
  ·have:b=t:=hf
   omega
  ·have:b=m:=hf
   omega
 refine⟨fun w w' he h=>kF.ext h he (off _ k1) (off _ k2) (off _ k3) (off _ k4),fun w h=>kF.db h |>.cell 0,fun w h=>kF.db h |>.cell 2,fun w h=>kF.db h |>.cell 10,fun w h=>kF.db h |>.cell 11,
  fun w h=>kF.disk h |>.cell 0,fun w h=>kF.disk h |>.cell 2,?_,?_,h1,h2,h3,?_,?_⟩
 ·show t≠x;omega
 ·show t≠d;omega
 ·intro w id _ a b;have:id<1:=b;omega
 ·intro w id _ a b;have:id<1:=b;omega
theorem Xc (w:World) (kb d l x n log:Nat) (h:kF w kb d l x n log none) (hn:1<=n) (hln:log+8<=n) :
  Calls Tryz.prog 33 #[.pointer (some ⟨x,0,none⟩)] w fun e w'=>e=.returned (.tuple #[.pointer (some ⟨w.heap.size+1,0,none⟩),.int .i64 0]) /\
   aD w' (tu kb d l x n log (w.heap.size+1) w.heap.size) v0/\ah (fun b=>b=x) w w':=by
 have HU:=aa (UY w kb d l x n log none h hn);have hx:=h.db;obtain⟨y0,y1,y2,y3,y4,y5,y6,y7,y8,y9,y10,y11⟩:w.cell? ⟨x,0,none⟩=_/\w.cell? ⟨x,1,none⟩=_/\w.cell? ⟨x,2,none⟩=_/\w.cell? ⟨x,3,none⟩=_/\w.cell? ⟨x,4,none⟩=_/\w.cell? ⟨x,5,none⟩=_/\w.cell? ⟨x,6,none⟩=_/\w.cell? ⟨x,7,none⟩=_/\w.cell? ⟨x,8,none⟩=_/\w.cell? ⟨x,9,none⟩=_/\w.cell? ⟨x,10,none⟩=_/\w.cell? ⟨x,11,none⟩=_ :=
  ⟨hx.cell 0,hx.cell 1,hx.cell 2,hx.cell 3,hx.cell 4,hx.cell 5,hx.cell 6,hx.cell 7,hx.cell 8,hx.cell 9,hx.cell 10,hx.cell 11⟩
 simp[iZ]at y0 y1 y2 y3 y4 y5 y6 y7 y8 y9 y10 y11;have fz:=hx.frozen;have lx:=hx.lt;have HX:=aa h;have OL:∀w,(Instr.makeMap 109 none).run Tryz.prog w=.ok (.map (some w.heap.size)) (w.alloc (.map #[] 0)):=fun w=>rfl
 clear h hx;go_enter Tryz.func33,Tryz.ntmps33;go_wp2_with fail;refine(HU.out).mono ?_;rintro e w1 ⟨rfl,rfl⟩;go_wp2_with fail;go_ret2;obtain⟨u,hu⟩:∃u,u=w.setCell ⟨x,10,none⟩ (.pointer (some ⟨w.heap.size+1,0,none⟩)):=⟨_,rfl⟩;rw[<-hu];have sj:ah (fun b=>b=x) w u:=by rw[hu];exact(ah.refl (fun b=>b=x) w).ay (b:=x) rfl _ _
 have OA:u.heap.size=w.heap.size:=by rw[hu];simp[World.setCell]
 obtain⟨cs,xK⟩:∃cs,cs=v0.cells (tu kb d l x n log (w.heap.size+1) w.heap.size):=⟨_,rfl⟩;have hE:ah (fun b=>b=x) w ((u.alloc (.map #[] 0)).alloc (.cells cs 111)):=(sj.alloc _).alloc _;rw[xK]at hE;have mM:ah No u ((u.alloc (.map #[] 0)).alloc (.cells cs 111)):=((ah.refl No u).alloc _).alloc _;rw[xK]at mM;have hx:=HX.out;have hb:ax u x 131 (iZ d l log 1 (some ⟨w.heap.size+1,0,none⟩)):=by rw[hu];exact hx.db.aQ 10 _
 refine⟨rfl,⟨?_,⟨?_,?_,?_,?_⟩,by decide,?_,Nat.le_refl _,by decide,[],⟨by simp,#[],0,?_,rfl,by simp[oW]⟩,by simp,?_⟩,hE⟩
 ·have:=ax.new (u.alloc (.map #[] 0)) 111 (v0.cells (tu kb d l x n log (w.heap.size+1) w.heap.size))
  have e:(u.alloc (.map #[] 0)).heap.size=w.heap.size+1:=by simp[OA]
  rw[e]at this;exact this
 ·exact(hx.kept.ext hE (hx.kept.UZ hx.db (by decide)))
 ·exact(hx.disk.ext hE (hx.disk.UZ hx.db (by decide)))
 ·exact(hx.o9.ext hE (hx.o9.UZ hx.db (by decide)))
 ·exact hb.ext mM (fun h=>h)
 ·show 1<=(n-log) / 8;omega
 ·have h1:(u.alloc (.map #[] 0)).heap[w.heap.size]?=some (.map #[] 0):=by rw[<-OA];exact heap_alloc_new u _
  exact(Below.heap_alloc _ _ _ (by show w.heap.size<_;simp[OA])).trans h1
 ·intro i h1 h2
  have h2':i<1:=h2;omega
structure abC (w:World) (s:bH) (p:Nat):Prop where
 ok:s.Ok
 tx:aD w s v0
 cap:s.cap=p
 sys:∃kb d l x t m,s=tu kb d l x (400+8*p) 400 t m/\t<w.heap.size/\m<w.heap.size/\t≠kb/\t≠d/\t≠l/\t≠x/\m≠kb/\m≠d/\m≠l/\m≠x
structure Xx (w:World) (s:bH) (p:Nat):Prop where
 ex:∃kb d l x t m,s=tu kb d l x (400+8*p) 400 t m/\w.heap.size<=kb/\w.heap.size<=d/\w.heap.size<=l/\w.heap.size<=x/\w.heap.size<=t/\w.heap.size<=m/\t≠kb/\t≠d/\t≠l/\t≠x/\m≠kb/\m≠d/\m≠l/\m≠x/\kb<m/\d<m/\l<m/\x<m/\m<t
theorem GV (p:Nat) (h1:4<=p) (h2:p<=4000) (w:World) :
  Calls Tryz.prog 12 #[.int .i64 (p:Int)] w fun e w'=>∃s,abC w' s p/\e=.returned (.tuple #[.pointer (some ⟨s.d,0,none⟩),.pointer (some ⟨s.x,0,none⟩),.pointer (some ⟨s.t,0,none⟩)])/\ah No w w' /\
   w.heap.size<=s.t/\w.heap.size<=s.m/\w.heap.size<=s.x/\w.heap.size<=s.d/\Xx w s p:=by
 have HN:=aa (WX (400+8*p) (by omega) (by omega) w);have e1:((400+8*p:Nat):Int)=400+8*(p:Int):=by omega
 rw[e1]at HN;have g1:(p:Int)<=4000:=by omega
 have g2:(0:Int)<=p:=by omega
 have H1:=aa h1;have H2:=aa h2;clear e1 h1 h2;go_enter Tryz.func12,Tryz.ntmps12;go_wp2_with fail;refine(HN.out).mono ?_;rintro e w1 ⟨rfl,hd,hk,eZ,aT⟩;have HO:=aa (aal (w.heap.size+1) w.heap.size (400+8*p) 400 w1 hd hk (by have:=H2.out;omega) (by omega) (by have:=H1.out;omega));have gK:=aa aT;have G6:=aa eZ;clear hd hk eZ aT g1 g2;go_wp2_with fail;refine(HO.out).mono ?_;rintro e w2 ⟨l,x,rfl,A7,aH,BC,tZ⟩;have lL:=aa tZ;have YE:=aa A7;have dx:=aa aH;have Py:=aa BC;have HB:=aa (Xc w2 w.heap.size (w.heap.size+1) l x (400+8*p) 400 A7 (by omega) (by have:=H1.out;omega));clear A7 aH BC tZ;go_wp2_with fail;refine(HB.out).mono ?_;rintro e w3 ⟨rfl,hT,bC⟩;have HT:=aa hT;have iF:=aa bC;clear hT bC;go_wp2_with fail
 go_ret3
 have a1:=YE.out.kept.lt;have a2:=YE.out.disk.lt;have a3:=YE.out.o9.lt;have a4:=YE.out.db.lt;have a5:=HT.out.tx.lt;have a6:w2.heap.size<w3.heap.size:=HT.out.old (.inr rfl);have a7:=G6.out;have a8:=Py.out;have a9:=dx.out.size;have b1:=H1.out;have b2:=H2.out;refine⟨tu w.heap.size (w.heap.size+1) l x (400+8*p) 400 (w2.heap.size+1) w2.heap.size,⟨?_,HT.out,?_,?_⟩,rfl,?_,?_,?_,?_,?_,⟨w.heap.size,w.heap.size+1,l,x,w2.heap.size+1,w2.heap.size,rfl,by have:=lL.out;have:=gK.out.size;omega⟩⟩
 ·exact RN (H:=w2.heap.size) (by omega) (by omega) (by omega) (by omega) (Nat.le_refl _) a1 a2 a3 a4
 ·show(400+8*p-400) / 8=p;omega
 ·refine⟨w.heap.size,w.heap.size+1,l,x,w2.heap.size+1,w2.heap.size,rfl,a5,a6,?_⟩
  omega
 ·exact(gK.out.ag dx.out).trans iF.out (fun b hb e=>by
   have e':b=x:=e
   omega)
 ·show w.heap.size<=w2.heap.size+1;omega
 ·show w.heap.size<=w2.heap.size;omega
 ·show w.heap.size<=x;omega
 ·show w.heap.size<=w.heap.size+1;omega
theorem V.QH {v:V}(h:v.Good) {id:Nat}(he:v.err id=0):(v.pg id).body.length<=500:=by
 obtain⟨l,h⟩:=h;obtain⟨h1,h2,_⟩:=V.uh he;exact h.bd id h1 h2
theorem abH {a b:Int}{x y:Value}(h:a=b):Ending.returned (.tuple #[.int .i64 a,x,y])=.returned (.tuple #[.int .i64 b,x,y]):=by rw[h]
def xA (o:Option (Nat×List UInt8)):Value:=match o with
 | none=>.tuple #[.int .i64 0,.string (au []),.int .i64 5]
 | some (n,b)=>.tuple #[.int .i64 (n:Int),.string (au b),.int .i64 0]
theorem KW (s:bH) (hs:s.Ok) (w:World) (v:V) (h:aD w s v) (gx i:Nat) (hx:ax w gx 70 (av s i)) (id:Nat) :
  Calls Tryz.prog 50 #[.pointer (some ⟨gx,0,none⟩),.int .i64 (id:Int)] w fun e w'=>e=.returned (xA (v.link id))/\ah No w w':=by
 have HR:=aa (CB s hs w v h id);have c0:=hx.cell 0;simp[av]at c0;unfold V.link
 by_cases he:v.err id=0
 ·have hr:v.read id=((v.pg id).kind,(v.pg id).body,0):=by simp[V.read,he]
  rw[if_pos he];rw[hr]at HR;clear hr he;generalize (v.pg id).kind=k at *;generalize (v.pg id).body=b at *;have hb:=az b;have HB:=aa hb
  by_cases hk:k=3
  ·subst hk
   by_cases hl:4<b.length
   ·rw[if_pos ⟨rfl,hl⟩]
    have LG:4<(au b).size:=by omega
    have i0:∀w,(Instr.index 9 (.string (au b)) (.int .i64 0)).run Tryz.prog w=.ok (.int .u8 (bt (au b) 0:Int)) w:=fun w=>oI (au b) 0 (by omega) w
    have i1:∀w,(Instr.index 9 (.string (au b)) (.int .i64 1)).run Tryz.prog w=.ok (.int .u8 (bt (au b) 1:Int)) w:=fun w=>oI (au b) 1 (by omega) w
    have i2:∀w,(Instr.index 9 (.string (au b)) (.int .i64 2)).run Tryz.prog w=.ok (.int .u8 (bt (au b) 2:Int)) w:=fun w=>oI (au b) 2 (by omega) w
    have i3:∀w,(Instr.index 9 (.string (au b)) (.int .i64 3)).run Tryz.prog w=.ok (.int .u8 (bt (au b) 3:Int)) w:=fun w=>oI (au b) 3 (by omega) w
    have hor:=aa (or4 (bt (au b) 0) (bt (au b) 1) (bt (au b) 2) (bt (au b) 3) (jd _ 0) (jd _ 1) (jd _ 2) (jd _ 3));have hg:¬((b.length:Int)<=4):=by omega
    go_enter Tryz.func50,Tryz.ntmps50;go_wp2_with fail;refine(HR.out).mono ?_;rintro e w1 ⟨rfl,aT⟩;go_wp2_with fail;go_quiet (fail);go_wp2_with fail;have AV:(au b).extract 4 b.length=au (b.drop 4):=by
     apply ByteArray.ext;simp[au,ByteArray.data_extract,<-List.toArray_drop,List.extract_toArray];exact List.take_of_length_le (by simp)
    rw[AV]
    go_ret3
    exact⟨abH (by simp only[<-qo];exact hor.out),by(repeat' (first|exact ah.refl _ _|assumption|apply ah.alloc|apply ah.drewN|apply ah.drew|refine ah.ai ?_ (by first|omega|(simp;omega)|simp) _ _|refine ah.ay ?_ (by first|exact Or.inl rfl|exact Or.inr rfl|rfl) _ _|refine ah.ag ?_ (by assumption)|refine ah.ag ?_ (ah.of_no (by assumption))))⟩
   ·rw[if_neg (by omega)]
    have hg:(b.length:Int)<=4:=by omega
    go_enter Tryz.func50,Tryz.ntmps50;go_wp2_with fail;refine(HR.out).mono ?_;rintro e w1 ⟨rfl,aT⟩;go_wp2_with fail
    go_ret3
    exact⟨rfl,aT⟩
  ·rw[if_neg (by omega)]
   have mW:((k:Int) != 3)=true:=by simpa using (by omega:¬(k:Int)=3)
   clear hk;go_enter Tryz.func50,Tryz.ntmps50;go_wp2_with fail;refine(HR.out).mono ?_;rintro e w1 ⟨rfl,aT⟩;go_wp2_with fail
   go_ret3
   exact⟨rfl,aT⟩
 ·have hr:v.read id=(0,[],v.err id):=by simp[V.read,he]
  rw[if_neg he];rw[hr]at HR;have Fg:v.err id=2\/v.err id=8:=by
   rcases V.uS he with ⟨h,_⟩|⟨h,_⟩
   ·exact .inl h
   ·exact .inr h
  clear hr he;generalize v.err id=k at *;rcases Fg with rfl|rfl
  all_goals
   go_enter Tryz.func50,Tryz.ntmps50;go_wp2_with fail;refine(HR.out).mono ?_;rintro e w1 ⟨rfl,aT⟩;go_wp2_with fail
   go_ret3
   exact⟨rfl,aT⟩
theorem Gw (k:Nat) (v:V):V.f_ k 0 v=(0,v):=by cases k <;> simp[V.f_]
theorem F4 (s:bH) (hs:s.Ok) (w:World) (v:V) (h:aD w s v) (hg:v.Good) (gx i:Nat) (hx:ax w gx 70 (av s i)) (c:aA) :
  Calls Tryz.prog 99 #[.pointer (some ⟨gx,0,none⟩),c.agg] w fun e w'=>e=.returned (.int .i64 ((v.bG c).1:Int))/\aD w' s (v.bG c).2/\(v.bG c).2.Good/\ah s.F w w':=by
 have HL:=aa (fun w v (h:aD w s v) (hx:ax w gx 70 (av s i)) id=>KW s hs w v h gx i hx id);have HF:=aa (fun w v (h:aD w s v) hg id=>xQ s hs w v h hg id);have sj:ah s.F w (w.alloc (.cells #[.string (au c.key),.string (au c.val),.int .i64 (c.over:Int),.int .i64 (c.len:Int)] 45)):=(ah.refl _ w).alloc _;have hT0:aD (w.alloc (.cells #[.string (au c.key),.string (au c.val),.int .i64 (c.over:Int),.int .i64 (c.len:Int)] 45)) s v:=h.no hs ((ah.refl _ w).alloc _);have hX0:=hx.alloc (.cells #[.string (au c.key),.string (au c.val),.int .i64 (c.over:Int),.int .i64 (c.len:Int)] 45);obtain⟨D,hD⟩:∃D,D=v.bG c:=⟨_,rfl⟩;rw[<-hD];unfold V.bG at hD;have HD:=aa hD;have HG:=aa hg;clear hD hg h hx;simp only[aA.agg];go_enter Tryz.func99,Tryz.ntmps99;go_wp2_with fail;go_loopg [5] (v.high+1) (fun gk id wr=>∃(ID:Nat) (v':V),id=.int .i64 (ID:Int)/\aD wr s v'/\v'.Good/\ax wr gx 70 (av s i)/\Hid (v'.high+1<=gk+v'.cnt)/\Hid (V.f_ gk ID v'=D)/\ah s.F w wr)
 case atStart=>exact⟨c.over,v,rfl,hT0,HG.out,hX0,aa (by omega),aa HD.out.symm,sj⟩
 case round =>
  clear hT0 hX0 sj HG HD;obtain⟨ID,v',rfl,hT,hG,hX,hm,hd,hE⟩:=hrel;have HT:=aa hT;have HG:=aa hG;have HX:=aa hX;have HE:=aa hE;have c0:=hX.cell 0;simp[av]at c0
  obtain⟨j,hj⟩:∃j,gk=j+1:=⟨gk-1,by
   obtain⟨l,hl⟩:=hG;have:=hl.lt;have:=hl.cnt;have:=hm.out
   omega⟩
  clear hT hG hX hE;have HJ:=aa hj
  by_cases h0:ID=0
  ·subst h0
   have dL:=hd.out;rw[Gw]at dL;have gF:=aa dL;clear hj dL;go_wp2_with fail;go_ret;exact⟨by rw[<-gF.out];rfl,by rw[<-gF.out];exact HT.out,by rw[<-gF.out];exact HG.out,HE.out⟩
  ·have h0':((ID:Int) != 0)=true:=by simpa using (by omega:¬(ID:Int)=0)
   have dL:=hd.out;rw[hj]at dL;simp only[V.f_,if_neg h0]at dL;have o8:=aa (HL.out _ v' HT.out HX.out ID);have HFK:=aa (fun w h=>HF.out w v' h HG.out ID);have HGD:=aa (HG.out.drop ID);have HTR:=aa (fun(w':World) (h:ah No wr w')=>HT.out.no hs h);cases hl:v'.link ID with
   | none =>
    rw[hl]at dL o8;simp only[xA]at o8;have gF:=aa dL;clear h0 hj hl dL;go_wp2_with fail;refine o8.out.mono ?_;rintro e w1 ⟨rfl,aT⟩;go_wp2_with fail;go_ret;exact⟨by rw[<-gF.out];rfl,by rw[<-gF.out];exact HT.out.no hs aT,by rw[<-gF.out];exact HG.out,HE.out.ag aT.of_no⟩
   | some r =>
    obtain⟨n,b⟩:=r;rw[hl]at dL o8;simp only[xA]at o8;simp only at dL
    by_cases hde:(v'.drop ID).1=0
    ·rw[if_pos hde]at dL
     have gF:=aa dL;have Ug:(v'.drop ID).2.high=v'.high/\(v'.drop ID).2.cnt=v'.cnt+1:=by
      unfold V.drop at hde ⊢;split
      ·exact⟨rfl,rfl⟩
      ·rename_i hz;rw[if_neg hz]at hde;exact absurd hde hz
     rw[hde]at HFK;have M6:=aa Ug;clear h0 hj hl dL hde Ug;go_wp2_with fail;refine o8.out.mono ?_;rintro e w1 ⟨rfl,aT⟩;have c1:=aj aT c0 (fun h=>h);have QF:=HX.out.ext aT (fun h=>h);have gK:=aa QF;have yz:=aa aT;clear QF;go_wp2_with fail;refine(HFK.out _ (HTR.out _ aT)).mono ?_;rintro e w2 ⟨rfl,Bd,aH⟩;have rq:=aa Bd;have dx:=aa aH;clear Bd aH;go_wp2_with fail;go_roundg j
     case rel =>
      have h1:=HTR.out _ yz.out;exact⟨n,(v'.drop ID).2,rfl,rq.out,HGD.out,dS h1 gK.out dx.out,aa (by have:=hm.out;have:=HJ.out;have:=M6.out;omega),aa gF.out,(HE.out.ag yz.out.of_no).ag dx.out⟩
     case measure=>have:=HJ.out;omega
    ·rw[if_neg hde]at dL
     have aey:(((v'.drop ID).1:Int) != 0)=true:=by simpa using (by omega:¬((v'.drop ID).1:Int)=0)
     rw[dL]at HFK HGD aey;generalize hdv:D.1=d at HFK aey;have HDV:=aa hdv;clear h0 hj hl hde dL hdv;go_wp2_with fail;refine o8.out.mono ?_;rintro e w1 ⟨rfl,aT⟩;have c1:=aj aT c0 (fun h=>h);go_wp2_with fail;refine(HFK.out _ (HTR.out _ aT)).mono ?_;rintro e w2 ⟨rfl,Bd,aH⟩;go_wp2_with fail;go_ret;exact⟨by rw[HDV.out];rfl,Bd,HGD.out,(HE.out.ag aT.of_no).ag aH⟩
theorem GN {Q:Ending->World->Prop}{a:Act}{w:World}(b:Nat) (cs:Array Value) (hb:ax w b 45 cs) {v:Value}(hs:some 4=some cs.size) (hp:a.tmps.getD 6 undef=.pointer (some ⟨b,0,none⟩)) (h3:a.tmps.getD 7 undef=v) (hd:a.defers = [])
  (h:Q (.returned (.tuple #[.agg cs,v])) w):bodyPost Tryz.prog Tryz.f97 Q Exit.ret a w:=by
 refine bodyPost_ret (v:=.tuple #[.agg cs,v]) (w:=w) ?_ hd h;have hl:=run_loadVar_row w b 45 45 cs (0,0) _ hb Tryz.underlying45 rfl (by rw[<-hs];kernel_rfl);rw[results_cell_tmp rfl,hp,h3];simp[asAddr,Result.andThen,hl]
theorem Pj (key val:List UInt8) (gx:Value) (w:World) (hl:3+key.length+val.length<=160) :
  Calls Tryz.prog 97 #[gx,.string (au key),.string (au val)] w fun e w'=>e=.returned (.tuple #[(⟨key,val,0,0⟩:aA).agg,.int .i64 0])/\ah No w w':=by
 have hk:=az key;have hv:=az val;have hi:((3:Int)+key.length+val.length<=160):=by omega
 have yE:IntKind.i64.wrap ((3:Int)+key.length)=(3:Int)+key.length:=IntWalk.i64_in _ (by omega);have Dw:IntKind.i64.wrap ((3:Int)+key.length+val.length)=(3:Int)+key.length+val.length:=IntWalk.i64_in _ (by omega);go_enter Tryz.func97,Tryz.ntmps97;go_wp2_with fail;exact GN w.heap.size _ (ax.new w 45 _) rfl rfl rfl rfl ⟨rfl,(ah.refl No w).alloc _⟩
end Go.Proofs.YtccnemmlkcmceaaGreatDoor
