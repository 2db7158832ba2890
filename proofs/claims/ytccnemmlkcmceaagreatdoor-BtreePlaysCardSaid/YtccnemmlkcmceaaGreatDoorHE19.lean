/- Proofs about the given program, joined out of the texts PB3, PB4, PB5, PB6. -/
import Derived.Test.YtccnemmlkcmceaaGreatDoorHE16
set_option linter.unusedVariables false
set_option linter.unusedSimpArgs false
set_option maxRecDepth 100000
set_option maxHeartbeats 6400000
namespace Go.Proofs.YtccnemmlkcmceaaGreatDoor
open Go.RowKit
def layRest (log id K:Nat) (image:Bs):List (Nat × Bs):=rowOf (log + id * 8 + K) ((cutS 8 image).drop K)
theorem layRest_next {log id K:Nat} {image:Bs} (h:K < 8):layRest log id K image = (log + id * 8 + K,(image.drop (K * 64)).take 64) :: layRest log id (K + 1) image:=by
 unfold layRest
 have hg:=cutS_get 8 image K h
 have e:(cutS 8 image).drop K = ((image.drop (K * 64)).take 64) :: (cutS 8 image).drop (K + 1):=by
  rw [List.drop_eq_getElem_cons (by rw [cutS_len];exact h)]
  congr 1
  exact (List.getElem?_eq_some_iff.1 hg).2
 rw [e];rfl
theorem layRest_end {log id:Nat} {image:Bs}:layRest log id 8 image = []:=by
 unfold layRest
 rw [List.drop_of_length_le (by rw [cutS_len];omega)];rfl
theorem dlay_any {w:World} {Dd:Nat → Prop} {d kb x log:Nat} {k:Dk} (hd:DiskAt w Dd d kb k) (x0:w.cell? ⟨x,0,none⟩ = some (.pointer (some ⟨d,0,none⟩))) (x2:w.cell? ⟨x,2,none⟩ = some (.int .i64 (log:Int))) (hx:¬ Dd x) {N:Nat} (hk:k.Near N) (hN:N ≤ 2^29) (id:Nat) (hid:log + id * 8 + 8 ≤ k.n) (image:Bs) (hi:image.length = 512) :
  Calls Tryz.prog 118 #[.pointer (some ⟨x,0,none⟩),.int .i64 (id:Int),.string (str image)] w fun e w'=>e = .returned (.int .i64 ((k.writes (layPage log id image)).1:Int)) ∧ DiskAt w' (Grow Dd w w') d kb (k.writes (layPage log id image)).2 ∧ Ext Dd w w':=by
 obtain ⟨R,hR⟩:∃ R,R = k.writes (layPage log id image):=⟨_,rfl⟩
 rw [← hR]
 have HR:=Lib.hid hR
 have HSEC:=Lib.hid (sectors_any image hi w)
 have HD:=Lib.hid hd;have HNX:=Lib.hid hx;have HK:=Lib.hid hk;have HNN:=Lib.hid hN;have HID:=Lib.hid hid;have HI:=Lib.hid hi
 have HSO:=Lib.hid hd.old
 have hn2:=hd.n2
 have hb2:(log:Int) + (id:Int) * 8 + 8 ≤ 65536:=by omega
 have HB2:=Lib.hid hb2
 have HC0:=Lib.hid x0;have HC2:=Lib.hid x2
 have hxl:x < w.heap.size:=World.block_lt_of_cell? w _ x0
 have HXL:=Lib.hid hxl
 clear hd hx hk hN hid hi hR hb2 hn2 x0 x2 hxl
 go_enter Tryz.func118,Tryz.ntmps118
 go_wp2_with fail
 refine (HSEC.out).mono ?_
 rintro e w1 ⟨A,c,rfl,hown,hx1⟩
 obtain ⟨g,hA,hgb,hgl,hgc,hcells⟩:=own_at hown (by decide)
 subst hA
 have HX1:=Lib.hid hx1;have HCE:=Lib.hid hcells
 have HG:=Lib.hid (And.intro hgb hgl)
 have HD1:=Lib.hid (HD.out.ext hx1 (fun _ _ h=>h))
 clear hown hx1 hcells hgb hgl
 go_wp2_with fail
 go_loopg [13] 8 (fun gk q13 wr=>∃ (K:Nat) (k':Dk),K + gk = 8 ∧ q13 = .int .i64 (K:Int) ∧ Hid (R = k'.writes (layRest log id K image)) ∧ Hid (DiskAt wr (Grow Dd w1 wr) d kb k') ∧ Hid (Ext Dd w1 wr) ∧ Hid (k'.Near (N + K)) ∧ Hid (k'.n = k.n))
 case atStart=>exact ⟨0,k,by omega,rfl,HR,Lib.hid (HD1.out.mono (fun _ hb=>.inl hb) (Grow.old (fun b hb=>Nat.lt_of_lt_of_le (HSO.out b hb) HX1.out.size) (Nat.le_refl _))),Lib.hid (Ext.refl _ _),HK,Lib.hid rfl⟩
 case round =>
  obtain ⟨K,k',hK,rfl,HWL,HDK,HX,HNR,HKN⟩:=hrel
  have HKK:=Lib.hid hK
  by_cases h8:K < 8
  ·have H8:=Lib.hid h8
   obtain ⟨P,hP⟩:∃ P,P = (image.drop (K * 64)).take 64:=⟨_,rfl⟩
   have hpl:P.length ≤ 64:=by rw [hP,List.length_take];omega
   have hng:¬ Dd g:=fun h=>by have:=HSO.out g h;have:=HG.out;omega
   have k0:wr.cell? ⟨g,K,none⟩ = some (.string (str P)):=cell_ext HX.out (HCE.out K _ (by
    unfold strs
    rw [List.getElem?_map,cutS_get 8 image K h8,hP];rfl)) hng
   have lg:=World.block_lt_of_cell? wr _ k0
   simp only at lg
   obtain ⟨i1,hi1⟩:∃ i1,i1 = log + id * 8 + K:=⟨_,rfl⟩
   have hw1:IntKind.i64.wrap ((id:Int) * 8) = (id:Int) * 8:=wrap_tiny _ (by omega) (by have:=HB2.out;omega)
   have hw2:IntKind.i64.wrap ((log:Int) + (id:Int) * 8) = (log:Int) + (id:Int) * 8:=wrap_tiny _ (by omega) (by have:=HB2.out;omega)
   have hw3:IntKind.i64.wrap ((log:Int) + (id:Int) * 8 + (K:Int)) = (i1:Int):=by
    rw [show (log:Int) + (id:Int) * 8 + (K:Int) = (i1:Int) by omega];exact wrap_tiny _ (by omega) (by have:=HB2.out;omega)
   have HW:=Lib.hid (dk_write (HDK.out.ext ((Ext.refl No wr).drew) (fun _ _ h=>h)) i1 (by have:=HID.out;have:=HKN.out;omega) P hpl (by have:=HNR.out.1;have:=HNN.out;omega) (by have:=HNR.out.2.1;have:=HNN.out;omega) (by have:=HNR.out.2.2;have:=HNN.out;omega))
   have hk1:=Lib.hid (Dk.write_near HNR.out i1 P)
   have hkn1:=Lib.hid ((Dk.write_n k' i1 P).trans HKN.out)
   have HNXT:Hid (R = if (k'.write i1 P).1 ≠ 0 then k'.write i1 P else (k'.write i1 P).2.writes (layRest log id (K + 1) image)):=Lib.hid (by
    rw [HWL.out,layRest_next h8,← hP,← hi1];rfl)
   generalize k'.write i1 P = kw at *
   have hs1:wr.drew.cell? ⟨x,0,none⟩ = some (.pointer (some ⟨d,0,none⟩)):=cell_ext (HX1.out.of_no.trans_ HX.out).drew HC0.out HNX.out
   have hs2:wr.drew.cell? ⟨x,2,none⟩ = some (.int .i64 (log:Int)):=cell_ext (HX1.out.of_no.trans_ HX.out).drew HC2.out HNX.out
   have HS1:=Lib.hid hs1;have HS2:=Lib.hid hs2
   have HNX2:Hid (¬ Grow Dd w1 wr x):=Lib.hid (fun hg=>by
    rcases hg with hg | hg
    ·exact HNX.out hg
    ·have:=HXL.out;have:=HX1.out.size;omega)
   have hxr:x < wr.heap.size:=by have:=HX.out.size;have:=HX1.out.size;have:=HXL.out;omega
   have h8':(K:Int) < 8:=by omega
   clear hi1 hP hK h8 hng hpl hgc
   go_upto_region 4 with fail
   go_region_held3 (fun w'=>w'.cell? ⟨x,0,none⟩ = some (.pointer (some ⟨d,0,none⟩)) ∧ w'.cell? ⟨x,2,none⟩ = some (.int .i64 (log:Int))) (first | exact ⟨hs1,hs2⟩ | exact ⟨cell_ext hx3 HS1.out HNX2.out,cell_ext hx3 HS2.out HNX2.out⟩) (first
    | (go_at_call 161;refine (HW.out).mono ?_;rintro e w3 ⟨rfl,hd3,hx3⟩))
   have HXX:=Lib.hid (HX.out.trans ((Ext.refl (Grow Dd w1 wr) wr).drew.trans_ hx3) (fun b hb hg=>Grow.back (Nat.le_refl _) hb hg))
   have hsz:=hx3.size
   have hszd:wr.drew.heap.size = wr.heap.size:=rfl
   have HD3:=Lib.hid (hd3.mono (D':=Grow Dd w1 w3) (fun b hb=>Grow.trans (w1:=wr) HX.out.size (by omega) (by rcases hb with hb | hb;exact .inl hb;exact .inr ⟨by omega,hb.2⟩)) (Grow.old (fun b hb=>Nat.lt_of_lt_of_le (HSO.out b hb) HX1.out.size) HXX.out.size))
   clear hd3 hx3 hs1 hs2 hw1 hw2 hw3 k0 lg
   by_cases hc:kw.1 = 0
   ·have hW2:Hid (R = kw.2.writes (layRest log id (K + 1) image)):=Lib.hid (by rw [HNXT.out,if_neg (by omega)])
    have hc0:(kw.1:Int) = 0:=by omega
    rw [hc0]
    clear hc hc0 HWL HNXT
    go_wp2_with fail
    go_roundg (gk - 1)
    case rel=>exact ⟨K + 1,kw.2,by have:=HKK.out;have:=H8.out;omega,by go_num,hW2,HD3,HXX,hk1,hkn1⟩
    case measure=>have:=HKK.out;have:=H8.out;omega
   ·have hRk:R = kw:=by rw [HNXT.out,if_pos hc]
    have HRK:=Lib.hid hRk
    have hc0:((kw.1:Int) != 0) = true:=by simp;omega
    clear hc hRk
    go_wp2_with fail
    go_ret
    rw [HRK.out]
    exact ⟨rfl,HD3.out.mono (fun b hb=>Grow.of HX1.out.size (Nat.le_refl _) hb) (Grow.old HSO.out (Nat.le_trans HX1.out.size HXX.out.size)),HX1.out.of_no.trans_ HXX.out⟩
  ·have hK8:K = 8:=by omega
   subst hK8
   have HR8:Hid (R = (0,k')):=Lib.hid (by rw [HWL.out,layRest_end];rfl)
   clear hK h8
   go_wp2_with fail
   go_ret
   rw [HR8.out]
   exact ⟨rfl,HDK.out.mono (fun b hb=>Grow.of HX1.out.size (Nat.le_refl _) hb) (Grow.old HSO.out (Nat.le_trans HX1.out.size HX.out.size)),HX1.out.of_no.trans_ HX.out⟩
theorem Dk.writes_append:∀ (a b:List (Nat × Bs)) (k:Dk),k.writes (a ++ b) = if (k.writes a).1 ≠ 0 then k.writes a else (k.writes a).2.writes b
 | [],b,k=>by rw [if_neg (by simp [Dk.writes])];rfl
 | p :: a,b,k=>by
  rw [List.cons_append,Dk.writes,Dk.writes]
  by_cases h:(k.write p.1 p.2).1 ≠ 0
  ·rw [if_pos h,if_pos h,if_pos h]
  ·rw [if_neg h,if_neg h]
   exact Dk.writes_append a b _
theorem Dk.writes_near:∀ (l:List (Nat × Bs)) {k:Dk} {n:Nat},k.Near n → (k.writes l).2.Near (n + l.length)
 | [],k,n,h=>h
 | p :: l,k,n,h=>by
  rw [Dk.writes]
  have h1:=Dk.write_near h p.1 p.2
  split
  ·exact h1.mono (by simp)
  ·exact (Dk.writes_near l h1).mono (by simp;omega)
theorem layPage_len (log id:Nat) (image:Bs):(layPage log id image).length = 8:=by
 have:∀ (l:List Bs) (a:Nat),(rowOf a l).length = l.length:=by
  intro l
  induction l with
  | nil=>intro a;rfl
  | cons b l ih=>intro a;rw [rowOf,List.length_cons,ih,List.length_cons]
 rw [layPage,this,cutS_len]
theorem layAll_len (log:Nat) (l:List (Nat × Bs)):(layAll log l).length = l.length * 8:=by
 induction l with
 | nil=>rfl
 | cons p l ih =>
  have e:layAll log (p :: l) = layPage log p.1 p.2 ++ layAll log l:=rfl
  rw [e,List.length_append,layPage_len,ih,List.length_cons];omega
theorem flat_drop:∀ (l:List (Nat × Bs)) (j:Nat) (p:Nat × Bs),(∀ q ∈ l,q.2.length = 512) → l[j]? = some p → ∃ r,(l.flatMap fun p=>n4 p.1 ++ p.2).drop (j * 516) = n4 p.1 ++ (p.2 ++ r)
 | q :: l,0,p,_,h=>by
  have:q = p:=by simpa using h
  subst this
  exact ⟨l.flatMap fun p=>n4 p.1 ++ p.2,by simp⟩
 | q :: l,j + 1,p,hl,h=>by
  obtain ⟨r,hr⟩:=flat_drop l j p (fun x hx=>hl x (by simp [hx])) (by simpa using h)
  refine ⟨r,?_⟩
  have hq:(n4 q.1 ++ q.2).length = 516:=by rw [List.length_append,n4_len,hl q (by simp)]
  rw [List.flatMap_cons,show (j + 1) * 516 = 516 + j * 516 by omega,← List.drop_drop,List.drop_left' hq]
  exact hr
theorem enc_drop {l:List (Nat × Bs)} {j:Nat} {p:Nat × Bs} (hl:∀ q ∈ l,q.2.length = 512) (h:l[j]? = some p):∃ r,(encRec l).drop (4 + j * 516) = n4 p.1 ++ (p.2 ++ r):=by
 obtain ⟨r,hr⟩:=flat_drop l j p hl h
 refine ⟨r,?_⟩
 unfold encRec
 rw [← List.drop_drop,List.drop_left' (n4_len _)]
 exact hr
theorem str_part (l:Bs) (a b:Nat):(str l).extract a b = str ((l.drop a).take (b - a)):=by
 simp [str,ByteArray.extract,ByteArray.copySlice]
theorem redo_any {w:World} {Dd:Nat → Prop} {d kb x log:Nat} {k:Dk} (hd:DiskAt w Dd d kb k) (x0:w.cell? ⟨x,0,none⟩ = some (.pointer (some ⟨d,0,none⟩))) (x2:w.cell? ⟨x,2,none⟩ = some (.int .i64 (log:Int))) (hx:¬ Dd x) {N:Nat} (hk:k.Near N) (hN:N ≤ 2^28) (l:List (Nat × Bs)) (hl:∀ p ∈ l,log + p.1 * 8 + 8 ≤ k.n ∧ p.2.length = 512) (hlen:(encRec l).length ≤ 65536) :
  Calls Tryz.prog 73 #[.pointer (some ⟨x,0,none⟩),.string (str (encRec l))] w fun e w'=>e = .returned (.int .i64 ((k.writes (layAll log l)).1:Int)) ∧ DiskAt w' (Grow Dd w w') d kb (k.writes (layAll log l)).2 ∧ Ext Dd w w':=by
 obtain ⟨R,hR⟩:∃ R,R = k.writes (layAll log l):=⟨_,rfl⟩
 rw [← hR]
 have HR:=Lib.hid (show R = k.writes (layAll log (l.drop 0)) from hR)
 have hel:=encRec_len (l:=l) (fun p hp=>(hl p hp).2)
 have hll:l.length < 128:=by omega
 obtain ⟨rec,hrec⟩:∃ rec,rec = encRec l:=⟨_,rfl⟩
 rw [← hrec] at hel ⊢
 have HREC:=Lib.hid hrec
 have HV:Hid (∀ w,Calls Tryz.prog 55 #[.string (str rec)] w fun e w'=>e = .returned (.int .i64 (l.length:Int)) ∧ ∃ k,w' = w.drewN k):=Lib.hid (fun w=>by
  have h1:=value_any (str rec) (by rw [str_size,hel];omega) w
  have h2:v4 (str rec) = l.length:=by rw [hrec];exact v4_n4 l.length (by omega) _
  rw [h2] at h1
  exact h1)
 have HD:=Lib.hid hd;have HNX:=Lib.hid hx;have HK:=Lib.hid hk;have HNN:=Lib.hid hN;have HL:=Lib.hid hl;have HEL:=Lib.hid hel;have HLL:=Lib.hid hll
 have HSO:=Lib.hid hd.old
 have HN2:=Lib.hid hd.n2
 have HC0:=Lib.hid x0;have HC2:=Lib.hid x2
 have hxl:x < w.heap.size:=World.block_lt_of_cell? w _ x0
 have HXL:=Lib.hid hxl
 clear hd hx hk hN hR x0 x2 hxl hrec hl hlen hel hll
 go_enter Tryz.func73,Tryz.ntmps73
 go_wp2_with fail
 refine (HV.out _).mono ?_
 rintro e w1 ⟨rfl,kv,hw1⟩
 have hx1:Ext No w w1:=by rw [hw1];exact (Ext.refl No w).drewN kv
 have HX1:=Lib.hid hx1
 have hs1:w1.heap.size = w.heap.size:=by rw [hw1];rfl
 have HS1:=Lib.hid hs1
 clear hw1 hx1 hs1
 go_wp2_with fail
 go_loopg [12] l.length (fun gk q12 wr=>∃ (j:Nat) (k':Dk),j + gk = l.length ∧ q12 = .int .i64 (j:Int) ∧ Hid (R = k'.writes (layAll log (l.drop j))) ∧ Hid (DiskAt wr (Grow Dd w wr) d kb k') ∧ Hid (Ext Dd w wr) ∧ Hid (k'.Near (N + j * 8)) ∧ Hid (k'.n = k.n))
 case atStart=>exact ⟨0,k,by omega,rfl,HR,Lib.hid ((HD.out.ext HX1.out (fun _ _ h=>h)).mono (fun _ hb=>.inl hb) (Grow.old HSO.out HX1.out.size)),Lib.hid HX1.out.of_no,HK,Lib.hid rfl⟩
 case round =>
  obtain ⟨j,k',hj,rfl,HWL,HDK,HX,HNR,HKN⟩:=hrel
  have HJ:=Lib.hid hj
  by_cases hlt:j < l.length
  ·have HLT:=Lib.hid hlt
   obtain ⟨p,hp⟩:∃ p,l[j]? = some p:=⟨_,List.getElem?_eq_getElem hlt⟩
   obtain ⟨id,image⟩:=p
   have hpm:=HL.out _ (List.mem_of_getElem? hp)
   simp only at hpm
   obtain ⟨r,hr⟩:=enc_drop (fun q hq=>(HL.out q hq).2) hp
   rw [← HREC.out] at hr
   simp only at hr
   obtain ⟨o,ho⟩:∃ o,o = 4 + j * 516:=⟨_,rfl⟩
   rw [← ho] at hr
   obtain ⟨n,hn⟩:∃ n,n = rec.length:=⟨_,rfl⟩
   have hon:o + 516 ≤ n:=by have:=HEL.out;omega
   have hn7:n < 70000:=by have:=HEL.out;have:=HLL.out;omega
   have hsz:(str rec).size = n:=by rw [str_size,hn]
   obtain ⟨tl,htl⟩:∃ tl,tl = rec.drop o:=⟨_,rfl⟩
   have x1:(str rec).extract o n = str tl:=by rw [htl,hn];exact str_drop rec o
   have x2:(str rec).extract (o + 4) (o + 4 + 512) = str image:=by
    rw [str_part,← List.drop_drop,hr,List.drop_left' (n4_len _),show o + 4 + 512 - (o + 4) = 512 by omega,List.take_left' hpm.2]
   have HV2:Hid (∀ w,Calls Tryz.prog 55 #[.string (str tl)] w fun e w'=>e = .returned (.int .i64 (id:Int)) ∧ ∃ k,w' = w.drewN k):=Lib.hid (fun w=>by
    have h1:=value_any (str tl) (by rw [str_size,htl,List.length_drop];omega) w
    have h2:v4 (str tl) = id:=by rw [htl,hr];exact v4_n4 id (by have:=HN2.out;omega) _
    rw [h2] at h1
    exact h1)
   have e1:(4:Int) + (j:Int) * 516 = (o:Int):=by omega
   have hw1:IntKind.i64.wrap ((j:Int) * 516) = (j:Int) * 516:=wrap_tiny _ (by omega) (by have:=HLL.out;omega)
   have hw2:IntKind.i64.wrap (4 + (j:Int) * 516) = (o:Int):=by rw [e1];exact wrap_tiny _ (by omega) (by omega)
   obtain ⟨o4,ho4⟩:∃ o4,o4 = o + 4:=⟨_,rfl⟩
   obtain ⟨o5,ho5⟩:∃ o5,o5 = o + 4 + 512:=⟨_,rfl⟩
   rw [← ho5,← ho4] at x2
   have hw3:IntKind.i64.wrap ((o:Int) + 4) = (o4:Int):=by rw [show (o:Int) + 4 = (o4:Int) by omega];exact wrap_tiny _ (by omega) (by omega)
   have hw4:IntKind.i64.wrap ((o4:Int) + 512) = (o5:Int):=by rw [show (o4:Int) + 512 = (o5:Int) by omega];exact wrap_tiny _ (by omega) (by omega)
   have g1:(o:Int) ≤ (n:Int):=by omega
   have g2:(o4:Int) ≤ (o5:Int):=by omega
   have g3:(o5:Int) ≤ (n:Int):=by omega
   have HLAY:Hid (∀ w',Ext No wr w' → Calls Tryz.prog 118 #[.pointer (some ⟨x,0,none⟩),.int .i64 (id:Int),.string (str image)] w' fun e w''=>e = .returned (.int .i64 ((k'.writes (layPage log id image)).1:Int)) ∧ DiskAt w'' (Grow (Grow Dd w wr) w' w'') d kb (k'.writes (layPage log id image)).2 ∧ Ext (Grow Dd w wr) w' w''):=Lib.hid (fun w' hx=>by
    have c0:=cell_ext (HX.out.trans_ hx.of_no) HC0.out HNX.out
    have c2:=cell_ext (HX.out.trans_ hx.of_no) HC2.out HNX.out
    refine dlay_any (HDK.out.ext hx (fun _ _ h=>h)) c0 c2 (fun hg=>?_) HNR.out (by have:=HNN.out;have:=HLL.out;omega) id (by have:=HKN.out;omega) image hpm.2
    rcases hg with hg | hg
    ·exact HNX.out hg
    ·have:=HXL.out;omega)
   have HNXT:Hid (R = if (k'.writes (layPage log id image)).1 ≠ 0 then k'.writes (layPage log id image) else (k'.writes (layPage log id image)).2.writes (layAll log (l.drop (j + 1)))):=Lib.hid (by
    have hdr:l.drop j = (id,image) :: l.drop (j + 1):=by
     rw [List.drop_eq_getElem_cons hlt];congr 1;exact (List.getElem?_eq_some_iff.1 hp).2
    rw [HWL.out,hdr]
    have e:layAll log ((id,image) :: l.drop (j + 1)) = layPage log id image ++ layAll log (l.drop (j + 1)):=rfl
    rw [e,Dk.writes_append])
   have hk1:Hid ((k'.writes (layPage log id image)).2.Near (N + (j + 1) * 8)):=Lib.hid ((Dk.writes_near _ HNR.out).mono (by rw [layPage_len];omega))
   have hkn1:=Lib.hid ((Dk.writes_n (layPage log id image) k').trans HKN.out)
   generalize k'.writes (layPage log id image) = kw at *
   have hlt':(j:Int) < (l.length:Int):=by omega
   have HO:=Lib.hid ho
   rw [str_size] at hsz
   clear hj hlt hp hpm hr ho hon hn7 hn htl e1 ho4 ho5
   go_upto_region 6 with fail
   go_region_held3 (fun w'=>True) (trivial) (first
    | (go_at_call 55;refine (HV2.out _).mono ?_;rintro e w2 ⟨rfl,kk,rfl⟩)
    | (go_at_call 118;refine (HLAY.out _ (by exact (Ext.refl No wr).drewN _)).mono ?_;rintro e w3 ⟨rfl,hd3,hx3⟩))
   have hx3':Ext (Grow Dd w wr) wr w3:=(Ext.drewN (Ext.refl _ wr) _).trans_ hx3
   have HXX:=Lib.hid (HX.out.trans hx3' (fun b hb hg=>Grow.back (Nat.le_refl _) hb hg))
   have hsz3:=hx3'.size
   have HD3:=Lib.hid (hd3.mono (D':=Grow Dd w w3) (fun b hb=>Grow.trans (w1:=wr) HX.out.size hsz3 (by rcases hb with hb | hb;exact .inl hb;exact .inr ⟨hb.1,hb.2⟩)) (Grow.old HSO.out HXX.out.size))
   clear hd3 hx3 hx3' hw1 hw2 hw3 hw4 g1 g2 g3 x1 x2 hsz
   by_cases hc:kw.1 = 0
   ·have hW2:Hid (R = kw.2.writes (layAll log (l.drop (j + 1)))):=Lib.hid (by rw [HNXT.out,if_neg (by omega)])
    have hc0:(kw.1:Int) = 0:=by omega
    rw [hc0]
    have hw9:IntKind.i64.wrap ((j:Int) + 1) = (j:Int) + 1:=wrap_tiny _ (by omega) (by have:=HLL.out;have:=HLT.out;omega)
    clear hc hc0 HWL HNXT
    go_wp2_with fail
    go_roundg (gk - 1)
    case rel=>exact ⟨j + 1,kw.2,by have:=HJ.out;have:=HLT.out;omega,by go_num,hW2,HD3,HXX,hk1,hkn1⟩
    case measure=>have:=HJ.out;have:=HLT.out;omega
   ·have hRk:R = kw:=by rw [HNXT.out,if_pos hc]
    have HRK:=Lib.hid hRk
    have hc0:((kw.1:Int) != 0) = true:=by simp;omega
    clear hc hRk
    go_wp2_with fail
    go_ret
    rw [HRK.out]
    exact ⟨rfl,HD3.out,HXX.out⟩
  ·have hjl:j = l.length:=by omega
   have HR8:Hid (R = (0,k')):=Lib.hid (by rw [HWL.out,hjl,List.drop_length];rfl)
   have hge:¬ ((j:Int) < (l.length:Int)):=by omega
   clear hj hlt hjl
   go_wp2_with fail
   go_ret
   rw [HR8.out]
   exact ⟨rfl,HDK.out,HX.out⟩
end Go.Proofs.YtccnemmlkcmceaaGreatDoor
namespace Go.Proofs.YtccnemmlkcmceaaGreatDoor
open Go.RowKit Go.BigFrame
theorem lg_records {w:World} {D:Nat → Prop} {x d m:Nat} {l:Lg} (h:LogAt w D x d m l) (hn:l.recs.length < 100000) :
  Calls Tryz.prog 81 #[.pointer (some ⟨x,0,none⟩)] w (Row 9 1 w (strs l.recs) l.recs.length):=by
 have HN:=Lib.hid (lg_none h)
 obtain ⟨Ab,cb,Ar,cr,Ap,cp,hb,ob,or_,op,hdj⟩:=h.cells
 have HC:=Lib.hid (clone_strings ⟨Ar,l.recs.length,cr,strs l.recs⟩ w (or_.part (fun u hu=>by obtain ⟨s,_,rfl⟩:=List.mem_map.1 hu;rfl)) hn)
 simp only [Part.v] at HC
 have c5:w.cell? ⟨x,5,none⟩ = some (.slice Ar l.recs.length cr):=hb.cell 5
 have hlt:=hb.lt
 obtain ⟨Q,hQ⟩:∃ Q,Q = Row 9 1 w (strs l.recs) l.recs.length:=⟨_,rfl⟩
 rw [← hQ]
 have HQ:=Lib.hid hQ
 clear h ob or_ op hdj hb hn hQ
 go_enter Tryz.func81,Tryz.ntmps81
 go_wp2_with fail
 refine (HN.out).mono ?_
 rintro e w1 ⟨rfl,rfl⟩
 go_wp2_with fail
 refine (HC.out).mono ?_
 rintro e w2 ⟨A',c',rfl,ho,hx⟩
 have HD:Hid (Q (.returned (.slice A' l.recs.length c')) w2):=Lib.hid (by rw [HQ.out];exact ⟨A',c',rfl,ho,hx⟩)
 clear ho hx
 go_wp2_with fail
 exact HD.out
theorem lose_any {w:World} {a:Dbp} {m:Mt} {o:Option Addr} (h:Blk w a.x 131 (dbVals a m o false)) (c:Nat) :
  Calls Tryz.prog 69 #[.pointer (some ⟨a.x,0,none⟩),.int .i64 (c:Int)] w fun e w'=>e = .returned (.int .i64 (c:Int)) ∧ Blk w' a.x 131 (dbVals a m o (decide (c ≠ 0))) ∧ Ext (On a.x) w w':=by
 have c11:w.cell? ⟨a.x,11,none⟩ = some (.bool false):=h.cell 11
 have f11:=h.frozen 11
 have hlt:=h.lt
 have HB:=Lib.hid h
 clear h
 by_cases hc:c = 0
 ·subst hc
  go_enter Tryz.func69,Tryz.ntmps69
  go_wp2_with fail
  go_ret
  exact ⟨rfl,HB.out.set_ 11 (.bool false),(Ext.refl _ _).setF (F:=On a.x) rfl 11 _⟩
 ·have hc':((c:Int) != 0) = true:=by simp;omega
  have e:decide (c ≠ 0) = true:=by simp [hc]
  rw [e]
  clear hc e
  go_enter Tryz.func69,Tryz.ntmps69
  go_wp2_with fail
  go_ret
  exact ⟨rfl,HB.out.set_ 11 (.bool true),(Ext.refl _ _).setF (F:=On a.x) rfl 11 _⟩
theorem DbAt.lose {w w':World} {Dd Dl:Nat → Prop} {a:Dbp} {o:Option Addr} {lost lost':Bool} {T:Nat → Nat} {b:Db} (h:DbAt w Dd Dl a o lost T b) (hb:Blk w' a.x 131 (dbVals a b.m o lost')) (hx:Ext (On a.x) w w'):DbAt w' Dd Dl a o lost' T b :=
 ⟨h.disk.ext hx (fun g hg e=>h.parts.xd (by have e':g = a.x:=e;rw [← e'];exact hg)),h.wal.ext hx (fun g hg e=>h.parts.xl (by have e':g = a.x:=e;rw [← e'];exact hg)),hb,h.half.ext hx (fun e=>h.parts.zx (by have e':0 = a.x:=e;exact e'.symm)),h.parts,h.ll⟩
theorem Dk.logHead_near {cr:Bs → Nat} {k:Dk} {n:Nat} (h:k.Near n) (e len:Nat):(k.logHead cr e len).2.Near (n + 2):=by
 unfold Dk.logHead
 have h1:=Dk.write_near h 0 (headOf cr e len)
 split
 ·exact h1.mono (by omega)
 ·exact Dk.flush_near h1
theorem Dk.logHead_n (cr:Bs → Nat) (k:Dk) (e len:Nat):(k.logHead cr e len).2.n = k.n:=by
 unfold Dk.logHead
 split
 ·exact Dk.write_n _ _ _
 ·rw [show ∀ k:Dk,k.flush.2.n = k.n from fun k=>by
   by_cases h:k.flush.1 = 0
   ·exact (Dk.flush_ok h).2.2
   ·exact (Dk.flush_no h).2.2]
  exact Dk.write_n _ _ _
theorem Dk.flush_n (k:Dk):k.flush.2.n = k.n:=by
 by_cases h:k.flush.1 = 0
 ·exact (Dk.flush_ok h).2.2
 ·exact (Dk.flush_no h).2.2
theorem Parts.newer {w:World} {a:Dbp} {Dd Dl Dd' Dl':Nat → Prop} (h:Parts a Dd Dl) (h1:Newer w Dd Dd') (h2:Newer w Dl Dl') (hap:∀ g,Dl' g → ¬ Dd' g) (hx:a.x < w.heap.size):Parts a Dd' Dl':=by
 refine ⟨hap,fun g=>?_,fun g=>?_,fun g=>?_,fun g=>?_,h.zx⟩
 ·rcases h1 _ g with g | g
  ·exact h.xd g
  ·omega
 ·rcases h2 _ g with g | g
  ·exact h.xl g
  ·omega
 ·rcases h1 _ g with g | g
  ·exact h.zd g
  ·omega
 ·rcases h2 _ g with g | g
  ·exact h.zl g
  ·omega
structure Settled (w:World) (Dd Dl:Nat → Prop) (a:Dbp) (o:Option Addr) (lost:Bool) (T:Nat → Nat) (S:Nat × Db) (e:Ending) (w':World):Prop where
 e:e = .returned (.int .i64 (S.1:Int))
 at_:∃ Dd',DiskAt w' Dd' a.d a.kb S.2.k ∧ (S.1 = 0 → DbAt w' Dd' Dl a o lost T S.2) ∧ Parts a Dd' Dl ∧ Newer w Dd Dd'
 bx:Blk w' a.x 131 (dbVals a S.2.m o lost)
 x:Ext (fun b=>Dd b ∨ Dl b) w w'
theorem dbsettle_any {w:World} {Dd Dl:Nat → Prop} {a:Dbp} {o:Option Addr} {lost:Bool} {T:Nat → Nat} {b:Db} (h:DbAt w Dd Dl a o lost T b) (hk:b.k.Near (2^28)) (he:b.epoch < 2^59) (hr:b.recs.length < 2^16) :
  Calls Tryz.prog 70 #[.pointer (some ⟨a.x,0,none⟩)] w (Settled w Dd Dl a o lost T (b.settle (crc T))):=by
 obtain ⟨S,hS⟩:∃ S,S = b.settle (crc T):=⟨_,rfl⟩
 rw [← hS]
 obtain ⟨Q,hQ⟩:∃ Q,Q = Settled w Dd Dl a o lost T S:=⟨_,rfl⟩
 rw [← hQ]
 have HQ:=Lib.hid hQ
 have HS:=Lib.hid hS
 have HREC:=Lib.hid (lg_records h.wal (by show b.recs.length < 100000;omega))
 simp only at HREC
 have x0:w.cell? ⟨a.x,0,none⟩ = some (.pointer (some ⟨a.d,0,none⟩)):=h.db.cell 0
 have x1:w.cell? ⟨a.x,1,none⟩ = some (.pointer (some ⟨a.l,0,none⟩)):=h.db.cell 1
 have hxl:=h.db.lt
 have H:=Lib.hid h;have HK:=Lib.hid hk;have HE:=Lib.hid he
 have HC0:=Lib.hid x0;have HC1:=Lib.hid x1;have HXL:=Lib.hid hxl
 obtain ⟨x,hx⟩:∃ x,x = a.x:=⟨_,rfl⟩
 obtain ⟨n,hn⟩:∃ n,n = b.recs.length:=⟨_,rfl⟩
 rw [← hx] at x0 x1 HC0 HC1 hxl HXL ⊢
 rw [← hn] at HREC
 have HN:=Lib.hid hn
 have HX:=Lib.hid hx
 clear h hk he hr hS hQ hn hx
 go_enter Tryz.func70,Tryz.ntmps70
 go_wp2_with fail
 refine (HREC.out).mono ?_
 rintro e w1 ⟨A,c,rfl,_,hx1⟩
 have HX1:=Lib.hid hx1
 have H1:=Lib.hid (H.out.no hx1)
 have y0:=cell_ext hx1 HC0.out (fun h=>h)
 have y1:=cell_ext hx1 HC1.out (fun h=>h)
 have hxl1:x < w1.heap.size:=by have:=hx1.size;omega
 clear hx1 x0 x1 HREC
 by_cases hn0:n = 0
 ·have HD:Hid (Q (.returned (.int .i64 0)) w1):=Lib.hid (by
   have hr:b.recs = []:=List.eq_nil_of_length_eq_zero (by rw [← HN.out,hn0])
   have e:S = (0,b):=by rw [HS.out];unfold Db.settle;rw [if_pos hr]
   rw [HQ.out,e]
   exact ⟨rfl,⟨Dd,H1.out.disk,fun _=>H1.out,H1.out.parts,fun g hg=>.inl hg⟩,H1.out.db,HX1.out.of_no⟩)
  subst hn0
  go_wp2_with fail
  exact HD.out
 ·have hne:((n:Int) == 0) = false:=by simpa using hn0
  have HRN:Hid (b.recs ≠ []):=Lib.hid (fun e=>by rw [e] at HN;exact hn0 HN.out)
  have HFL:=Lib.hid (dk_flush H1.out.disk (by have:=HK.out.1;omega) (by have:=HK.out.2.1;omega) (by have:=HK.out.2.2;omega))
  obtain ⟨F,hF⟩:∃ F,F = b.k.flush:=⟨_,rfl⟩
  rw [← hF] at HFL
  have HF:=Lib.hid hF
  clear hn0 hF
  go_wp2_with fail
  refine (HFL.out).mono ?_
  rintro e w2 ⟨rfl,hd2,hx2⟩
  have HD2:=Lib.hid hd2;have HX2:=Lib.hid hx2
  have hNX:¬ Dd x:=by rw [HX.out];exact H.out.parts.xd
  have HNX:=Lib.hid hNX
  have z1:=cell_ext hx2 y1 hNX
  have hxl2:x < w2.heap.size:=by have:=hx2.size;omega
  have HW2:=Lib.hid (H1.out.wal.ext hx2 H.out.parts.ap)
  have HB2:=Lib.hid (H1.out.db.ext hx2 H.out.parts.xd)
  have HT2:=Lib.hid (H1.out.half.ext hx2 H.out.parts.zd)
  clear hd2 hx2 y0 y1 hNX
  by_cases hf:F.1 = 0
  ·have hf0:(F.1:Int) = 0:=by omega
   have HF0:=Lib.hid hf
   have HRS:=Lib.hid (lg_reset HW2.out HD2.out HT2.out H.out.parts.zd H.out.parts.ap (by rw [HF.out];exact (Dk.flush_near HK.out).mono (by decide)) (by show b.epoch < _;exact HE.out) rfl rfl)
   simp only at HRS
   obtain ⟨R,hR⟩:∃ R,R = F.2.logHead (crc T) (b.epoch + 1) 0:=⟨_,rfl⟩
   rw [← hR] at HRS
   have HR:=Lib.hid hR
   obtain ⟨l9,h9⟩:∃ l9:Lg,l9 = (if R.1 ≠ 0 then { (⟨b.epoch,b.bytes,b.recs,[],false⟩:Lg) with lost:=true } else { (⟨b.epoch,b.bytes,b.recs,[],false⟩:Lg) with epoch:=b.epoch + 1,bytes:=[],recs:=[] }):=⟨_,rfl⟩
   have H9:=Lib.hid h9
   have HRS2:Hid (Calls Tryz.prog 111 #[.pointer (some ⟨a.l,0,none⟩)] w2 fun e w'=>e = .returned (.int .i64 (R.1:Int)) ∧ DiskAt w' (Grow Dd w2 w') a.d a.kb R.2 ∧ LogAt w' Dl a.l a.d a.log l9 ∧ Ext (fun b=>Dd b ∨ On a.l b) w2 w'):=Lib.hid (by rw [h9];exact HRS.out)
   rw [hf0]
   clear hf hf0 hR h9 HRS
   go_wp2_with fail
   refine (HRS2.out).mono ?_
   rintro e w3 ⟨rfl,hd3,hl3,hx3⟩
   have HD:Hid (Q (.returned (.int .i64 (R.1:Int))) w3):=Lib.hid (by
    have hxl':Dl a.l:=H.out.wal.xx
    have hP:=H.out.parts
    have hx3':Ext (fun b=>Dd b ∨ Dl b) w2 w3:=hx3.mono (fun g _ hg=>by
     rcases hg with hg | hg
     ·exact .inl hg
     ·have e':g = a.l:=hg
      rw [e'];exact .inr hxl')
    have hnx:¬ (fun b=>Dd b ∨ Dl b) a.x:=fun hg=>by
     rcases hg with hg | hg
     ·exact hP.xd hg
     ·exact hP.xl hg
    have hn0:¬ (fun b=>Dd b ∨ Dl b) 0:=fun hg=>by
     rcases hg with hg | hg
     ·exact hP.zd hg
     ·exact hP.zl hg
    have hNW:Newer w Dd (Grow Dd w2 w3):=fun g hg=>by
     rcases hg with hg | hg
     ·exact .inl hg
     ·have:=HX1.out.size;have:=HX2.out.size;exact .inr (by omega)
    have hap':∀ g,Dl g → ¬ Grow Dd w2 w3 g:=fun g hg hg2=>by
     rcases hg2 with hg2 | hg2
     ·exact hP.ap g hg hg2
     ·have:=HW2.out.old g hg;omega
    have hP3:=hP.newer (w:=w) hNW (fun g hg=>.inl hg) hap' (by rw [← HX.out];exact HXL.out)
    have hEW:Ext (fun b=>Dd b ∨ Dl b) w w3:=(HX1.out.of_no.trans_ (HX2.out.mono (fun _ _ hg=>.inl hg))).trans_ hx3'
    have eS:S = if R.1 ≠ 0 then (R.1,{ b with k:=R.2 }) else (0,{ b with k:=R.2,epoch:=b.epoch + 1,bytes:=[],recs:=[] }):=by
     rw [HS.out];unfold Db.settle
     rw [if_neg HRN.out,← HF.out,if_neg (by have:=HF0.out;omega),← HR.out]
    rw [HQ.out]
    have hb3:=HB2.out.ext hx3' hnx
    by_cases hr:R.1 = 0
    ·rw [if_neg (by omega)] at eS
     rw [eS]
     have hl9:=H9.out
     rw [if_neg (by omega)] at hl9
     rw [hl9] at hl3
     refine ⟨by rw [hr],⟨_,hd3,fun _=>⟨hd3,hl3,hb3,HT2.out.ext hx3' hn0,hP3,?_⟩,hP3,hNW⟩,hb3,hEW⟩
     show a.log ≤ R.2.n
     rw [HR.out,Dk.logHead_n,HF.out,Dk.flush_n]
     exact H.out.ll
    ·rw [if_pos hr] at eS
     rw [eS]
     exact ⟨rfl,⟨_,hd3,fun h=>absurd h hr,hP3,hNW⟩,hb3,hEW⟩)
   clear hd3 hl3 hx3
   go_wp2_with fail
   exact HD.out
  ·have hf1:((F.1:Int) != 0) = true:=by simp;omega
   have HD:Hid (Q (.returned (.int .i64 (F.1:Int))) w2):=Lib.hid (by
    have e:S = (F.1,{ b with k:=F.2 }):=by
     rw [HS.out];unfold Db.settle
     rw [if_neg HRN.out,← HF.out,if_pos hf]
    rw [HQ.out,e]
    exact ⟨rfl,⟨Dd,HD2.out,fun h=>absurd h hf,H.out.parts,fun g hg=>.inl hg⟩,HB2.out,HX1.out.of_no.trans_ (HX2.out.mono (fun _ _ hg=>.inl hg))⟩)
   clear hf
   go_wp2_with fail
   exact HD.out
def Mt.val (m:Mt):Value:=.agg #[.int .i64 (m.r 0:Int),.int .i64 (m.r 1:Int),.int .i64 (m.r 2:Int),.int .i64 (m.r 3:Int),.int .i64 (m.high:Int),.int .i64 (m.free:Int),.int .i64 (m.cnt:Int)]
structure Mt.Ok (m:Mt):Prop where
 r:∀ i,m.r i < 2147483648
 h:m.high < 2147483648
 f:m.free < 2147483648
 c:m.cnt < 2147483648
def Mt.pre (m:Mt) (j:Nat):Bs:=n4 m.high ++ (n4 m.free ++ n4 m.cnt) ++ ((List.range j).map fun i=>n4 (m.r i)).flatten
theorem Mt.pre_succ (m:Mt) (j:Nat):m.pre (j + 1) = m.pre j ++ n4 (m.r j):=by
 unfold Mt.pre
 rw [List.range_succ,List.map_append,List.flatten_append,List.append_assoc];simp
theorem Mt.pre_four (m:Mt):m.pre 4 = m.body:=by
 unfold Mt.pre Mt.body
 simp only [List.append_assoc]
 rfl
theorem Mt.pre_len (m:Mt) (j:Nat):(m.pre j).length = 12 + 4 * j:=by
 induction j with
 | zero=>rfl
 | succ j ih=>rw [m.pre_succ,List.length_append,ih,n4_len];omega
theorem idx_root (m:Mt) (j:Nat) (hj:j < 4) (w:World):(Instr.index 106 (.agg #[.int .i64 (m.r 0:Int),.int .i64 (m.r 1:Int),.int .i64 (m.r 2:Int),.int .i64 (m.r 3:Int)]) (.int .i64 (j:Int))).run Tryz.prog w = .ok (.int .i64 (m.r j:Int)) w:=by
 match j,hj with
 | 0,_=>simp [Instr.index,run_underlying Tryz.underlying106,asIntOf,part,isAgg,run_underlying Tryz.underlying3,go_sem]
 | 1,_=>simp [Instr.index,run_underlying Tryz.underlying106,asIntOf,part,isAgg,run_underlying Tryz.underlying3,go_sem]
 | 2,_=>simp [Instr.index,run_underlying Tryz.underlying106,asIntOf,part,isAgg,run_underlying Tryz.underlying3,go_sem]
 | 3,_=>simp [Instr.index,run_underlying Tryz.underlying106,asIntOf,part,isAgg,run_underlying Tryz.underlying3,go_sem]
theorem body_any (m:Mt) (hm:m.Ok) (w:World):Calls Tryz.prog 105 #[m.val] w fun e w'=>e = .returned (.string (str m.body)) ∧ Ext No w w':=by
 have HNUM:=Lib.hid (fun n (hn:n < 2147483648) w=>number_any n (by omega) w)
 have HM:=Lib.hid hm
 obtain ⟨C,hC⟩:∃ C,C = m.body:=⟨_,rfl⟩
 rw [← hC]
 have HC:=Lib.hid hC
 have H0:=Lib.hid (fun w=>HNUM.out m.high hm.h w)
 have H1:=Lib.hid (fun w=>HNUM.out m.free hm.f w)
 have H2:=Lib.hid (fun w=>HNUM.out m.cnt hm.c w)
 obtain ⟨N0,hN0⟩:∃ N0,N0 = n4 m.high:=⟨_,rfl⟩
 obtain ⟨N1,hN1⟩:∃ N1,N1 = n4 m.free:=⟨_,rfl⟩
 obtain ⟨N2,hN2⟩:∃ N2,N2 = n4 m.cnt:=⟨_,rfl⟩
 rw [← hN0] at H0
 rw [← hN1] at H1
 rw [← hN2] at H2
 have l0:N0.length = 4:=by rw [hN0];rfl
 have l1:N1.length = 4:=by rw [hN1];rfl
 have l2:N2.length = 4:=by rw [hN2];rfl
 have s1:str N0 ++ str N1 = str (N0 ++ N1):=str_app _ _
 have s2:str (N0 ++ N1) ++ str N2 = str (m.pre 0):=by rw [str_app,hN0,hN1,hN2];unfold Mt.pre;simp
 unfold Mt.val
 clear hm hC hN0 hN1 hN2
 go_enter Tryz.func105,Tryz.ntmps105
 go_upto_region 1 with fail
 have hb:=Blk.new w 108 #[.int .i64 (m.r 0:Int),.int .i64 (m.r 1:Int),.int .i64 (m.r 2:Int),.int .i64 (m.r 3:Int),.int .i64 (m.high:Int),.int .i64 (m.free:Int),.int .i64 (m.cnt:Int)]
 have HX1:=Lib.hid ((Ext.refl No w).alloc (.cells #[.int .i64 (m.r 0:Int),.int .i64 (m.r 1:Int),.int .i64 (m.r 2:Int),.int .i64 (m.r 3:Int),.int .i64 (m.high:Int),.int .i64 (m.free:Int),.int .i64 (m.cnt:Int)] 108))
 generalize w.alloc (.cells #[.int .i64 (m.r 0:Int),.int .i64 (m.r 1:Int),.int .i64 (m.r 2:Int),.int .i64 (m.r 3:Int),.int .i64 (m.high:Int),.int .i64 (m.free:Int),.int .i64 (m.cnt:Int)] 108) = W at *
 have HB:=Lib.hid hb
 have k0:=hb.cell 0
 have k1:=hb.cell 1
 have k2:=hb.cell 2
 have k3:=hb.cell 3
 have k4:=hb.cell 4
 have k5:=hb.cell 5
 have k6:=hb.cell 6
 simp at k0 k1 k2 k3 k4 k5 k6
 have lw:=hb.lt
 clear hb
 refine wp_region_up (by kernel_rfl) (by kernel_rfl) ?_;(repeat (go_big_quiet_step ((go_at_call 106;first | (with_reducible exact Calls.up_of (H0.out _)) | (with_reducible exact Calls.up_of (H1.out _)) | (with_reducible exact Calls.up_of (H2.out _))))));refine wpQuiet_nil ?_;intro _ hw';obtain ⟨⟨wq,hq⟩,hw''⟩:=hw';change _ = wq at hw'';subst hw''
 have HE2:=Lib.hid hq
 have hb2:=HB.out.ext hq (fun h=>h)
 have q0:=hb2.cell 0
 have q1:=hb2.cell 1
 have q2:=hb2.cell 2
 have q3:=hb2.cell 3
 simp at q0 q1 q2 q3
 have lq:=hb2.lt
 clear hq hb2 k0 k1 k2 k3 k4 k5 k6 s1 s2 l0 l1 l2 H0 H1 H2
 go_wp2_with fail
 go_loopg [3,19] 4 (fun gk q3 q19 wr=>∃ j:Nat,j + gk = 4 ∧ q19 = .int .i64 (j:Int) ∧ q3 = .string (str (m.pre j)) ∧ Hid (Ext No w wr))
 case atStart=>exact ⟨0,rfl,rfl,rfl,Lib.hid (HX1.out.trans_ HE2.out)⟩
 case round =>
  obtain ⟨j,hj,rfl,rfl,HE⟩:=hrel
  have HJ:=Lib.hid hj
  by_cases h4:j < 4
  ·have H4:=Lib.hid h4
   have hix:=fun w=>idx_root m j h4 w
   have hj4:(j:Int) < 4:=by omega
   have HN:=Lib.hid (fun w=>HNUM.out (m.r j) (HM.out.r j) w)
   obtain ⟨N,hN⟩:∃ N,N = n4 (m.r j):=⟨_,rfl⟩
   rw [← hN] at HN
   have HNN:=Lib.hid hN
   have hl:(m.pre j).length < 100:=by rw [m.pre_len];omega
   have hn:N.length = 4:=by rw [hN];rfl
   have s1:str (m.pre j) ++ str N = str (m.pre (j + 1)):=by rw [str_app,m.pre_succ,hN]
   obtain ⟨P,hP⟩:∃ P,P = m.pre j:=⟨_,rfl⟩
   rw [← hP] at s1 hl ⊢
   clear hj h4 hN hP
   go_wp2_with fail
   refine (HN.out _).mono ?_
   rintro e w1 ⟨rfl,hx1⟩
   have HEN:=Lib.hid (HE.out.trans_ hx1)
   clear hx1
   go_wp2_with fail
   go_roundg (gk - 1)
   case rel=>exact ⟨j + 1,by have:=HJ.out;have:=H4.out;omega,by go_num,rfl,HEN⟩
   case measure=>have:=HJ.out;have:=H4.out;omega
  ·have hj4:j = 4:=by omega
   subst hj4
   have HCC:Hid (C = m.pre 4):=Lib.hid (by rw [m.pre_four];exact HC.out)
   rw [← HCC.out]
   clear hj h4
   go_wp2_with fail
   go_ret
   exact ⟨rfl,HE.out⟩
end Go.Proofs.YtccnemmlkcmceaaGreatDoor
