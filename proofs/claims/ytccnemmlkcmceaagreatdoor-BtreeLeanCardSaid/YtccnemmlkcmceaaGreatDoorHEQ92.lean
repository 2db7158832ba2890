/- Proofs about the given program, joined out of the texts C4, CB, LP, LN1, LN2. -/
import Derived.Test.YtccnemmlkcmceaaGreatDoorHEQ91
set_option linter.unusedVariables false
set_option linter.unusedSimpArgs false
set_option maxRecDepth 100000
set_option maxHeartbeats 6400000
namespace Go.Proofs.YtccnemmlkcmceaaGreatDoor
open Go.RowKit
theorem str_k (l:Bs):(⟨#[107]⟩:ByteArray) ++ str l = str (107 :: l):=str_app [107] l
theorem fill_back {Q:Ending → World → Prop} {a:Act} {w:World} (b:Nat) (cs:Array Value) (hb:Blk w b 32 cs) {v:Value} (hs:some 1 = some cs.size) (hp:a.tmps.getD 6 undef = .pointer (some ⟨b,0,none⟩)) (h3:a.tmps.getD 7 undef = v) (hd:a.defers = [])
  (h:Q (.returned (.tuple #[.agg cs,v])) w):bodyPost Tryz.prog Tryz.f14 Q Exit.ret a w:=by
 refine bodyPost_ret (v:=.tuple #[.agg cs,v]) (w:=w) ?_ hd h
 have hl:=run_loadVar_row w b 32 32 cs (0,0) _ hb Tryz.underlying32 rfl (by rw [← hs];kernel_rfl)
 rw [results_ct rfl,hp,h3]
 simp [asAddr,Result.andThen,hl]
theorem fill_any (s:Sys) (hs:s.Ok) (w:World) (v:V) (h:TxAt w s v) (gx i:Nat) (hx:Blk w gx 70 (treeCells s i)) (hi:i < 4) (X P0:List Nat) (hO:One s.cap v i X P0 []) (l:List Ac) (A:Option Addr) (c:Nat)
  (hl:Rd w s.F 4 A l.length (acVals l)) (hll:l.length < 2^63) (hf:∀ a ∈ l,a.fits) (most:Nat) (hm:6 * most + X.length + 15 ≤ s.cap) (hm2:most ≤ 60) :
  Calls Tryz.prog 14 #[.pointer (some ⟨gx,0,none⟩),.slice A l.length c,.int .i64 (most:Int)] w (Filled s w v i X P0 (fillE (l.take most))):=by
 have HPUT:=Lib.hid (fun w v h hg hx key val=>put_full s hs w v h hg gx i hx hi key val)
 have HDEL:=Lib.hid (fun w v h hg hx key=>del_full s hs w v h hg gx i hx hi key)
 have HT:=Lib.hid h
 have HX:=Lib.hid hx
 have HL:=Lib.hid hl
 have HF:=Lib.hid hf
 have HM:=Lib.hid hm
 have HS:=Lib.hid hs
 have HLL:=Lib.hid hll
 have hfill:=Lib.hid (show FillAt s w ((w.alloc (.cells #[.slice none 0 0] 32)).alloc (.cells #[.slice none 0 0] 32)) v v i X P0 P0 [] [] none 0 from
  ⟨h.no hs (((Ext.refl _ _).alloc _).alloc _),hO,Tr.refl _ _ _ hO.tree.us,Blk.new_at (b:=w.heap.size + 1) (w.alloc _) 32 _ (by simp),⟨Rd.nil_ _,by simp,fun _=>rfl,by simp⟩,(Blk.new w 32 _).alloc _,((Ext.refl _ _).alloc _).alloc _,.refl⟩)
 have HOFF:=Lib.hid (tree_off h hx)
 obtain ⟨D,hD⟩:∃ D,D = Filled s w v i X P0 (fillE (l.take most)):=⟨_,rfl⟩
 rw [← hD]
 have HD:=Lib.hid hD
 clear h hx hl hf hm hs hll hO hD
 go_enter Tryz.func14,Tryz.ntmps14
 go_wp2_with fail
 generalize ((w.alloc (.cells #[.slice none 0 0] 32)).alloc (.cells #[.slice none 0 0] 32)) = W0 at *
 go_loopg [9] l.length (fun gk iv wr=>∃ (k:Nat) (v':V) (P':List Nat) (A':Option Addr) (c':Nat),k + gk = l.length ∧ k ≤ most ∧ iv = .int .i64 (k:Int) ∧ Hid (FillAt s w wr v v' i X P0 P' (fillE (l.take k)) (fillE (l.take k)) A' c'))
 case atStart=>exact ⟨0,v,P0,none,0,by omega,by omega,rfl,hfill⟩
 case round =>
  obtain ⟨k,v',P',A',c',hk,hkm,rfl,HFA⟩:=hrel
  have HK:=Lib.hid hk
  have HKM:=Lib.hid hkm
  have hll:=HLL.out
  by_cases hlt:k < l.length
  ·by_cases hlt2:k < most
   ·obtain ⟨a,ha⟩:∃ a,l[k]? = some a:=⟨_,List.getElem?_eq_getElem hlt⟩
    obtain ⟨b,o,hA,_,k0,k1,k2,k3⟩:=(HL.out.ext HFA.out.ex).acAt ha
    subst hA
    have lc:=World.block_lt_of_cell? wr _ k0
    simp only at lc
    have hlt':(k:Int) < (l.length:Int):=by omega
    have hlt2':(k:Int) < (most:Int):=by omega
    have hfa:=HF.out a (List.mem_of_getElem? ha)
    have hkl:a.key.length < 2^63:=hfa.2.2
    have hex:(str a.key).extract 0 (min (a.key.length:Int) 130).toNat = str (a.key.take 130):=by
     rw [str_take]
     congr 1
     rw [show (min (a.key.length:Int) 130).toNat = min 130 a.key.length by omega,← List.take_take,List.take_length]
    have hcat:(⟨#[107]⟩:ByteArray) ++ str (a.key.take 130) = str a.key1:=str_k _
    have hks:=str_size a.key
    have HVAL:=Lib.hid (fun w=>value_walk a hfa.1 hfa.2.1 w)
    have hst:fillE (l.take (k + 1)) = a.step (fillE (l.take k)):=by
     rw [List.take_add_one,ha];exact fillE_snoc _ _
    have hEl:(fillE (l.take k)).length ≤ k:=Nat.le_trans (fillE_len _) (by rw [List.length_take];omega)
    obtain ⟨E,hE⟩:∃ E,E = fillE (l.take k):=⟨_,rfl⟩
    rw [← hE] at HFA hst hEl
    have HST:=Lib.hid hst
    have HEL:=Lib.hid hEl
    have HSO:=Lib.hid (HFA.out.one.sorted)
    have hstl:6 * E.length + X.length + 15 ≤ s.cap:=by have:=HM.out;omega
    have HROOM:=Lib.hid (show E.length < 100 ∧ 6 * E.length + X.length + 15 ≤ s.cap from ⟨by omega,hstl⟩)
    have hcells:Ac.agg a = .agg #[.int .i64 a.kind,.int .i64 a.n,.string (str a.key),.string (str a.val)]:=rfl
    obtain ⟨W,hW⟩:∃ W,W = wr.alloc (.cells #[.int .i64 a.kind,.int .i64 a.n,.string (str a.key),.string (str a.val)] 53):=⟨_,rfl⟩
    have HEW:=Lib.hid (show Ext No wr W from hW ▸ (Ext.refl _ _).alloc _)
    have HBW:=Lib.hid (show Blk W wr.heap.size 53 #[.int .i64 a.kind,.int .i64 a.n,.string (str a.key),.string (str a.val)] from hW ▸ Blk.new wr 53 _)
    have HFW:=Lib.hid (HFA.out.no HS.out HEW.out)
    have hwr:=HFA.out.ex.size
    have HWR:=Lib.hid hwr
    by_cases hk2:a.kind = 2
    ·have hmay:=a.key1_may [] (by simp)
     obtain ⟨d1,d2,P2,d3,d4⟩:=HFW.out.one.del hmay HROOM.out.1 HROOM.out.2
     obtain ⟨bb,hbb⟩:∃ bb,bb = decide ((del a.key1 E).length < E.length):=⟨_,rfl⟩
     have HDE:Hid (Calls Tryz.prog 27 #[.pointer (some ⟨gx,0,none⟩),.string (str a.key1)] W fun e w2=>e = .returned (.tuple #[.bool bb,.int .i64 0]) ∧ Hid (FillAt s w w2 v (v'.Del s.cap i a.key1).2.2 i X P0 P2 (del a.key1 E) E A' c')):=Lib.hid (by
      refine (HDEL.out W v' HFW.out.tx HFW.out.one.sane.1 (HX.out.ext HFW.out.ex HOFF.out) a.key1).mono ?_
      rintro e w2 ⟨h1,h2,_,h3⟩
      rw [d1,d2,← hbb] at h1
      exact ⟨h1,Lib.hid (HFW.out.tree HT.out h2 h3 d3 d4 ((V.StepsB.refl (sp:=true)).Del _ _))⟩)
     have HRD:Hid (∀ w2,FillAt s w w2 v (v'.Del s.cap i a.key1).2.2 i X P0 P2 (del a.key1 E) E A' c' → Calls Tryz.prog 37 #[.pointer (some ⟨w.heap.size + 1,0,none⟩),.string (str a.key1)] w2 fun e w3=>e = .returned (.tuple #[.bool bb,.int .i64 0]) ∧ Hid (∃ A3 c3,FillAt s w w3 v (v'.Del s.cap i a.key1).2.2 i X P0 P2 (del a.key1 E) (del a.key1 E) A3 c3)):=Lib.hid (by
      intro w2 hf2
      refine (refdel_any w2 (w.heap.size + 1) A' c' E a.key1 hf2.bm (hf2.ra.mono (fun _ _ h=>h.elim)) hmay).mono ?_
      intro e w3 hd
      rw [← hbb] at hd
      exact ⟨hd.e,Lib.hid (hf2.map HS.out HT.out hd)⟩)
     have HSTP:Hid (fillE (l.take (k + 1)) = del a.key1 E):=Lib.hid (by rw [HST.out];unfold Ac.step;rw [if_pos hk2])
     rw [hk2] at hW
     clear hk hkm hfa hst hEl hmay d1 d2 d3 d4 hbb hE hwr hstl
     go_wp2_with fail
     rw [← hW]
     refine (HDE.out).mono ?_
     rintro e w2 ⟨rfl,HFB⟩
     go_wp2_with fail
     refine (HRD.out _ HFB.out).mono ?_
     rintro e w3 ⟨rfl,HFC⟩
     clear HFB HDE HRD k0 k1 k2 k3 lc hW
     cases bb
     ·go_wp2_with fail
      go_roundg (gk - 1)
      case rel =>
       obtain ⟨A3,c3,h3⟩:=HFC.out
       exact ⟨k + 1,_,P2,A3,c3,by have:=HK.out;omega,by omega,by go_num,Lib.hid (by rw [HSTP.out];exact h3)⟩
      case measure=>have:=HK.out;omega
     ·go_wp2_with fail
      go_roundg (gk - 1)
      case rel =>
       obtain ⟨A3,c3,h3⟩:=HFC.out
       exact ⟨k + 1,_,P2,A3,c3,by have:=HK.out;omega,by omega,by go_num,Lib.hid (by rw [HSTP.out];exact h3)⟩
      case measure=>have:=HK.out;omega
    ·have hvl:=a.value_le
     have hmay:=a.key1_may a.value hvl
     obtain ⟨d1,P2,d3,d4⟩:=HFW.out.one.put hmay hvl HROOM.out.1 HROOM.out.2
     have hins:rput a.key1 a.value false E = ins a.key1 a.value E:=rput_ins _ _ _ HSO.out
     have HVW:Hid (∀ w1,Calls Tryz.prog 26 #[.agg #[.int .i64 a.kind,.int .i64 a.n,.string (str a.key),.string (str a.val)]] w1 fun e w'=>e = .returned (.string (str a.value)) ∧ Ext No w1 w'):=Lib.hid (fun w1=>HVAL.out w1)
     have HDE:Hid (∀ w1,Ext No W w1 → Calls Tryz.prog 25 #[.pointer (some ⟨gx,0,none⟩),.string (str a.key1),.string (str a.value)] w1 fun e w2=>e = .returned (.int .i64 0) ∧ Hid (Blk w2 wr.heap.size 53 #[.int .i64 a.kind,.int .i64 a.n,.string (str a.key),.string (str a.val)]) ∧ Hid (FillAt s w w2 v (v'.Put s.cap i a.key1 a.value).2 i X P0 P2 (ins a.key1 a.value E) E A' c')):=Lib.hid (by
      intro w1 e1
      have hf1:=HFW.out.no HS.out e1
      refine (HPUT.out w1 v' hf1.tx hf1.one.sane.1 (HX.out.ext hf1.ex HOFF.out) a.key1 a.value).mono ?_
      rintro e w2 ⟨h1,h2,_,h3⟩
      rw [d1] at h1
      refine ⟨h1,Lib.hid ((HBW.out.ext e1 (fun h=>h)).ext h3 (fun hf=>by have:=HT.out.old hf;have:=HWR.out;omega)),Lib.hid (hf1.tree HT.out h2 h3 d3 d4 ((V.StepsB.refl (sp:=true)).Put _ _ _))⟩)
     have HRD:Hid (∀ w2,FillAt s w w2 v (v'.Put s.cap i a.key1 a.value).2 i X P0 P2 (ins a.key1 a.value E) E A' c' → Calls Tryz.prog 38 #[.pointer (some ⟨w.heap.size + 1,0,none⟩),.string (str a.key1),.string (str a.value)] w2 fun e w3=>e = .returned (.int .i64 0) ∧ Hid (∃ A3 c3,FillAt s w w3 v (v'.Put s.cap i a.key1 a.value).2 i X P0 P2 (ins a.key1 a.value E) (ins a.key1 a.value E) A3 c3)):=Lib.hid (by
      intro w2 hf2
      refine (refput_any w2 (w.heap.size + 1) A' c' E a.key1 a.value hf2.bm (hf2.ra.mono (fun _ _ h=>h.elim)) (by have:=HROOM.out.1;omega) hmay).mono ?_
      intro e w3 hd
      rw [hins] at hd
      exact ⟨hd.e,Lib.hid (hf2.map HS.out HT.out hd)⟩)
     have HSTP:Hid (fillE (l.take (k + 1)) = ins a.key1 a.value E):=Lib.hid (by rw [HST.out];unfold Ac.step;rw [if_neg hk2])
     have hk2':(a.kind == 2) = false:=by simpa using hk2
     clear hk hkm hfa hst hEl hmay d1 d3 d4 hE hwr hstl hvl hins
     go_wp2_with fail
     rw [← hW]
     refine (HVW.out _).mono ?_
     rintro e w1 ⟨rfl,hx1⟩
     have HX1:=Lib.hid hx1
     clear hx1
     go_wp2_with fail
     refine (HDE.out _ HX1.out).mono ?_
     rintro e w2 ⟨rfl,HB2,HFB⟩
     have b0:=HB2.out.cell 0
     have b1:=HB2.out.cell 1
     have b2:=HB2.out.cell 2
     have b3:=HB2.out.cell 3
     have bl:=HB2.out.lt
     simp at b0 b1 b2 b3
     clear k0 k1 k2 k3 lc hW HDE
     go_wp2_with fail
     refine (HVW.out _).mono ?_
     rintro e w3 ⟨rfl,hx3⟩
     have HFB3:=Lib.hid (HFB.out.no HS.out hx3)
     clear hx3 HFB
     go_wp2_with fail
     refine (HRD.out _ HFB3.out).mono ?_
     rintro e w4 ⟨rfl,HFC⟩
     go_wp2_with fail
     go_roundg (gk - 1)
     case rel =>
      obtain ⟨A3,c3,h3⟩:=HFC.out
      exact ⟨k + 1,_,P2,A3,c3,by have:=HK.out;omega,by omega,by go_num,Lib.hid (by rw [HSTP.out];exact h3)⟩
     case measure=>have:=HK.out;omega
   ·have hkm':k = most:=by omega
    have hge:¬ ((k:Int) < (most:Int)):=by omega
    have hlt':(k:Int) < (l.length:Int):=by omega
    have hE:l.take k = l.take most:=by rw [hkm']
    rw [hE] at HFA
    have c0:=HFA.out.bm.cell 0
    have cl:=HFA.out.bm.lt
    have rl:=HFA.out.br.lt
    have rf:=HFA.out.br.frozen 0
    have r0:=HFA.out.br.cell 0
    simp at c0 r0
    have HRES:=Lib.hid (HFA.out.br.set_ 0 (.slice A' (fillE (l.take most)).length c'))
    have HFIN:Hid (D (.returned (.tuple #[.agg #[.slice A' (fillE (l.take most)).length c'],.bool true])) (wr.setCell ⟨w.heap.size,0,none⟩ (.slice A' (fillE (l.take most)).length c'))):=Lib.hid (by
     rw [HD.out]
     have hx2:Ext No w (wr.setCell ⟨w.heap.size,0,none⟩ (.slice A' (fillE (l.take most)).length c')) → True:=fun _=>trivial
     have hloc:Ext (On w.heap.size) wr (wr.setCell ⟨w.heap.size,0,none⟩ (.slice A' (fillE (l.take most)).length c')):=Ext.setF (F:=On w.heap.size) (Ext.refl _ _) (b:=w.heap.size) (show On w.heap.size w.heap.size from rfl) _ _
     have hex2:Ext s.F w (wr.setCell ⟨w.heap.size,0,none⟩ (.slice A' (fillE (l.take most)).length c')):=HFA.out.ex.trans hloc (fun b hb he=>by have:b = w.heap.size:=he;omega)
     refine ⟨⟨v',P',A',c',rfl,HFA.out.tx.local_ hloc (fun he=>?_) (fun he=>?_) (HS.out.keep _ _ hex2 HT.out.db),HFA.out.one,HFA.out.tr,?_,HFA.out.st⟩,hex2⟩
     ·have h1:s.t = w.heap.size:=he
      have:=HT.out.old (b:=s.t) (.inl rfl);omega
     ·have h1:s.m = w.heap.size:=he
      have:=HT.out.old (b:=s.m) (.inr rfl);omega
     ·exact (HFA.out.ra.ext (hloc.mono fun b _ he=>by have h1:b = w.heap.size:=he;show b < w.heap.size + 2;omega)).mono (fun b _ hb=>by have h1:b < w.heap.size:=hb;show b < w.heap.size + 2;omega))
    clear hk hkm hkm' hE HFA
    go_wp2_with fail
    refine fill_back _ _ HRES.out rfl (by rfl) (by rfl) (by rfl) ?_
    exact HFIN.out
  ·have hkm':l.take k = l.take most:=by rw [List.take_of_length_le (by omega),List.take_of_length_le (by omega)]
   have hge:¬ ((k:Int) < (l.length:Int)):=by omega
   have hE:=hkm'
   rw [hE] at HFA
   have c0:=HFA.out.bm.cell 0
   have cl:=HFA.out.bm.lt
   have rl:=HFA.out.br.lt
   have rf:=HFA.out.br.frozen 0
   have r0:=HFA.out.br.cell 0
   simp at c0 r0
   have HRES:=Lib.hid (HFA.out.br.set_ 0 (.slice A' (fillE (l.take most)).length c'))
   have HFIN:Hid (D (.returned (.tuple #[.agg #[.slice A' (fillE (l.take most)).length c'],.bool true])) (wr.setCell ⟨w.heap.size,0,none⟩ (.slice A' (fillE (l.take most)).length c'))):=Lib.hid (by
    rw [HD.out]
    have hx2:Ext No w (wr.setCell ⟨w.heap.size,0,none⟩ (.slice A' (fillE (l.take most)).length c')) → True:=fun _=>trivial
    have hloc:Ext (On w.heap.size) wr (wr.setCell ⟨w.heap.size,0,none⟩ (.slice A' (fillE (l.take most)).length c')):=Ext.setF (F:=On w.heap.size) (Ext.refl _ _) (b:=w.heap.size) (show On w.heap.size w.heap.size from rfl) _ _
    have hex2:Ext s.F w (wr.setCell ⟨w.heap.size,0,none⟩ (.slice A' (fillE (l.take most)).length c')):=HFA.out.ex.trans hloc (fun b hb he=>by have:b = w.heap.size:=he;omega)
    refine ⟨⟨v',P',A',c',rfl,HFA.out.tx.local_ hloc (fun he=>?_) (fun he=>?_) (HS.out.keep _ _ hex2 HT.out.db),HFA.out.one,HFA.out.tr,?_,HFA.out.st⟩,hex2⟩
    ·have h1:s.t = w.heap.size:=he
     have:=HT.out.old (b:=s.t) (.inl rfl);omega
    ·have h1:s.m = w.heap.size:=he
     have:=HT.out.old (b:=s.m) (.inr rfl);omega
    ·exact (HFA.out.ra.ext (hloc.mono fun b _ he=>by have h1:b = w.heap.size:=he;show b < w.heap.size + 2;omega)).mono (fun b _ hb=>by have h1:b < w.heap.size:=hb;show b < w.heap.size + 2;omega))
   clear hk hkm hkm' hE HFA
   go_wp2_with fail
   refine fill_back _ _ HRES.out rfl (by rfl) (by rfl) (by rfl) ?_
   exact HFIN.out
theorem heldB_self {E:List Ent} (h:SortedE E):heldB E E = true:=by
 have key:∀ {F:List Ent},SortedE F → ∀ e ∈ F,F.lookup e.1 = some e.2:=by
  intro F hF
  induction F with
  | nil=>simp
  | cons a F ih =>
   intro e he
   obtain ⟨k,b⟩:=a
   have h1:=List.pairwise_cons.1 hF
   rcases List.mem_cons.1 he with rfl | he
   ·simp
   ·have h2:=h1.1 e he
    have h3:(e.1 == k) = false:=by
     have:=klt_ne h2
     simpa using fun e1=>this e1.symm
    rw [List.lookup_cons,h3]
    exact ih h1.2 e he
 unfold heldB
 rw [List.all_eq_true]
 intro e he
 rw [key h e he]
 simp
theorem fillE_may (l:List Ac):∀ e ∈ fillE l,may e.1 [] = 0:=by
 have key:∀ (l:List Ac) (E:List Ent),(∀ e ∈ E,may e.1 [] = 0) → ∀ e ∈ l.foldl Ac.step E,may e.1 [] = 0:=by
  intro l
  induction l with
  | nil=>exact fun E h=>h
  | cons a l ih =>
   intro E h
   refine ih _ ?_
   intro e he
   unfold Ac.step at he
   split at he
   ·exact h e (List.mem_filter.1 he).1
   ·rcases insE_mem he with rfl | he
    ·exact a.key1_may [] (by simp)
    ·exact h e he
 exact key l [] (by simp)
theorem height_told {v:V} {root:Nat} {P:List Nat} {E:List Ent} (hT:TreeOf true v root P E):∃ n,v.height root = (n,0) ∧ (E = [] → n = 0) ∧ (E ≠ [] → 1 ≤ n ∧ 2 ^ (n - 1) ≤ E.length):=by
 rcases hT with ⟨h0,rfl,rfl⟩ | ⟨h,hh,hS⟩
 ·have:v.way root [] = some []:=by unfold V.way;rw [h0];rfl
  exact ⟨0,by unfold V.height;rw [this];rfl,fun _=>rfl,fun h=>absurd rfl h⟩
 ·obtain ⟨ups,st,rt,lo,hi,P',L,R,A,B,QA,QB,EA,EB,hl⟩:=locate (key:=[]) hS hh
  have h2:=hS.height
  refine ⟨h + 1,?_,fun e=>?_,fun _=>⟨by omega,by simpa using h2⟩⟩
  ·unfold V.height
   rw [hl.way]
   simp [hl.len]
  ·exact absurd e hS.told.1
theorem lg_step {n:Nat} (h:1 < n):lg n = lg (n / 2) + 1:=by
 match n,h with
 | n + 2,_=>rw [lg]
theorem lg_le:∀ (k n:Nat),2 ^ k ≤ n → k ≤ lg n
 | 0,n,_=>by omega
 | k + 1,n,h=>by
  have h1:1 < n:=by
   have:2 ^ 1 ≤ 2 ^ (k + 1):=Nat.pow_le_pow_right (by omega) (by omega)
   omega
  rw [lg_step h1]
  have h2:2 ^ k ≤ n / 2:=by
   rw [Nat.pow_succ] at h
   omega
  have:=lg_le k (n / 2) h2
  omega
theorem pages_told {v:V} {root:Nat} {P:List Nat} {E:List Ent} (hT:TreeOf true v root P E) (hp:P.length ≤ 65000):v.pages root = (P.length,0):=by
 obtain ⟨d,hd⟩:=survey_done hT hp
 unfold V.pages
 rw [hd]
theorem v0_kd:v0.Kd:=fun i h1 h2=>by have h3:i < 1:=h2;omega
theorem NewAt.ready {w0 w':World} {s:Sys} {p:Nat} {v':V} {T:Nat → Nat} (h:NewAt w0 s p) (hok:s.Ok) (h1:1 ≤ p) (h2:p ≤ 4000) (ht:TxAt w' s v') (hT:Half w' T) (hg:v'.Good) (hk:v'.Kd) (hm:v'.mt.Ok) :
  ∃ a Dd Dl,Ready w' s v' Dd Dl a T (freshDb (400 + 8 * p)) ∧ a.log = 400 ∧ (∀ g,Dd g ∨ Dl g ∨ g = a.x → w0.heap.size ≤ g) ∧ s.x = a.x ∧ s.d = a.d ∧ Live a.log 0 (freshDb (400 + 8 * p)) ∧ s.bh = 1 ∧ ∀ w'',s.db w'' → ∀ g,Dd g ∨ Dl g ∨ g = a.x → g < w''.heap.size:=by
 obtain ⟨kb,d,l,x,t,m,rfl,q1,q2,q3,q4,q5,q6,n1,n2,n3,n4,n5,n6,n7,n8,_⟩:=h.ex
 have hdb:NewDb w' kb d l x (400 + 8 * p) 400 (some ⟨t,0,none⟩):=ht.db
 have hL:=Live.fresh (400 + 8 * p) 400
 refine ⟨⟨d,kb,x,l,400⟩,(fun g=>g = d ∨ g = kb),(fun g=>g = l),⟨hok,ht,rfl,hdb.at_ hT (by omega) (by omega) (by omega) (by omega),?_,?_,?_,?_,n8,hg,hk,hm,hL.near.mono (by decide),by show 0 < 2 ^ 58;decide,by show 0 < 2 ^ 15;decide,by simp [freshDb],fun _=>rfl,?_⟩,rfl,?_,rfl,rfl,hL,rfl,?_⟩
 ·rintro (e | e)
  ·exact n2 e
  ·exact n1 e
 ·intro e;exact n3 e
 ·rintro (e | e)
  ·exact n6 e
  ·exact n5 e
 ·intro e;exact n7 e
 ·have h3:v'.high ≤ (400 + 8 * p - 400) / 8:=ht.h2
  show 400 + v'.high * 8 ≤ 400 + 8 * p
  omega
 ·intro g hg
  rcases hg with (hg | hg) | hg | hg
  ·rw [hg];exact q2
  ·rw [hg];exact q1
  ·have:g = l:=hg
   rw [this];exact q3
  ·rw [hg];exact q4
 ·intro w'' hw g hg
  have hw':NewDb w'' kb d l x (400 + 8 * p) 400 (some ⟨t,0,none⟩):=hw
  rcases hg with (hg | hg) | hg | hg
  ·rw [hg];exact hw'.disk.lt
  ·rw [hg];exact hw'.kept.lt
  ·have:g = l:=hg
   rw [this];exact hw'.wal.lt
  ·rw [hg];exact hw'.db.lt
theorem One.marks {cap root:Nat} {v:V} {P:List Nat} {E:List Ent} (h:One cap v root [] P E):v.high = v.cnt + P.length + 1:=by
 have h1:=h.room.1
 have h2:=h.sane.2.1
 have h3:v.room cap = (cap - v.high) + v.cnt:=rfl
 rw [List.length_nil] at h1
 omega
theorem One.none {cap root:Nat} {v:V} {P:List Nat} {E:List Ent} (h:One cap v root [] P E) (h1:v.high = 1):P = []:=by
 cases P with
 | nil=>rfl
 | cons p P =>
  have:=(h.us p).2 (by simp)
  have:=(V.err_iff v p).1 this
  omega
theorem lean_walk (A:Option Addr) (l:List Ac) (c:Nat) (w:World) (T:Nat → Nat) (hT:Half w T) (hl:Rd w (fun b=>w.heap.size ≤ b) 4 A l.length (acVals l)) (hll:l.length < 2^63) (hf:∀ a ∈ l,a.fits) :
  Calls Tryz.prog 9 #[.slice A l.length c] w fun e w'=>e = .returned (.bool true) ∧ Ext No w w':=by
 have HB:=Lib.hid (begin_any 400 (by decide) (by decide) w)
 have HW:=Lib.hid works_any
 have HL:=Lib.hid hl
 have HLL:=Lib.hid hll
 have HFT:=Lib.hid hf
 have HTT:=Lib.hid hT
 clear hl hll hf hT
 go_enter Tryz.func9,Tryz.ntmps9
 go_wp2_with fail
 refine (HB.out).mono ?_
 rintro e w1 ⟨s,hF,rfl,hx1,ht,hm,hxx,_,hNA⟩
 have HNA:=Lib.hid hNA
 have HS:=Lib.hid hF.ok
 have HFF:Hid (∀ b,s.F b → w.heap.size ≤ b):=Lib.hid (fun b hb=>by
  rcases hb with rfl | rfl
  ·exact ht
  ·exact hm)
 have HOF:=Lib.hid (of_any (some ⟨s.t,0,none⟩) 0 (by decide) w1)
 obtain ⟨W2,hW2⟩:∃ W2,W2 = w1.alloc (.cells #[.pointer (some ⟨s.t,0,none⟩),.int .i64 0] 70):=⟨_,rfl⟩
 have HX2:=Lib.hid (show Blk W2 w1.heap.size 70 (treeCells s 0) from hW2 ▸ Blk.new w1 70 _)
 have HT2:=Lib.hid (show TxAt W2 s v0 from hW2 ▸ hF.tx.no hF.ok ((Ext.refl _ _).alloc _))
 have HE2:=Lib.hid (show Ext No w W2 from hW2 ▸ hx1.alloc _)
 have hcap:s.cap = 400:=hF.cap
 have HFILL:=Lib.hid (fill_any s hF.ok W2 v0 HT2.out w1.heap.size 0 HX2.out (by decide) [] [] (One.start hF (by decide) (by decide) 0) l A c
  ((HL.out.ext (HE2.out.of_no)).mono (by decide) (fun b _ hb=>HFF.out b hb)) HLL.out HFT.out 60 (by rw [hcap];decide) (by decide))
 have HOFF:=Lib.hid (tree_off HT2.out HX2.out)
 have hEl:(fillE (l.take 60)).length ≤ 60:=Nat.le_trans (fillE_len _) (by rw [List.length_take];omega)
 have HMY:=Lib.hid (fillE_may (l.take 60))
 obtain ⟨E,hE⟩:∃ E,E = fillE (l.take 60):=⟨_,rfl⟩
 rw [← hE] at HFILL hEl HMY
 have HEL:=Lib.hid hEl
 clear hF hx1 ht hm hxx hcap hE hEl hNA
 go_wp2_with fail
 refine (HOF.out).mono ?_
 rintro e w2 ⟨rfl,rfl⟩
 rw [show w1.alloc (.cells #[.pointer (some ⟨s.t,0,none⟩),.int .i64 ((0:Nat):Int)] 70) = W2 from hW2.symm]
 clear hW2
 have HFILL2:Hid (Calls Tryz.prog 14 #[.pointer (some ⟨w1.heap.size,0,none⟩),.slice A l.length c,.int .i64 60] W2 (Filled s W2 v0 0 [] [] E)):=Lib.hid HFILL.out
 go_wp2_with fail
 refine (HFILL2.out).mono ?_
 rintro e w3 ⟨⟨v',P',A',c',rfl,ht,ho,htr,hra,hst⟩,hx3⟩
 have HO:=Lib.hid ho;have HST:=Lib.hid hst;have HTR:=Lib.hid htr
 obtain ⟨W4,hW4⟩:∃ W4,W4 = w3.alloc (.cells #[.slice A' E.length c'] 32):=⟨_,rfl⟩
 have hx34:Ext No w3 W4:=hW4 ▸ (Ext.refl _ _).alloc _
 have HE4:Hid (Ext s.F W2 W4):=Lib.hid (hx3.trans_ hx34.of_no)
 have HT4:=Lib.hid (ht.no HS.out hx34)
 have HX4:=Lib.hid (HX2.out.ext HE4.out HOFF.out)
 have HB4:=Lib.hid (show Blk W4 w3.heap.size 32 #[.slice A' E.length c'] from hW4 ▸ Blk.new w3 32 _)
 have HRA:Hid (RefAt W4 No A' c' E):=Lib.hid (RefAt.mono (G:=No) (hra.ext hx34.of_no) (fun _ _ h=>h.elim))
 have HEND:Hid (Ext No w W4):=Lib.hid (HE2.out.trans HE4.out (fun i hi hb=>by have:=HFF.out i hb;omega))
 have HHT4:=Lib.hid (HTT.out.ext HEND.out (fun h=>h))
 have hEb:E.length < 65536:=by have:=HEL.out;omega
 have HPG:=Lib.hid (fun w' (e:Ext No W4 w')=>pages_any s HS.out w' v' (HT4.out.no HS.out e) ho.sane.1 w1.heap.size 0 (HX4.out.ext e (fun h=>h)) (by decide))
 have HHG:=Lib.hid (fun w' (e:Ext No W4 w')=>height_any s HS.out w' v' (HT4.out.no HS.out e) ho.sane.1 w1.heap.size 0 (HX4.out.ext e (fun h=>h)) (by decide))
 have HHD:=Lib.hid (fun w' (e:Ext No W4 w')=>holds_any s HS.out w' v' (HT4.out.no HS.out e) ho.sane.1 w1.heap.size 0 (HX4.out.ext e (fun h=>h)) (by decide) P' E ho.tree A' c' E (HRA.out.rd.ext e) hEb HMY.out)
 rw [heldB_self ho.tree.sorted] at HHD
 have hpr:=ho.room.2
 rw [pages_told ho.tree (by have:=HEL.out;omega)] at HPG
 obtain ⟨hn,hh1,hh2,hh3⟩:=height_told ho.tree
 rw [hh1] at HHG
 simp only at HPG HHG
 obtain ⟨N,hN⟩:∃ N,N = P'.length:=⟨_,rfl⟩
 rw [← hN] at HPG hpr
 have HN:=Lib.hid hN;have HPR:=Lib.hid hpr
 have HH2:=Lib.hid hh2;have HH3:=Lib.hid hh3
 -- the commit
 have HRDY:Hid (∀ w',Ext No W4 w' → ∃ a Dd Dl,Ready w' s v' Dd Dl a T (freshDb 3600) ∧ a.log = 400 ∧ (∀ g,Dd g ∨ Dl g ∨ g = a.x → w.heap.size ≤ g) ∧ s.x = a.x ∧ s.d = a.d ∧ Live a.log 0 (freshDb 3600) ∧ s.bh = 1):=Lib.hid (fun w' e=>by
  obtain ⟨a,Dd,Dl,q1,q2,q3,q4,q5,q6,q7,_⟩:=HNA.out.ready HS.out (by decide) (by decide) (HT4.out.no HS.out e) (HHT4.out.ext e (fun h=>h)) HO.out.sane.1 (HST.out.kd v0_kd) (HO.out.mt (fun i hi=>by rw [HTR.out.r i hi];show 0 < 65536;decide))
  exact ⟨a,Dd,Dl,q1,q2,q3,q4,q5,q6,q7⟩)
 clear ht ho htr hra hst hx3 hx34 hEb hpr hh1 hh2 hh3 hN
 go_upto_region 8 with fail
 rw [← hW4]
 clear hW4
 have b0:=HB4.out.cell 0
 have bl:=HB4.out.lt
 simp at b0
 go_wp2_with fail
 refine (HPG.out _ (Ext.refl _ _)).mono ?_
 rintro e w5 ⟨rfl,hx5⟩
 have HX5:=Lib.hid hx5
 clear hx5
 go_wp2_with fail
 refine (HHG.out _ HX5.out).mono ?_
 rintro e w6 ⟨rfl,hx6⟩
 have HX6:=Lib.hid (HX5.out.trans_ hx6)
 have b0:=(HB4.out.ext HX6.out (fun h=>h)).cell 0
 have bl:=(HB4.out.ext HX6.out (fun h=>h)).lt
 simp at b0
 clear hx6
 go_wp2_with fail
 refine (HHD.out _ HX6.out).mono ?_
 rintro e w7 ⟨rfl,hx7⟩
 have HX7:=Lib.hid (HX6.out.trans_ hx7)
 have b0:=(HB4.out.ext HX7.out (fun h=>h)).cell 0
 have bl:=(HB4.out.ext HX7.out (fun h=>h)).lt
 simp at b0
 clear hx7
 go_wp2_with fail
 obtain ⟨K,hK⟩:∃ K,K = E.length:=⟨_,rfl⟩
 rw [← hK]
 have HK:=Lib.hid hK
 have hK60:K < 100:=by rw [hK];have:=HEL.out;omega
 have HK60:=Lib.hid hK60
 rw [← hK] at b0
 clear hK hK60 HPG HHG HHD
 go_loopg [13,14] K (fun gk q13 q14 wr=>∃ k:Nat,gk ≤ K ∧ q14 = .int .i64 (gk:Int) ∧ q13 = .int .i64 (k:Int) ∧ Hid (k + lg gk = 1 + lg K) ∧ Hid (k + gk ≤ 1 + K) ∧ w7 = wr)
 case atStart=>exact ⟨1,Nat.le_refl _,rfl,rfl,Lib.hid rfl,Lib.hid (Nat.le_refl _),rfl⟩
 case round =>
  obtain ⟨k,hle,rfl,rfl,HKL,HKG,rfl⟩:=hrel
  have HLE:=Lib.hid hle
  by_cases h1:1 < gk
  ·have h1':(1:Int) < (gk:Int):=by omega
   obtain ⟨h2,hh2⟩:∃ h2,h2 = gk / 2:=⟨_,rfl⟩
   have hd1:(gk:Int).tdiv 2 = (h2:Int):=by rw [hh2,Int.tdiv_eq_ediv_of_nonneg (by omega)];omega
   have hd2:(gk:Int) / 2 = (h2:Int):=by rw [hh2];omega
   have hw1:IntKind.i64.wrap ((k:Int) + 1) = (k:Int) + 1:=wrap_tiny _ (by omega) (by have:=HKG.out;have:=HK60.out;omega)
   have hw2:IntKind.i64.wrap (h2:Int) = (h2:Int):=wrap_tiny _ (by omega) (by have:=HK60.out;omega)
   have HS1:Hid ((k + 1) + lg h2 = 1 + lg K):=Lib.hid (by have h3:=lg_step h1;rw [← hh2] at h3;have:=HKL.out;omega)
   have HS2:Hid ((k + 1) + h2 ≤ 1 + K):=Lib.hid (by have:=HKG.out;omega)
   have HLT:Hid (h2 < gk ∧ h2 ≤ K):=Lib.hid ⟨by omega,by omega⟩
   clear hle h1 hh2
   go_wp2_with fail
   go_roundg h2
   case rel=>exact ⟨k + 1,HLT.out.2,rfl,by go_num,HS1,HS2,rfl⟩
   case measure=>exact HLT.out.1
  ·have h1':¬ ((1:Int) < (gk:Int)):=by omega
   have HLG:Hid (k = 1 + lg K):=Lib.hid (by
    have h3:lg gk = 0:=by
     match gk,h1 with
     | 0,_=>rw [lg]
     | 1,_=>rw [lg]
     | n + 2,h=>omega
    have:=HKL.out;omega)
   clear hle h1
   go_upto_if 67 with fail
   go_cut [13] (fun q wx=>∃ M:Nat,q = .int .i64 (M:Int) ∧ Hid (hn ≤ M) ∧ w7 = wx)
   case first =>
    by_cases hK0:K = 0
    ·have HM0:Hid (hn ≤ 0):=Lib.hid (by
      have h3:E = []:=List.eq_nil_of_length_eq_zero (by rw [← HK.out,hK0])
      rw [HH2.out h3];exact Nat.le_refl _)
     subst hK0
     go_wp2_with fail
     go_meet
     exact ⟨0,rfl,HM0,rfl⟩
    ·have hK1:((K:Int) == 0) = false:=by simpa using hK0
     have HM1:Hid (hn ≤ k):=Lib.hid (by
      have h3:E ≠ []:=fun e=>hK0 (by rw [HK.out,e];rfl)
      obtain ⟨g1,g2⟩:=HH3.out h3
      have:=lg_le _ _ g2
      rw [← HK.out] at this
      have:=HLG.out
      omega)
     clear hK0
     go_wp2_with fail
     go_meet
     exact ⟨k,rfl,HM1,rfl⟩
   case rest =>
    obtain ⟨M,rfl,HM,rfl⟩:=hcut
    obtain ⟨a,Dd,Dl,hR,hlog,hnew,hsx,_,hLv,_⟩:=HRDY.out w7 HX7.out
    have HCM:=Lib.hid (commit_any hR)
    have HRD:=Lib.hid hR;have HLOG:=Lib.hid hlog;have HNEW:=Lib.hid hnew;have HSX:=Lib.hid hsx;have HLV:=Lib.hid hLv
    clear hR hlog hnew hsx hLv HRDY
    go_wp2_with fail
    refine (HCM.out).mono ?_
    rintro e w8 ⟨ov,im,hI,hC⟩
    obtain ⟨he,⟨Dd',Dl',hd',hdb',n1,n2⟩,hx8⟩:=hC
    subst he
    have hways:=HLV.out.commit (by rw [HLOG.out];decide) (by rw [HLOG.out];decide) (crc T) v'.spoilt im v'.mt (fun p hp=>(hI.mem HO.out.sane.1 HRD.out.tx.h1 hp).2) (by
     have h1:=HRD.out.tx.h2;have h2:=HRD.out.ok.n2;unfold Sys.cap at h1
     have:=hI.len (by omega)
     omega)
    obtain ⟨R,hRR⟩:∃ R,R = (freshDb 3600).commit (crc T) a.log v'.spoilt im v'.mt:=⟨_,rfl⟩
    rw [← hRR] at hd' hdb' hways ⊢
    have HEND8:Hid (Ext No w w8):=Lib.hid ((HEND.out.trans_ HX7.out).trans hx8 (fun g hg h1=>by have:=HNEW.out g h1;omega))
    have HW8:=Lib.hid (HW.out w8)
    by_cases h0:R.1 = 0
    ·have hmarks:R.2.m.high = R.2.m.cnt + N + 1:=by
      rcases hways with ⟨_,h1⟩ | ⟨_,h1,h2⟩ | ⟨_,_,h1,_⟩ | ⟨_,_,_,_,_,h1,_⟩
      ·rw [h1] at h0;cases h0
      ·subst h1
       rw [h2]
       have h3:=hI.none.1
       have h4:=HST.out.mark h3
       have h5:=HO.out.none (by rw [h4.2.2.1];rfl)
       rw [HN.out,h5]
       rfl
      ·rw [h1] at h0;cases h0
      ·rw [h1,HN.out]
       exact HO.out.marks
     have hdb8:=hdb' (by omega)
     have HHI:=Lib.hid (high_any hdb8.db)
     have HFR:=Lib.hid (freecnt_any hdb8.db)
     rw [← HSX.out] at HHI HFR
     have hc0:(R.1:Int) = 0:=by omega
     obtain ⟨HI,hHI⟩:∃ HI,HI = R.2.m.high:=⟨_,rfl⟩
     obtain ⟨CN,hCN⟩:∃ CN,CN = R.2.m.cnt:=⟨_,rfl⟩
     rw [← hHI] at HHI hmarks
     rw [← hCN] at HFR hmarks
     have hhb:HI < 1000000:=by
      rw [hHI]
      rcases hways with ⟨_,h1⟩ | ⟨_,h1,h2⟩ | ⟨_,_,h1,_⟩ | ⟨_,_,_,_,_,h1,_⟩
      ·rw [h1];decide
      ·rw [h2];decide
      ·rw [h1];decide
      ·rw [h1]
       have h3:=HO.out.sane.2
       show v'.high < _
       omega
     obtain ⟨K1,hK1⟩:∃ K1,K1 = CN + N:=⟨_,rfl⟩
     have hw1:IntKind.i64.wrap ((HI:Int) - 1) = (K1:Int):=by rw [show (HI:Int) - 1 = (K1:Int) by omega];exact wrap_tiny _ (by omega) (by omega)
     have hw2:IntKind.i64.wrap ((K1:Int) - (CN:Int)) = (N:Int):=by rw [show (K1:Int) - (CN:Int) = (N:Int) by omega];exact wrap_tiny _ (by omega) (by omega)
     have hmle:(hn:Int) ≤ (M:Int):=by have:=HM.out;omega
     rw [hc0]
     clear h0 hmarks hdb8 hc0 hHI hCN hhb hK1 hways hd' hdb' n1 n2 hx8 hRR
     go_wp2_with fail
     refine (HHI.out).mono ?_
     rintro e w9 ⟨rfl,rfl⟩
     go_wp2_with fail
     refine (HFR.out).mono ?_
     rintro e w9 ⟨rfl,rfl⟩
     go_wp2_with fail
     refine (HW8.out).mono ?_
     rintro e w9 ⟨rfl,hx9⟩
     go_wp2_with fail
     go_ret
     exact ⟨rfl,HEND8.out.trans_ hx9⟩
    ·have hc1:((R.1:Int) != 0) = true:=by simp;omega
     clear h0 hways hd' hdb' n1 n2 hx8 hRR
     go_wp2_with fail
     refine (HW8.out).mono ?_
     rintro e w9 ⟨rfl,hx9⟩
     go_wp2_with fail
     go_ret
     exact ⟨rfl,HEND8.out.trans_ hx9⟩
end Go.Proofs.YtccnemmlkcmceaaGreatDoor
