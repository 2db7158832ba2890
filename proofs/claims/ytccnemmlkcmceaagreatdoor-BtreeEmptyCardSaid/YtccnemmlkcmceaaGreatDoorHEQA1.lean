/- Proofs about the given program, joined out of the texts S0, N2, B2, BG1, R3, C0, R4, C3, C4, LB. -/
import Derived.Test.YtccnemmlkcmceaaGreatDoorHE34
import Derived.Test.YtccnemmlkcmceaaGreatDoorHEA7
set_option linter.unusedVariables false
set_option linter.unusedSimpArgs false
set_option maxRecDepth 100000
set_option maxHeartbeats 6400000
namespace Go.Proofs.YtccnemmlkcmceaaGreatDoor
open Go.RowKit
section
variable {w w':World} {F G:Nat → Prop} {sz n:Nat} {A:Option Addr} {xs:List Value}
theorem Rd.at1 (h:Rd w F 1 A n xs) {i:Nat} (hi:i < n):∃ b o u,A = some ⟨b,o,none⟩ ∧ ¬ F b ∧ xs[i]? = some u ∧ w.cell? ⟨b,o + i,none⟩ = some u:=by
 obtain ⟨b,o,e,hb,hc⟩:=h.2 (by omega)
 have hl:i < xs.length:=by have:=h.1;omega
 exact ⟨b,o,xs[i],e,hb,List.getElem?_eq_getElem hl,hc i _ (List.getElem?_eq_getElem hl)⟩
end
theorem Shut.ext {w w':World} {s:Sys} (h:Shut w s) (he:Ext No w w'):Shut w' s:=⟨cell_ext he h.t0 (fun h=>h),cell_ext he h.x10 (fun h=>h)⟩
theorem neq_tx_nil (a:Addr) (w:World):(binOp .neq 25 (.pointer none) (.pointer (some a))).run Tryz.prog w = .ok (.bool true) w:=by
 have h:∀ d:Nat,(Op.equalIn (d + 1) 25 (.pointer none) (.pointer (some a))).run Tryz.prog w = .ok false w:=fun d=>by
  simp [Op.equalIn,run_underlying Tryz.underlying25]
 simp only [binOp]
 simp [Op.equal,Op.maxDepth,h 9999]
theorem shut_up (s:Sys) (w:World) (h:Shut w s) :
  Calls Tryz.prog 53 #[.pointer (some ⟨s.t,0,none⟩)] w fun e w'=>e = .returned (.int .i64 1) ∧ w = w':=by
 have t0:=h.t0
 have x10:=h.x10
 have k:=fun w=>neq_tx_nil ⟨s.t,0,none⟩ w
 clear h
 go_enter Tryz.func53,Tryz.ntmps53
 go_wp2_with fail
 go_ret
 exact ⟨rfl,rfl⟩
def V.pages (v:V) (root:Nat):Nat × Nat:=match v.survey root with
 | none=>(0,5)
 | some s=>(s.1,0)
theorem high_any {w:World} {a:Dbp} {m:Mt} {o:Option Addr} {lost:Bool} (h:Blk w a.x 131 (dbVals a m o lost)):Calls Tryz.prog 35 #[.pointer (some ⟨a.x,0,none⟩)] w fun e w'=>e = .returned (.int .i64 (m.high:Int)) ∧ w = w':=by
 have HN:=Lib.hid (xnone_no a.x a.d w (h.cell 0))
 have c7:w.cell? ⟨a.x,7,none⟩ = some (.int .i64 (m.high:Int)):=h.cell 7
 have lx:=h.lt
 clear h
 go_enter Tryz.func35,Tryz.ntmps35
 go_wp2_with fail
 refine (HN.out).mono ?_
 rintro e w1 ⟨rfl,rfl⟩
 go_wp2_with fail
 go_ret
 exact ⟨rfl,rfl⟩
theorem freecnt_any {w:World} {a:Dbp} {m:Mt} {o:Option Addr} {lost:Bool} (h:Blk w a.x 131 (dbVals a m o lost)):Calls Tryz.prog 36 #[.pointer (some ⟨a.x,0,none⟩)] w fun e w'=>e = .returned (.int .i64 (m.cnt:Int)) ∧ w = w':=by
 have HN:=Lib.hid (xnone_no a.x a.d w (h.cell 0))
 have c9:w.cell? ⟨a.x,9,none⟩ = some (.int .i64 (m.cnt:Int)):=h.cell 9
 have lx:=h.lt
 clear h
 go_enter Tryz.func36,Tryz.ntmps36
 go_wp2_with fail
 refine (HN.out).mono ?_
 rintro e w1 ⟨rfl,rfl⟩
 go_wp2_with fail
 go_ret
 exact ⟨rfl,rfl⟩
theorem refdel_any (w:World) (g:Nat) (A:Option Addr) (c:Nat) (E:List Ent) (key:Bs) (hg:Blk w g 32 #[.slice A E.length c]) (hr:RefAt w No A c E) (hm:may key [] = 0) :
  Calls Tryz.prog 37 #[.pointer (some ⟨g,0,none⟩),.string (str key)] w (RefDid w g (.returned (.tuple #[.bool (decide ((del key E).length < E.length)),.int .i64 0])) (del key E)):=by
 have HM:=Lib.hid (fun w=>refmay_any w key [])
 rw [hm] at HM
 have hb:=hr.b
 have hl:=hr.l
 have HR:=Lib.hid hr
 have HG:=Lib.hid hg
 have HB:=Lib.hid hb
 have hgl:=hg.lt
 have HD:=Lib.hid (del_len key E)
 obtain ⟨D,hD⟩:∃ D,D = RefDid w g (.returned (.tuple #[.bool (decide ((del key E).length < E.length)),.int .i64 0])) (del key E):=⟨_,rfl⟩
 rw [← hD]
 clear hr hm
 obtain ⟨i0,hti,htz0,htz1,htz2⟩:=info_parts Tryz.info49
 go_enter Tryz.func37,Tryz.ntmps37
 go_wp2_with fail
 refine (HM.out _).mono ?_
 rintro e w1 ⟨rfl,rfl⟩
 go_wp2_with fail
 go_loopg [7,8] E.length (fun gk v i wr=>∃ (k:Nat) (A1:Option Addr) (c1:Nat),k + gk = E.length ∧ i = .int .i64 (k:Int) ∧ v = .slice A1 (del key (E.take k)).length c1 ∧ wr.ownsRow w.heap.size 49 2 (.slice A1 (del key (E.take k)).length c1) (del key (E.take k)).length (entVals (del key (E.take k))) ∧ Ext No w wr)
 case atStart=>exact ⟨0,none,0,by omega,rfl,rfl,World.ownsRow_nil _ _ _ _,Ext.refl _ _⟩
 case round =>
  obtain ⟨k,A1,c1,hk,rfl,rfl,hown,hE⟩:=hrel
  have c0:=(HG.out.ext hE (fun h=>h)).cell 0
  simp at c0
  have HE:=Lib.hid hE
  have HO:=Lib.hid hown
  have HK:=Lib.hid hk
  have m0:=hE.size
  have hdl:=del_len key (E.take k)
  rw [List.length_take] at hdl
  by_cases hlt:k < E.length
  ·obtain ⟨e,he⟩:∃ e,E[k]? = some e:=⟨_,List.getElem?_eq_getElem hlt⟩
   obtain ⟨b,o,hA,_,k0,k1⟩:=(HR.out.ext hE).rd.entAt he
   subst hA
   have lc:=World.block_lt_of_cell? wr _ k0
   simp only at lc
   have hlt':(k:Int) < (E.length:Int):=by omega
   have hsn:=take_snoc he
   have hds:=del_snoc key (E.take k) e
   rw [← hsn] at hds
   by_cases hek:e.1 = key
   ·have hq:(e.1 == key) = true:=by simpa using hek
    rw [if_pos hek] at hds
    have HDS:=Lib.hid hds
    clear hown hE hk hds hsn
    generalize E.length = El at *
    go_wp2_with fail
    go_roundg (gk - 1)
    case rel=>exact ⟨k + 1,A1,c1,by have:=HK.out;omega,by go_num,by rw [HDS.out],by rw [HDS.out];exact HO.out,HE.out⟩
    case measure=>have:=HK.out;omega
   ·have hq:(e.1 == key) = false:=by simpa using hek
    rw [if_neg hek] at hds
    have HDS:=Lib.hid hds
    clear hown hE hk hds hsn
    have hdl2:(del key (E.take k)).length ≤ 65536:=by omega
    generalize E.length = El at *
    generalize hdd:del key (E.take k) = dd at *
    have m2:dd.length + 1 ≤ maxLen:=by unfold maxLen;omega
    have m3:(dd.length + 1) * 32 ≤ 140737488355328:=by omega
    have m6:∀ o,w.heap.size ≤ (wr.alloc o).heap.size:=(fun o=>by simp;omega)
    have m7:∀ o,(wr.alloc o).heap.size = wr.heap.size + 1:=(fun o=>by simp)
    go_wp2_with (at_builtin;refine wpList_append_lies _ (by rfl) _ _ 30 (by rfl) w.heap.size 49 i0 (.agg #[.string ⟨#[]⟩,.string ⟨#[]⟩]) 2 32 Tryz.underlying30 hti htz0 htz1 htz2 (by rfl) (by decide) (.slice A1 dd.length c1) dd.length (entVals dd) (by rfl) (by exact HO.out.alloc _) ⟨wr.heap.size,0,none⟩ 1 1 [.string (str e.1),.string (str e.2)] (by rfl) (by rfl) (by exact World.news_of_block (cs:=#[.string (str e.1),.string (str e.2)]) (t:=49) (fr:=(0,0)) (heap_alloc_new wr _)) (by simp [Value.oneCell']) (by decide) m2 m3 (by exact m6 _) (wr.heap.size + 1) (by exact m7 _) ?_)
    intro g2 cap2 w6 hown2 hgrow2 hat2 hlt2
    have HO6:=Lib.hid (own_pushE hown2)
    have hE6:=Lib.hid ((HE.out.alloc _).grown hgrow2 (own_ge' HO.out (Nat.le_refl _)))
    clear hown2 hgrow2
    go_wp2_with fail
    go_roundg (gk - 1)
    case rel=>exact ⟨k + 1,some ⟨g2,0,none⟩,cap2,by have:=HK.out;omega,by go_num,by rw [HDS.out];simp,by rw [HDS.out];exact HO6.out,hE6.out⟩
    case measure=>have:=HK.out;omega
  ·have hk':k = E.length:=by omega
   subst hk'
   rw [List.take_length] at HO
   have HE2:=HE
   have hcap:=own_cap HO.out
   have hnil:=own_nilcap HO.out
   have hbg:=(HG.out.ext hE (fun h=>h)).set_ 0 (.slice A1 (del key E).length c1)
   have hfr:=(HG.out.ext hE (fun h=>h)).frozen 0
   have hlt2:=(HG.out.ext hE (fun h=>h)).lt
   have hE3:Ext (On g) w (wr.setCell ⟨g,0,none⟩ (.slice A1 (del key E).length c1)):=Ext.setF (F:=On g) (HE.out.of_no) (b:=g) (show On g g from rfl) _ _
   have HBG:=Lib.hid hbg;have HE3:=Lib.hid hE3
   have hD2:D (.returned (.tuple #[.bool (decide ((del key E).length < E.length)),.int .i64 0])) (wr.setCell ⟨g,0,none⟩ (.slice A1 (del key E).length c1)):=by
    rw [hD]
    refine ⟨rfl,HE3.out,A1,c1,HBG.out,?_,hcap,hnil,by have:=HD.out;have:=HB.out;omega⟩
    exact Rd.own_lo (ownsRow_setCell_other HO.out (by intro e;exact own_ge HO.out hgl e.symm) _) (by decide)
   clear hbg hE3 hown hE hk hD
   simp only [List.take_length]
   generalize (del key E).length = dl at *
   go_wp2_with fail
   exact hD2
def Ac.key1 (a:Ac):Bs:=107 :: a.key.take 130
def Ac.step (E:List Ent) (a:Ac):List Ent:=if a.kind = 2 then del a.key1 E else ins a.key1 a.value E
def fillE (l:List Ac):List Ent:=l.foldl Ac.step []
theorem fillE_snoc (l:List Ac) (a:Ac):fillE (l ++ [a]) = a.step (fillE l):=by simp [fillE]
theorem Ac.step_len (a:Ac) (E:List Ent):(a.step E).length ≤ E.length + 1:=by
 unfold Ac.step
 split
 ·exact Nat.le_trans (del_len _ _) (by omega)
 ·exact insE_len _ _ _
theorem fillE_le:∀ (l:List Ac) (E:List Ent),(l.foldl Ac.step E).length ≤ E.length + l.length
 | [],E=>by simp
 | a :: l,E=>by
  have h1:=fillE_le l (a.step E)
  have h2:=a.step_len E
  simp only [List.foldl_cons,List.length_cons]
  omega
theorem fillE_len (l:List Ac):(fillE l).length ≤ l.length:=by
 have:=fillE_le l []
 simpa [fillE] using this
theorem Ac.key1_may (a:Ac) (val:Bs) (hv:val.length ≤ 2000):may a.key1 val = 0:=by
 unfold may Ac.key1
 have:(a.key.take 130).length ≤ 130:=by rw [List.length_take];omega
 rw [if_neg (by simp),if_neg (by simp;omega)]
theorem refput_any (w:World) (g:Nat) (A:Option Addr) (c:Nat) (E:List Ent) (key val:Bs) (hg:Blk w g 32 #[.slice A E.length c]) (hr:RefAt w No A c E) (hb1:E.length < 65000) (hm:may key val = 0) :
  Calls Tryz.prog 38 #[.pointer (some ⟨g,0,none⟩),.string (str key),.string (str val)] w (RefDid w g (.returned (.int .i64 0)) (rput key val false E)):=by
 have HM:=Lib.hid (fun w=>refmay_any w key val)
 rw [hm] at HM
 have hl:=hr.l
 have HR:=Lib.hid hr
 have HG:=Lib.hid hg
 have HEB:=Lib.hid hb1
 have hgl:=hg.lt
 have HGL:=Lib.hid hgl
 have HD:=Lib.hid (rput_len key val false E)
 obtain ⟨D,hD⟩:∃ D,D = RefDid w g (.returned (.int .i64 0)) (rput key val false E):=⟨_,rfl⟩
 rw [← hD]
 have HDD:=Lib.hid hD
 clear hr hm hg hD
 obtain ⟨i0,hti,htz0,htz1,htz2⟩:=info_parts Tryz.info49
 go_enter Tryz.func38,Tryz.ntmps38
 go_wp2_with fail
 refine (HM.out _).mono ?_
 rintro e w1 ⟨rfl,rfl⟩
 go_wp2_with fail
 go_loopg [8,9,10] E.length (fun gk v pv i wr=>∃ (k:Nat) (put:Bool) (O:List Ent) (A1:Option Addr) (c1:Nat),k + gk = E.length ∧ i = .int .i64 (k:Int) ∧ pv = .bool put ∧ v = .slice A1 O.length c1 ∧ wr.ownsRow w.heap.size 49 2 (.slice A1 O.length c1) O.length (entVals O) ∧ Hid (O.length ≤ k + (if put then 1 else 0)) ∧ Hid (O ++ rput key val put (E.drop k) = rput key val false E) ∧ Ext No w wr)
 case atStart=>exact ⟨0,false,[],none,0,by omega,rfl,rfl,rfl,World.ownsRow_nil _ _ _ _,Lib.hid (by simp),Lib.hid rfl,Ext.refl _ _⟩
 case round =>
  obtain ⟨k,put,O,A1,c1,hk,rfl,rfl,rfl,hown,HOL,hd,hE⟩:=hrel
  have c0:=(HG.out.ext hE (fun h=>h)).cell 0
  simp at c0
  have HE:=Lib.hid hE
  have HO:=Lib.hid hown
  have HK:=Lib.hid hk
  have m0:=hE.size
  by_cases hlt:k < E.length
  ·obtain ⟨e,he⟩:∃ e,E[k]? = some e:=⟨_,List.getElem?_eq_getElem hlt⟩
   obtain ⟨b,o,hA,_,k0,k1⟩:=(HR.out.ext hE).rd.entAt he
   subst hA
   have lc:=World.block_lt_of_cell? wr _ k0
   simp only at lc
   have hlt':(k:Int) < (E.length:Int):=by omega
   have HDR:Hid (E.drop k = e :: E.drop (k + 1)):=Lib.hid (by
    rw [List.drop_eq_getElem_cons hlt]
    congr 1
    exact (List.getElem?_eq_some_iff.1 he).2)
   have HOL2:=Lib.hid (show O.length ≤ 65002 by have:=HOL.out;split at this <;> omega)
   have HST:=Lib.hid (((rput_step key val put e (E.drop (k + 1)) O).symm.trans (by rw [← HDR.out])).trans hd.out)
   clear hE hown hk
   go_upto_region 9 with fail
   go_cut [39] (fun v wx=>v = .bool (!put && !klt e.1 key) ∧ wr = wx)
   case first =>
    cases put
    ·cases hkl:klt e.1 key
     ·go_wp2_with fail
      go_meet
      exact ⟨by simp [hkl],rfl⟩
     ·go_wp2_with fail
      go_meet
      exact ⟨by simp [hkl],rfl⟩
    ·go_wp2_with fail
     go_meet
     exact ⟨rfl,rfl⟩
   case rest =>
   obtain ⟨rfl,rfl⟩:=hcut
   obtain ⟨bq,hbq⟩:∃ bq,bq = (!put && !klt e.1 key):=⟨_,rfl⟩
   rw [← hbq]
   have HBQ:=Lib.hid hbq
   clear hbq
   go_upto_if 39 with fail
   go_cut [8,9] (fun v pv wx=>∃ (O2:List Ent) (A2:Option Addr) (c2:Nat),pv = .bool (put || !klt e.1 key) ∧ v = .slice A2 O2.length c2 ∧ Hid (wx.ownsRow w.heap.size 49 2 (.slice A2 O2.length c2) O2.length (entVals O2)) ∧ Hid (O2 = O ++ (if !put && !klt e.1 key then [(key,val)] else [])) ∧ Hid (Ext No w wx))
   case first =>
    have hbq:=HBQ.out
    cases bq
    ·go_wp2_with fail
     go_meet
     exact ⟨O,A1,c1,by cases put <;> cases h:klt e.1 key <;> simp [h] at hbq ⊢,rfl,HO,Lib.hid (by rw [← HBQ.out];simp),HE⟩
    ·have hput:put = false:=by cases put <;> simp at hbq ⊢
     have hkl:klt e.1 key = false:=by cases h:klt e.1 key <;> simp [h] at hbq ⊢
     clear hbq
     have m26:O.length + 1 ≤ maxLen:=by unfold maxLen;have:=HOL2.out;omega
     have m36:(O.length + 1) * 32 ≤ 140737488355328:=by have:=HOL2.out;omega
     have m66:∀ o,w.heap.size ≤ (wr.alloc o).heap.size:=(fun o=>by have:=HE.out.size;simp;omega)
     have m76:∀ o,(wr.alloc o).heap.size = wr.heap.size + 1:=(fun o=>by simp)
     go_wp2_with (at_builtin;refine wpList_append_lies _ (by rfl) _ _ 30 (by rfl) w.heap.size 49 i0 (.agg #[.string ⟨#[]⟩,.string ⟨#[]⟩]) 2 32 Tryz.underlying30 hti htz0 htz1 htz2 (by rfl) (by decide) (.slice A1 O.length c1) O.length (entVals O) (by rfl) (by exact HO.out.alloc _) ⟨wr.heap.size,0,none⟩ 1 1 [.string (str key),.string (str val)] (by rfl) (by rfl) (by exact World.news_of_block (cs:=#[.string (str key),.string (str val)]) (t:=49) (fr:=(0,0)) (heap_alloc_new wr _)) (by simp [Value.oneCell']) (by decide) m26 m36 (by exact m66 _) (wr.heap.size + 1) (by exact m76 _) ?_)
     intro g6 cap6 w6 hown6 hgrow6 hat6 hlt6
     have HO6:=Lib.hid (own_pushE (e:=(key,val)) hown6)
     have HE6:=Lib.hid ((HE.out.alloc _).grown hgrow6 (own_ge' HO.out (Nat.le_refl _)))
     clear hown6 hgrow6 hat6
     go_wp2_with fail
     go_meet
     exact ⟨O ++ [(key,val)],some ⟨g6,0,none⟩,cap6,by rw [hput,hkl];rfl,by simp,HO6,Lib.hid (by rw [hput,hkl];simp),HE6⟩
   case rest =>
    obtain ⟨O2,A2,c2,rfl,rfl,HO2,HQ2,HE2⟩:=hcut
    have HS2:Hid (O2 ++ ((if e.1 = key then [] else [e]) ++ rput key val (put || !klt e.1 key) (E.drop (k + 1))) = rput key val false E):=Lib.hid (by rw [HQ2.out];exact HST.out)
    have HL3:Hid (O2.length ≤ k + (if (put || !klt e.1 key) then 1 else 0)):=Lib.hid (by
     have h1:=HOL.out
     rw [HQ2.out,List.length_append]
     cases put <;> cases klt e.1 key <;> simp at h1 ⊢ <;> omega)
    have HOL2:=Lib.hid (show O2.length ≤ 65003 by have h1:=HEB.out;have h2:=HK.out;have:=HL3.out;split at this <;> omega)
    clear HST HOL hd HO HE HQ2
    generalize (put || !klt e.1 key) = put2 at *
    have hE2:=HE2.out
    have c02:=(HG.out.ext hE2 (fun h=>h)).cell 0
    simp at c02
    have k3:wc.cell? ⟨b,o + k * 2,none⟩ = some (.string (str e.1)):=by
     obtain ⟨b',o',hA,_,q0,q1⟩:=(HR.out.ext hE2).rd.entAt he
     injection hA with hA
     injection hA with hb ho
     subst hb;subst ho
     exact q0
    have k4:wc.cell? ⟨b,o + k * 2 + 1,none⟩ = some (.string (str e.2)):=by
     obtain ⟨b',o',hA,_,q0,q1⟩:=(HR.out.ext hE2).rd.entAt he
     injection hA with hA
     injection hA with hb ho
     subst hb;subst ho
     exact q1
    have lc2:=World.block_lt_of_cell? wc _ k3
    simp only at lc2
    clear hE2 c0 k0 k1 lc
    by_cases hek:e.1 = key
    ·have hq:(e.1 == key) = true:=by simpa using hek
     have HS3:=Lib.hid (show O2 ++ rput key val put2 (E.drop (k + 1)) = rput key val false E by have:=HS2.out;rw [if_pos hek] at this;exact this)
     clear hek HS2
     go_wp2_with fail
     go_roundg (gk - 1)
     case rel=>exact ⟨k + 1,put2,O2,A2,c2,by have:=HK.out;omega,by go_num,rfl,rfl,HO2.out,Lib.hid (by have:=HL3.out;omega),HS3,HE2.out⟩
     case measure=>have:=HK.out;omega
    ·have hq:(e.1 == key) = false:=by simpa using hek
     have HS3:=Lib.hid (show (O2 ++ [e]) ++ rput key val put2 (E.drop (k + 1)) = rput key val false E by have:=HS2.out;rw [if_neg hek] at this;rw [List.append_assoc];exact this)
     clear hek HS2
     have m27:O2.length + 1 ≤ maxLen:=by unfold maxLen;have:=HOL2.out;omega
     have m37:(O2.length + 1) * 32 ≤ 140737488355328:=by have:=HOL2.out;omega
     have m67:∀ o,w.heap.size ≤ (wc.alloc o).heap.size:=(fun o=>by have:=HE2.out.size;simp;omega)
     have m77:∀ o,(wc.alloc o).heap.size = wc.heap.size + 1:=(fun o=>by simp)
     go_wp2_with (at_builtin;refine wpList_append_lies _ (by rfl) _ _ 30 (by rfl) w.heap.size 49 i0 (.agg #[.string ⟨#[]⟩,.string ⟨#[]⟩]) 2 32 Tryz.underlying30 hti htz0 htz1 htz2 (by rfl) (by decide) (.slice A2 O2.length c2) O2.length (entVals O2) (by rfl) (by exact HO2.out.alloc _) ⟨wc.heap.size,0,none⟩ 1 1 [.string (str e.1),.string (str e.2)] (by rfl) (by rfl) (by exact World.news_of_block (cs:=#[.string (str e.1),.string (str e.2)]) (t:=49) (fr:=(0,0)) (heap_alloc_new wc _)) (by simp [Value.oneCell']) (by decide) m27 m37 (by exact m67 _) (wc.heap.size + 1) (by exact m77 _) ?_)
     intro g7 cap7 w7 hown7 hgrow7 hat7 hlt7
     have HO7:=Lib.hid (own_pushE (e:=(e.1,e.2)) hown7)
     have HE7:=Lib.hid ((HE2.out.alloc _).grown hgrow7 (own_ge' HO2.out (Nat.le_refl _)))
     clear hown7 hgrow7 hat7
     go_wp2_with fail
     go_roundg (gk - 1)
     case rel=>exact ⟨k + 1,put2,O2 ++ [e],some ⟨g7,0,none⟩,cap7,by have:=HK.out;omega,by go_num,rfl,by simp,HO7.out,Lib.hid (by have:=HL3.out;rw [List.length_append,List.length_singleton];omega),HS3,HE7.out⟩
     case measure=>have:=HK.out;omega
  ·have hk':k = E.length:=by omega
   have HDR:Hid (E.drop k = []):=Lib.hid (by rw [hk',List.drop_length])
   have HOL2:=Lib.hid (show O.length ≤ 65002 by have:=HOL.out;split at this <;> omega)
   have HFIN:∀ (O2:List Ent) (A2:Option Addr) (c2:Nat) (wx:World),wx.ownsRow w.heap.size 49 2 (.slice A2 O2.length c2) O2.length (entVals O2) → O2 = rput key val false E → Ext No w wx → D (.returned (.int .i64 0)) (wx.setCell ⟨g,0,none⟩ (.slice A2 O2.length c2)):=by
    intro O2 A2 c2 wx q1 q2 q3
    rw [HDD.out,← q2]
    have hx2:Ext (On g) w (wx.setCell ⟨g,0,none⟩ (.slice A2 O2.length c2)):=Ext.setF (F:=On g) (q3.of_no) (b:=g) (show On g g from rfl) _ _
    have hbg:=(HG.out.ext q3 (fun h=>h)).set_ 0 (.slice A2 O2.length c2)
    refine ⟨rfl,hx2,A2,c2,hbg,?_,own_cap q1,own_nilcap q1,by have:=HD.out;have:=HEB.out;rw [q2];simp at *;omega⟩
    exact Rd.own_lo (ownsRow_setCell_other q1 (by intro e;exact own_ge q1 HGL.out e.symm) _) (by decide)
   have HFIN:=Lib.hid HFIN
   have HK2:=Lib.hid hk'
   clear hk hk' hown
   cases put
   ·have m26:O.length + 1 ≤ maxLen:=by unfold maxLen;have:=HOL2.out;omega
    have m36:(O.length + 1) * 32 ≤ 140737488355328:=by have:=HOL2.out;omega
    have m66:∀ o,w.heap.size ≤ (wr.alloc o).heap.size:=(fun o=>by have:=HE.out.size;simp;omega)
    have m76:∀ o,(wr.alloc o).heap.size = wr.heap.size + 1:=(fun o=>by simp)
    go_wp2_with (at_builtin;refine wpList_append_lies _ (by rfl) _ _ 30 (by rfl) w.heap.size 49 i0 (.agg #[.string ⟨#[]⟩,.string ⟨#[]⟩]) 2 32 Tryz.underlying30 hti htz0 htz1 htz2 (by rfl) (by decide) (.slice A1 O.length c1) O.length (entVals O) (by rfl) (by exact HO.out.alloc _) ⟨wr.heap.size,0,none⟩ 1 1 [.string (str key),.string (str val)] (by rfl) (by rfl) (by exact World.news_of_block (cs:=#[.string (str key),.string (str val)]) (t:=49) (fr:=(0,0)) (heap_alloc_new wr _)) (by simp [Value.oneCell']) (by decide) m26 m36 (by exact m66 _) (wr.heap.size + 1) (by exact m76 _) ?_)
    intro g6 cap6 w6 hown6 hgrow6 hat6 hlt6
    have HO6:=Lib.hid (own_pushE (e:=(key,val)) hown6)
    have HE6:=Lib.hid ((HE.out.alloc _).grown hgrow6 (own_ge' HO.out (Nat.le_refl _)))
    clear hown6 hgrow6 hat6
    have HE9:=HE6.out
    have hfr:=(HG.out.ext HE9 (fun h=>h)).frozen 0
    have hlt2:=(HG.out.ext HE9 (fun h=>h)).lt
    have c06:=(HG.out.ext HE9 (fun h=>h)).cell 0
    simp at c06
    have HX:=Lib.hid (HFIN.out (O ++ [(key,val)]) (some ⟨g6,0,none⟩) cap6 w6 HO6.out (by rw [← hd.out,HDR.out];rfl) HE6.out)
    rw [List.length_append,List.length_singleton] at HX
    clear HE9 hE
    go_wp2_with fail
    exact HX.out
   ·have hfr:=(HG.out.ext hE (fun h=>h)).frozen 0
    have hlt2:=(HG.out.ext hE (fun h=>h)).lt
    have HX:=Lib.hid (HFIN.out O A1 c1 wr HO.out (by rw [← hd.out,HDR.out];simp [rput]) HE.out)
    clear hE
    go_wp2_with fail
    exact HX.out
section
variable {s:Sys} {w wr w2:World} {v v' v2:V} {i:Nat} {X P0 P' P2:List Nat} {E E' E2:List Ent} {A':Option Addr} {c':Nat}
theorem FillAt.no (h:FillAt s w wr v v' i X P0 P' E E' A' c') (hs:s.Ok) (hx:Ext No wr w2):FillAt s w w2 v v' i X P0 P' E E' A' c' :=
 ⟨h.tx.no hs hx,h.one,h.tr,h.bm.ext hx (fun h=>h),h.ra.ext (hx.of_no),h.br.ext hx (fun h=>h),h.ex.trans_ hx.of_no,h.st⟩
theorem FillAt.tree (h:FillAt s w wr v v' i X P0 P' E E' A' c') (h0:TxAt w s v) (ht:TxAt w2 s v2) (hx:Ext s.F wr w2) (ho:One s.cap v2 i X P2 E2) (hr:Tr (· = i) v' v2 P' P2) (hst:V.Steps s.cap v' v2):FillAt s w w2 v v2 i X P0 P2 E2 E' A' c':=by
 have hF:∀ b,w.heap.size ≤ b → ¬ s.F b:=fun b hb hf=>by have:=h0.old hf;omega
 exact ⟨ht,ho,h.tr.trans hr,h.bm.ext hx (hF _ (by omega)),(h.ra.mono (G:=fun b=>Lo (w.heap.size + 2) b ∨ s.F b) (fun b _ hb=>by
  rcases hb with hb | hb
  ·exact hb
  ·exact Nat.lt_of_lt_of_le (h0.old hb) (by omega))).ext (hx.mono fun _ _ hb=>.inr hb) |>.mono (fun b _ hb=>.inl hb),h.br.ext hx (hF _ (Nat.le_refl _)),h.ex.trans_ hx,h.st.trans hst⟩
theorem FillAt.map {e0 e:Ending} (h:FillAt s w wr v v' i X P0 P' E E' A' c') (hs:s.Ok) (h0:TxAt w s v) (hm:RefDid wr (w.heap.size + 1) e0 E2 e w2):∃ A2 c2,FillAt s w w2 v v' i X P0 P' E E2 A2 c2:=by
 obtain ⟨A2,c2,h1,h2⟩:=hm.m
 have hx:Ext s.F w w2:=h.ex.trans hm.x (fun b hb he=>by have:b = w.heap.size + 1:=he;omega)
 refine ⟨A2,c2,h.tx.local_ hm.x (fun he=>?_) (fun he=>?_) (hs.keep _ _ hx h0.db),h.one,h.tr,h1,h2.mono (fun b _ hb=>?_),h.br.ext hm.x (fun he=>?_),hx,h.st⟩
 ·have:s.t = w.heap.size + 1:=he
  have:=h0.old (b:=s.t) (.inl rfl);omega
 ·have:s.m = w.heap.size + 1:=he
  have:=h0.old (b:=s.m) (.inr rfl);omega
 ·have h1:b < w.heap.size + 2:=hb
  have h2:=h.bm.lt
  show b < wr.heap.size
  omega
 ·have:w.heap.size = w.heap.size + 1:=he
  omega
end
theorem str_k (l:Bs):(⟨#[107]⟩:ByteArray) ++ str l = str (107 :: l):=str_app [107] l
theorem fill_back {Q:Ending → World → Prop} {a:Act} {w:World} (b:Nat) (cs:Array Value) (hb:Blk w b 32 cs) {v:Value} (hs:some 1 = some cs.size) (hp:a.tmps.getD 6 undef = .pointer (some ⟨b,0,none⟩)) (h3:a.tmps.getD 7 undef = v) (hd:a.defers = [])
  (h:Q (.returned (.tuple #[.agg cs,v])) w):bodyPost Tryz.prog Tryz.f14 Q Exit.ret a w:=by
 refine bodyPost_ret (v:=.tuple #[.agg cs,v]) (w:=w) ?_ hd h
 have hl:=run_loadVar_row w b 32 32 cs (0,0) _ hb Tryz.underlying32 rfl (by rw [← hs];kernel_rfl)
 rw [results_ct rfl,hp,h3]
 simp [asAddr,Result.andThen,hl]
theorem fill_any (s:Sys) (hs:s.Ok) (w:World) (v:V) (h:TxAt w s v) (gx i:Nat) (hx:Blk w gx 70 (treeCells s i)) (hi:i < 4) (X P0:List Nat) (hO:One s.cap v i X P0 []) (l:List Ac) (A:Option Addr) (c:Nat)
  (hl:Rd w s.F 4 A l.length (acVals l)) (hll:l.length < 2^63) (hf:∀ a ∈ l,a.fits) (most:Nat) (hm:6 * most + X.length + 15 ≤ s.cap) (hm2:most ≤ 60) :
  Calls Tryz.prog 14 #[.pointer (some ⟨gx,0,none⟩),.slice A l.length c,.int .i64 (most:Int)] w (Filled s w v i X P0 (fillE (l.take most))):=by
 have HPUT:=Lib.hid (fun w v h hg hx key val=>put_full s hs w v h hg gx i hx hi key val)
 have HDEL:=Lib.hid (fun w v h hg hx key=>del_full s hs w v h hg gx i hx hi key)
 have HT:=Lib.hid h
 have HX:=Lib.hid hx
 have HL:=Lib.hid hl
 have HF:=Lib.hid hf
 have HM:=Lib.hid hm
 have HS:=Lib.hid hs
 have HLL:=Lib.hid hll
 have hfill:=Lib.hid (show FillAt s w ((w.alloc (.cells #[.slice none 0 0] 32)).alloc (.cells #[.slice none 0 0] 32)) v v i X P0 P0 [] [] none 0 from
  ⟨h.no hs (((Ext.refl _ _).alloc _).alloc _),hO,Tr.refl _ _ _ hO.tree.us,Blk.new_at (b:=w.heap.size + 1) (w.alloc _) 32 _ (by simp),⟨Rd.nil_ _,by simp,fun _=>rfl,by simp⟩,(Blk.new w 32 _).alloc _,((Ext.refl _ _).alloc _).alloc _,.refl⟩)
 have HOFF:=Lib.hid (tree_off h hx)
 obtain ⟨D,hD⟩:∃ D,D = Filled s w v i X P0 (fillE (l.take most)):=⟨_,rfl⟩
 rw [← hD]
 have HD:=Lib.hid hD
 clear h hx hl hf hm hs hll hO hD
 go_enter Tryz.func14,Tryz.ntmps14
 go_wp2_with fail
 generalize ((w.alloc (.cells #[.slice none 0 0] 32)).alloc (.cells #[.slice none 0 0] 32)) = W0 at *
 go_loopg [9] l.length (fun gk iv wr=>∃ (k:Nat) (v':V) (P':List Nat) (A':Option Addr) (c':Nat),k + gk = l.length ∧ k ≤ most ∧ iv = .int .i64 (k:Int) ∧ Hid (FillAt s w wr v v' i X P0 P' (fillE (l.take k)) (fillE (l.take k)) A' c'))
 case atStart=>exact ⟨0,v,P0,none,0,by omega,by omega,rfl,hfill⟩
 case round =>
  obtain ⟨k,v',P',A',c',hk,hkm,rfl,HFA⟩:=hrel
  have HK:=Lib.hid hk
  have HKM:=Lib.hid hkm
  have hll:=HLL.out
  by_cases hlt:k < l.length
  ·by_cases hlt2:k < most
   ·obtain ⟨a,ha⟩:∃ a,l[k]? = some a:=⟨_,List.getElem?_eq_getElem hlt⟩
    obtain ⟨b,o,hA,_,k0,k1,k2,k3⟩:=(HL.out.ext HFA.out.ex).acAt ha
    subst hA
    have lc:=World.block_lt_of_cell? wr _ k0
    simp only at lc
    have hlt':(k:Int) < (l.length:Int):=by omega
    have hlt2':(k:Int) < (most:Int):=by omega
    have hfa:=HF.out a (List.mem_of_getElem? ha)
    have hkl:a.key.length < 2^63:=hfa.2.2
    have hex:(str a.key).extract 0 (min (a.key.length:Int) 130).toNat = str (a.key.take 130):=by
     rw [str_take]
     congr 1
     rw [show (min (a.key.length:Int) 130).toNat = min 130 a.key.length by omega,← List.take_take,List.take_length]
    have hcat:(⟨#[107]⟩:ByteArray) ++ str (a.key.take 130) = str a.key1:=str_k _
    have hks:=str_size a.key
    have HVAL:=Lib.hid (fun w=>value_walk a hfa.1 hfa.2.1 w)
    have hst:fillE (l.take (k + 1)) = a.step (fillE (l.take k)):=by
     rw [List.take_add_one,ha];exact fillE_snoc _ _
    have hEl:(fillE (l.take k)).length ≤ k:=Nat.le_trans (fillE_len _) (by rw [List.length_take];omega)
    obtain ⟨E,hE⟩:∃ E,E = fillE (l.take k):=⟨_,rfl⟩
    rw [← hE] at HFA hst hEl
    have HST:=Lib.hid hst
    have HEL:=Lib.hid hEl
    have HSO:=Lib.hid (HFA.out.one.sorted)
    have hstl:6 * E.length + X.length + 15 ≤ s.cap:=by have:=HM.out;omega
    have HROOM:=Lib.hid (show E.length < 100 ∧ 6 * E.length + X.length + 15 ≤ s.cap from ⟨by omega,hstl⟩)
    have hcells:Ac.agg a = .agg #[.int .i64 a.kind,.int .i64 a.n,.string (str a.key),.string (str a.val)]:=rfl
    obtain ⟨W,hW⟩:∃ W,W = wr.alloc (.cells #[.int .i64 a.kind,.int .i64 a.n,.string (str a.key),.string (str a.val)] 53):=⟨_,rfl⟩
    have HEW:=Lib.hid (show Ext No wr W from hW ▸ (Ext.refl _ _).alloc _)
    have HBW:=Lib.hid (show Blk W wr.heap.size 53 #[.int .i64 a.kind,.int .i64 a.n,.string (str a.key),.string (str a.val)] from hW ▸ Blk.new wr 53 _)
    have HFW:=Lib.hid (HFA.out.no HS.out HEW.out)
    have hwr:=HFA.out.ex.size
    have HWR:=Lib.hid hwr
    by_cases hk2:a.kind = 2
    ·have hmay:=a.key1_may [] (by simp)
     obtain ⟨d1,d2,P2,d3,d4⟩:=HFW.out.one.del hmay HROOM.out.1 HROOM.out.2
     obtain ⟨bb,hbb⟩:∃ bb,bb = decide ((del a.key1 E).length < E.length):=⟨_,rfl⟩
     have HDE:Hid (Calls Tryz.prog 27 #[.pointer (some ⟨gx,0,none⟩),.string (str a.key1)] W fun e w2=>e = .returned (.tuple #[.bool bb,.int .i64 0]) ∧ Hid (FillAt s w w2 v (v'.Del s.cap i a.key1).2.2 i X P0 P2 (del a.key1 E) E A' c')):=Lib.hid (by
      refine (HDEL.out W v' HFW.out.tx HFW.out.one.sane.1 (HX.out.ext HFW.out.ex HOFF.out) a.key1).mono ?_
      rintro e w2 ⟨h1,h2,_,h3⟩
      rw [d1,d2,← hbb] at h1
      exact ⟨h1,Lib.hid (HFW.out.tree HT.out h2 h3 d3 d4 ((V.StepsB.refl (sp:=true)).Del _ _))⟩)
     have HRD:Hid (∀ w2,FillAt s w w2 v (v'.Del s.cap i a.key1).2.2 i X P0 P2 (del a.key1 E) E A' c' → Calls Tryz.prog 37 #[.pointer (some ⟨w.heap.size + 1,0,none⟩),.string (str a.key1)] w2 fun e w3=>e = .returned (.tuple #[.bool bb,.int .i64 0]) ∧ Hid (∃ A3 c3,FillAt s w w3 v (v'.Del s.cap i a.key1).2.2 i X P0 P2 (del a.key1 E) (del a.key1 E) A3 c3)):=Lib.hid (by
      intro w2 hf2
      refine (refdel_any w2 (w.heap.size + 1) A' c' E a.key1 hf2.bm (hf2.ra.mono (fun _ _ h=>h.elim)) hmay).mono ?_
      intro e w3 hd
      rw [← hbb] at hd
      exact ⟨hd.e,Lib.hid (hf2.map HS.out HT.out hd)⟩)
     have HSTP:Hid (fillE (l.take (k + 1)) = del a.key1 E):=Lib.hid (by rw [HST.out];unfold Ac.step;rw [if_pos hk2])
     rw [hk2] at hW
     clear hk hkm hfa hst hEl hmay d1 d2 d3 d4 hbb hE hwr hstl
     go_wp2_with fail
     rw [← hW]
     refine (HDE.out).mono ?_
     rintro e w2 ⟨rfl,HFB⟩
     go_wp2_with fail
     refine (HRD.out _ HFB.out).mono ?_
     rintro e w3 ⟨rfl,HFC⟩
     clear HFB HDE HRD k0 k1 k2 k3 lc hW
     cases bb
     ·go_wp2_with fail
      go_roundg (gk - 1)
      case rel =>
       obtain ⟨A3,c3,h3⟩:=HFC.out
       exact ⟨k + 1,_,P2,A3,c3,by have:=HK.out;omega,by omega,by go_num,Lib.hid (by rw [HSTP.out];exact h3)⟩
      case measure=>have:=HK.out;omega
     ·go_wp2_with fail
      go_roundg (gk - 1)
      case rel =>
       obtain ⟨A3,c3,h3⟩:=HFC.out
       exact ⟨k + 1,_,P2,A3,c3,by have:=HK.out;omega,by omega,by go_num,Lib.hid (by rw [HSTP.out];exact h3)⟩
      case measure=>have:=HK.out;omega
    ·have hvl:=a.value_le
     have hmay:=a.key1_may a.value hvl
     obtain ⟨d1,P2,d3,d4⟩:=HFW.out.one.put hmay hvl HROOM.out.1 HROOM.out.2
     have hins:rput a.key1 a.value false E = ins a.key1 a.value E:=rput_ins _ _ _ HSO.out
     have HVW:Hid (∀ w1,Calls Tryz.prog 26 #[.agg #[.int .i64 a.kind,.int .i64 a.n,.string (str a.key),.string (str a.val)]] w1 fun e w'=>e = .returned (.string (str a.value)) ∧ Ext No w1 w'):=Lib.hid (fun w1=>HVAL.out w1)
     have HDE:Hid (∀ w1,Ext No W w1 → Calls Tryz.prog 25 #[.pointer (some ⟨gx,0,none⟩),.string (str a.key1),.string (str a.value)] w1 fun e w2=>e = .returned (.int .i64 0) ∧ Hid (Blk w2 wr.heap.size 53 #[.int .i64 a.kind,.int .i64 a.n,.string (str a.key),.string (str a.val)]) ∧ Hid (FillAt s w w2 v (v'.Put s.cap i a.key1 a.value).2 i X P0 P2 (ins a.key1 a.value E) E A' c')):=Lib.hid (by
      intro w1 e1
      have hf1:=HFW.out.no HS.out e1
      refine (HPUT.out w1 v' hf1.tx hf1.one.sane.1 (HX.out.ext hf1.ex HOFF.out) a.key1 a.value).mono ?_
      rintro e w2 ⟨h1,h2,_,h3⟩
      rw [d1] at h1
      refine ⟨h1,Lib.hid ((HBW.out.ext e1 (fun h=>h)).ext h3 (fun hf=>by have:=HT.out.old hf;have:=HWR.out;omega)),Lib.hid (hf1.tree HT.out h2 h3 d3 d4 ((V.StepsB.refl (sp:=true)).Put _ _ _))⟩)
     have HRD:Hid (∀ w2,FillAt s w w2 v (v'.Put s.cap i a.key1 a.value).2 i X P0 P2 (ins a.key1 a.value E) E A' c' → Calls Tryz.prog 38 #[.pointer (some ⟨w.heap.size + 1,0,none⟩),.string (str a.key1),.string (str a.value)] w2 fun e w3=>e = .returned (.int .i64 0) ∧ Hid (∃ A3 c3,FillAt s w w3 v (v'.Put s.cap i a.key1 a.value).2 i X P0 P2 (ins a.key1 a.value E) (ins a.key1 a.value E) A3 c3)):=Lib.hid (by
      intro w2 hf2
      refine (refput_any w2 (w.heap.size + 1) A' c' E a.key1 a.value hf2.bm (hf2.ra.mono (fun _ _ h=>h.elim)) (by have:=HROOM.out.1;omega) hmay).mono ?_
      intro e w3 hd
      rw [hins] at hd
      exact ⟨hd.e,Lib.hid (hf2.map HS.out HT.out hd)⟩)
     have HSTP:Hid (fillE (l.take (k + 1)) = ins a.key1 a.value E):=Lib.hid (by rw [HST.out];unfold Ac.step;rw [if_neg hk2])
     have hk2':(a.kind == 2) = false:=by simpa using hk2
     clear hk hkm hfa hst hEl hmay d1 d3 d4 hE hwr hstl hvl hins
     go_wp2_with fail
     rw [← hW]
     refine (HVW.out _).mono ?_
     rintro e w1 ⟨rfl,hx1⟩
     have HX1:=Lib.hid hx1
     clear hx1
     go_wp2_with fail
     refine (HDE.out _ HX1.out).mono ?_
     rintro e w2 ⟨rfl,HB2,HFB⟩
     have b0:=HB2.out.cell 0
     have b1:=HB2.out.cell 1
     have b2:=HB2.out.cell 2
     have b3:=HB2.out.cell 3
     have bl:=HB2.out.lt
     simp at b0 b1 b2 b3
     clear k0 k1 k2 k3 lc hW HDE
     go_wp2_with fail
     refine (HVW.out _).mono ?_
     rintro e w3 ⟨rfl,hx3⟩
     have HFB3:=Lib.hid (HFB.out.no HS.out hx3)
     clear hx3 HFB
     go_wp2_with fail
     refine (HRD.out _ HFB3.out).mono ?_
     rintro e w4 ⟨rfl,HFC⟩
     go_wp2_with fail
     go_roundg (gk - 1)
     case rel =>
      obtain ⟨A3,c3,h3⟩:=HFC.out
      exact ⟨k + 1,_,P2,A3,c3,by have:=HK.out;omega,by omega,by go_num,Lib.hid (by rw [HSTP.out];exact h3)⟩
     case measure=>have:=HK.out;omega
   ·have hkm':k = most:=by omega
    have hge:¬ ((k:Int) < (most:Int)):=by omega
    have hlt':(k:Int) < (l.length:Int):=by omega
    have hE:l.take k = l.take most:=by rw [hkm']
    rw [hE] at HFA
    have c0:=HFA.out.bm.cell 0
    have cl:=HFA.out.bm.lt
    have rl:=HFA.out.br.lt
    have rf:=HFA.out.br.frozen 0
    have r0:=HFA.out.br.cell 0
    simp at c0 r0
    have HRES:=Lib.hid (HFA.out.br.set_ 0 (.slice A' (fillE (l.take most)).length c'))
    have HFIN:Hid (D (.returned (.tuple #[.agg #[.slice A' (fillE (l.take most)).length c'],.bool true])) (wr.setCell ⟨w.heap.size,0,none⟩ (.slice A' (fillE (l.take most)).length c'))):=Lib.hid (by
     rw [HD.out]
     have hx2:Ext No w (wr.setCell ⟨w.heap.size,0,none⟩ (.slice A' (fillE (l.take most)).length c')) → True:=fun _=>trivial
     have hloc:Ext (On w.heap.size) wr (wr.setCell ⟨w.heap.size,0,none⟩ (.slice A' (fillE (l.take most)).length c')):=Ext.setF (F:=On w.heap.size) (Ext.refl _ _) (b:=w.heap.size) (show On w.heap.size w.heap.size from rfl) _ _
     have hex2:Ext s.F w (wr.setCell ⟨w.heap.size,0,none⟩ (.slice A' (fillE (l.take most)).length c')):=HFA.out.ex.trans hloc (fun b hb he=>by have:b = w.heap.size:=he;omega)
     refine ⟨⟨v',P',A',c',rfl,HFA.out.tx.local_ hloc (fun he=>?_) (fun he=>?_) (HS.out.keep _ _ hex2 HT.out.db),HFA.out.one,HFA.out.tr,?_,HFA.out.st⟩,hex2⟩
     ·have h1:s.t = w.heap.size:=he
      have:=HT.out.old (b:=s.t) (.inl rfl);omega
     ·have h1:s.m = w.heap.size:=he
      have:=HT.out.old (b:=s.m) (.inr rfl);omega
     ·exact (HFA.out.ra.ext (hloc.mono fun b _ he=>by have h1:b = w.heap.size:=he;show b < w.heap.size + 2;omega)).mono (fun b _ hb=>by have h1:b < w.heap.size:=hb;show b < w.heap.size + 2;omega))
    clear hk hkm hkm' hE HFA
    go_wp2_with fail
    refine fill_back _ _ HRES.out rfl (by rfl) (by rfl) (by rfl) ?_
    exact HFIN.out
  ·have hkm':l.take k = l.take most:=by rw [List.take_of_length_le (by omega),List.take_of_length_le (by omega)]
   have hge:¬ ((k:Int) < (l.length:Int)):=by omega
   have hE:=hkm'
   rw [hE] at HFA
   have c0:=HFA.out.bm.cell 0
   have cl:=HFA.out.bm.lt
   have rl:=HFA.out.br.lt
   have rf:=HFA.out.br.frozen 0
   have r0:=HFA.out.br.cell 0
   simp at c0 r0
   have HRES:=Lib.hid (HFA.out.br.set_ 0 (.slice A' (fillE (l.take most)).length c'))
   have HFIN:Hid (D (.returned (.tuple #[.agg #[.slice A' (fillE (l.take most)).length c'],.bool true])) (wr.setCell ⟨w.heap.size,0,none⟩ (.slice A' (fillE (l.take most)).length c'))):=Lib.hid (by
    rw [HD.out]
    have hx2:Ext No w (wr.setCell ⟨w.heap.size,0,none⟩ (.slice A' (fillE (l.take most)).length c')) → True:=fun _=>trivial
    have hloc:Ext (On w.heap.size) wr (wr.setCell ⟨w.heap.size,0,none⟩ (.slice A' (fillE (l.take most)).length c')):=Ext.setF (F:=On w.heap.size) (Ext.refl _ _) (b:=w.heap.size) (show On w.heap.size w.heap.size from rfl) _ _
    have hex2:Ext s.F w (wr.setCell ⟨w.heap.size,0,none⟩ (.slice A' (fillE (l.take most)).length c')):=HFA.out.ex.trans hloc (fun b hb he=>by have:b = w.heap.size:=he;omega)
    refine ⟨⟨v',P',A',c',rfl,HFA.out.tx.local_ hloc (fun he=>?_) (fun he=>?_) (HS.out.keep _ _ hex2 HT.out.db),HFA.out.one,HFA.out.tr,?_,HFA.out.st⟩,hex2⟩
    ·have h1:s.t = w.heap.size:=he
     have:=HT.out.old (b:=s.t) (.inl rfl);omega
    ·have h1:s.m = w.heap.size:=he
     have:=HT.out.old (b:=s.m) (.inr rfl);omega
    ·exact (HFA.out.ra.ext (hloc.mono fun b _ he=>by have h1:b = w.heap.size:=he;show b < w.heap.size + 2;omega)).mono (fun b _ hb=>by have h1:b < w.heap.size:=hb;show b < w.heap.size + 2;omega))
   clear hk hkm hkm' hE HFA
   go_wp2_with fail
   refine fill_back _ _ HRES.out rfl (by rfl) (by rfl) (by rfl) ?_
   exact HFIN.out
theorem pages_any (s:Sys) (hs:s.Ok) (w:World) (v:V) (h:TxAt w s v) (hg:v.Good) (gx i:Nat) (hx:Blk w gx 70 (treeCells s i)) (hi:i < 4) :
  Calls Tryz.prog 24 #[.pointer (some ⟨gx,0,none⟩)] w fun e w'=>e = .returned (.tuple #[.int .i64 ((v.pages i).1:Int),.int .i64 ((v.pages i).2:Int)]) ∧ Ext No w w':=by
 have HS:=Lib.hid (survey_any s hs w v h hg gx i hx hi)
 unfold V.pages
 generalize v.survey i = R at *
 clear h hg hx
 cases R with
 | none =>
  go_enter Tryz.func24,Tryz.ntmps24
  go_wp2_with fail
  refine (HS.out).mono ?_
  rintro e w1 ⟨hx1,p,d,rfl⟩
  go_wp2_with fail
  go_ret2
  exact ⟨rfl,by (repeat' (first | exact Ext.refl _ _ | assumption | apply Ext.alloc | apply Ext.drewN | apply Ext.drew | refine Ext.setNew ?_ (by first | omega | (simp;omega) | simp) _ _ | refine Ext.setF ?_ (by first | exact Or.inl rfl | exact Or.inr rfl | rfl) _ _ | refine Ext.trans_ ?_ (by assumption) | refine Ext.trans_ ?_ (Ext.of_no (by assumption))))⟩
 | some r =>
  obtain ⟨p,d⟩:=r
  go_enter Tryz.func24,Tryz.ntmps24
  go_wp2_with fail
  refine (HS.out).mono ?_
  rintro e w1 ⟨hx1,rfl,_⟩
  go_wp2_with fail
  go_ret2
  exact ⟨rfl,by (repeat' (first | exact Ext.refl _ _ | assumption | apply Ext.alloc | apply Ext.drewN | apply Ext.drew | refine Ext.setNew ?_ (by first | omega | (simp;omega) | simp) _ _ | refine Ext.setF ?_ (by first | exact Or.inl rfl | exact Or.inr rfl | rfl) _ _ | refine Ext.trans_ ?_ (by assumption) | refine Ext.trans_ ?_ (Ext.of_no (by assumption))))⟩
def V.check (v:V) (root:Nat):Nat:=if (v.survey root).isSome then 0 else 5
theorem checkt_any (s:Sys) (hs:s.Ok) (w:World) (v:V) (h:TxAt w s v) (hg:v.Good) (gx i:Nat) (hx:Blk w gx 70 (treeCells s i)) (hi:i < 4) :
  Calls Tryz.prog 22 #[.pointer (some ⟨gx,0,none⟩)] w fun e w'=>e = .returned (.int .i64 (v.check i:Int)) ∧ Ext No w w':=by
 have HS:=Lib.hid (survey_any s hs w v h hg gx i hx hi)
 unfold V.check
 generalize v.survey i = R at *
 clear h hg hx
 cases R with
 | none =>
  go_enter Tryz.func22,Tryz.ntmps22
  go_wp2_with fail
  refine (HS.out).mono ?_
  rintro e w1 ⟨hx1,p,d,rfl⟩
  go_wp2_with fail
  go_ret
  exact ⟨rfl,by (repeat' (first | exact Ext.refl _ _ | assumption | apply Ext.alloc | apply Ext.drewN | apply Ext.drew | refine Ext.setNew ?_ (by first | omega | (simp;omega) | simp) _ _ | refine Ext.setF ?_ (by first | exact Or.inl rfl | exact Or.inr rfl | rfl) _ _ | refine Ext.trans_ ?_ (by assumption) | refine Ext.trans_ ?_ (Ext.of_no (by assumption))))⟩
 | some r =>
  obtain ⟨p,d⟩:=r
  go_enter Tryz.func22,Tryz.ntmps22
  go_wp2_with fail
  refine (HS.out).mono ?_
  rintro e w1 ⟨hx1,rfl,_⟩
  go_wp2_with fail
  go_ret
  exact ⟨rfl,by (repeat' (first | exact Ext.refl _ _ | assumption | apply Ext.alloc | apply Ext.drewN | apply Ext.drew | refine Ext.setNew ?_ (by first | omega | (simp;omega) | simp) _ _ | refine Ext.setF ?_ (by first | exact Or.inl rfl | exact Or.inr rfl | rfl) _ _ | refine Ext.trans_ ?_ (by assumption) | refine Ext.trans_ ?_ (Ext.of_no (by assumption))))⟩
end Go.Proofs.YtccnemmlkcmceaaGreatDoor
