/- Proofs about the given program, joined out of the texts LG6, LG7, LG8, PB1. -/
import Derived.Test.YtccnemmlkcmceaaGreatDoorHE12
import Derived.Test.YtccnemmlkcmceaaGreatDoorHE13
import Derived.Test.YtccnemmlkcmceaaGreatDoorHE14
set_option linter.unusedVariables false
set_option linter.unusedSimpArgs false
set_option maxRecDepth 100000
set_option maxHeartbeats 6400000
namespace Go.Proofs.YtccnemmlkcmceaaGreatDoor
open Go.RowKit
theorem owns_blk {w:World} {e:TypeId} {v:Value} {n:Nat} {xs:List Value} (h:w.ownsRow 0 e 1 v n xs) {b:Nat} (hb:v.ownBlock = some b):∃ cur,w.heap[b]? = some (.cells cur e (0,0)):=by
 rcases h.2 with ⟨h0,_⟩ | ⟨g,cap,cur,e1,_,hg,_⟩
 ·rw [h0] at hb;cases hb
 ·rw [e1] at hb
  have:g = b:=by simpa [Value.ownBlock] using hb
  subst this
  exact ⟨cur,hg⟩
theorem owns_apart {w:World} {e e':TypeId} {v v':Value} {n n':Nat} {xs xs':List Value} (h:w.ownsRow 0 e 1 v n xs) (h':w.ownsRow 0 e' 1 v' n' xs') (hne:e ≠ e') {b:Nat} (hb:v.ownBlock = some b) (hb':v'.ownBlock = some b):False:=by
 obtain ⟨c,hc⟩:=owns_blk h hb
 obtain ⟨c',hc'⟩:=owns_blk h' hb'
 rw [hc] at hc'
 simp only [Option.some.injEq,Obj.cells.injEq] at hc'
 exact hne hc'.2.1
theorem LogAt.pended {w W w7:World} {D:Nat → Prop} {x d m cp:Nat} {l:Lg} {rec:Bs} (h:LogAt W D x d m l) (hw:w.heap.size ≤ W.heap.size) (hD:∀ b,D b → b < w.heap.size) {Ap:Option Addr} (hc:W.cell? ⟨x,6,none⟩ = some (.slice Ap 0 cp)) (hp:l.pend = []) {g cap:Nat}
  (hown:w7.ownsRow 0 9 1 (.slice (some ⟨g,0,none⟩) 1 cap) 1 [.string (str rec)]) {W6:World} (hx:Ext No W W6) (hg:W6.grownBy w7 (Value.slice Ap 0 cp).ownBlock) (ha:(Value.slice Ap 0 cp).ownBlock = some g ∨ g = W6.heap.size) (hlt:g < w7.heap.size) :
  LogAt (w7.setCell ⟨x,6,none⟩ (.slice (some ⟨g,0,none⟩) 1 cap)) (Grow D w (w7.setCell ⟨x,6,none⟩ (.slice (some ⟨g,0,none⟩) 1 cap))) x d m { l with pend:=[rec] } ∧ Ext D W (w7.setCell ⟨x,6,none⟩ (.slice (some ⟨g,0,none⟩) 1 cap)):=by
 obtain ⟨Ab,cb,Ar,cr,Ap2,cp2,h1,h2,h3,h4,h5⟩:=h.cells
 rw [hp] at h4 h5
 have e:Ap2 = Ap ∧ cp2 = cp:=by
  have:=h1.cell 6
  rw [hc] at this
  simp only [Lg.cells,hp] at this
  simp at this
  exact ⟨this.1.symm,this.2.symm⟩
 obtain ⟨rfl,rfl⟩:=e
 have hx7:Ext (fun b=>(Value.slice Ap2 0 cp2).ownBlock = some b) W w7:=⟨hg.os.trans hx.os,hg.tape.trans hx.tape,hg.output.trans hx.output,Nat.le_trans hx.size hg.size,fun b hbl hne=>(hg.block b (Nat.lt_of_lt_of_le hbl hx.size) (fun e=>hne e.symm)).trans (hx.block b hbl (fun h=>h))⟩
 have hsx:=hx.size
 have hsz7:=hx7.size
 have hgx:g ≠ x:=by
  rcases ha with ha | ha
  ·exact (h4.at_ g ha).2
  ·have:=h.old x h.xx;omega
 have hDW:Ext D W w7:=hx7.mono (fun b _ hb=>(h4.at_ b hb).1)
 have hxx:Ext (On x) w7 (w7.setCell ⟨x,6,none⟩ (.slice (some ⟨g,0,none⟩) 1 cap)):=(Ext.refl _ _).setF (F:=On x) rfl 6 _
 have hb7:Blk w7 x 179 (l.cells d m Ab cb Ar cr Ap2 cp2):=h1.ext hx7 (fun e=>(h4.at_ x e).2 rfl)
 have h2b:Own w7 D x 5 (.slice Ab l.bytes.length cb) l.bytes.length (bcs l.bytes):=⟨owns_ext h2.row hx7 (fun b hb e=>owns_apart h2.row h4.row (by decide) hb e),h2.at_⟩
 have h3b:Own w7 D x 9 (.slice Ar l.recs.length cr) l.recs.length (strs l.recs):=⟨owns_ext h3.row hx7 (fun b hb e=>h5 b hb e),h3.at_⟩
 refine ⟨⟨⟨Ab,cb,Ar,cr,some ⟨g,0,none⟩,cap,?_,?_,?_,?_,?_⟩,.inl h.xx,Grow.old hD (by have:=hxx.size;omega),h.m1,h.m2⟩,hDW.setF (F:=D) h.xx 6 _⟩
 ·have e2:({ l with pend:=[rec] }:Lg).cells d m Ab cb Ar cr (some ⟨g,0,none⟩) cap = (l.cells d m Ab cb Ar cr Ap2 cp2).setIfInBounds 6 (.slice (some ⟨g,0,none⟩) 1 cap):=rfl
  rw [e2]
  exact hb7.set_ 6 _
 ·exact (h2b.ext hxx (fun b _ hne=>hne)).mono (fun _ hb=>.inl hb)
 ·exact (h3b.ext hxx (fun b _ hne=>hne)).mono (fun _ hb=>.inl hb)
 ·refine ⟨owns_ext hown hxx (fun b hb e=>?_),fun b hb=>?_⟩
  ·have hb':g = b:=by simpa [Value.ownBlock] using hb
   have e':b = x:=e
   omega
  ·have hb':g = b:=by simpa [Value.ownBlock] using hb
   subst hb'
   refine ⟨?_,hgx⟩
   rcases ha with ha | ha
   ·exact .inl (h4.at_ g ha).1
   ·exact .inr ⟨by omega,by have:=hxx.size;omega⟩
 ·intro b hb e
  have hb':g = b:=by simpa [Value.ownBlock] using e
  subst hb'
  rcases ha with ha | ha
  ·exact h5 g hb ha
  ·have:=h.old g (h3.at_ g hb).1
   omega
theorem lg_add {w:World} {D:Nat → Prop} {x d m:Nat} {l:Lg} (h:LogAt w D x d m l) (hl:l.lost = false) (hp:l.pend = []) (hb:l.bytes.length ≤ 64 * (m - 1)) (rec:Bs) (hr:rec.length ≤ 65536) (hrm:rec.length + 8 ≤ 64 * (m - 1) - l.bytes.length) :
  Calls Tryz.prog 71 #[.pointer (some ⟨x,0,none⟩),.string (str rec)] w fun e w'=>e = .returned (.int .i64 0) ∧ LogAt w' (Grow D w w') x d m { l with pend:=[rec] } ∧ Ext D w w':=by
 have HU:=Lib.hid (lg_up h)
 rw [hl] at HU
 have HR:=Lib.hid (lg_room h hp hb)
 have HL:=Lib.hid h
 have HP:=Lib.hid hp
 obtain ⟨rm,hrm2⟩:∃ rm,rm = 64 * (m - 1) - l.bytes.length:=⟨_,rfl⟩
 rw [← hrm2] at HR hrm
 have hlt:=h.c
 obtain ⟨Ab,cb,Ar,cr,Ap,cp,_,_,_,_,_,_,_,c6,_,hxl,hfz⟩:=hlt
 rw [hp] at c6
 have HC6:=Lib.hid c6
 have q1:¬ ((65536:Int) < (rec.length:Int)):=by omega
 have q2:¬ ((rm:Int) < 8 + (rec.length:Int)):=by omega
 have q3:(rec.length:Int) ≤ 65536:=by omega
 obtain ⟨l9,h9⟩:∃ l9:Lg,l9 = { l with pend:=[rec] }:=⟨_,rfl⟩
 rw [← h9]
 have H9:=Lib.hid h9
 clear h hl hp hb hrm hrm2 hr hfz h9 c6
 go_enter Tryz.func71,Tryz.ntmps71
 go_wp2_with fail
 refine (HU.out).mono ?_
 rintro e w1 ⟨rfl,rfl⟩
 go_wp2_with fail
 refine (HR.out).mono ?_
 rintro e w2 ⟨rfl,hx2⟩
 have HX2:=Lib.hid hx2
 have HL2:=Lib.hid (HL.out.ext hx2 (fun _ _ h=>h))
 have c62:=cell_ext hx2 HC6.out (fun h=>h)
 have f62:w2.frozen? ⟨x,6,none⟩ = false:=by
  obtain ⟨_,_,_,_,_,_,_,_,_,_,_,_,_,_,_,_,z⟩:=HL2.out.c
  exact z 6
 have hxl2:x < w2.heap.size:=by have:=hx2.size;omega
 clear hx2
 obtain ⟨i0,hti,htz0,htz1,htz2⟩:=info_parts Tryz.info9
 have hX6:Ext No w2 (w2.alloc (.cells #[.string (str rec)] 9)):=(Ext.refl No w2).alloc _
 have HOW:Hid ((w2.alloc (.cells #[.string (str rec)] 9)).ownsRow 0 9 1 (.slice Ap 0 cp) 0 [] ∧ (Value.slice Ap 0 cp).ownBlock ≠ some x):=Lib.hid (by
  obtain ⟨_,_,_,_,Ap2,cp2,z1,_,_,z4,_⟩:=HL2.out.cells
  have:=z1.cell 6
  rw [c62] at this
  simp only [Lg.cells,HP.out] at this
  simp at this
  obtain ⟨rfl,rfl⟩:=this
  rw [HP.out] at z4
  exact ⟨owns_ext z4.row hX6 (fun _ _ h=>h),fun e=>(z4.at_ x e).2 rfl⟩)
 have HX6:=Lib.hid hX6
 have HC62:=Lib.hid c62
 have HSO:=Lib.hid HL.out.old
 clear hX6
 go_upto_region 8 with fail
 go_wp2_with (at_builtin;refine wpList_append_lies _ (by rfl) _ _ 38 (by rfl) 0 9 i0 (.string ⟨#[]⟩) 1 16 Tryz.underlying38 hti htz0 htz1 htz2 (by rfl) (by decide) (.slice Ap 0 cp) 0 [] (by rfl) HOW.out.1 ⟨w2.heap.size,0,none⟩ 1 1 [.string (str rec)] (by rfl) (by rfl) (by exact World.news_of_block (cs:=#[.string (str rec)]) (t:=9) (fr:=(0,0)) (heap_alloc_new w2 _)) (fun u hu=>by rw [List.mem_singleton.1 hu];rfl) (by decide) (by unfold maxLen;omega) (by omega) (Nat.zero_le _) _ rfl ?_)
 intro g cap w7 hown7 hg7 ha7 hlt7
 have hPE:=LogAt.pended (w:=w) HL2.out HX2.out.size HSO.out HC62.out HP.out hown7 HX6.out hg7 (by simpa using ha7) hlt7
 have HPE:=Lib.hid hPE
 have hx6s:x < (w2.alloc (.cells #[.string (str rec)] 9)).heap.size:=Nat.lt_of_lt_of_le hxl2 HX6.out.size
 have c67:w7.cell? ⟨x,6,none⟩ = some (.slice Ap 0 cp):=by
  rw [hg7.cell_far ⟨x,6,none⟩ hx6s (fun e=>HOW.out.2 e.symm)]
  exact cell_ext HX6.out HC62.out (fun h=>h)
 have f67:w7.frozen? ⟨x,6,none⟩ = false:=by
  rw [hg7.frozen_far ⟨x,6,none⟩ hx6s (fun e=>HOW.out.2 e.symm)]
  obtain ⟨_,_,_,_,_,_,_,_,_,_,_,_,_,_,_,_,z⟩:=(HL2.out.ext HX6.out (fun _ _ h=>h)).c
  exact z 6
 have hx7l:x < w7.heap.size:=Nat.lt_of_lt_of_le hx6s hg7.size
 clear hown7 hg7 ha7 hlt7 hPE hx6s
 go_wp2_with fail
 go_ret
 rw [H9.out]
 exact ⟨rfl,HPE.out.1,HX2.out.of_no.trans_ HPE.out.2⟩
theorem Tryz.info5b:(Tryz.prog.info? 5).map (fun i=>(i.zero,i.size,i.bytes)) = some (some (.int .u8 0),1,1):=by kernel_rfl
theorem clone_bytes (p:Part) (w:World) (hp:p.Ok w 1) (hn:p.n < 5000000) :
  Calls Tryz.prog 113 #[p.v] w (Row 5 1 w p.xs p.n):=by
 obtain ⟨i0,hti,htz0,htz1,htz2⟩:=info_parts Tryz.info5b
 obtain ⟨A,n,c,xs⟩:=p
 have hlen:=hp.rd.1
 simp only [Part.v] at hn hlen ⊢
 cases A with
 | none =>
  have hc:c = 0:=hp.e rfl
  have hn0:n = 0:=by
   rcases Nat.eq_zero_or_pos n with h | h
   ·exact h
   ·obtain ⟨b,o,hA,_⟩:=hp.rd.2 h;cases hA
  subst hc;subst hn0
  have hx:xs = []:=List.eq_nil_of_length_eq_zero (by simpa using hlen)
  subst hx
  clear hp hlen
  have he:=fun w=>Lib.run_eql_slice_nil (P:=Tryz.prog) w 98 5 none 0 0 0 0 Tryz.underlying98
  simp only [Option.isNone_none] at he
  go_enter Tryz.func113,Tryz.ntmps113
  go_wp2_with fail
  go_ret
  exact ⟨none,0,rfl,World.ownsRow_nil _ _ _ _,Ext.refl _ _⟩
 | some ad =>
  have hx:Ext No w (w.alloc (.cells #[] 5)):=(Ext.refl No w).alloc _
  have hown0:=World.ownsRow_lit (base:=w.heap.size) (e:=5) (size:=1) w #[] 0 (Nat.le_refl _) (by decide) (by simp)
  obtain ⟨v',w2,hrun,hown2,hg⟩:=run_append_rd (w:=w.alloc (.cells #[] 5)) 98 98 w.heap.size 5 i0 _ 1 1 Tryz.underlying98 hti htz0 htz1 htz2 rfl (by decide) _ _ _ hown0 No (some ad) n c xs (hp.rd.ext hx) hp.e hp.one (by unfold maxLen;omega) (by omega) (by simp)
  have HO2:=Lib.hid hown2;have HG:=Lib.hid hg;have HRN:=Lib.hid hrun;have HX:=Lib.hid hx;have HO0:=Lib.hid hown0
  clear hp hlen hown2 hg hrun hx hown0
  have he:=fun w=>Lib.run_eql_slice_nil (P:=Tryz.prog) w 98 5 (some ad) n c 0 0 Tryz.underlying98
  simp only [Option.isNone_some] at he
  go_enter Tryz.func113,Tryz.ntmps113
  go_wp2_with (at_builtin;refine Lib.wpList_append_run _ rfl (.tmp 5) (.tmp 6) 98 98 rfl _ _ rfl rfl _ _ HRN.out ?_)
  obtain ⟨A',c',hv⟩:=own_form HO2.out
  subst hv
  go_wp2_with fail
  go_ret
  have hT:=HO2.out
  simp only [Nat.zero_add,List.nil_append] at hT ⊢
  exact ⟨A',c',rfl,by simpa using hT,HX.out.grown HG.out (own_bounds HO0.out (Nat.le_refl _))⟩
theorem Own.part {w:World} {D:Nat → Prop} {x n c:Nat} {e:TypeId} {A:Option Addr} {xs:List Value} (h:Own w D x e (.slice A n c) n xs) (h1:∀ u ∈ xs,u.oneCell' = true):Part.Ok w 1 ⟨A,n,c,xs⟩ :=
 ⟨(Rd.own_lo h.row (by decide)).mono (by decide) (fun b _ hb=>hb.elim),own_nilcap h.row,h1,own_cap h.row⟩
theorem own_at {w:World} {base n c:Nat} {e:TypeId} {A:Option Addr} {xs:List Value} (h:w.ownsRow base e 1 (.slice A n c) n xs) (hn:0 < n):∃ g,A = some ⟨g,0,none⟩ ∧ base ≤ g ∧ g < w.heap.size ∧ n ≤ c ∧ ∀ j u,xs[j]? = some u → w.cell? ⟨g,j,none⟩ = some u:=by
 rcases h.2 with ⟨h0,_⟩ | ⟨g,cap,cur,e1,hb,hg,hnc,_⟩
 ·cases h0;omega
 ·injection e1 with e1 e2 e3
  subst e1
  refine ⟨g,rfl,hb,?_,by omega,fun j u hu=>?_⟩
  ·rcases Nat.lt_or_ge g w.heap.size with h1 | h1
   ·exact h1
   ·rw [Array.getElem?_eq_none h1] at hg;cases hg
  ·have:=h.cells (g:=g) rfl j u hu
   rw [Addr.add_none,Nat.zero_add] at this
   exact this
theorem own_base0 {w:World} {base n:Nat} {e:TypeId} {v:Value} {xs:List Value} (h:w.ownsRow base e 1 v n xs):w.ownsRow 0 e 1 v n xs:=by
 refine ⟨h.1,?_⟩
 rcases h.2 with h0 | ⟨g,cap,cur,e1,hb,r⟩
 ·exact .inl h0
 ·exact .inr ⟨g,cap,cur,e1,Nat.zero_le _,r⟩
def Newer (w:World) (D D':Nat → Prop):Prop:=∀ b,D' b → D b ∨ w.heap.size ≤ b
def syncOf (cr:Bs → Nat) (k:Dk) (l:Lg) (rec:Bs):Nat × Dk :=
 if (k.logLay l.bytes (l.bytes ++ frameOf cr rec)).1 ≠ 0 then k.logLay l.bytes (l.bytes ++ frameOf cr rec) else (k.logLay l.bytes (l.bytes ++ frameOf cr rec)).2.logHead cr l.epoch (l.bytes ++ frameOf cr rec).length
structure Synced (w:World) (D Dd:Nat → Prop) (x d m kb:Nat) (l:Lg) (R:Nat × Dk) (l9:Lg) (e:Ending) (w':World):Prop where
 e:e = .returned (.int .i64 (R.1:Int))
 at_:∃ Dd' D',DiskAt w' Dd' d kb R.2 ∧ (R.1 = 0 → LogAt w' D' x d m l9) ∧ (∀ b,D' b → ¬ Dd' b) ∧ Newer w Dd Dd' ∧ Newer w D D'
 x:Ext (fun b=>Dd b ∨ D b) w w'
theorem lg_sync {w:World} {D Dd:Nat → Prop} {x d m kb:Nat} {l:Lg} {k:Dk} {T:Nat → Nat} (h:LogAt w D x d m l) (hd:DiskAt w Dd d kb k) (hT:Half w T) (h0:¬ Dd 0) (h0':¬ D 0) (hap:∀ b,D b → ¬ Dd b) (hk:k.Near (2^27)) (he:l.epoch < 2^59) (hl:l.lost = false) (rec:Bs) (hp:l.pend = [rec])
  (hrl:rec.length ≤ 65536) (hfit:l.bytes.length + (rec.length + 8) ≤ 64 * (m - 1)) (hmn:m ≤ k.n) (hnr:l.recs.length < 2^20) (hnear:(k.logLay l.bytes (l.bytes ++ frameOf (crc T) rec)).2.Near (2^29)) :
  Calls Tryz.prog 72 #[.pointer (some ⟨x,0,none⟩)] w (Synced w D Dd x d m kb l (syncOf (crc T) k l rec) { l with bytes:=l.bytes ++ frameOf (crc T) rec,recs:=l.recs ++ [rec],pend:=[] }):=by
 obtain ⟨F,hF⟩:∃ F,F = frameOf (crc T) rec:=⟨_,rfl⟩
 have hFl:F.length = rec.length + 8:=by rw [hF];simp only [frameOf,List.length_append,n4_len];omega
 have HFR:=Lib.hid (fun w hT=>lg_frame T w hT rec (by omega))
 rw [← hF] at HFR
 obtain ⟨all,hall⟩:∃ all,all = l.bytes ++ F:=⟨_,rfl⟩
 have hal:all.length = l.bytes.length + F.length:=by rw [hall,List.length_append]
 obtain ⟨S,hS⟩:∃ S,S = k.logLay l.bytes all:=⟨_,rfl⟩
 obtain ⟨R,hR⟩:∃ R,R = syncOf (crc T) k l rec:=⟨_,rfl⟩
 have hR2:R = if S.1 ≠ 0 then S else S.2.logHead (crc T) l.epoch all.length:=by rw [hR];unfold syncOf;rw [← hF,← hall,← hS]
 rw [← hF,← hall,← hS] at hnear
 rw [← hR]
 obtain ⟨l9,h9⟩:∃ l9:Lg,l9 = { l with bytes:=l.bytes ++ frameOf (crc T) rec,recs:=l.recs ++ [rec],pend:=[] }:=⟨_,rfl⟩
 rw [← h9]
 rw [← hF,← hall] at h9
 have H9:=Lib.hid h9
 obtain ⟨Q,hQ⟩:∃ Q,Q = Synced w D Dd x d m kb l R l9:=⟨_,rfl⟩
 rw [← hQ]
 have HQ:=Lib.hid hQ
 have HU:=Lib.hid (lg_up h)
 rw [hl] at HU
 obtain ⟨Ab,cb,Ar,cr,Ap,cp,hb,ob,or_,op,hdj⟩:=h.cells
 have hblt:l.bytes.length < 5000000:=by have:=h.m2;omega
 have HCL:=Lib.hid (clone_bytes ⟨Ab,l.bytes.length,cb,bcs l.bytes⟩ w (ob.part (fun u hu=>bcs_one u hu)) hblt)
 simp only [Part.v] at HCL
 rw [hp] at op
 obtain ⟨gp,hAp,_,hgpl,_,hgpc⟩:=own_at op.row (by simp)
 subst hAp
 have HPC:Hid (w.cell? ⟨gp,0,none⟩ = some (.string (str rec))):=Lib.hid (hgpc 0 _ rfl)
 have c4:w.cell? ⟨x,4,none⟩ = some (.slice Ab l.bytes.length cb):=hb.cell 4
 have c6:w.cell? ⟨x,6,none⟩ = some (.slice (some ⟨gp,0,none⟩) l.pend.length cp):=hb.cell 6
 rw [hp] at c6
 have hxl:=hb.lt
 have HC6:=Lib.hid c6
 have HL:=Lib.hid h;have HD:=Lib.hid hd;have HT:=Lib.hid hT;have H0:=Lib.hid h0;have H0':=Lib.hid h0';have HAP:=Lib.hid hap;have HK:=Lib.hid hk;have HE:=Lib.hid he;have HLL:=Lib.hid hl;have HP:=Lib.hid hp
 have HN:=Lib.hid hnear;have HR2:=Lib.hid hR2;have HSS:=Lib.hid hS;have HALL:=Lib.hid hall
 have HFIT:Hid (all.length ≤ 64 * (m - 1) ∧ all.length = l.bytes.length + F.length ∧ F.length = rec.length + 8 ∧ rec.length ≤ 65536 ∧ m ≤ k.n ∧ m ≤ 65536 ∧ l.recs.length < 2^20 ∧ 2 ≤ m):=Lib.hid ⟨by omega,hal,hFl,hrl,hmn,h.m2,hnr,h.m1⟩
 have hcp:1 ≤ cp:=own_cap op.row
 obtain ⟨i0,hti,htz0,htz1,htz2⟩:=info_parts Tryz.info5b
 obtain ⟨L,hL⟩:∃ L,L = l.bytes.length:=⟨_,rfl⟩
 have HLEN:=Lib.hid hL
 rw [← hL] at HCL c4 hblt
 clear h hd hT h0 h0' hap hk he hl hp hrl hfit hmn hnr hnear hR hR2 hS hall hal hFl hF h9 hQ hb ob or_ op hdj hgpc hL
 go_enter Tryz.func72,Tryz.ntmps72
 go_wp2_with fail
 refine (HU.out).mono ?_
 rintro e w1 ⟨rfl,rfl⟩
 go_wp2_with fail
 refine (HCL.out).mono ?_
 rintro e w1 ⟨A1,c1,rfl,hown1,hx1⟩
 have HO1:=Lib.hid hown1;have HX1:=Lib.hid hx1
 have c61:=cell_ext hx1 HC6.out (fun h=>h)
 have hxl1:x < w1.heap.size:=by have:=hx1.size;omega
 clear hown1 hx1 c4 c6 HCL HU
 go_wp2_with fail
 go_loopg [4,30] 1 (fun gk q4 q30 wr=>∃ (j n c:Nat) (A:Option Addr) (bs:Bs),j + gk = 1 ∧ q30 = .int .i64 (j:Int) ∧ q4 = .slice A n c ∧ Hid (n = bs.length) ∧ Hid (wr.ownsRow w.heap.size 5 1 (.slice A n c) n (bcs bs)) ∧ Hid (Ext No w wr) ∧ Hid (bs = if j = 0 then l.bytes else all))
 case atStart=>exact ⟨0,L,c1,A1,l.bytes,by omega,rfl,rfl,HLEN,HO1,HX1,Lib.hid rfl⟩
 case round =>
  obtain ⟨j,n,c,A,bs,hj,rfl,rfl,HNN,HOW,HX,HBS⟩:=hrel
  by_cases hj0:j = 0
  ·subst hj0
   have hg:gk = 1:=by omega
   subst hg
   have k0:=cell_ext HX.out HPC.out (fun h=>h)
   have hgl:=World.block_lt_of_cell? wr _ k0
   simp only at hgl
   have HFR1:=Lib.hid (HFR.out wr (HT.out.ext HX.out (fun h=>h)))
   have hbl:n < 5000000:=by rw [HNN.out,HBS.out,if_pos rfl];have:=HLEN.out;omega
   have hfl:F.length < 100000:=by have:=HFIT.out;omega
   clear hj
   go_wp2_with fail
   refine (HFR1.out).mono ?_
   rintro e w2 ⟨rfl,hx2⟩
   have HX2:=Lib.hid (HX.out.trans_ hx2)
   have HOW2:=Lib.hid (own_ext HOW.out hx2 (fun _ _ h=>h))
   have hsz2:=HX2.out.size
   clear hx2 k0
   go_wp2_with (at_builtin;refine Lib.wpList_append_own_string _ (by rfl) _ _ 98 9 (by rfl) w.heap.size 5 i0 Tryz.underlying98 Tryz.underlying9 hti htz0 htz1 htz2 (.slice A n c) n (bcs bs) (by rfl) HOW2.out (str F) (by rfl) (by rw [str_size];unfold maxLen;omega) (by rw [str_size];omega) hsz2 ?_)
   intro v' w3 hown3 hg3 _
   obtain ⟨A3,c3,hv⟩:=own_form hown3
   subst hv
   have HX3:=Lib.hid (HX2.out.grown hg3 (own_bounds HOW2.out (Nat.le_refl _)))
   rw [strCells_str] at hown3
   obtain ⟨n3,hn3⟩:∃ n3,n3 = n + F.length:=⟨_,rfl⟩
   have HN3:Hid (n3 = all.length):=Lib.hid (by have h1:=HBS.out;simp only [if_true] at h1;rw [hn3,HNN.out,h1];exact HFIT.out.2.1.symm)
   rw [← hn3] at hown3 ⊢
   have HO3:Hid (w3.ownsRow w.heap.size 5 1 (.slice A3 n3 c3) n3 (bcs all)):=Lib.hid (by
    have e:bcs bs ++ bcs F = bcs all:=by have h1:=HBS.out;simp only [if_true] at h1;rw [← bcs_append,h1,HALL.out]
    rw [← e];exact hown3)
   clear hown3 hg3 hn3
   go_wp2_with fail
   go_roundg 0
   case rel=>exact ⟨1,n3,c3,A3,all,by omega,by go_num,rfl,HN3,HO3,HX3,Lib.hid rfl⟩
   case measure=>omega
  ·have hj1:j = 1:=by omega
   subst hj1
   have hn:n = all.length:=by rw [HNN.out,HBS.out,if_neg (by omega)]
   have hba:bs = all:=by rw [HBS.out,if_neg (by omega)]
   subst hba
   obtain ⟨f1,f2,f3,f4,f5,f6,f7,f8⟩:=HFIT.out
   have hnp:0 < n:=by omega
   obtain ⟨g,hA,hgb,hgl,hgc,hcells⟩:=own_at HOW.out hnp
   subst hA
   subst hn
   have HL1:=Lib.hid (HL.out.ext HX.out (fun _ _ h=>h))
   have HD1:=Lib.hid (HD.out.ext HX.out (fun _ _ h=>h))
   have hxs:=HX.out.size
   have HLAY:=Lib.hid (lg_lay HL1.out HD1.out HAP.out (HK.out.mono (by decide)) bs hcells (fun hg=>by have:=HD.out.old g hg;omega) hgl hgc f1 (by omega) f5)
   rw [← HSS.out] at HLAY
   have HGB:=Lib.hid (And.intro hgb (And.intro hgl hgc))
   have hbl:(bs.length:Int) < 4294967296:=by omega
   clear hj hj0 hnp hcells hgb hgl hgc f1 f2 f3 f4 f5 f6 f7 f8
   go_wp2_with fail
   refine (HLAY.out).mono ?_
   rintro e w3 ⟨rfl,hd3,hx3⟩
   have HD3:=Lib.hid hd3;have HX3:=Lib.hid hx3
   have HL3:=Lib.hid (HL1.out.ext hx3 HAP.out)
   have HLO:=Lib.hid (lg_lose HL3.out S.1 HLL.out)
   clear hd3 hx3
   go_wp2_with fail
   refine (HLO.out).mono ?_
   rintro e w4 ⟨rfl,hl4,hx4⟩
   have HL4:=Lib.hid hl4
   have HXL:=Lib.hid (HL.out.old x HL.out.xx)
   have hnd4:∀ b,Grow Dd wr w3 b → ¬ On x b:=fun b hb e=>by
    have e':b = x:=e
    subst e'
    rcases hb with hb | hb
    ·exact HAP.out b HL.out.xx hb
    ·have:=HXL.out;omega
   have HD4:=Lib.hid (HD3.out.ext hx4 hnd4)
   have HXR4:Hid (Ext (fun b=>Dd b ∨ D b) wr w4):=Lib.hid ((HX3.out.mono (fun b _ hb=>.inl hb)).trans_ (hx4.mono (fun b _ hb=>.inr (by have e':b = x:=hb;rw [e'];exact HL.out.xx))))
   have HX4:Hid (Ext (fun b=>Dd b ∨ D b) w w4):=Lib.hid ((HX.out.of_no).trans_ HXR4.out)
   have hs3:=HX3.out.size
   have hs4:=hx4.size
   have HSZ:=Lib.hid (And.intro hs3 hs4)
   have HND4:=Lib.hid hnd4
   clear hl4 hx4 hnd4 hs3 hs4
   by_cases hc:S.1 = 0
   ·have hc0:(S.1:Int) = 0:=by omega
    have HCC:=Lib.hid hc
    have HR3:Hid (R = S.2.logHead (crc T) l.epoch bs.length):=Lib.hid (by rw [HR2.out,if_neg (by have:=HCC.out;omega)])
    have HL5:Hid (LogAt w4 D x d m l):=Lib.hid (by
     have:=HL4.out
     rw [hc] at this
     have e:({ l with lost:=decide ((0:Nat) ≠ 0) }:Lg) = l:=by
      have:=HLL.out
      cases l;simp_all
     rw [e] at this
     exact this)
    obtain ⟨_,_,_,_,_,_,_,_,_,_,y3,_,_,_,_,ylt,_⟩:=HL5.out.c
    have hHT4:Half w4 T:=HT.out.ext HX4.out (fun h=>by rcases h with h | h;exact H0.out h;exact H0'.out h)
    have HAP4:=Lib.hid (show ∀ b,D b → ¬ Grow Dd wr w3 b from fun b hb hg=>by
     rcases hg with hg | hg
     ·exact HAP.out b hb hg
     ·have:=HL.out.old b hb;have:=HX.out.size;omega)
    have HWR:=Lib.hid (lg_write HL5.out HD4.out hHT4 HAP4.out HN.out l.epoch bs.length (by have:=HE.out;omega) (by have:=HFIT.out;omega))
    rw [← HR3.out] at HWR
    rw [hc0]
    clear hc hc0 hHT4
    go_wp2_with fail
    refine (HWR.out).mono ?_
    rintro e w5 ⟨rfl,hd5,hx5⟩
    have HD5:=Lib.hid hd5;have HX5:=Lib.hid hx5
    have HL6:=Lib.hid (HL5.out.ext hx5 HAP4.out)
    have HLO6:=Lib.hid (lg_lose HL6.out R.1 HLL.out)
    clear hd5 hx5 y3 ylt
    go_wp2_with fail
    refine (HLO6.out).mono ?_
    rintro e w6 ⟨rfl,hl6,hx6⟩
    have HL7:=Lib.hid hl6
    have hnd6:∀ b,Grow (Grow Dd wr w3) w4 w5 b → ¬ On x b:=fun b hb e=>by
     have e':b = x:=e
     subst e'
     rcases hb with hb | hb
     ·exact HAP4.out b HL.out.xx hb
     ·have:=HL5.out.old b HL.out.xx;omega
    have HD6:=Lib.hid (HD5.out.ext hx6 hnd6)
    have HXR6:Hid (Ext (fun b=>Dd b ∨ D b) wr w6):=Lib.hid ((HXR4.out.trans HX5.out (fun b hb hg=>by
     rcases hg with hg | hg
     ·exact .inl hg
     ·omega)).trans_ (hx6.mono (fun b _ hb=>.inr (by have e':b = x:=hb;rw [e'];exact HL.out.xx))))
    have HX6:Hid (Ext (fun b=>Dd b ∨ D b) w w6):=Lib.hid ((HX.out.of_no).trans_ HXR6.out)
    have HNW:Hid (Newer w Dd (Grow (Grow Dd wr w3) w4 w5)):=Lib.hid (fun b hb=>by
     have h1:=HX.out.size
     have h2:=HX4.out.size
     rcases hb with (hb | hb) | hb
     ·exact .inl hb
     ·exact .inr (by omega)
     ·exact .inr (by omega))
    have HSZ6:=Lib.hid (And.intro HX5.out.size hx6.size)
    clear hl6 hx6 hnd6
    by_cases hc:R.1 = 0
    ·have hc0:(R.1:Int) = 0:=by omega
     have HCC:=Lib.hid hc
     have HL8:Hid (LogAt w6 D x d m l):=Lib.hid (by
      have:=HL7.out
      rw [hc] at this
      have e:({ l with lost:=decide ((0:Nat) ≠ 0) }:Lg) = l:=by
       have:=HLL.out
       cases l;simp_all
      rw [e] at this
      exact this)
     obtain ⟨Ab6,cb6,Ar6,cr6,Ap6,cp6,hb6,ob6,or6,op6,hdj6⟩:=HL8.out.cells
     rw [HP.out] at op6
     obtain ⟨gq,hAq,_,hgql,hgqc,hgq⟩:=own_at op6.row (by simp)
     subst hAq
     have q4:=hb6.cell 4
     have q5:=hb6.cell 5
     have q6:=hb6.cell 6
     simp only [Lg.cells,HP.out] at q4 q5 q6
     simp at q4 q5 q6
     have f4:=hb6.frozen 4
     have f5:=hb6.frozen 5
     have f6:=hb6.frozen 6
     have lx6:=hb6.lt
     obtain ⟨i9,hti9,htz09,htz19,htz29⟩:=info_parts Tryz.info9
     have HOR:=Lib.hid or6.row
     have HNEW:=Lib.hid hgq
     have hne6:(Value.slice Ar6 l.recs.length cr6).ownBlock ≠ some x:=fun e=>(or6.at_ x e).2 rfl
     have hnr1:l.recs.length + 1 ≤ maxLen:=by have:=HFIT.out;unfold maxLen;omega
     have hnr2:(l.recs.length + 1) * 16 ≤ 140737488355328:=by have:=HFIT.out;omega
     have HDONE:Hid (∀ (w7:World) (g2 cap2:Nat),w7.ownsRow 0 9 1 (.slice (some ⟨g2,0,none⟩) (l.recs.length + 1) cap2) (l.recs.length + 1) (strs l.recs ++ [.string (str rec)]) → w6.grownBy w7 (Value.slice Ar6 l.recs.length cr6).ownBlock →
       ((Value.slice Ar6 l.recs.length cr6).ownBlock = some g2 ∨ g2 = w6.heap.size) → g2 < w7.heap.size → w7.frozen? ⟨x,4,none⟩ = false ∧ w7.frozen? ⟨x,5,none⟩ = false ∧ w7.frozen? ⟨x,6,none⟩ = false ∧ (w7.cell? ⟨x,4,none⟩).isSome = true ∧ (w7.cell? ⟨x,5,none⟩).isSome = true ∧ (w7.cell? ⟨x,6,none⟩).isSome = true ∧ x < w7.heap.size ∧
       Q (.returned (.int .i64 0)) (((w7.setCell ⟨x,4,none⟩ (.slice (some ⟨g,0,none⟩) bs.length c)).setCell ⟨x,5,none⟩ (.slice (some ⟨g2,0,none⟩) (l.recs.length + 1) cap2)).setCell ⟨x,6,none⟩ (.slice none 0 0))):=Lib.hid (by
      intro w7 g2 cap2 hown7 hg7 ha7 hlt7
      have hb7:Blk w7 x 179 (l.cells d m Ab6 cb6 Ar6 cr6 (some ⟨gq,0,none⟩) cp6):=(hg7.block x lx6 (fun e=>hne6 e.symm)).trans hb6
      have hx7:Ext (fun b=>(Value.slice Ar6 l.recs.length cr6).ownBlock = some b) w6 w7:=⟨hg7.os,hg7.tape,hg7.output,hg7.size,fun b hbl hne=>hg7.block b hbl (fun e=>hne e.symm)⟩
      have hz6:=HSZ6.out
      have hz4:=HSZ.out
      have hzx:=HX.out.size
      have hzr:=HXR4.out.size
      have hgg:=HGB.out
      have hg2x:g2 ≠ x:=by
       rcases ha7 with ha | ha
       ·exact (or6.at_ g2 ha).2
       ·omega
      have hg2D:D g2 ∨ g2 = w6.heap.size:=by
       rcases ha7 with ha | ha
       ·exact .inl (or6.at_ g2 ha).1
       ·exact .inr ha
      have hxw:=HXL.out
      have hDw:∀ b,D b → b < w.heap.size:=HL.out.old
      have hs7:=hg7.size
      obtain ⟨wf,hwf⟩:∃ wf,wf = (((w7.setCell ⟨x,4,none⟩ (.slice (some ⟨g,0,none⟩) bs.length c)).setCell ⟨x,5,none⟩ (.slice (some ⟨g2,0,none⟩) (l.recs.length + 1) cap2)).setCell ⟨x,6,none⟩ (.slice none 0 0)):=⟨_,rfl⟩
      have hxf:Ext (On x) w7 wf:=by rw [hwf];exact (((Ext.refl _ _).setF (F:=On x) rfl 4 _).setF (F:=On x) rfl 5 _).setF (F:=On x) rfl 6 _
      have hbf:Blk wf x 179 ((((l.cells d m Ab6 cb6 Ar6 cr6 (some ⟨gq,0,none⟩) cp6).setIfInBounds 4 (.slice (some ⟨g,0,none⟩) bs.length c)).setIfInBounds 5 (.slice (some ⟨g2,0,none⟩) (l.recs.length + 1) cap2)).setIfInBounds 6 (.slice none 0 0)):=by rw [hwf];exact ((hb7.set_ 4 _).set_ 5 _).set_ 6 _
      have hE:Ext D w6 wf:=(hx7.mono (fun b _ hb=>(or6.at_ b hb).1)).trans_ (hxf.mono (fun b _ hb=>by have e':b = x:=hb;rw [e'];exact HL.out.xx))
      have hsf:=hxf.size
      refine ⟨hb7.frozen 4,hb7.frozen 5,hb7.frozen 6,by rw [hb7.cell 4];rfl,by rw [hb7.cell 5];rfl,by rw [hb7.cell 6];rfl,by omega,?_⟩
      rw [← hwf,HQ.out]
      refine ⟨by rw [HCC.out];rfl,⟨Grow (Grow Dd wr w3) w4 w5,fun b=>D b ∨ b = g ∨ b = g2,?_,fun _=>?_,?_,HNW.out,?_⟩,?_⟩
      ·refine HD6.out.ext hE (fun b hb hd=>?_)
       rcases hb with hb | hb
       ·exact HAP4.out b hd hb
       ·have:=hDw b hd;omega
      ·rw [H9.out]
       refine ⟨⟨some ⟨g,0,none⟩,c,some ⟨g2,0,none⟩,cap2,none,0,?_,?_,?_,?_,?_⟩,.inl HL.out.xx,?_,HL.out.m1,HL.out.m2⟩
       ·have e:({ l with bytes:=bs,recs:=l.recs ++ [rec],pend:=[] }:Lg).cells d m (some ⟨g,0,none⟩) c (some ⟨g2,0,none⟩) cap2 none 0 = ((((l.cells d m Ab6 cb6 Ar6 cr6 (some ⟨gq,0,none⟩) cp6).setIfInBounds 4 (.slice (some ⟨g,0,none⟩) bs.length c)).setIfInBounds 5 (.slice (some ⟨g2,0,none⟩) (l.recs.length + 1) cap2)).setIfInBounds 6 (.slice none 0 0)):=by
         have e1:(l.recs ++ [rec]).length = l.recs.length + 1:=by simp
         unfold Lg.cells
         simp only [e1]
         rfl
        rw [e];exact hbf
       ·refine ⟨?_,fun b hb=>?_⟩
        ·have h1:=owns_ext (own_base0 HOW.out) (HXR6.out.trans (hE.mono (fun b _ hb=>.inr hb)) (fun b _ h=>h)) (fun b hb hF=>by
          have hb':g = b:=by simpa [Value.ownBlock] using hb
          subst hb'
          rcases hF with hF | hF
          ·have:=HD.out.old _ hF;omega
          ·have:=hDw _ hF;omega)
         exact h1
        ·have hb':g = b:=by simpa [Value.ownBlock] using hb
         subst hb'
         exact ⟨.inr (.inl rfl),by omega⟩
       ·refine ⟨?_,fun b hb=>?_⟩
        ·have h1:=owns_ext hown7 hxf (fun b hb hF=>by
          have hb':g2 = b:=by simpa [Value.ownBlock] using hb
          have e':b = x:=hF
          omega)
         have e1:(l.recs ++ [rec]).length = l.recs.length + 1:=by simp
         have e2:strs (l.recs ++ [rec]) = strs l.recs ++ [.string (str rec)]:=by simp [strs]
         show wf.ownsRow 0 9 1 (.slice (some ⟨g2,0,none⟩) (l.recs ++ [rec]).length cap2) (l.recs ++ [rec]).length (strs (l.recs ++ [rec]))
         rw [e1,e2]
         exact h1
        ·have hb':g2 = b:=by simpa [Value.ownBlock] using hb
         subst hb'
         exact ⟨.inr (.inr rfl),hg2x⟩
       ·exact ⟨⟨rfl,.inl ⟨rfl,rfl⟩⟩,fun b hb=>by cases hb⟩
       ·intro b _ hb;cases hb
       ·intro b hb
        rcases hb with hb | hb | hb
        ·have:=hDw b hb;omega
        ·omega
        ·omega
      ·intro b hb hg
       rcases hb with hb | hb | hb
       ·rcases hg with hg | hg
        ·exact HAP4.out b hb hg
        ·have:=hDw b hb;omega
       ·subst hb
        rcases hg with (hg | hg) | hg
        ·have:=HD.out.old _ hg;omega
        ·omega
        ·omega
       ·subst hb
        rcases hg2D with h1 | h1
        ·rcases hg with hg | hg
         ·exact HAP4.out _ h1 hg
         ·have:=hDw _ h1;omega
        ·rcases hg with (hg | hg) | hg
         ·have:=HD.out.old _ hg;omega
         ·omega
         ·omega
      ·intro b hb
       rcases hb with hb | hb | hb
       ·exact .inl hb
       ·exact .inr (by omega)
       ·rcases hg2D with h1 | h1
        ·rw [hb];exact .inl h1
        ·exact .inr (by omega)
      ·exact HX6.out.trans_ (hE.mono (fun b _ hb=>.inr hb)))
     clear op6 or6 ob6 hb6 hdj6 hgq
     rw [hc0]
     clear hc hc0
     go_wp2_with fail
     go_region_law (refine step_append_lies _ (by rfl) _ _ 38 (by rfl) 0 9 i9 (.string ⟨#[]⟩) 1 16 Tryz.underlying38 hti9 htz09 htz19 htz29 (by rfl) (by decide) (.slice Ar6 l.recs.length cr6) l.recs.length (strs l.recs) (by rfl) (by exact HOR.out) ⟨gq,0,none⟩ 1 cp6 [.string (str rec)] (by rfl) (by rfl) (by intro j u hu;rw [Addr.add_none,Nat.zero_add];exact HNEW.out j u hu) (fun u hu=>by rw [List.mem_singleton.1 hu];rfl) (by decide) hnr1 hnr2 (Nat.zero_le _) w6.heap.size (by rfl) ?_;intro g2 cap2 w7 hown7 hg7 ha7 hlt7;obtain ⟨a4,a5,a6,b4,b5,b6,lx7,hqq⟩:=HDONE.out w7 g2 cap2 hown7 ⟨hg7.os,hg7.tape,hg7.output,hg7.size,hg7.block⟩ ha7 hlt7;have HQQ:=Lib.hid hqq;obtain ⟨z4,y4⟩:=Option.isSome_iff_exists.1 b4;obtain ⟨z5,y5⟩:=Option.isSome_iff_exists.1 b5;obtain ⟨z6,y6⟩:=Option.isSome_iff_exists.1 b6;clear hqq hown7 hg7 ha7 hlt7 b4 b5 b6)
     all_goals (go_wp2_with fail;exact HQQ.out)
    ·have hc1:((R.1:Int) != 0) = true:=by simp;omega
     have HRC:=Lib.hid hc
     clear hc
     go_wp2_with fail
     rw [HQ.out]
     exact ⟨rfl,⟨_,D,HD6.out,fun h=>absurd h HRC.out,fun b hb hg=>by
      rcases hg with hg | hg
      ·exact HAP4.out b hb hg
      ·have:=HL5.out.old b hb;omega,HNW.out,fun b hb=>.inl hb⟩,HX6.out⟩
   ·have hc1:((S.1:Int) != 0) = true:=by simp;omega
    have HRS:Hid (R = S):=Lib.hid (by rw [HR2.out,if_pos hc])
    have HSC:=Lib.hid hc
    clear hc
    go_wp2_with fail
    rw [HQ.out,HRS.out]
    refine ⟨rfl,⟨_,D,HD4.out,fun h=>absurd h HSC.out,fun b hb hg=>?_,fun b hb=>?_,fun b hb=>.inl hb⟩,HX4.out⟩
    ·rcases hg with hg | hg
     ·exact HAP.out b hb hg
     ·have:=HL.out.old b hb;have:=HX.out.size;omega
    ·rcases hb with hb | hb
     ·exact .inl hb
     ·exact .inr (by have:=HX.out.size;omega)
end Go.Proofs.YtccnemmlkcmceaaGreatDoor
namespace Go.Proofs.YtccnemmlkcmceaaGreatDoor
open Go.RowKit Go.BigFrame
structure Dbp where
 d:Nat
 kb:Nat
 x:Nat
 l:Nat
 log:Nat
def dbVals (a:Dbp) (m:Mt) (o:Option Addr) (lost:Bool):Array Value :=
 #[.pointer (some ⟨a.d,0,none⟩),.pointer (some ⟨a.l,0,none⟩),.int .i64 (a.log:Int),.int .i64 (m.r 0:Int),.int .i64 (m.r 1:Int),.int .i64 (m.r 2:Int),.int .i64 (m.r 3:Int),.int .i64 (m.high:Int),.int .i64 (m.free:Int),.int .i64 (m.cnt:Int),.pointer o,.bool lost]
structure Parts (a:Dbp) (Dd Dl:Nat → Prop):Prop where
 ap:∀ g,Dl g → ¬ Dd g
 xd:¬ Dd a.x
 xl:¬ Dl a.x
 zd:¬ Dd 0
 zl:¬ Dl 0
 zx:a.x ≠ 0
structure DbAt (w:World) (Dd Dl:Nat → Prop) (a:Dbp) (o:Option Addr) (lost:Bool) (T:Nat → Nat) (b:Db):Prop where
 disk:DiskAt w Dd a.d a.kb b.k
 wal:LogAt w Dl a.l a.d a.log ⟨b.epoch,b.bytes,b.recs,[],false⟩
 db:Blk w a.x 131 (dbVals a b.m o lost)
 half:Half w T
 parts:Parts a Dd Dl
 ll:a.log ≤ b.k.n
theorem DbAt.ext {F:Nat → Prop} {w w':World} {Dd Dl:Nat → Prop} {a:Dbp} {o:Option Addr} {lost:Bool} {T:Nat → Nat} {b:Db} (h:DbAt w Dd Dl a o lost T b) (hx:Ext F w w') (h1:∀ g,Dd g → ¬ F g) (h2:∀ g,Dl g → ¬ F g) (h3:¬ F a.x) (h4:¬ F 0):DbAt w' Dd Dl a o lost T b :=
 ⟨h.disk.ext hx h1,h.wal.ext hx h2,h.db.ext hx h3,h.half.ext hx h4,h.parts,h.ll⟩
theorem DbAt.no {w w':World} {Dd Dl:Nat → Prop} {a:Dbp} {o:Option Addr} {lost:Bool} {T:Nat → Nat} {b:Db} (h:DbAt w Dd Dl a o lost T b) (hx:Ext No w w'):DbAt w' Dd Dl a o lost T b :=
 h.ext hx (fun _ _ h=>h) (fun _ _ h=>h) (fun h=>h) (fun h=>h)
theorem own_pushS {w:World} {base g cap n:Nat} {ks:List Bs} {x:Bs} (h:w.ownsRow base 9 1 (.slice (some ⟨g,0,none⟩) (n + 1) cap) (n + 1) (strs ks ++ [.string (str x)])):w.ownsRow base 9 1 (.slice (some ⟨g,0,none⟩) (n + 1) cap) (n + 1) (strs (ks ++ [x])):=by
 have e:strs (ks ++ [x]) = strs ks ++ [.string (str x)]:=by simp [strs]
 rw [e];exact h
theorem sectors_any (image:Bs) (hi:image.length = 512) (w:World) :
  Calls Tryz.prog 162 #[.string (str image)] w fun e w'=>∃ A c,e = .returned (.slice A 8 c) ∧ w'.ownsRow w.heap.size 9 1 (.slice A 8 c) 8 (strs (cutS 8 image)) ∧ Ext No w w':=by
 obtain ⟨i0,hti,htz0,htz1,htz2⟩:=info_parts Tryz.info9
 have HI:=Lib.hid hi
 obtain ⟨Q,hQ⟩:∃ Q,Q = fun (e:Ending) (w':World)=>∃ A c,e = .returned (.slice A 8 c) ∧ w'.ownsRow w.heap.size 9 1 (.slice A 8 c) 8 (strs (cutS 8 image)) ∧ Ext No w w':=⟨_,rfl⟩
 rw [← hQ]
 have HQ:=Lib.hid hQ
 have h0:image = image.drop (0 * 64):=by simp
 have H0:=Lib.hid h0
 clear hi hQ h0
 go_enter Tryz.func162,Tryz.ntmps162
 go_wp2_with fail
 go_loopg [0,3] 8 (fun gk q0 q3 wr=>∃ (K c:Nat) (A:Option Addr) (L:Bs),K + gk = 8 ∧ q0 = .string (str L) ∧ q3 = .slice A K c ∧ Hid (L = image.drop (K * 64)) ∧ Hid (wr.ownsRow w.heap.size 9 1 (.slice A K c) K (strs ((cutS 8 image).take K))) ∧ Hid (Ext No w wr))
 case atStart=>exact ⟨0,0,none,image,rfl,rfl,rfl,H0,Lib.hid (World.ownsRow_nil _ _ _ _),Lib.hid (Ext.refl _ _)⟩
 case round =>
  obtain ⟨K,c,A,L,hK,rfl,rfl,HL,HO,HX⟩:=hrel
  have HK:=Lib.hid hK
  have hLl:L.length = 512 - K * 64:=by rw [HL.out,List.length_drop,HI.out]
  have HLL:=Lib.hid hLl
  by_cases h8:K < 8
  ·obtain ⟨n,hn⟩:∃ n,n = L.length:=⟨_,rfl⟩
   have g1:(0:Int) < (n:Int):=by omega
   have g2:min (64:Int) (n:Int) = 64:=by omega
   have g3:(64:Int) ≤ n:=by omega
   have hsz:(str L).size = n:=by rw [str_size,hn]
   have x1:(str L).extract 0 64 = str (L.take 64):=str_take L 64
   have x2:(str L).extract 64 n = str (L.drop 64):=by rw [hn];exact str_drop L 64
   have HL2:Hid (L.drop 64 = image.drop ((K + 1) * 64)):=Lib.hid (by rw [HL.out,List.drop_drop];congr 1;omega)
   have HT1:Hid ((cutS 8 image).take (K + 1) = (cutS 8 image).take K ++ [L.take 64]):=Lib.hid (by rw [List.take_add_one,cutS_get 8 image K h8,HL.out];rfl)
   have H8:=Lib.hid h8
   obtain ⟨P,hP⟩:∃ P,P = L.take 64:=⟨_,rfl⟩
   rw [← hP] at x1 HT1
   obtain ⟨L2,hL2⟩:∃ L2,L2 = L.drop 64:=⟨_,rfl⟩
   rw [← hL2] at x2 HL2
   have hxs:=HX.out.size
   have m1:K + 1 ≤ maxLen:=by unfold maxLen;omega
   have m2:(K + 1) * 16 ≤ 140737488355328:=by omega
   have HX1:=Lib.hid (HX.out.alloc (.cells #[.string (str P)] 9))
   have HO1:=Lib.hid (HO.out.alloc (.cells #[.string (str P)] 9))
   have hx1s:w.heap.size ≤ (wr.alloc (.cells #[.string (str P)] 9)).heap.size:=HX1.out.size
   clear hK hLl hn h8 hP hL2
   rw [str_size] at hsz
   go_wp2_with (at_builtin;refine wpList_append_lies _ (by rfl) _ _ 38 (by rfl) w.heap.size 9 i0 (.string ⟨#[]⟩) 1 16 Tryz.underlying38 hti htz0 htz1 htz2 (by rfl) (by decide) (.slice A K c) K (strs ((cutS 8 image).take K)) (by rfl) HO1.out ⟨wr.heap.size,0,none⟩ 1 1 [.string (str P)] (by rfl) (by rfl) (by exact World.news_of_block (cs:=#[.string (str P)]) (t:=9) (fr:=(0,0)) (heap_alloc_new wr _)) (fun u hu=>by rw [List.mem_singleton.1 hu];rfl) (by decide) m1 m2 hx1s _ rfl ?_)
   intro g cap w7 hown7 hg7 ha7 hlt7
   have HO7:=Lib.hid (own_pushS hown7)
   rw [← HT1.out] at HO7
   have HX7:=Lib.hid (HX1.out.grown hg7 (own_bounds HO1.out (Nat.le_refl _)))
   clear hown7 hg7 ha7 hlt7 hxs hx1s m1 m2
   go_wp2_with fail
   go_roundg (gk - 1)
   case rel=>exact ⟨K + 1,cap,some ⟨g,0,none⟩,L2,by have:=HK.out;have:=H8.out;omega,rfl,rfl,HL2,HO7,HX7⟩
   case measure=>have:=HK.out;have:=H8.out;omega
  ·have hK8:K = 8:=by omega
   subst hK8
   have hL0:L = []:=List.eq_nil_of_length_eq_zero (by omega)
   subst hL0
   have HD:Hid (Q (.returned (.slice A 8 c)) wr):=Lib.hid (by
    rw [HQ.out]
    have:=HO.out
    rw [List.take_of_length_le (by rw [cutS_len];omega)] at this
    exact ⟨A,c,rfl,this,HX.out⟩)
   have e0:(str []).size = 0:=rfl
   clear hK hLl h8
   go_wp2_with fail
   exact HD.out
end Go.Proofs.YtccnemmlkcmceaaGreatDoor
