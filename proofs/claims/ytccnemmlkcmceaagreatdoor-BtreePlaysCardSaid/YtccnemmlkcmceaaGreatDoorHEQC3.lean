/- Proofs about the given program, joined out of the texts PL1, PL2, PL3, PL4. -/
import Derived.Test.YtccnemmlkcmceaaGreatDoorHEQC2
set_option linter.unusedVariables false
set_option linter.unusedSimpArgs false
set_option maxRecDepth 100000
set_option maxHeartbeats 6400000
namespace Go.Proofs.YtccnemmlkcmceaaGreatDoor
open Go.RowKit
def twoCells (d x:Nat) (pt pg:Value) (A1:Option Addr) (n1 c1:Nat) (A2:Option Addr) (n2 c2:Nat):Array Value :=
 #[.pointer (some ⟨d,0,none⟩),.pointer (some ⟨x,0,none⟩),pt,pg,.slice A1 n1 c1,.slice A2 n2 c2]
def Ch (a:Dbp) (Dd Dl:Nat → Prop) (g:Nat) (F:Nat → Prop):Nat → Prop:=fun x=>(Dd x ∨ Dl x ∨ x = a.x) ∨ x = g ∨ F x
structure PlayAt (w0:World) (g d:Nat) (T:Nat → Nat) (k:Nat) (w:World) (s:Sys) (gx:Nat) (a:Dbp) (Dd Dl:Nat → Prop) (N:Nat) (b:Db) (v:V) (P:List Nat) (E:List Ent) (Pw:List Nat) (Ew:List Ent) (A1:Option Addr) (c1:Nat) (A2:Option Addr) (c2:Nat):Prop where
 tb:Blk w g 78 (twoCells d a.x (.pointer (some ⟨s.t,0,none⟩)) (.pointer (some ⟨gx,0,none⟩)) A1 E.length c1 A2 Ew.length c2)
 hop:Open w0 s a Dd Dl T N b
 tx:TxAt w s v
 half:Half w T
 tree:Blk w gx 70 (treeCells s 1)
 one:One 400 v 1 [] P E
 was:One 400 (b.m.v s.base) 1 [] Pw Ew
 st:V.Steps s.cap (b.m.v s.base) v
 sp:v.spoilt = false
 r:∀ i,i ≠ 1 → v.r i = 0
 rw:∀ i,i ≠ 1 → (b.m.v s.base).r i = 0
 n:b.k.n = 3600
 ra:RefAt w (Ch a Dd Dl g s.F) A1 c1 E
 rb:RefAt w (Ch a Dd Dl g s.F) A2 c2 Ew
 may:∀ e ∈ E,may e.1 [] = 0
 mayw:∀ e ∈ Ew,YtccnemmlkcmceaaGreatDoor.may e.1 [] = 0
 le:E.length ≤ k
 lew:Ew.length ≤ k
 nk:N ≤ k
 hg:g < w0.heap.size
 ex:Ext (On g) w0 w
structure RestTwo (w0:World) (g d:Nat) (T:Nat → Nat) (k:Nat) (w:World) (pt pg:Value) (a:Dbp) (Dd Dl:Nat → Prop) (N:Nat) (b:Db) (base:Nat → Leaf) (P:List Nat) (E:List Ent) (A:Option Addr) (c:Nat):Prop where
 tb:Blk w g 78 (twoCells d a.x pt pg A E.length c A E.length c)
 cl:Closed w0 w a Dd Dl T N b base
 was:One 400 (b.m.v base) 1 [] P E
 rw:∀ i,i ≠ 1 → (b.m.v base).r i = 0
 n:b.k.n = 3600
 ra:RefAt w (Ch a Dd Dl g No) A c E
 may:∀ e ∈ E,may e.1 [] = 0
 le:E.length ≤ k
 nk:N ≤ k
 hg:g < w0.heap.size
 ex:Ext (On g) w0 w
section
variable {w0:World} {g d:Nat} {T:Nat → Nat} {k:Nat} {w w2 w3:World} {s:Sys} {gx:Nat} {a:Dbp} {Dd Dl:Nat → Prop} {N:Nat} {b:Db} {v v2:V} {P P2:List Nat} {E E2:List Ent} {Pw:List Nat} {Ew:List Ent} {A1:Option Addr} {c1:Nat} {A2:Option Addr} {c2:Nat}
theorem PlayAt.cap (h:PlayAt w0 g d T k w s gx a Dd Dl N b v P E Pw Ew A1 c1 A2 c2):s.cap = 400:=by
 unfold Sys.cap
 rw [h.hop.nn,h.hop.slog,h.n]
theorem PlayAt.noF (h:PlayAt w0 g d T k w s gx a Dd Dl N b v P E Pw Ew A1 c1 A2 c2):¬ s.F g:=fun hf=>by
 have:=h.hop.newF g hf
 have:=h.hg
 omega
theorem PlayAt.noD (h:PlayAt w0 g d T k w s gx a Dd Dl N b v P E Pw Ew A1 c1 A2 c2):¬ (Dd g ∨ Dl g ∨ g = a.x):=fun hf=>by
 have:=h.hop.new g hf
 have:=h.hg
 omega
theorem PlayAt.old (h:PlayAt w0 g d T k w s gx a Dd Dl N b v P E Pw Ew A1 c1 A2 c2) {x:Nat} (hx:Ch a Dd Dl g s.F x):x < w.heap.size:=by
 rcases hx with hx | hx | hx
 ·have h1:=h.hop.low x hx
  have h2:=h.hop.lt
  have h3:=h.tx.tx.lt
  omega
 ·rw [hx];exact h.tb.lt
 ·exact h.tx.old hx
theorem PlayAt.no (h:PlayAt w0 g d T k w s gx a Dd Dl N b v P E Pw Ew A1 c1 A2 c2) (hx:Ext No w w2):PlayAt w0 g d T k w2 s gx a Dd Dl N b v P E Pw Ew A1 c1 A2 c2 :=
 ⟨h.tb.ext hx (fun h=>h),h.hop,h.tx.no h.hop.ok hx,h.half.ext hx (fun h=>h),h.tree.ext hx (fun h=>h),h.one,h.was,h.st,h.sp,h.r,h.rw,h.n,h.ra.ext hx.of_no,h.rb.ext hx.of_no,h.may,h.mayw,h.le,h.lew,h.nk,h.hg,h.ex.trans_ hx.of_no⟩
theorem PlayAt.more (h:PlayAt w0 g d T k w s gx a Dd Dl N b v P E Pw Ew A1 c1 A2 c2):PlayAt w0 g d T (k + 1) w s gx a Dd Dl N b v P E Pw Ew A1 c1 A2 c2 :=
 ⟨h.tb,h.hop,h.tx,h.half,h.tree,h.one,h.was,h.st,h.sp,h.r,h.rw,h.n,h.ra,h.rb,h.may,h.mayw,Nat.le_succ_of_le h.le,Nat.le_succ_of_le h.lew,Nat.le_succ_of_le h.nk,h.hg,h.ex⟩
theorem PlayAt.step (h:PlayAt w0 g d T k w s gx a Dd Dl N b v P E Pw Ew A1 c1 A2 c2) (ht:TxAt w2 s v2) (hx:Ext s.F w w2) (ho:One 400 v2 1 [] P2 E2) (hst:V.Steps s.cap v v2) (hsp:v2.spoilt = false) (hr:∀ i,i ≠ 1 → v2.r i = v.r i) (hm:∀ e ∈ E2,YtccnemmlkcmceaaGreatDoor.may e.1 [] = 0) (hl:E2.length ≤ k + 1)
  {e0 e:Ending} {cs:Array Value} (hcs:cs = twoCells d a.x (.pointer (some ⟨s.t,0,none⟩)) (.pointer (some ⟨gx,0,none⟩)) A1 E.length c1 A2 Ew.length c2) (hd:RefDat w2 g 78 cs 4 e0 E2 e w3):∃ A3 c3,PlayAt w0 g d T (k + 1) w3 s gx a Dd Dl N b v2 P2 E2 Pw Ew A3 c3 A2 c2:=by
 subst hcs
 obtain ⟨A3,c3,hb3,hr3⟩:=hd.m
 have hF:=h.noF
 have hx13:Ext (fun x=>s.F x ∨ x = g) w w3:=(hx.mono fun _ _ hb=>.inl hb).trans_ (hd.x.mono fun _ _ hb=>.inr hb)
 have hgxF:=tree_off h.tx h.tree
 have hgt:gx ≠ g:=h.tree.ne_ h.tb (by decide)
 have h00:(0:Nat) ≠ g:=fun e=>by
  have h1:=h.half.cell 0 (by decide)
  have h2:=h.tb.cell 0
  rw [← e,h1] at h2
  simp [twoCells] at h2
 have hh2:Half w2 T:=h.half.ext hx (fun hf=>by
  have h1:=h.hop.newF 0 hf
  have h2:0 < w0.heap.size:=by have:=h.hg;omega
  omega)
 have hdb:s.db w3:=h.hop.lw2 g h.hg (fun e=>h00 e.symm) _ _ hd.x ht.db
 refine ⟨A3,c3,hb3,h.hop,?_,hh2.ext hd.x h00,(h.tree.ext hx hgxF).ext hd.x hgt,ho,h.was,h.st.trans hst,hsp,fun i hi=>by rw [hr i hi];exact h.r i hi,h.rw,h.n,hr3.mono (fun x _ hx4=>?_),?_,hm,h.mayw,hl,Nat.le_succ_of_le h.lew,Nat.le_succ_of_le h.nk,h.hg,?_⟩
 ·exact ht.local_ hd.x (fun e=>h.noF (by have e1:s.t = g:=e;rw [← e1];exact .inl rfl)) (fun e=>h.noF (by have e1:s.m = g:=e;rw [← e1];exact .inr rfl)) hdb
 ·have:=h.old hx4
  have:=hx.size
  show x < w2.heap.size
  omega
 ·exact (h.rb.mono (G:=Ch a Dd Dl g s.F) (fun _ _ h=>h)).ext (hx13.mono fun x _ h1=>by
   rcases h1 with h1 | h1
   ·exact .inr (.inr h1)
   ·exact .inr (.inl h1))
 ·exact h.ex.trans hx13 (fun x hb h1=>by
   rcases h1 with h1 | h1
   ·have:=h.hop.newF x h1;omega
   ·exact h1)
theorem PlayAt.still (h:PlayAt w0 g d T k w s gx a Dd Dl N b v P E Pw Ew A1 c1 A2 c2) (ht:TxAt w2 s v) (hx:Ext s.F w w2):PlayAt w0 g d T k w2 s gx a Dd Dl N b v P E Pw Ew A1 c1 A2 c2:=by
 have hF:=h.noF
 have hgxF:=tree_off h.tx h.tree
 have hh2:Half w2 T:=h.half.ext hx (fun hf=>by
  have h1:=h.hop.newF 0 hf
  have h2:0 < w0.heap.size:=by have:=h.hg;omega
  omega)
 exact ⟨h.tb.ext hx hF,h.hop,ht,hh2,h.tree.ext hx hgxF,h.one,h.was,h.st,h.sp,h.r,h.rw,h.n,h.ra.ext (hx.mono fun _ _ h=>.inr (.inr h)),h.rb.ext (hx.mono fun _ _ h=>.inr (.inr h)),h.may,h.mayw,h.le,h.lew,h.nk,h.hg,h.ex.trans hx (fun x hb h1=>by have:=h.hop.newF x h1;omega)⟩
end
section
variable {w0:World} {g d:Nat} {T:Nat → Nat} {k:Nat} {w w2:World} {pt pg:Value} {a:Dbp} {Dd Dl:Nat → Prop} {N:Nat} {b:Db} {base:Nat → Leaf} {P:List Nat} {E:List Ent} {A:Option Addr} {c:Nat}
theorem RestTwo.noX (h:RestTwo w0 g d T k w pt pg a Dd Dl N b base P E A c):g ≠ a.x:=fun e=>by
 have:=h.cl.new a.x (.inr (.inr rfl))
 have:=h.hg
 omega
theorem RestTwo.g0 (h:RestTwo w0 g d T k w pt pg a Dd Dl N b base P E A c):(0:Nat) ≠ g:=fun e=>by
 have h1:=h.cl.db.half.cell 0 (by decide)
 have h2:=h.tb.cell 0
 rw [← e,h1] at h2
 simp [twoCells] at h2
theorem RestTwo.begun (h:RestTwo w0 g d T k w pt pg a Dd Dl N b base P E A c) {s:Sys} {w1 w4:World} {gx:Nat} (hop:Open w0 s a Dd Dl T N b) (ht:TxAt w1 s (b.m.v base)) (hb:s.base = base) (hx:Ext (On a.x) w w1) (hF:∀ x,s.F x → w.heap.size ≤ x) (hgx:gx = w1.heap.size)
  (h4:w4 = ((w1.alloc (.cells (treeCells s 1) 70)).setCell ⟨g,2,none⟩ (.pointer (some ⟨s.t,0,none⟩))).setCell ⟨g,3,none⟩ (.pointer (some ⟨gx,0,none⟩))):PlayAt w0 g d T k w4 s gx a Dd Dl N b (b.m.v base) P E P E A c A c:=by
 subst h4;subst hgx;subst hb
 have hng:=h.noX
 have hg0:=h.g0
 have hgl:=h.tb.lt
 have hsz:=hx.size
 have hga:¬ On a.x g:=hng
 have hb1:Blk (w1.alloc (.cells (treeCells s 1) 70)) g 78 (twoCells d a.x pt pg A E.length c A E.length c):=(h.tb.ext hx hga).ext ((Ext.refl No w1).alloc _) (fun h=>h)
 have hxa:Ext No w1 (w1.alloc (.cells (treeCells s 1) 70)):=(Ext.refl No w1).alloc _
 have hxs:Ext (On g) (w1.alloc (.cells (treeCells s 1) 70)) (((w1.alloc (.cells (treeCells s 1) 70)).setCell ⟨g,2,none⟩ (.pointer (some ⟨s.t,0,none⟩))).setCell ⟨g,3,none⟩ (.pointer (some ⟨w1.heap.size,0,none⟩))) :=
  Ext.setF (F:=On g) (Ext.setF (F:=On g) (Ext.refl _ _) (b:=g) (show On g g from rfl) _ _) (b:=g) (show On g g from rfl) _ _
 have hFg:¬ s.F g:=fun hf=>by have:=hop.newF g hf;have:=h.hg;omega
 have h0x:¬ On a.x 0:=fun e=>by
  have e1:0 = a.x:=e
  exact h.cl.db.parts.zx e1.symm
 have hxw:Ext (fun x=>x = a.x ∨ x = g) w (((w1.alloc (.cells (treeCells s 1) 70)).setCell ⟨g,2,none⟩ (.pointer (some ⟨s.t,0,none⟩))).setCell ⟨g,3,none⟩ (.pointer (some ⟨w1.heap.size,0,none⟩))) :=
  ((hx.mono fun _ _ h=>.inl h).trans_ hxa.of_no).trans_ (hxs.mono fun _ _ h=>.inr h)
 have hra:RefAt (((w1.alloc (.cells (treeCells s 1) 70)).setCell ⟨g,2,none⟩ (.pointer (some ⟨s.t,0,none⟩))).setCell ⟨g,3,none⟩ (.pointer (some ⟨w1.heap.size,0,none⟩))) (Ch a Dd Dl g s.F) A c E:=by
  refine ((h.ra.mono (G:=fun x=>Ch a Dd Dl g No x ∨ w.heap.size ≤ x) (fun x h1 h2=>?_)).ext (hxw.mono fun x _ h1=>?_)).mono (fun x _ h1=>?_)
  ·rcases h2 with h2 | h2
   ·exact h2
   ·omega
  ·rcases h1 with h1 | h1
   ·exact .inl (.inl (.inr (.inr h1)))
   ·exact .inl (.inr (.inl h1))
  ·rcases h1 with h1 | h1 | h1
   ·exact .inl (.inl h1)
   ·exact .inl (.inr (.inl h1))
   ·exact .inr (hF x h1)
 refine ⟨((hb1.set_ 2 _).set_ 3 _),hop,?_,((h.cl.db.half.ext hx h0x).ext hxa (fun h=>h)).ext hxs hg0,?_,h.was,h.was,.refl,rfl,h.rw,h.rw,h.n,hra,hra,h.may,h.may,h.le,h.le,h.nk,h.hg,?_⟩
 ·refine (ht.no hop.ok hxa).local_ hxs (fun e=>hFg (by have e1:s.t = g:=e;rw [← e1];exact .inl rfl)) (fun e=>hFg (by have e1:s.m = g:=e;rw [← e1];exact .inr rfl)) (hop.lw2 g h.hg hg0.symm _ _ hxs (hop.ok.keep _ _ hxa.of_no ht.db))
 ·exact (Blk.new w1 70 _).ext hxs (fun e=>by have e1:w1.heap.size = g:=e;omega)
 ·exact h.ex.trans hxw (fun x hx1 h1=>by
   rcases h1 with h1 | h1
   ·have:=h.cl.new a.x (.inr (.inr rfl));omega
   ·exact h1)
end
theorem again_any {w0:World} {g d:Nat} {T:Nat → Nat} {k:Nat} {w:World} {pt pg:Value} {a:Dbp} {Dd Dl:Nat → Prop} {N:Nat} {b:Db} {base:Nat → Leaf} {P:List Nat} {E:List Ent} {A:Option Addr} {c:Nat} (h:RestTwo w0 g d T k w pt pg a Dd Dl N b base P E A c) (hk:k ≤ 60) :
  Calls Tryz.prog 75 #[.pointer (some ⟨g,0,none⟩)] w fun e w'=>e = .returned (.bool true) ∧ ∃ s gx,PlayAt w0 g d T k w' s gx a Dd Dl N b (b.m.v base) P E P E A c A c:=by
 have HB:=Lib.hid (h.cl.begin (by have:=h.nk;omega))
 have HR:=Lib.hid h
 have c1:=h.tb.cell 1
 have hl:=h.tb.lt
 simp [twoCells] at c1
 have HG:=Lib.hid h.noX
 obtain ⟨X,hX⟩:∃ X,X = a.x:=⟨_,rfl⟩
 rw [← hX] at c1
 have HX:=Lib.hid hX
 rw [← hX] at HB
 clear h hX
 go_enter Tryz.func75,Tryz.ntmps75
 go_wp2_with fail
 refine (HB.out).mono ?_
 rintro e w1 ⟨s,rfl,hop,ht,hb,hx,hF⟩
 have HOP:=Lib.hid hop;have HT:=Lib.hid ht;have HBS:=Lib.hid hb;have HXX:=Lib.hid hx;have HFF:=Lib.hid hF
 have HOF:=Lib.hid (of_any (some ⟨s.t,0,none⟩) 1 (by decide) w1)
 obtain ⟨w2,hw2⟩:∃ w2,w2 = w1.alloc (.cells (treeCells s 1) 70):=⟨_,rfl⟩
 have hb2:Blk w2 g 78 _:=hw2 ▸ (HR.out.tb.ext hx (fun e=>by rw [HX.out] at e;exact HG.out e)).ext ((Ext.refl No w1).alloc _) (fun h=>h)
 have HB2:=Lib.hid hb2
 have hl2:=hb2.lt
 have f2:=hb2.frozen 2
 have f3:=hb2.frozen 3
 have k2:=hb2.cell 2
 have k3:=hb2.cell 3
 simp [twoCells] at k2 k3
 have HW2:=Lib.hid hw2
 clear hop ht hb hx hF hb2 hw2
 go_wp2_with fail
 refine (HOF.out).mono ?_
 rintro e w3 ⟨rfl,rfl⟩
 rw [show w1.alloc (.cells #[.pointer (some ⟨s.t,0,none⟩),.int .i64 ((1:Nat):Int)] 70) = w2 from HW2.out.symm]
 have HFIN:Hid (∀ w4,w4 = (w2.setCell ⟨g,2,none⟩ (.pointer (some ⟨s.t,0,none⟩))).setCell ⟨g,3,none⟩ (.pointer (some ⟨w1.heap.size,0,none⟩)) → PlayAt w0 g d T k w4 s w1.heap.size a Dd Dl N b (b.m.v base) P E P E A c A c) :=
  Lib.hid (fun w4 e=>HR.out.begun HOP.out HT.out HBS.out (by rw [← HX.out];exact HXX.out) HFF.out rfl (by rw [e,HW2.out]))
 go_wp2_with fail
 go_ret
 exact ⟨rfl,s,w1.heap.size,HFIN.out _ rfl⟩
section
variable {w0:World} {g d:Nat} {T:Nat → Nat} {k:Nat} {w w2 w3:World} {s:Sys} {gx:Nat} {a:Dbp} {Dd Dl:Nat → Prop} {N:Nat} {b:Db} {v v2:V} {P P2:List Nat} {E E2:List Ent} {Pw:List Nat} {Ew:List Ent} {A1:Option Addr} {c1:Nat} {A2:Option Addr} {c2:Nat}
theorem RefAt.later {w w':World} {Dd' Dl':Nat → Prop} {F:Nat → Prop} {A:Option Addr} {c:Nat} {X:List Ent} (h:RefAt w (Ch a Dd Dl g F) A c X) (hx:Ext (fun x=>(Dd x ∨ Dl x ∨ x = a.x) ∨ x = g) w w') (hn:∀ x,Dd' x ∨ Dl' x → (Dd x ∨ Dl x) ∨ w.heap.size ≤ x):RefAt w' (Ch a Dd' Dl' g No) A c X:=by
 refine ((h.mono (G:=fun x=>Ch a Dd Dl g F x ∨ w.heap.size ≤ x) (fun x h1 h2=>?_)).ext (hx.mono fun x _ h1=>?_)).mono (fun x _ h1=>?_)
 ·rcases h2 with h2 | h2
  ·exact h2
  ·omega
 ·rcases h1 with h1 | h1
  ·exact .inl (.inl h1)
  ·exact .inl (.inr (.inl h1))
 ·rcases h1 with (h1 | h1 | h1) | h1 | h1
  ·rcases hn x (.inl h1) with (h2 | h2) | h2
   ·exact .inl (.inl (.inl h2))
   ·exact .inl (.inl (.inr (.inl h2)))
   ·exact .inr h2
  ·rcases hn x (.inr h1) with (h2 | h2) | h2
   ·exact .inl (.inl (.inl h2))
   ·exact .inl (.inl (.inr (.inl h2)))
   ·exact .inr h2
  ·exact .inl (.inl (.inr (.inr h1)))
  ·exact .inl (.inr (.inl h1))
  ·exact h1.elim
theorem Closed.far {w0 w w':World} {a:Dbp} {Dd Dl:Nat → Prop} {T:Nat → Nat} {N:Nat} {b:Db} {base:Nat → Leaf} {g:Nat} (h:Closed w0 w a Dd Dl T N b base) (hx:Ext (On g) w w') (hg:g < w0.heap.size) (h0:0 ≠ g):Closed w0 w' a Dd Dl T N b base:=by
 refine ⟨h.log,h.db.ext hx (fun x hx e=>?_) (fun x hx e=>?_) (fun e=>?_) (fun e=>h0 e),h.lv,h.kept,h.new,h.h1,h.cap,h.cnt⟩
 ·have e1:x = g:=e
  have:=h.new x (.inl hx);omega
 ·have e1:x = g:=e
  have:=h.new x (.inr (.inl hx));omega
 ·have e1:a.x = g:=e
  have:=h.new a.x (.inr (.inr rfl));omega
theorem PlayAt.g0 (h:PlayAt w0 g d T k w s gx a Dd Dl N b v P E Pw Ew A1 c1 A2 c2):(0:Nat) ≠ g:=fun e=>by
 have h1:=h.half.cell 0 (by decide)
 have h2:=h.tb.cell 0
 rw [← e,h1] at h2
 simp [twoCells] at h2
theorem PlayAt.committed (h:PlayAt w0 g d T k w s gx a Dd Dl N b v P E Pw Ew A1 c1 A2 c2) {e:Ending} (hE:Ended w0 w s v a Dd Dl T N b e w2) :
  Blk w2 g 78 (twoCells d a.x (.pointer (some ⟨s.t,0,none⟩)) (.pointer (some ⟨gx,0,none⟩)) A1 E.length c1 A2 Ew.length c2) ∧
  ((e = .returned (.int .i64 0) ∧ ∀ w3,w3 = w2.setCell ⟨g,5,none⟩ (.slice A1 E.length c1) → ∃ Dd' Dl' b' base',RestTwo w0 g d T (k + 1) w3 (.pointer (some ⟨s.t,0,none⟩)) (.pointer (some ⟨gx,0,none⟩)) a Dd' Dl' (N + 1) b' base' P E A1 c1) ∨
   (e = .returned (.int .i64 7) ∧ ∀ w3,w3 = (w2.setCell ⟨g,4,none⟩ (.slice A2 Ew.length c2)).setCell ⟨g,5,none⟩ (.slice A2 Ew.length c2) → ∃ Dd' Dl' b' base',RestTwo w0 g d T (k + 1) w3 (.pointer (some ⟨s.t,0,none⟩)) (.pointer (some ⟨gx,0,none⟩)) a Dd' Dl' (N + 1) b' base' Pw Ew A2 c2)):=by
 obtain ⟨⟨code,Dd',Dl',b',base',h1,h2,h3,_,h5,_,h7,h8,h9,h10⟩,hx,_⟩:=hE
 have hb2:=h.tb.ext hx h.noD
 have hg0:=h.g0
 refine ⟨hb2,?_⟩
 have hxg:Ext (fun x=>(Dd x ∨ Dl x ∨ x = a.x) ∨ x = g) w w2:=hx.mono fun _ _ h=>.inl h
 rcases h5 with h5 | h5 | h5
 ·subst h5
  obtain ⟨g1,g2,g3,g4,g5⟩:=h7 rfl
  refine .inl ⟨h1,fun w3 hw3=>⟨Dd',Dl',b',base',?_⟩⟩
  have hs:Ext (On g) w2 w3:=hw3 ▸ Ext.setF (F:=On g) (Ext.refl _ _) (b:=g) (show On g g from rfl) _ _
  have hxa:Ext (fun x=>(Dd x ∨ Dl x ∨ x = a.x) ∨ x = g) w w3:=hxg.trans_ (hs.mono fun _ _ h=>.inr h)
  refine ⟨hw3 ▸ (hb2.set_ 5 _),h2.far hs h.hg hg0,h.one.turn g4 g1 g2 g3 g5,fun i hi=>?_,h9.trans h.n,h.ra.later hxa h10,h.may,Nat.le_succ_of_le h.le,Nat.succ_le_succ h.nk,h.hg,h.ex.trans hxa (fun x hx1 hh=>?_)⟩
  ·have e1:(b'.m.v base').r = v.r:=g4
   rw [e1];exact h.r i hi
  ·rcases hh with hh | hh
   ·have:=h.hop.new x hh;omega
   ·exact hh
 ·subst h5
  obtain ⟨rfl,rfl⟩:=h8 (by decide)
  refine .inr ⟨h1,fun w3 hw3=>⟨Dd',Dl',b',s.base,?_⟩⟩
  have hs:Ext (On g) w2 w3:=hw3 ▸ Ext.setF (F:=On g) (Ext.setF (F:=On g) (Ext.refl _ _) (b:=g) (show On g g from rfl) _ _) (b:=g) (show On g g from rfl) _ _
  have hxa:Ext (fun x=>(Dd x ∨ Dl x ∨ x = a.x) ∨ x = g) w w3:=hxg.trans_ (hs.mono fun _ _ h=>.inr h)
  refine ⟨hw3 ▸ ((hb2.set_ 4 _).set_ 5 _),h2.far hs h.hg hg0,h.was,h.rw,h.n,h.rb.later hxa h10,h.mayw,Nat.le_succ_of_le h.lew,Nat.succ_le_succ h.nk,h.hg,h.ex.trans hxa (fun x hx1 hh=>?_)⟩
  rcases hh with hh | hh
  ·have:=h.hop.new x hh;omega
  ·exact hh
 ·have:=h3 h5
  rw [h.sp] at this
  cases this
theorem PlayAt.mt (h:PlayAt w0 g d T k w s gx a Dd Dl N b v P E Pw Ew A1 c1 A2 c2):v.mt.Ok:=h.one.mt (fun i hi=>by rw [h.r i hi];decide)
theorem PlayAt.kd (h:PlayAt w0 g d T k w s gx a Dd Dl N b v P E Pw Ew A1 c1 A2 c2):v.Kd:=h.st.kd (fun i h1 h2=>by
 have h3:=h.hop.kept i h1 (by rw [h.hop.bh];exact h2)
 exact ⟨h3.2.1,h3.2.2.1⟩)
theorem PlayAt.commit (h:PlayAt w0 g d T k w s gx a Dd Dl N b v P E Pw Ew A1 c1 A2 c2) (hk:k ≤ 60) :
  Calls Tryz.prog 32 #[.pointer (some ⟨s.t,0,none⟩)] w (Ended w0 w s v a Dd Dl T N b) :=
 h.hop.commit (by have:=h.nk;omega) h.tx h.half h.one.sane.1 h.kd h.mt h.st
theorem PlayAt.abort (h:PlayAt w0 g d T k w s gx a Dd Dl N b v P E Pw Ew A1 c1 A2 c2) :
  Calls Tryz.prog 31 #[.pointer (some ⟨s.t,0,none⟩)] w fun e w'=>e = .returned (.tuple #[]) ∧
   Blk w' g 78 (twoCells d a.x (.pointer (some ⟨s.t,0,none⟩)) (.pointer (some ⟨gx,0,none⟩)) A1 E.length c1 A2 Ew.length c2) ∧
   ∀ w3,w3 = w'.setCell ⟨g,4,none⟩ (.slice A2 Ew.length c2) → RestTwo w0 g d T (k + 1) w3 (.pointer (some ⟨s.t,0,none⟩)) (.pointer (some ⟨gx,0,none⟩)) a Dd Dl N b s.base Pw Ew A2 c2:=by
 have hdb:=h.hop.db w h.tx.db h.half
 have hf:w.frozen? ⟨s.x,10,none⟩ = false:=by rw [h.hop.sx];exact hdb.db.frozen 10
 refine (abort_any s h.hop.ok w v h.tx hf).mono ?_
 rintro e w' ⟨he,hw⟩
 rw [h.hop.sx] at hw
 have hg0:=h.g0
 have hxx:Ext (On a.x) w w':=hw ▸ Ext.setF (F:=On a.x) (Ext.refl _ _) (b:=a.x) (show On a.x a.x from rfl) _ _
 have hb2:=h.tb.ext hxx (fun e=>h.noD (.inr (.inr e)))
 refine ⟨he,hb2,fun w3 hw3=>?_⟩
 have hs:Ext (On g) w' w3:=hw3 ▸ Ext.setF (F:=On g) (Ext.refl _ _) (b:=g) (show On g g from rfl) _ _
 have hP:=hdb.parts
 have hcl:Closed w0 w' a Dd Dl T N b s.base:=⟨h.hop.log,⟨hdb.disk.ext hxx (fun x hx e=>hP.xd (by have e':x = a.x:=e;rw [← e'];exact hx)),hdb.wal.ext hxx (fun x hx e=>hP.xl (by have e':x = a.x:=e;rw [← e'];exact hx)),hw ▸ (hdb.db.set_ 10 _),hdb.half.ext hxx (fun e=>hP.zx (by have e':0 = a.x:=e;exact e'.symm)),hP,hdb.ll⟩,h.hop.lv,by rw [← h.hop.bh];exact h.hop.kept,h.hop.new,h.hop.h1,h.hop.cap,h.hop.cnt⟩
 have hxa:Ext (fun x=>(Dd x ∨ Dl x ∨ x = a.x) ∨ x = g) w w3:=(hxx.mono fun _ _ h=>.inl (.inr (.inr h))).trans_ (hs.mono fun _ _ h=>.inr h)
 refine ⟨hw3 ▸ (hb2.set_ 4 _),hcl.far hs h.hg hg0,h.was,h.rw,h.n,h.rb.later hxa (fun x hx=>.inl hx),h.mayw,Nat.le_succ_of_le h.lew,Nat.le_succ_of_le h.nk,h.hg,h.ex.trans hxa (fun x hx1 hh=>?_)⟩
 rcases hh with hh | hh
 ·have:=h.hop.new x hh;omega
 ·exact hh
end
def Play (w0:World) (g d:Nat) (T:Nat → Nat) (k:Nat) (w:World):Prop:=∃ s gx a Dd Dl N b v P E Pw Ew A1 c1 A2 c2,PlayAt w0 g d T k w s gx a Dd Dl N b v P E Pw Ew A1 c1 A2 c2
theorem may_nil {key val:Bs} (h:may key val = 0):may key [] = 0:=by
 unfold may at h ⊢
 split at h
 ·omega
 ·rename_i h1
  split at h
  ·omega
  ·rename_i h2
   rw [if_neg h1,if_neg (by simp only [List.length_nil];omega)]
theorem get_both {v:V} {root:Nat} {P:List Nat} {E:List Ent} (hT:TreeOf true v root P E) (key:Bs):∃ u is code,v.get root key = (u,is,code) ∧ refGet E key = .returned (.tuple #[.string (str u),.bool is,.int .i64 ((code:Nat):Int)]):=by
 by_cases hm:may key [] = 0
 ·have h1:=get_told hT hm
  unfold refGet
  rw [if_pos hm]
  cases hl:E.lookup key with
  | none=>rw [hl] at h1;exact ⟨_,_,_,h1,rfl⟩
  | some b=>rw [hl] at h1;exact ⟨_,_,_,h1,rfl⟩
 ·refine ⟨[],false,may key [],?_,?_⟩
  ·unfold V.get;rw [if_pos hm]
  ·unfold refGet;rw [if_neg hm]
theorem does_any {w0:World} {g d:Nat} {T:Nat → Nat} {k:Nat} {w:World} {s:Sys} {gx:Nat} {a:Dbp} {Dd Dl:Nat → Prop} {N:Nat} {b:Db} {v:V} {P:List Nat} {E:List Ent} {Pw:List Nat} {Ew:List Ent} {A1:Option Addr} {c1:Nat} {A2:Option Addr} {c2:Nat}
  (h:PlayAt w0 g d T k w s gx a Dd Dl N b v P E Pw Ew A1 c1 A2 c2) (hk:k < 60) (ac:Ac) (hf:ac.fits) :
  Calls Tryz.prog 34 #[.pointer (some ⟨g,0,none⟩),.agg #[.int .i64 ac.kind,.int .i64 ac.n,.string (str ac.key),.string (str ac.val)]] w fun e w'=>e = .returned (.bool true) ∧ Play w0 g d T (k + 1) w':=by
 obtain ⟨W,hW⟩:∃ W,W = w.alloc (.cells #[.int .i64 ac.kind,.int .i64 ac.n,.string (str ac.key),.string (str ac.val)] 53):=⟨_,rfl⟩
 have HEW:=Lib.hid (show Ext No w W from hW ▸ (Ext.refl _ _).alloc _)
 have HBW:=Lib.hid (show Blk W w.heap.size 53 #[.int .i64 ac.kind,.int .i64 ac.n,.string (str ac.key),.string (str ac.val)] from hW ▸ Blk.new w 53 _)
 have HP:=Lib.hid (h.no HEW.out)
 have hkl:ac.key.length < 2^63:=hf.2.2
 have hex:(str ac.key).extract 0 (min (ac.key.length:Int) 150).toNat = str (ac.key.take 150):=by
  rw [str_take]
  congr 1
  rw [show (min (ac.key.length:Int) 150).toNat = min 150 ac.key.length by omega,← List.take_take,List.take_length]
 have hks:=str_size ac.key
 have HVAL:=Lib.hid (fun w=>value_walk ac hf.1 hf.2.1 w)
 have HVW:Hid (∀ w1,Calls Tryz.prog 26 #[.agg #[.int .i64 ac.kind,.int .i64 ac.n,.string (str ac.key),.string (str ac.val)]] w1 fun e w'=>e = .returned (.string (str ac.value)) ∧ Ext No w1 w'):=Lib.hid (fun w1=>HVAL.out w1)
 have hvl:=ac.value_le
 obtain ⟨key,hkey⟩:∃ key,key = ac.key.take 150:=⟨_,rfl⟩
 rw [← hkey] at hex
 have HKK:=Lib.hid hk
 have HVL:=Lib.hid hvl
 obtain ⟨ga,hga⟩:∃ ga,ga = w.heap.size:=⟨_,rfl⟩
 rw [← hga] at HBW
 have HGW:Hid (ga = w.heap.size):=Lib.hid hga
 have hgt:Hid (∀ x,Ch a Dd Dl g s.F x → x < ga):=Lib.hid (fun x hx=>by rw [HGW.out];exact h.old hx)
 have HGL:=Lib.hid h.tb.lt
 have k0:=HBW.out.cell 0
 have k1:=HBW.out.cell 1
 have k2:=HBW.out.cell 2
 have k3:=HBW.out.cell 3
 simp at k0 k1 k2 k3
 have lc:=HBW.out.lt
 have g2:=h.tb.cell 2
 have g3:=h.tb.cell 3
 have g4:=h.tb.cell 4
 have g5:=h.tb.cell 5
 simp [twoCells] at g2 g3 g4 g5
 have lg:=h.tb.lt
 clear h hk hf hvl hkey hga
 by_cases h0:ac.kind = 0
 ·have hc:Hid (∃ code v2,(∀ w1,Ext No W w1 → Calls Tryz.prog 25 #[.pointer (some ⟨gx,0,none⟩),.string (str key),.string (str ac.value)] w1 fun e w2=>e = .returned (.int .i64 ((code:Nat):Int)) ∧ Hid (TxAt w2 s v2) ∧ Ext s.F W w2) ∧
    ∀ w1,Ext s.F W w1 → TxAt w1 s v2 → Calls Tryz.prog 38 #[.pointer (some ⟨g,4,none⟩),.string (str key),.string (str ac.value)] w1 fun e w2=>e = .returned (.int .i64 ((code:Nat):Int)) ∧ (w2.cell? ⟨g,3,none⟩ = some (.pointer (some ⟨gx,0,none⟩)) ∧ Ext (On g) w1 w2) ∧ Hid (Play w0 g d T (k + 1) w2)):=Lib.hid (by
   have hP:=HP.out
   have hput:=fun w1 (e1:Ext No W w1)=>put_full s hP.hop.ok w1 v (hP.tx.no hP.hop.ok e1) hP.one.sane.1 gx 1 (hP.tree.ext e1 (fun h=>h)) (by decide) key ac.value
   have hcap:=hP.cap
   by_cases hm:may key ac.value = 0
   ·obtain ⟨d1,P2,d3,d4⟩:=hP.one.put hm HVL.out (by have:=hP.le;have:=HKK.out;omega) (by have:=hP.le;have:=HKK.out;simp only [List.length_nil];omega)
    rw [hcap] at hput
    obtain ⟨v2,hv2⟩:∃ v2,v2 = (v.Put 400 1 key ac.value).2:=⟨_,rfl⟩
    refine ⟨0,v2,fun w1 e1=>(hput w1 e1).mono ?_,fun w1 e1 t1=>?_⟩
    ·rintro e w2 ⟨q1,q2,_,q4⟩
     rw [d1] at q1
     rw [← hv2] at q2
     exact ⟨q1,Lib.hid q2,e1.of_no.trans_ q4⟩
    ·have hst:V.Steps s.cap v v2:=by rw [hv2,hcap];exact (V.StepsB.refl (sp:=true)).Put _ _ _
     have hsp:v2.spoilt = false:=by
      rw [hv2]
      unfold V.Put
      rw [if_neg (by omega)]
      unfold V.sure
      have h0':(v.put0 400 1 key ac.value).1 = 0:=by
       by_cases hz:(v.put0 400 1 key ac.value).1 = 0
       ·exact hz
       ·exfalso
        unfold V.Put at d1
        rw [if_neg (by omega)] at d1
        unfold V.sure at d1
        rw [if_neg hz] at d1
        exact hz d1
      rw [if_pos h0',V.put0_clean]
      exact hP.sp
     rw [← hv2] at d3 d4
     have htb:=hP.tb.ext e1 hP.noF
     refine (refput_at w1 g 78 4 _ A1 c1 E key ac.value htb rfl ((hP.ra.ext (e1.mono fun _ _ h=>.inr (.inr h))).mono (fun _ _ h=>h.elim)) (by have:=hP.le;have:=HKK.out;omega) hm).mono ?_
     intro e w2 hd
     rw [rput_ins _ _ _ hP.one.sorted] at hd
     obtain ⟨A3,c3,hb3,_⟩:=hd.m
     have hc3:=hb3.cell 3
     simp [twoCells] at hc3
     refine ⟨hd.e,⟨hc3,hd.x⟩,Lib.hid ?_⟩
     obtain ⟨A3,c3,hp⟩:=hP.step (v2:=v2) t1 e1 d3 hst hsp (fun i hi=>d4.r i hi) (fun x hx=>by
      rcases insE_mem hx with rfl | hx
      ·exact may_nil hm
      ·exact hP.may x hx) (by have h1:=insE_len key ac.value E;have:=hP.le;omega) rfl hd
     exact ⟨_,_,_,_,_,_,_,_,_,_,_,_,_,_,_,_,hp⟩
   ·refine ⟨may key ac.value,v,fun w1 e1=>(hput w1 e1).mono ?_,fun w1 e1 t1=>(refput_no w1 _ key ac.value hm).mono ?_⟩
    ·rintro e w2 ⟨q1,q2,_,q4⟩
     have e2:v.Put s.cap 1 key ac.value = (may key ac.value,v):=by unfold V.Put;rw [if_pos hm]
     rw [e2] at q1 q2
     exact ⟨q1,Lib.hid q2,e1.of_no.trans_ q4⟩
    ·rintro e w2 ⟨q1,rfl⟩
     have htb:=hP.tb.ext e1 hP.noF
     have hc3:=htb.cell 3
     simp [twoCells] at hc3
     refine ⟨q1,⟨hc3,Ext.refl _ _⟩,Lib.hid ⟨s,gx,a,Dd,Dl,N,b,v,P,E,Pw,Ew,A1,c1,A2,c2,?_⟩⟩
     exact (hP.still t1 e1).more)
  obtain ⟨code,v2,hc25,hc38⟩:=hc.out
  have HC25:=Lib.hid hc25;have HC38:=Lib.hid hc38
  have HOFFG:Hid (¬ s.F g ∧ ¬ s.F ga ∧ g ≠ ga):=Lib.hid ⟨HP.out.noF,fun hf=>by have:=hgt.out ga (.inr (.inr hf));omega,fun e=>by have h1:=HGL.out;have h2:=HGW.out;omega⟩
  have HS:Hid (∀ w',Ext s.F W w' → w'.cell? ⟨g,3,none⟩ = some (.pointer (some ⟨gx,0,none⟩)) ∧ w'.cell? ⟨ga,0,none⟩ = some (.int .i64 ac.kind) ∧ w'.cell? ⟨ga,1,none⟩ = some (.int .i64 ac.n) ∧ w'.cell? ⟨ga,2,none⟩ = some (.string (str ac.key)) ∧ w'.cell? ⟨ga,3,none⟩ = some (.string (str ac.val))):=Lib.hid (fun w' e=>by
   have q:=HBW.out
   have c3:=HP.out.tb.cell 3
   have c0:=q.cell 0;have c1:=q.cell 1;have c2:=q.cell 2;have c4:=q.cell 3
   simp [twoCells] at c3
   simp at c0 c1 c2 c4
   exact ⟨cell_ext e c3 HOFFG.out.1,cell_ext e c0 HOFFG.out.2.1,cell_ext e c1 HOFFG.out.2.1,cell_ext e c2 HOFFG.out.2.1,cell_ext e c4 HOFFG.out.2.1⟩)
  have HS2:Hid (∀ w1 w',Ext s.F W w1 → Ext (On g) w1 w' → w'.cell? ⟨g,3,none⟩ = some (.pointer (some ⟨gx,0,none⟩)) → w'.cell? ⟨g,3,none⟩ = some (.pointer (some ⟨gx,0,none⟩)) ∧ w'.cell? ⟨ga,0,none⟩ = some (.int .i64 ac.kind) ∧ w'.cell? ⟨ga,1,none⟩ = some (.int .i64 ac.n) ∧ w'.cell? ⟨ga,2,none⟩ = some (.string (str ac.key)) ∧ w'.cell? ⟨ga,3,none⟩ = some (.string (str ac.val))):=Lib.hid (fun w1 w' e e2 c3=>by
   obtain ⟨_,c0,c1,c2,c4⟩:=HS.out w1 e
   have hne:¬ On g ga:=fun e=>HOFFG.out.2.2 (by have e1:ga = g:=e;exact e1.symm)
   exact ⟨c3,cell_ext e2 c0 hne,cell_ext e2 c1 hne,cell_ext e2 c2 hne,cell_ext e2 c4 hne⟩)
  have HOKS:=Lib.hid HP.out.hop.ok
  have HX0:Hid (Ext No W W.drew):=Lib.hid (Ext.refl No W).drew
  have hs0:=HS.out W.drew HX0.out.of_no
  rw [h0] at hW HVW HS HS2 k0
  rw [h0] at hs0
  rw [h0]
  clear hc hc25 hc38 HP HVAL hgt
  go_enter Tryz.func34,Tryz.ntmps34
  go_wp2_with fail
  rw [← hW,← HGW.out]
  clear k0 k1 k2 k3 g2 g3 g4 g5 hW hex hks
  go_region_held3 (fun w'=>w'.cell? ⟨g,3,none⟩ = some (.pointer (some ⟨gx,0,none⟩)) ∧ w'.cell? ⟨ga,0,none⟩ = some (.int .i64 0) ∧ w'.cell? ⟨ga,1,none⟩ = some (.int .i64 ac.n) ∧ w'.cell? ⟨ga,2,none⟩ = some (.string (str ac.key)) ∧ w'.cell? ⟨ga,3,none⟩ = some (.string (str ac.val)))
   (first | exact hs0 | exact HS2.out _ _ (HX8.out.trans_ hx9.of_no) hx10 hc10 | exact HS.out _ (HX8.out.trans_ hx9.of_no) | exact HS.out _ HX8.out | exact HS.out _ (HX0.out.trans_ hx7).of_no) (first
   | (go_at_call 26;have _g:=HX8;clear _g;refine (HVW.out _).mono ?_;rintro e w9 ⟨rfl,hx9⟩)
   | (go_at_call 26;refine (HVW.out _).mono ?_;rintro e w7 ⟨rfl,hx7⟩)
   | (go_at_call 25;refine (HC25.out _ (HX0.out.trans_ hx7)).mono ?_;rintro e w8 ⟨rfl,HT8,hx8⟩;have HX8:=Lib.hid hx8)
   | (go_at_call 38;refine (HC38.out _ (HX8.out.trans_ hx9.of_no) (HT8.out.no HOKS.out hx9)).mono ?_;rintro e w10 ⟨rfl,⟨hc10,hx10⟩,HPL⟩))
  go_wp2_with fail
  go_ret
  exact ⟨rfl,HPL.out⟩
 ·by_cases h1:ac.kind = 1
  ·obtain ⟨u,is,code,q1,q2⟩:=get_both HP.out.one.tree key
   have HG:Hid (Calls Tryz.prog 23 #[.pointer (some ⟨gx,0,none⟩),.string (str key)] W fun e w'=>e = .returned (.tuple #[.string (str u),.bool is,.int .i64 ((code:Nat):Int)]) ∧ Ext No W w'):=Lib.hid (by
    have:=get_full s HP.out.hop.ok W v HP.out.tx HP.out.one.sane.1 gx 1 HP.out.tree (by decide) key
    rw [q1] at this
    exact this)
   have HR:Hid (∀ w',Ext No W w' → Calls Tryz.prog 65 #[.pointer (some ⟨g,4,none⟩),.string (str key)] w' fun e w''=>e = .returned (.tuple #[.string (str u),.bool is,.int .i64 ((code:Nat):Int)]) ∧ w' = w''):=Lib.hid (fun w' e=>by
    have h2:=HP.out.no e
    have:=refget_at w' g 78 4 _ A1 c1 E key h2.tb rfl (h2.ra.mono (fun _ _ h=>h.elim))
    rw [q2] at this
    exact this)
   rw [h1] at hW k0
   rw [h1]
   clear hgt q1 q2 HVAL HVW
   go_enter Tryz.func34,Tryz.ntmps34
   go_wp2_with fail
   rw [← hW]
   refine (HG.out).mono ?_
   rintro e w7 ⟨rfl,hx7⟩
   have HX7:=Lib.hid hx7
   have l7:=(HP.out.no hx7).tb.lt
   clear hx7
   go_wp2_with fail
   refine (HR.out _ HX7.out).mono ?_
   rintro e w8 ⟨rfl,rfl⟩
   go_wp2_with fail
   go_ret
   exact ⟨rfl,_,_,_,_,_,_,_,_,_,_,_,_,_,_,_,_,(HP.out.no HX7.out).more⟩
  ·by_cases h2:ac.kind = 2
   ·have hc:Hid (∃ bb code v2,(Calls Tryz.prog 27 #[.pointer (some ⟨gx,0,none⟩),.string (str key)] W fun e w2=>e = .returned (.tuple #[.bool bb,.int .i64 ((code:Nat):Int)]) ∧ Hid (TxAt w2 s v2) ∧ Ext s.F W w2) ∧
      ∀ w1,Ext s.F W w1 → TxAt w1 s v2 → Calls Tryz.prog 37 #[.pointer (some ⟨g,4,none⟩),.string (str key)] w1 fun e w2=>e = .returned (.tuple #[.bool bb,.int .i64 ((code:Nat):Int)]) ∧ Hid (Play w0 g d T (k + 1) w2)):=Lib.hid (by
     have hP:=HP.out
     have hdel:=del_full s hP.hop.ok W v hP.tx hP.one.sane.1 gx 1 hP.tree (by decide) key
     have hcap:=hP.cap
     rw [hcap] at hdel
     by_cases hm:may key [] = 0
     ·obtain ⟨d1,d2,P2,d3,d4⟩:=hP.one.del hm (by have:=hP.le;have:=HKK.out;omega) (by have:=hP.le;have:=HKK.out;simp only [List.length_nil];omega)
      obtain ⟨v2,hv2⟩:∃ v2,v2 = (v.Del 400 1 key).2.2:=⟨_,rfl⟩
      refine ⟨decide ((del key E).length < E.length),0,v2,hdel.mono ?_,fun w1 e1 t1=>?_⟩
      ·rintro e w2 ⟨q1,q2,_,q4⟩
       rw [d1,d2] at q1
       rw [← hv2] at q2
       exact ⟨q1,Lib.hid q2,q4⟩
      ·have hst:V.Steps s.cap v v2:=by rw [hv2,hcap];exact (V.StepsB.refl (sp:=true)).Del _ _
       have hsp:v2.spoilt = false:=by
        rw [hv2]
        have h0':(v.del0 400 1 key).2.1 = 0:=by
         by_cases hz:(v.del0 400 1 key).2.1 = 0
         ·exact hz
         ·exfalso
          unfold V.Del at d2
          rw [if_neg (by omega),if_neg hz] at d2
          exact hz d2
        unfold V.Del
        rw [if_neg (by omega),if_pos h0']
        exact (V.StepsB.clean (V.StepsB.del0 .refl 1 key)).trans hP.sp
       rw [← hv2] at d3 d4
       have htb:=hP.tb.ext e1 hP.noF
       refine (refdel_at w1 g 78 4 _ A1 c1 E key htb rfl ((hP.ra.ext (e1.mono fun _ _ h=>.inr (.inr h))).mono (fun _ _ h=>h.elim)) hm).mono ?_
       intro e w2 hd
       refine ⟨hd.e,Lib.hid ?_⟩
       obtain ⟨A3,c3,hp⟩:=hP.step (v2:=v2) t1 e1 d3 hst hsp (fun i hi=>d4.r i hi) (fun x hx=>hP.may x (List.mem_filter.1 hx).1) (by have h1:=del_len key E;have:=hP.le;omega) rfl hd
       exact ⟨_,_,_,_,_,_,_,_,_,_,_,_,_,_,_,_,hp⟩
     ·refine ⟨false,may key [],v,hdel.mono ?_,fun w1 e1 t1=>(refdel_no w1 _ key hm).mono ?_⟩
      ·rintro e w2 ⟨q1,q2,_,q4⟩
       have e2:v.Del 400 1 key = (false,may key [],v):=by unfold V.Del;rw [if_pos hm]
       rw [e2] at q1 q2
       exact ⟨q1,Lib.hid q2,q4⟩
      ·rintro e w2 ⟨q1,rfl⟩
       exact ⟨q1,Lib.hid ⟨s,gx,a,Dd,Dl,N,b,v,P,E,Pw,Ew,A1,c1,A2,c2,(hP.still t1 e1).more⟩⟩)
    obtain ⟨bb,code,v2,hc27,hc37⟩:=hc.out
    have HC27:=Lib.hid hc27;have HC37:=Lib.hid hc37
    rw [h2] at hW k0
    rw [h2]
    clear hc hc27 hc37 hgt HVAL HVW
    go_enter Tryz.func34,Tryz.ntmps34
    go_wp2_with fail
    rw [← hW]
    refine (HC27.out).mono ?_
    rintro e w7 ⟨rfl,HT7,hx7⟩
    have HX7:=Lib.hid hx7
    have l7:=(HP.out.tb.ext hx7 HP.out.noF).lt
    clear hx7
    go_wp2_with fail
    refine (HC37.out _ HX7.out HT7.out).mono ?_
    rintro e w8 ⟨rfl,HPL⟩
    go_wp2_with fail
    go_ret
    exact ⟨rfl,HPL.out⟩
   ·by_cases h3:ac.kind = 3
    ·have HCM:=Lib.hid (HP.out.commit (by have:=HKK.out;omega))
     rw [h3] at hW k0
     rw [h3]
     clear hgt HVAL HVW
     go_enter Tryz.func34,Tryz.ntmps34
     go_wp2_with fail
     rw [← hW]
     refine (HCM.out).mono ?_
     intro e w7 hE
     obtain ⟨hb7,hE⟩:=HP.out.committed hE
     have m4:=hb7.cell 4
     have m5:=hb7.cell 5
     have f4:=hb7.frozen 4
     have f5:=hb7.frozen 5
     have l7:=hb7.lt
     simp [twoCells] at m4 m5
     rcases hE with ⟨rfl,hR⟩ | ⟨rfl,hR⟩
     ·have HR:=Lib.hid hR
      clear hR hb7
      go_wp2_with fail
      obtain ⟨Dd',Dl',b',base',hr⟩:=HR.out _ rfl
      refine (again_any hr (by have:=HKK.out;omega)).mono ?_
      rintro e w8 ⟨rfl,s2,gx2,hp⟩
      have HPL:Hid (Play w0 g d T (k + 1) w8):=Lib.hid ⟨_,_,_,_,_,_,_,_,_,_,_,_,_,_,_,_,hp⟩
      clear hp hr
      go_wp2_with fail
      go_ret
      exact ⟨rfl,HPL.out⟩
     ·have HR:=Lib.hid hR
      clear hR hb7
      go_wp2_with fail
      obtain ⟨Dd',Dl',b',base',hr⟩:=HR.out _ rfl
      refine (again_any hr (by have:=HKK.out;omega)).mono ?_
      rintro e w8 ⟨rfl,s2,gx2,hp⟩
      have HPL:Hid (Play w0 g d T (k + 1) w8):=Lib.hid ⟨_,_,_,_,_,_,_,_,_,_,_,_,_,_,_,_,hp⟩
      clear hp hr
      go_wp2_with fail
      go_ret
      exact ⟨rfl,HPL.out⟩
    ·have hn0:(ac.kind == 0) = false:=by simpa using h0
     have hn1:(ac.kind == 1) = false:=by simpa using h1
     have hn2:(ac.kind == 2) = false:=by simpa using h2
     have hn3:(ac.kind == 3) = false:=by simpa using h3
     have HCM:=Lib.hid (HP.out.abort)
     clear hgt HVAL HVW
     go_enter Tryz.func34,Tryz.ntmps34
     go_wp2_with fail
     rw [← hW]
     refine (HCM.out).mono ?_
     rintro e w7 ⟨rfl,hb7,hR⟩
     have m4:=hb7.cell 4
     have m5:=hb7.cell 5
     have f4:=hb7.frozen 4
     have f5:=hb7.frozen 5
     have l7:=hb7.lt
     simp [twoCells] at m4 m5
     have HR:=Lib.hid hR
     clear hR hb7
     go_wp2_with fail
     refine (again_any (HR.out _ rfl) (by have:=HKK.out;omega)).mono ?_
     rintro e w8 ⟨rfl,s2,gx2,hp⟩
     have HPL:Hid (Play w0 g d T (k + 1) w8):=Lib.hid ⟨_,_,_,_,_,_,_,_,_,_,_,_,_,_,_,_,hp⟩
     clear hp
     go_wp2_with fail
     go_ret
     exact ⟨rfl,HPL.out⟩
end Go.Proofs.YtccnemmlkcmceaaGreatDoor
