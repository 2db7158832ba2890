/- Proofs about the given program, joined out of the texts MK, W5, W6, W7. -/
import Derived.Test.YtccnemmlkcmceaaGreatDoorHE15
set_option linter.unusedVariables false
set_option linter.unusedSimpArgs false
set_option maxRecDepth 100000
set_option maxHeartbeats 6400000
namespace Go.Proofs.YtccnemmlkcmceaaGreatDoor
open Go.RowKit
inductive V.StepsB (cap:Nat) (sp:Bool) (v:V):V → Prop
 | refl:V.StepsB cap sp v v
 | alloc {u:V}:V.StepsB cap sp v u → V.StepsB cap sp v (u.alloc cap).2.2
 | set {u:V} (id k:Nat) (b:Bs):1 ≤ k → k ≤ 254 → V.StepsB cap sp v u → V.StepsB cap sp v (u.set id k b).2
 | drop {u:V} (id:Nat):V.StepsB cap sp v u → V.StepsB cap sp v (u.drop id).2
 | setR {u:V} (i n:Nat):V.StepsB cap sp v u → V.StepsB cap sp v (u.setR i n)
 | spoil {u:V}:sp = true → V.StepsB cap sp v u → V.StepsB cap sp v u.spoil
abbrev V.Steps (cap:Nat) (v u:V):Prop:=V.StepsB cap true v u
section
variable {cap:Nat} {sp:Bool} {v u x:V}
theorem V.StepsB.wr (h:V.StepsB cap sp v u) (id:Nat) (n:Nd):V.StepsB cap sp v (u.wr id n).2:=by
 unfold V.wr
 split
 ·exact h.set id 2 _ (by omega) (by omega)
 ·exact h
theorem V.StepsB.fresh (h:V.StepsB cap sp v u) (n:Nd):V.StepsB cap sp v (u.fresh cap n).2.2:=by
 unfold V.fresh
 split
 ·exact h.alloc.wr _ n
 ·exact h.alloc
theorem chainLoop_steps (val:Bs):∀ (k next:Nat) (u:V),V.StepsB cap sp v u → V.StepsB cap sp v (chainLoop cap val k next u).2.2
 | 0,next,u,h=>h
 | k + 1,next,u,h=>by
  rw [chainLoop]
  split
  ·split
   ·exact chainLoop_steps val k _ _ (h.alloc.set _ 3 _ (by omega) (by omega))
   ·exact h.alloc.set _ 3 _ (by omega) (by omega)
  ·exact h.alloc
theorem V.StepsB.mkCell (h:V.StepsB cap sp v u) (key val:Bs):V.StepsB cap sp v (u.mkCell cap key val).2.2:=by
 unfold V.mkCell V.chain
 split
 ·exact h
 ·exact chainLoop_steps val _ _ _ h
theorem dropLoop_steps:∀ (k id:Nat) (u:V),V.StepsB cap sp v u → V.StepsB cap sp v (V.dropLoop k id u).2
 | 0,id,u,h=>h
 | k + 1,id,u,h=>by
  rw [V.dropLoop]
  split
  ·exact h
  ·split
   ·exact h
   ·split
    ·exact dropLoop_steps k _ _ (h.drop _)
    ·exact h.drop _
theorem V.StepsB.letGo (h:V.StepsB cap sp v u) (c:Cell):V.StepsB cap sp v (u.letGo c).2:=dropLoop_steps _ _ _ h
theorem grow_steps (root:Nat):∀ (ws:List Stp) (n:Nd) (u:V),V.StepsB cap sp v u → V.StepsB cap sp v (V.grow cap root ws n u).2
 | [],n,u,h=>h
 | st :: up,n,u,h=>by
  rw [V.grow]
  split
  ·exact h.wr _ n
  ·split
   ·exact h.wr _ n
   ·split
    ·exact (h.wr _ n).wr _ _
    ·split
     ·exact ((h.wr _ n).wr _ _).fresh _
     ·split
      ·split
       ·exact (((h.wr _ n).wr _ _).fresh _).fresh _
       ·exact ((((h.wr _ n).wr _ _).fresh _).fresh _).setR _ _
      ·exact grow_steps root _ _ _ (((h.wr _ n).wr _ _).fresh _)
theorem V.StepsB.put0 (h:V.StepsB cap sp v u) (root:Nat) (key val:Bs):V.StepsB cap sp v (u.put0 cap root key val).2:=by
 unfold V.put0
 split
 ·exact h
 ·split
  ·exact h.mkCell key val
  ·split
   ·split
    ·exact (h.mkCell key val).fresh _
    ·exact ((h.mkCell key val).fresh _).setR _ _
   ·split
    ·exact grow_steps root _ _ _ (h.mkCell key val)
    ·split
     ·exact (h.mkCell key val).letGo _
     ·exact grow_steps root _ _ _ ((h.mkCell key val).letGo _)
theorem V.StepsB.Put (h:V.StepsB cap true v u) (root:Nat) (key val:Bs):V.StepsB cap true v (u.Put cap root key val).2:=by
 unfold V.Put V.sure
 split
 ·exact h
 ·split
  ·exact h.put0 root key val
  ·exact (h.put0 root key val).spoil rfl
def V.Kd (v:V):Prop:=∀ i,1 ≤ i → i < v.high → 1 ≤ (v.pg i).kind ∧ (v.pg i).kind ≤ 255
theorem V.Kd.put {v:V} (h:v.Kd) (id:Nat) (p:Leaf) (hp:1 ≤ p.kind ∧ p.kind ≤ 255):(v.put id p).Kd:=by
 intro i h1 h2
 show 1 ≤ (if i = id then p else v.pg i).kind ∧ _
 have e:(v.put id p).pg i = if i = id then p else v.pg i:=rfl
 rw [e]
 split
 ·exact hp
 ·exact h i h1 h2
theorem V.StepsB.kd (h:V.StepsB cap sp v u) (hv:v.Kd):u.Kd:=by
 induction h with
 | refl=>exact hv
 | @alloc u h ih =>
  unfold V.alloc
  split
  ·split
   ·exact ih
   ·intro i h1 h2
    show 1 ≤ (if i = u.high then (⟨1,[]⟩:Leaf) else u.pg i).kind ∧ (if i = u.high then (⟨1,[]⟩:Leaf) else u.pg i).kind ≤ 255
    split
    ·exact ⟨by simp,by simp⟩
    ·have h3:i < u.high + 1:=h2
     exact ih i h1 (by omega)
  ·exact V.Kd.put (v:={ u with free:=v4 (str (u.pg u.free).body),cnt:=u.cnt - 1,marked:=true }) ih _ _ ⟨by simp,by simp⟩
 | @set u id k b h1 h2 h ih =>
  unfold V.set
  split
  ·exact ih.put _ _ ⟨h1,by show k ≤ 255;omega⟩
  ·exact ih
 | @drop u id h ih =>
  unfold V.drop
  split
  ·exact V.Kd.put (v:={ u with free:=id,cnt:=u.cnt + 1,marked:=true }) ih _ _ ⟨by simp,by simp⟩
  ·exact ih
 | setR i n h ih=>exact ih
 | spoil _ h ih=>exact ih
end
theorem Cell.enc_len' (c:Cell):c.enc.length = c.size:=by
 unfold Cell.enc Cell.size txt
 split
 ·simp [n4];omega
 ·simp;omega
theorem encCells_len' (cs:List Cell):(encCells cs).length = sumC cs:=by
 induction cs with
 | nil=>rfl
 | cons c cs ih=>simp only [encCells,List.flatMap_cons,List.length_append,sumC,List.map_cons,List.sum_cons] at *;rw [ih,c.enc_len']
theorem encKeys_len' (ks:List Bs):∀ is:List Nat,is.length = ks.length → (encKeys ks is).length = sumK ks:=by
 induction ks with
 | nil=>intro is _;cases is <;> rfl
 | cons k ks ih =>
  intro is h
  match is,h with
  | i :: is,h =>
   have:=ih is (by simpa using h)
   simp only [encKeys,List.length_append,sumK,List.map_cons,List.sum_cons,txt,List.length_cons,n4] at *
   rw [this];simp;omega
theorem Nd.enc_len {n:Nd} (h:n.ok = true):n.enc.length = n.size:=by
 have hO:=Nd.Ok.of h
 unfold Nd.enc Nd.size
 cases hl:n.leaf
 ·obtain ⟨h1,h2⟩:=hO.br hl
  have h3:n.kids.tail.length = n.keys.length:=by simp;omega
  simp only [Bool.false_eq_true,if_false,List.length_cons,List.length_append,encKeys_len' _ _ h3,h1]
  simp [n4,sumC];omega
 ·obtain ⟨h1,h2⟩:=hO.lf hl
  simp [encCells_len',h1,sumK];omega
theorem Nd.out_len (n:Nd):n.out.1.length ≤ 500:=by
 unfold Nd.out
 split
 ·simp
 ·split
  ·simp
  ·rename_i h1 h2
   rw [Nd.enc_len (by simpa using h1)]
   omega
theorem V.Good.wr {v:V} (h:v.Good) (id:Nat) (n:Nd):(v.wr id n).2.Good:=by
 unfold V.wr
 split
 ·exact h.set _ _ _ (by decide) n.out_len
 ·exact h
theorem V.set_high (v:V) (id k:Nat) (b:List UInt8):(v.set id k b).2.high = v.high:=by unfold V.set;split <;> rfl
theorem V.wr_high (v:V) (id:Nat) (n:Nd):(v.wr id n).2.high = v.high:=by
 unfold V.wr;split
 ·exact v.set_high _ _ _
 ·rfl
theorem NodeAt.box {w:World} {F:Nat → Prop} {A1:Option Addr} {c1:Nat} {A2:Option Addr} {c2:Nat} {A3:Option Addr} {c3:Nat} {n:Nd} (h:NodeAt w F A1 c1 A2 c2 A3 c3 n) (o:Obj):NodeAt (w.alloc o) F A1 c1 A2 c2 A3 c3 n:=h.ext ((Ext.refl _ w).alloc o)
theorem wr_any (s:Sys) (hs:s.Ok) (w:World) (v:V) (h:TxAt w s v) (hg:v.Good) (gx i:Nat) (hx:Blk w gx 70 (treeCells s i)) (id:Nat)
  (n:Nd) (F:Nat → Prop) (A1:Option Addr) (c1:Nat) (A2:Option Addr) (c2:Nat) (A3:Option Addr) (c3:Nat) (hn:NodeAt w F A1 c1 A2 c2 A3 c3 n) (hf:n.fits) :
  Calls Tryz.prog 141 #[.pointer (some ⟨gx,0,none⟩),.int .i64 (id:Int),n.value A1 c1 A2 c2 A3 c3] w fun e w'=>e = .returned (.int .i64 ((v.wr id n).1:Int)) ∧ TxAt w' s (v.wr id n).2 ∧ (v.wr id n).2.Good ∧ Ext s.F w w':=by
 have HG:=Lib.hid (hg.wr id n)
 have HT:=Lib.hid (fun (w':World) (e:Ext No w w')=>h.no hs e)
 have HN:=Lib.hid (fun o=>encode_any n (w.alloc o) F A1 c1 A2 c2 A3 c3 (hn.box o) hf)
 have HW:=Lib.hid (fun w h=>write_any s hs w v h id 2 n.out.1 (by decide) (by decide) n.out_len)
 have c0:=hx.cell 0
 simp [treeCells] at c0
 have hgl:=hx.lt
 unfold V.wr at HG ⊢
 generalize hn1:n.out.1 = b at *
 generalize hn2:n.out.2 = k at *
 simp only [Nd.value] at HN ⊢
 generalize n.cells.length = nl at *
 generalize n.keys.length = kl at *
 generalize n.kids.length = il at *
 by_cases hk:k = 0
 ·subst hk
  rw [if_pos rfl] at HG ⊢
  clear hn1 hn2 hn hf hx hg h
  go_enter Tryz.func141,Tryz.ntmps141
  go_wp2_with fail
  refine (HN.out _).mono ?_
  rintro e w1 ⟨rfl,hx1⟩
  have hE:Ext No w w1:=((Ext.refl No w).alloc _).trans_ hx1
  have c1:=cell_ext hE c0 (fun h=>h)
  go_wp2_with fail
  refine (HW.out _ (HT.out _ hE)).mono ?_
  rintro e w2 ⟨rfl,hT,hx2⟩
  go_wp2_with fail
  go_ret
  exact ⟨rfl,hT,HG.out,hE.of_no.trans_ hx2⟩
 ·rw [if_neg hk] at HG ⊢
  have hk':((k:Int) != 0) = true:=by simpa using (by omega:¬ (k:Int) = 0)
  clear hn1 hn2 hn hf hx hg h hk
  go_enter Tryz.func141,Tryz.ntmps141
  go_wp2_with fail
  refine (HN.out _).mono ?_
  rintro e w1 ⟨rfl,hx1⟩
  have hE:Ext No w w1:=((Ext.refl No w).alloc _).trans_ hx1
  go_wp2_with fail
  go_ret
  exact ⟨rfl,HT.out _ hE,HG.out,hE.of_no⟩
theorem V.Good.fresh {v:V} (h:v.Good) {cap:Nat} (h1:v.high ≤ cap) (h2:cap ≤ 65536) (n:Nd):(v.fresh cap n).2.2.Good ∧ (v.fresh cap n).2.2.high ≤ cap:=by
 obtain ⟨g1,g2⟩:=h.alloc h1 h2
 unfold V.fresh
 split
 ·exact ⟨g1.wr _ _,by rw [V.wr_high];exact g2⟩
 ·exact ⟨g1,g2⟩
theorem Sys.cap_le {s:Sys} (hs:s.Ok):s.cap ≤ 65536:=by unfold Sys.cap;have:=hs.n2;omega
theorem fresh_any (s:Sys) (hs:s.Ok) (w:World) (v:V) (h:TxAt w s v) (hg:v.Good) (gx i:Nat) (hx:Blk w gx 70 (treeCells s i))
  (n:Nd) (F:Nat → Prop) (A1:Option Addr) (c1:Nat) (A2:Option Addr) (c2:Nat) (A3:Option Addr) (c3:Nat) (hn:NodeAt w F A1 c1 A2 c2 A3 c3 n) (hf:n.fits) (hF:∀ b,s.F b → F b) :
  Calls Tryz.prog 98 #[.pointer (some ⟨gx,0,none⟩),n.value A1 c1 A2 c2 A3 c3] w fun e w'=>e = .returned (.tuple #[.int .i64 ((v.fresh s.cap n).1:Int),.int .i64 ((v.fresh s.cap n).2.1:Int)]) ∧ TxAt w' s (v.fresh s.cap n).2.2 ∧ (v.fresh s.cap n).2.2.Good ∧ Ext s.F w w':=by
 have HG:=Lib.hid (hg.fresh h.h2 (Sys.cap_le hs) n).1
 have HA:=Lib.hid (fun o=>alloc_any s hs (w.alloc o) v (h.no hs ((Ext.refl No w).alloc o)) hg)
 have HW:=Lib.hid (fun w' h' hx hn=>wr_any s hs w' (v.alloc s.cap).2.2 h' (hg.alloc h.h2 (Sys.cap_le hs)).1 gx i hx (v.alloc s.cap).1 n F A1 c1 A2 c2 A3 c3 hn hf)
 have c0:=hx.cell 0
 simp [treeCells] at c0
 have hgl:=hx.lt
 have HN:=Lib.hid hn
 have HX:=Lib.hid (fun (w':World) (e:Ext s.F w w')=>tree_ext h hx e)
 have HO:=Lib.hid (fun b (hb:s.F b)=>h.old hb)
 unfold V.fresh at HG ⊢
 simp only [Nd.value] at HW ⊢
 generalize hnl:n.cells.length = nl at HW ⊢
 generalize hkl:n.keys.length = kl at HW ⊢
 generalize hil:n.kids.length = il at HW ⊢
 generalize hn1:(v.alloc s.cap).1 = id at *
 generalize hn2:(v.alloc s.cap).2.1 = k at *
 generalize hn3:(v.alloc s.cap).2.2 = v' at *
 generalize hwr:v'.wr id n = r at *
 by_cases hk:k = 0
 ·subst hk
  rw [if_pos rfl] at HG ⊢
  clear hn1 hn2 hn3 hwr hn hf hx hg h hnl hkl hil
  go_enter Tryz.func98,Tryz.ntmps98
  go_wp2_with fail
  refine (HA.out _).mono ?_
  rintro e w1 ⟨rfl,hT1,hx1⟩
  have hE:Ext s.F w w1:=((Ext.refl s.F w).alloc _).trans_ hx1
  have hb:=(Blk.new w 40 #[.bool n.leaf,.slice A1 nl c1,.slice A2 kl c2,.slice A3 il c3]).ext hx1 (fun h=>absurd (HO.out _ h) (by omega))
  obtain ⟨p0,p1,p2,p3,g0,g1,g2,g3,ln⟩:=hb.p4
  go_wp2_with fail
  refine (HW.out _ hT1 (HX.out _ hE) (HN.out.ext (hE.mono (fun b _=>hF b)))).mono ?_
  rintro e w2 ⟨rfl,hT2,hG2,hx2⟩
  go_wp2_with fail
  go_ret2
  exact ⟨rfl,hT2,hG2,hE.trans_ hx2⟩
 ·rw [if_neg hk] at HG ⊢
  have hk':((k:Int) != 0) = true:=by simpa using (by omega:¬ (k:Int) = 0)
  clear hn1 hn2 hn3 hwr hn hf hx hg h hnl hkl hil hk
  go_enter Tryz.func98,Tryz.ntmps98
  go_wp2_with fail
  refine (HA.out _).mono ?_
  rintro e w1 ⟨rfl,hT1,hx1⟩
  have hE:Ext s.F w w1:=((Ext.refl s.F w).alloc _).trans_ hx1
  go_wp2_with fail
  go_ret2
  exact ⟨rfl,hT1,HG.out,hE⟩
theorem node_back {Q:Ending → World → Prop} {a:Act} {w:World} (b:Nat) (cs:Array Value) (hb:Blk w b 40 cs) {v:Value} (hs:some 4 = some cs.size) (hp:a.tmps.getD 4 undef = .pointer (some ⟨b,0,none⟩)) (h3:a.tmps.getD 5 undef = v) (hd:a.defers = [])
  (h:Q (.returned (.tuple #[.agg cs,v])) w):bodyPost Tryz.prog Tryz.f16 Q Exit.ret a w:=by
 refine bodyPost_ret (v:=.tuple #[.agg cs,v]) (w:=w) ?_ hd h
 have hl:=run_loadVar_row w b 40 40 cs (0,0) _ hb Tryz.underlying40 rfl (by rw [← hs];kernel_rfl)
 rw [results_cell_tmp rfl,hp,h3]
 simp [asAddr,Result.andThen,hl]
theorem node_any (s:Sys) (hs:s.Ok) (w:World) (v:V) (h:TxAt w s v) (hg:v.Good) (gx i:Nat) (hx:Blk w gx 70 (treeCells s i)) (id:Nat) :
  Calls Tryz.prog 16 #[.pointer (some ⟨gx,0,none⟩),.int .i64 (id:Int)] w (Told w (v.node id)):=by
 have HN:=Lib.hid (none_no ⟨s.t,0,none⟩ (.int .i64 (i:Int)) gx)
 have HR:=Lib.hid (fun o=>read_any s hs (w.alloc o) v (h.no hs ((Ext.refl No w).alloc o)) id)
 have HX:=Lib.hid hx
 have c0:=hx.cell 0
 simp [treeCells] at c0
 have hgl:=hx.lt
 unfold V.node
 by_cases he:v.err id = 0
 ·have hr:v.read id = ((v.pg id).kind,(v.pg id).body,0):=by simp [V.read,he]
  have hbd:=V.good_bd hg he
  rw [if_pos he]
  rw [hr] at HR
  clear hr he
  generalize (v.pg id).kind = k at *
  generalize (v.pg id).body = b at *
  by_cases hk:k = 2
  ·subst hk
   rw [if_pos rfl]
   have HD:=Lib.hid (fun w=>decode_any b w (by omega))
   generalize dec b = D at *
   clear hx hbd
   go_enter Tryz.func16,Tryz.ntmps16
   go_wp2_with fail
   refine (HN.out _ (HX.out.alloc _)).mono ?_
   rintro e' w1 ⟨rfl,rfl⟩
   go_wp2_with fail
   refine (HR.out _).mono ?_
   rintro e' w1 ⟨rfl,hx1⟩
   have hE1:Ext No w w1:=((Ext.refl No w).alloc _).trans_ hx1
   have bn:=(Blk.new w 40 #[.bool false,.slice none 0 0,.slice none 0 0,.slice none 0 0]).ext hx1 (fun h=>h)
   go_wp2_with fail
   refine (HD.out _).mono ?_
   rintro e' w2 ⟨hx2,hr⟩
   have bn2:=bn.ext hx2 (fun h=>h)
   obtain ⟨p0,p1,p2,p3,g0,g1,g2,g3,ln⟩:=bn2.p4
   cases D with
   | none =>
    simp only at hr
    subst hr
    simp only [Nd.zero]
    go_wp2_with fail
    refine node_back w.heap.size _ (bn2.put4 (.bool false) (.slice none 0 0) (.slice none 0 0) (.slice none 0 0)) rfl rfl rfl rfl ?_
    exact ⟨((((hE1.trans_ hx2).setNew (by omega) _ _).setNew (by omega) _ _).setNew (by omega) _ _).setNew (by omega) _ _,rfl⟩
   | some n =>
    obtain ⟨A1,c1,A2,c2,A3,c3,hr,hn⟩:=hr
    subst hr
    simp only [Nd.value]
    go_wp2_with fail
    refine node_back w.heap.size _ (bn2.put4 (.bool n.leaf) (.slice A1 n.cells.length c1) (.slice A2 n.keys.length c2) (.slice A3 n.kids.length c3)) rfl rfl rfl rfl ?_
    refine ⟨((((hE1.trans_ hx2).setNew (by omega) _ _).setNew (by omega) _ _).setNew (by omega) _ _).setNew (by omega) _ _,A1,c1,A2,c2,A3,c3,rfl,?_⟩
    have hsz:=hx1.size
    simp at hsz
    have hin:Old w1 w.heap.size:=by show w.heap.size < w1.heap.size;omega
    have hz:Ext (Old w1) w2 _:=((((Ext.refl _ w2).setF hin 0 (.bool n.leaf)).setF hin 1 (.slice A1 n.cells.length c1)).setF hin 2 (.slice A2 n.keys.length c2)).setF hin 3 (.slice A3 n.kids.length c3)
    exact (hn.ext hz).mono (fun b _ hb=>by unfold Old at hb ⊢;omega)
  ·rw [if_neg hk]
   have hk':((k:Int) != 2) = true:=by simpa using (by omega:¬ (k:Int) = 2)
   clear hx hbd hk
   go_enter Tryz.func16,Tryz.ntmps16
   go_wp2_with fail
   refine (HN.out _ (HX.out.alloc _)).mono ?_
   rintro e' w1 ⟨rfl,rfl⟩
   go_wp2_with fail
   refine (HR.out _).mono ?_
   rintro e' w1 ⟨rfl,hx1⟩
   have hE1:Ext No w w1:=((Ext.refl No w).alloc _).trans_ hx1
   have bn:=(Blk.new w 40 #[.bool false,.slice none 0 0,.slice none 0 0,.slice none 0 0]).ext hx1 (fun h=>h)
   obtain ⟨p0,p1,p2,p3,g0,g1,g2,g3,ln⟩:=bn.p4
   go_wp2_with fail
   refine node_back w.heap.size _ (bn.put4 (.bool false) (.slice none 0 0) (.slice none 0 0) (.slice none 0 0)) rfl rfl rfl rfl ?_
   exact ⟨(((hE1.setNew (by omega) _ _).setNew (by omega) _ _).setNew (by omega) _ _).setNew (by omega) _ _,rfl⟩
 ·have hr:v.read id = (0,[],v.err id):=by simp [V.read,he]
  rw [if_neg he]
  rw [hr] at HR
  have he':v.err id = 2 ∨ v.err id = 8:=by
   rcases V.err_cases he with ⟨h,_⟩ | ⟨h,_⟩
   ·exact .inl h
   ·exact .inr h
  clear hr he hx
  generalize v.err id = k at *
  rcases he' with rfl | rfl
  all_goals
   go_enter Tryz.func16,Tryz.ntmps16
   go_wp2_with fail
   refine (HN.out _ (HX.out.alloc _)).mono ?_
   rintro e' w1 ⟨rfl,rfl⟩
   go_wp2_with fail
   refine (HR.out _).mono ?_
   rintro e' w1 ⟨rfl,hx1⟩
   have hE1:Ext No w w1:=((Ext.refl No w).alloc _).trans_ hx1
   have bn:=(Blk.new w 40 #[.bool false,.slice none 0 0,.slice none 0 0,.slice none 0 0]).ext hx1 (fun h=>h)
   obtain ⟨p0,p1,p2,p3,g0,g1,g2,g3,ln⟩:=bn.p4
   go_wp2_with fail
   refine node_back w.heap.size _ (bn.put4 (.bool false) (.slice none 0 0) (.slice none 0 0) (.slice none 0 0)) rfl rfl rfl rfl ?_
   exact ⟨(((hE1.setNew (by omega) _ _).setNew (by omega) _ _).setNew (by omega) _ _).setNew (by omega) _ _,rfl⟩
theorem Tryz.info125:(Tryz.prog.info? 125).map (fun i=>(i.zero,i.size,i.bytes)) = some (some (.agg #[.int .i64 0,.bool false,.slice none 0 0,.slice none 0 0,.slice none 0 0,.int .i64 0]),6,96):=by kernel_rfl
structure Adr where
 A1:Option Addr
 c1:Nat
 A2:Option Addr
 c2:Nat
 A3:Option Addr
 c3:Nat
abbrev NodeIn (w:World) (F:Nat → Prop) (a:Adr) (n:Nd):Prop:=NodeAt w F a.A1 a.c1 a.A2 a.c2 a.A3 a.c3 n
def Stp.vals (st:Stp) (a:Adr):List Value:=[.int .i64 (st.id:Int),.bool st.n.leaf,.slice a.A1 st.n.cells.length a.c1,.slice a.A2 st.n.keys.length a.c2,.slice a.A3 st.n.kids.length a.c3,.int .i64 (st.i:Int)]
def stpVals (l:List (Stp × Adr)):List Value:=l.flatMap fun p=>p.1.vals p.2
theorem stpVals_push (l:List (Stp × Adr)) (p:Stp × Adr):stpVals (l ++ [p]) = stpVals l ++ p.1.vals p.2:=by simp [stpVals]
theorem Stp.one (st:Stp) (a:Adr):∀ u ∈ st.vals a,u.oneCell' = true:=by
 intro u hu
 simp [Stp.vals] at hu
 rcases hu with rfl | rfl | rfl | rfl | rfl | rfl <;> simp [Value.oneCell']
structure WayAt (w:World) (F:Nat → Prop) (A:Option Addr) (cap:Nat) (l:List (Stp × Adr)):Prop where
 rd:Rd w F 6 A l.length (stpVals l)
 cap:l.length ≤ cap
 nodes:∀ p ∈ l,NodeIn w F p.2 p.1.n
 len:l.length ≤ 41
theorem WayAt.ext {w w':World} {F:Nat → Prop} {A:Option Addr} {cap:Nat} {l:List (Stp × Adr)} (h:WayAt w F A cap l) (he:Ext F w w'):WayAt w' F A cap l :=
 ⟨h.rd.ext he,h.cap,fun p hp=>(h.nodes p hp).ext he,h.len⟩
theorem WayAt.mono {w:World} {F G:Nat → Prop} {A:Option Addr} {cap:Nat} {l:List (Stp × Adr)} (h:WayAt w F A cap l) (hG:∀ b,b < w.heap.size → G b → F b):WayAt w G A cap l :=
 ⟨h.rd.mono (by omega) hG,h.cap,fun p hp=>(h.nodes p hp).mono hG,h.len⟩
def WayTold (w:World) (o:Option (List Stp)) (e:Ending) (w':World):Prop :=
 Ext No w w' ∧ match o with
  | none=>e = .returned (.tuple #[.slice none 0 0,.int .i64 5])
  | some ws=>∃ A cap l,l.map (·.1) = ws ∧ e = .returned (.tuple #[.slice A ws.length cap,.int .i64 0]) ∧ WayAt w' (Old w) A cap l
theorem dec_ok {s:Bs} {n:Nd} (h:dec s = some n):n.ok = true:=by
 unfold dec at h
 repeat' split at h
 all_goals first | (cases h;done) | (injection h with h;subst h;assumption)
theorem V.node_ok {v:V} {id:Nat} {n:Nd} (h:v.node id = some n):n.ok = true:=by
 unfold V.node at h
 repeat' split at h
 all_goals first | (cases h;done) | exact dec_ok h
theorem Nd.find_le {n:Nd} (hk:n.ok = true) (key:Bs):(n.leaf = true → (n.find key).1 ≤ n.cells.length) ∧ (n.leaf = false → (n.find key).1 < n.kids.length):=by
 have hO:=Nd.Ok.of hk
 constructor
 ·intro hl
  simp only [Nd.find,hl,if_true]
  have:=rank_le (n.cells.map Cell.key) key
  simpa using this
 ·intro hl
  obtain ⟨_,h2⟩:=hO.br hl
  simp only [Nd.find,hl,Bool.false_eq_true,if_false]
  have:=rank_le n.keys key
  split
  ·rename_i h
   have:rank n.keys key < n.keys.length:=by
    rcases Nat.lt_or_ge (rank n.keys key) n.keys.length with h' | h'
    ·exact h'
    ·rw [List.getElem?_eq_none h'] at h;cases h
   omega
  ·omega
def Off (base:Nat) (v:Value):Nat → Prop:=fun b=>b < base ∨ v.ownBlock = some b
structure WS (w:World) (base:Nat) (A:Option Addr) (cap:Nat) (l:List (Stp × Adr)):Prop where
 own:w.ownsRow base 125 6 (.slice A l.length cap) l.length (stpVals l)
 nodes:∀ p ∈ l,NodeIn w (Off base (.slice A l.length cap)) p.2 p.1.n
theorem WS.ext {w w':World} {base:Nat} {A:Option Addr} {cap:Nat} {l:List (Stp × Adr)} (h:WS w base A cap l) (he:Ext No w w'):WS w' base A cap l :=
 ⟨own_ext h.own he (fun _ _ h=>h),fun p hp=>(h.nodes p hp).ext he.of_no⟩
theorem WS.push {w w':World} {base:Nat} {A:Option Addr} {cap:Nat} {l:List (Stp × Adr)} (h:WS w base A cap l) {p:Stp × Adr} {g cap2 H:Nat} (hb:base ≤ w.heap.size)
  (ho:w'.ownsRow base 125 6 (.slice (some ⟨g,0,none⟩) (l.length + 1) cap2) (l.length + 1) (stpVals l ++ p.1.vals p.2)) (hg:w.grownBy w' (Value.slice A l.length cap).ownBlock)
  (hat:(Value.slice A l.length cap).ownBlock = some g ∨ g = H) (hH:H = w.heap.size) (hn:NodeIn w (Off base (.slice A l.length cap)) p.2 p.1.n) :
  WS w' base (some ⟨g,0,none⟩) cap2 (l ++ [p]):=by
 have e1:(l ++ [p]).length = l.length + 1:=by simp
 refine ⟨by rw [e1,stpVals_push];exact ho,fun q hq=>?_⟩
 have hq':NodeIn w (Off base (.slice A l.length cap)) q.2 q.1.n:=by
  rcases List.mem_append.1 hq with hq | hq
  ·exact h.nodes q hq
  ·simp at hq;subst hq;exact hn
 have hx:Ext (Off base (.slice A l.length cap)) w w':=⟨hg.os,hg.tape,hg.output,hg.size,fun i hi hne=>hg.block i hi (fun e=>hne (.inr e.symm))⟩
 have hm:NodeIn w (fun b=>Off base (.slice A l.length cap) b ∨ Off base (.slice (some ⟨g,0,none⟩) (l ++ [p]).length cap2) b) q.2 q.1.n:=by
  refine hq'.mono (fun b hb' hb2=>?_)
  rcases hb2 with hb2 | hb2
  ·exact hb2
  ·rcases hb2 with hb2 | hb2
   ·exact .inl hb2
   ·rcases hat with hat | hat
    ·exact .inr (hat.trans hb2)
    ·have hb3:g = b:=by simpa [Value.ownBlock] using hb2
     omega
 exact (hm.ext (hx.mono fun b _ h=>.inl h)).mono fun b _ h=>.inr h
theorem way_any (s:Sys) (hs:s.Ok) (w:World) (v:V) (h:TxAt w s v) (hg:v.Good) (gx i:Nat) (hx:Blk w gx 70 (treeCells s i)) (hi:i < 4) (key:Bs) :
  Calls Tryz.prog 60 #[.pointer (some ⟨gx,0,none⟩),.string (str key)] w (WayTold w (v.way i key)):=by
 have HR:=Lib.hid (treeroot_any s hs w v h gx i hx hi)
 have HNO:=Lib.hid (fun wr (e:Ext No w wr) id=>node_any s hs wr v (h.no hs e) hg gx i (hx.ext e (fun h=>h)) id)
 have HO:=Lib.hid (fun id n (hn:v.node id = some n)=>V.node_ok hn)
 obtain ⟨D,hD⟩:∃ D,D = v.way i key:=⟨_,rfl⟩
 rw [← hD]
 unfold V.way at hD
 have HD:=Lib.hid hD
 clear hD hg h hx
 obtain ⟨i0,hti,htz0,htz1,htz2⟩:=info_parts Tryz.info125
 go_enter Tryz.func60,Tryz.ntmps60
 go_wp2_with fail
 refine (HR.out).mono ?_
 rintro e w1 ⟨rfl,hx1⟩
 go_wp2_with fail
 go_loopg [6,7] 41 (fun gk o id wr=>∃ (ID:Nat) (A:Option Addr) (cap:Nat) (l:List (Stp × Adr)),o = .slice A l.length cap ∧ id = .int .i64 (ID:Int) ∧ l.length + gk = 41 ∧ l.length ≤ 40 ∧ WS wr w.heap.size A cap l ∧ Hid (v.wayLoop key gk ID (l.map (·.1)) = D) ∧ Ext No w wr)
 case atStart=>exact ⟨v.r i,none,0,[],rfl,rfl,rfl,by simp,⟨World.ownsRow_nil _ _ _ _,by simp⟩,Lib.hid HD.out.symm,hx1⟩
 case round =>
  clear HD hx1
  obtain ⟨ID,A,cap,l,rfl,rfl,hlg,hl40,hS,hd,hE⟩:=hrel
  have HS:=Lib.hid hS;have HE:=Lib.hid hE;have HLG:=Lib.hid hlg;have HL40:=Lib.hid hl40
  obtain ⟨j,hj⟩:∃ j,gk = j + 1:=⟨gk - 1,by omega⟩
  have HJ:=Lib.hid hj
  have hdd:=hd.out
  rw [hj] at hdd
  have hsz:=hE.size
  clear hj hlg hd hS hE hl40
  by_cases h0:ID = 0
  ·subst h0
   simp only [V.wayLoop,if_true] at hdd
   have HDD:=Lib.hid hdd
   clear hdd
   go_wp2_with fail
   go_ret2
   rw [← HDD.out]
   refine ⟨HE.out,A,cap,l,rfl,by simp,⟨?_,own_cap HS.out.own,fun p hp=>(HS.out.nodes p hp).mono (fun b _ hb=>.inl hb),Nat.le_succ_of_le HL40.out⟩⟩
   exact Rd.own HS.out.own (Nat.le_refl _) (by omega)
  ·have h0':((ID:Int) != 0) = true:=by simpa using (by omega:¬ (ID:Int) = 0)
   simp only [V.wayLoop,if_neg h0] at hdd
   have HNO1:=Lib.hid (HNO.out wr HE.out ID)
   cases hnd:v.node ID with
   | none =>
    rw [hnd] at hdd HNO1
    simp only at hdd
    have HDD:=Lib.hid hdd
    clear hdd hnd h0
    go_wp2_with fail
    refine HNO1.out.mono ?_
    rintro e w2 ⟨hx2,hr⟩
    simp only at hr
    subst hr
    simp only [Nd.zero]
    go_wp2_with fail
    go_ret2
    rw [← HDD.out]
    exact ⟨(HE.out.trans_ hx2).alloc _,rfl⟩
   | some n =>
    have hok:=HO.out ID n hnd
    have hOk:=Nd.Ok.of hok
    rw [hnd] at hdd HNO1
    simp only [List.length_map] at hdd
    by_cases h40:l.length = 40
    ·rw [if_pos h40] at hdd
     have HDD:=Lib.hid hdd
     have h40':(l.length:Int) = 40:=by omega
     clear hdd hnd h0 hok hOk h40
     go_wp2_with fail
     refine HNO1.out.mono ?_
     rintro e w2 ⟨hx2,A1,c1,A2,c2,A3,c3,rfl,hn⟩
     simp only [Nd.value]
     go_wp2_with fail
     go_ret2
     rw [← HDD.out]
     exact ⟨(HE.out.trans_ hx2).alloc _,rfl⟩
    ·rw [if_neg h40] at hdd
     have h40':¬ ((l.length:Int) = 40):=by omega
     have HF:=Lib.hid (fun w F A1 c1 A2 c2 A3 c3 (hn:NodeAt w F A1 c1 A2 c2 A3 c3 n)=>find_any n key w F A1 c1 A2 c2 A3 c3 hn (fun _=>Nd.Ok.sortedC hok) (fun _=>Nd.Ok.sortedK hok))
     obtain ⟨hf1,hf2⟩:=Nd.find_le hok key
     generalize hfd:(n.find key).1 = fi at *
     generalize (n.find key).2 = fb at *
     have H40:=Lib.hid h40
     cases hlf:n.leaf
     ·have hf2:=hf2 hlf
      simp only [hlf,Bool.false_eq_true,if_false] at hdd
      have HDD:=Lib.hid hdd
      obtain ⟨kid,hkid⟩:∃ kid,n.kids[fi]? = some kid:=⟨_,List.getElem?_eq_getElem hf2⟩
      have HKD:=Lib.hid (show n.kids.getD fi 0 = kid by simp [List.getD,hkid])
      have HKI:=Lib.hid hkid
      have HLF:=Lib.hid hlf
      have hb3:n.kids.length < 65536:=by have:=hOk.br hlf;have:=hOk.a2;omega
      clear hdd hnd h0 hok hOk h40 hf1 hfd hkid
      go_wp2_with fail
      refine HNO1.out.mono ?_
      rintro e w2 ⟨hx2,A1,c1,A2,c2,A3,c3,rfl,hn⟩
      have HN:=Lib.hid hn
      simp only [Nd.value,hlf] at HF ⊢
      clear hn hlf
      have m2:l.length + 1 ≤ maxLen:=by unfold maxLen;have:=HL40.out;omega
      have m3:(l.length + 1) * 96 ≤ 140737488355328:=by have:=HL40.out;omega
      go_wp2_with fail
      refine (HF.out _ (Old wr) A1 c1 A2 c2 A3 c3 (HN.out.ext ((Ext.refl _ w2).alloc _))).mono ?_
      rintro e w3 ⟨rfl,hx3⟩
      have hE3:Ext No w2 w3:=((Ext.refl No w2).alloc _).trans_ hx3
      have bn3:=(Blk.new w2 40 #[.bool false,.slice A1 n.cells.length c1,.slice A2 n.keys.length c2,.slice A3 n.kids.length c3]).ext hx3 (fun h=>h)
      obtain ⟨p0,p1,p2,p3,g0,g1,g2,g3,ln⟩:=bn3.p4
      have m0:w.heap.size ≤ w3.heap.size:=Nat.le_trans hsz (Nat.le_trans hx2.size hE3.size)
      have m6:∀ o,w.heap.size ≤ (w3.alloc o).heap.size:=fun o=>by simp;omega
      have m7:∀ o,(w3.alloc o).heap.size = w3.heap.size + 1:=fun o=>by simp
      have HS3:=Lib.hid (HS.out.ext (hx2.trans_ hE3))
      have HE3:=Lib.hid ((HE.out.trans_ hx2).trans_ hE3)
      have HBN:=Lib.hid bn3
      have HN3:=Lib.hid (HN.out.ext hE3.of_no)
      have hgl:w2.heap.size < w3.heap.size:=ln
      have HV:=Lib.hid (show (⟨ID,n,fi⟩:Stp).vals ⟨A1,c1,A2,c2,A3,c3⟩ = [.int .i64 (ID:Int),.bool false,.slice A1 n.cells.length c1,.slice A2 n.keys.length c2,.slice A3 n.kids.length c3,.int .i64 (fi:Int)] by simp [Stp.vals,HLF.out])
      have HWW:=Lib.hid (Nat.le_trans hx2.size hE3.size)
      have HW2:=Lib.hid hx2.size
      clear hx3 hE3 bn3 hx2
      go_wp2_with (at_builtin;refine wpList_append_lies _ (by rfl) _ _ 121 (by rfl) w.heap.size 125 i0 (.agg #[.int .i64 0,.bool false,.slice none 0 0,.slice none 0 0,.slice none 0 0,.int .i64 0]) 6 96 Tryz.underlying121 hti htz0 htz1 htz2 (by rfl) (by decide) (.slice A l.length cap) l.length (stpVals l) (by rfl) (by exact own_ext HS3.out.own ((Ext.refl No w3).alloc _) (fun _ _ h=>h)) ⟨w3.heap.size,0,none⟩ 1 1 ((⟨ID,n,fi⟩:Stp).vals ⟨A1,c1,A2,c2,A3,c3⟩) (by rfl) (by rfl) (by rw [HV.out];exact World.news_of_block (cs:=#[.int .i64 (ID:Int),.bool false,.slice A1 n.cells.length c1,.slice A2 n.keys.length c2,.slice A3 n.kids.length c3,.int .i64 (fi:Int)]) (t:=125) (fr:=(0,0)) (heap_alloc_new w3 _)) (by exact Stp.one _ _) (by decide) m2 m3 (by exact m6 _) (w3.heap.size + 1) (by exact m7 _) ?_)
      intro g cap2 w6 hown2 hgrow2 hat2 hlt2
      have hgb:∀ b,(Value.slice A l.length cap).ownBlock = some b → b < wr.heap.size:=fun b hb=>(HS.out.own.lt b hb).2
      have hoff:∀ b,Off w.heap.size (.slice A l.length cap) b → b < wr.heap.size:=fun b hb=>by
       rcases hb with hb | hb
       ·omega
       ·exact hgb b hb
      have hn6:NodeIn (w3.alloc (.cells #[.int .i64 (ID:Int),.bool false,.slice A1 n.cells.length c1,.slice A2 n.keys.length c2,.slice A3 n.kids.length c3,.int .i64 (fi:Int)] 125)) (Off w.heap.size (.slice A l.length cap)) ⟨A1,c1,A2,c2,A3,c3⟩ n:=(HN3.out.mono (fun b _ hb=>hoff b hb)).box _
      have hS6:=WS.push (p:=(⟨ID,n,fi⟩,⟨A1,c1,A2,c2,A3,c3⟩)) (HS3.out.ext ((Ext.refl No w3).alloc _)) (m6 _) hown2 hgrow2 hat2 (m7 _).symm hn6
      have hnb:some w2.heap.size ≠ (Value.slice A l.length cap).ownBlock:=fun e=>by have:=hgb _ e.symm;have:=HW2.out;omega
      have bn6:=(HBN.out.alloc _).grown hgrow2 hnb
      have hE6:=Lib.hid ((HE3.out.alloc _).grown hgrow2 (own_ge' HS.out.own (Nat.le_refl _)))
      obtain ⟨b,o,hA3,hbF,kc⟩:=(hS6.nodes (⟨ID,n,fi⟩,⟨A1,c1,A2,c2,A3,c3⟩) (by simp)).kids.kidAt HKI.out
      simp only at hA3
      subst hA3
      have HS6:=Lib.hid hS6
      clear p0 p1 p2 p3 g0 g1 g2 g3 ln hS6 hn6 hnb hoff hgb hgrow2 hown2 hat2 m6 m7 hbF
      obtain ⟨p0,p1,p2,p3,g0,g1,g2,g3,ln⟩:=bn6.p4
      clear bn6
      go_wp2_with fail
      go_roundg j
      case rel =>
       refine ⟨kid,some ⟨g,0,none⟩,cap2,l ++ [(⟨ID,n,fi⟩,⟨A1,c1,A2,c2,some ⟨b,o,none⟩,c3⟩)],by simp,rfl,?_,?_,HS6.out,Lib.hid ?_,hE6.out⟩
       ·have:=HLG.out;have:=HJ.out;simp;omega
       ·have:=HL40.out;have:=H40.out;simp;omega
       ·have h1:=HDD.out
        rw [HKD.out] at h1
        rw [List.map_append]
        exact h1
      case measure=>have:=HJ.out;omega
     ·have hf1:=hf1 hlf
      simp only [hlf,if_true] at hdd
      have HDD:=Lib.hid hdd
      have HLF:=Lib.hid hlf
      clear hdd hnd h0 hok hOk h40 hf1 hf2 hfd
      go_wp2_with fail
      refine HNO1.out.mono ?_
      rintro e w2 ⟨hx2,A1,c1,A2,c2,A3,c3,rfl,hn⟩
      have HN:=Lib.hid hn
      simp only [Nd.value,hlf] at HF ⊢
      clear hn hlf
      have m2:l.length + 1 ≤ maxLen:=by unfold maxLen;have:=HL40.out;omega
      have m3:(l.length + 1) * 96 ≤ 140737488355328:=by have:=HL40.out;omega
      go_wp2_with fail
      refine (HF.out _ (Old wr) A1 c1 A2 c2 A3 c3 (HN.out.ext ((Ext.refl _ w2).alloc _))).mono ?_
      rintro e w3 ⟨rfl,hx3⟩
      have hE3:Ext No w2 w3:=((Ext.refl No w2).alloc _).trans_ hx3
      have bn3:=(Blk.new w2 40 #[.bool true,.slice A1 n.cells.length c1,.slice A2 n.keys.length c2,.slice A3 n.kids.length c3]).ext hx3 (fun h=>h)
      obtain ⟨p0,p1,p2,p3,g0,g1,g2,g3,ln⟩:=bn3.p4
      have m0:w.heap.size ≤ w3.heap.size:=Nat.le_trans hsz (Nat.le_trans hx2.size hE3.size)
      have m6:∀ o,w.heap.size ≤ (w3.alloc o).heap.size:=fun o=>by simp;omega
      have m7:∀ o,(w3.alloc o).heap.size = w3.heap.size + 1:=fun o=>by simp
      have HS3:=Lib.hid (HS.out.ext (hx2.trans_ hE3))
      have HE3:=Lib.hid ((HE.out.trans_ hx2).trans_ hE3)
      have HBN:=Lib.hid bn3
      have HN3:=Lib.hid (HN.out.ext hE3.of_no)
      have HV:=Lib.hid (show (⟨ID,n,fi⟩:Stp).vals ⟨A1,c1,A2,c2,A3,c3⟩ = [.int .i64 (ID:Int),.bool true,.slice A1 n.cells.length c1,.slice A2 n.keys.length c2,.slice A3 n.kids.length c3,.int .i64 (fi:Int)] by simp [Stp.vals,HLF.out])
      have HW2:=Lib.hid hx2.size
      clear hx3 hE3 bn3 hx2
      go_wp2_with (at_builtin;refine wpList_append_lies _ (by rfl) _ _ 121 (by rfl) w.heap.size 125 i0 (.agg #[.int .i64 0,.bool false,.slice none 0 0,.slice none 0 0,.slice none 0 0,.int .i64 0]) 6 96 Tryz.underlying121 hti htz0 htz1 htz2 (by rfl) (by decide) (.slice A l.length cap) l.length (stpVals l) (by rfl) (by exact own_ext HS3.out.own ((Ext.refl No w3).alloc _) (fun _ _ h=>h)) ⟨w3.heap.size,0,none⟩ 1 1 ((⟨ID,n,fi⟩:Stp).vals ⟨A1,c1,A2,c2,A3,c3⟩) (by rfl) (by rfl) (by rw [HV.out];exact World.news_of_block (cs:=#[.int .i64 (ID:Int),.bool true,.slice A1 n.cells.length c1,.slice A2 n.keys.length c2,.slice A3 n.kids.length c3,.int .i64 (fi:Int)]) (t:=125) (fr:=(0,0)) (heap_alloc_new w3 _)) (by exact Stp.one _ _) (by decide) m2 m3 (by exact m6 _) (w3.heap.size + 1) (by exact m7 _) ?_)
      intro g cap2 w6 hown2 hgrow2 hat2 hlt2
      have hgb:∀ b,(Value.slice A l.length cap).ownBlock = some b → b < wr.heap.size:=fun b hb=>(HS.out.own.lt b hb).2
      have hoff:∀ b,Off w.heap.size (.slice A l.length cap) b → b < wr.heap.size:=fun b hb=>by
       rcases hb with hb | hb
       ·omega
       ·exact hgb b hb
      have hn6:NodeIn (w3.alloc (.cells #[.int .i64 (ID:Int),.bool true,.slice A1 n.cells.length c1,.slice A2 n.keys.length c2,.slice A3 n.kids.length c3,.int .i64 (fi:Int)] 125)) (Off w.heap.size (.slice A l.length cap)) ⟨A1,c1,A2,c2,A3,c3⟩ n:=(HN3.out.mono (fun b _ hb=>hoff b hb)).box _
      have hS6:=WS.push (p:=(⟨ID,n,fi⟩,⟨A1,c1,A2,c2,A3,c3⟩)) (HS3.out.ext ((Ext.refl No w3).alloc _)) (m6 _) hown2 hgrow2 hat2 (m7 _).symm hn6
      have hnb:some w2.heap.size ≠ (Value.slice A l.length cap).ownBlock:=fun e=>by have:=hgb _ e.symm;have:=HW2.out;omega
      have bn6:=(HBN.out.alloc _).grown hgrow2 hnb
      have hE6:=Lib.hid ((HE3.out.alloc _).grown hgrow2 (own_ge' HS.out.own (Nat.le_refl _)))
      have HS6:=Lib.hid hS6
      clear p0 p1 p2 p3 g0 g1 g2 g3 ln hS6 hn6 hnb hoff hgb hgrow2 hown2 hat2 m6 m7
      obtain ⟨p0,p1,p2,p3,g0,g1,g2,g3,ln⟩:=bn6.p4
      clear bn6
      go_wp2_with fail
      go_ret2
      rw [← HDD.out]
      refine ⟨hE6.out,some ⟨g,0,none⟩,cap2,l ++ [(⟨ID,n,fi⟩,⟨A1,c1,A2,c2,A3,c3⟩)],by simp,by simp,⟨?_,own_cap HS6.out.own,fun p hp=>(HS6.out.nodes p hp).mono (fun b _ hb=>.inl hb),by have:=HL40.out;simp;omega⟩⟩
      exact Rd.own HS6.out.own (Nat.le_refl _) (by omega)
end Go.Proofs.YtccnemmlkcmceaaGreatDoor
