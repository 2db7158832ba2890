/- Proofs about the given program, joined out of the texts W8, W9, X1, X2, X3, X4. -/
import Derived.Test.YtccnemmlkcmceaaGreatDoorHE17
set_option linter.unusedVariables false
set_option linter.unusedSimpArgs false
set_option maxRecDepth 100000
set_option maxHeartbeats 6400000
namespace Go.Proofs.YtccnemmlkcmceaaGreatDoor
open Go.RowKit
structure WayOk (v:V) (key:Bs) (ws:List Stp):Prop where
 all:∀ st ∈ ws,v.node st.id = some st.n ∧ st.i = (st.n.find key).1
 last:∀ st,ws.getLast? = some st → st.n.leaf = true
 up:∀ st ∈ ws.dropLast,st.n.leaf = false
 len:ws.length ≤ 41
theorem wayLoop_ok {v:V} {key:Bs}:∀ (k id:Nat) (out ws:List Stp),v.wayLoop key k id out = some ws → (id = 0 → out = []) → out.length ≤ 40 → (∀ st ∈ out,(v.node st.id = some st.n ∧ st.i = (st.n.find key).1) ∧ st.n.leaf = false) → WayOk v key ws
 | 0,_,_,_,h,_,_,_=>by cases h
 | k + 1,id,out,ws,h,h0,hl,ho=>by
  rw [V.wayLoop] at h
  split at h
  ·rename_i hz
   have:=h0 hz
   subst this
   injection h with h
   subst h
   exact ⟨by simp,by simp,by simp,by simp⟩
  ·rename_i hz
   split at h
   ·cases h
   ·rename_i n hn
    split at h
    ·cases h
    ·rename_i h40
     split at h
     ·rename_i hlf
      injection h with h
      subst h
      refine ⟨?_,?_,?_,by simp;omega⟩
      ·intro st hst
       rcases List.mem_append.1 hst with hst | hst
       ·exact (ho st hst).1
       ·simp at hst;subst hst;exact ⟨hn,rfl⟩
      ·intro st hst
       simp at hst;subst hst;exact hlf
      ·intro st hst
       simp at hst
       exact (ho st hst).2
     ·rename_i hlf
      have hlf:n.leaf = false:=by simpa using hlf
      refine wayLoop_ok k _ _ ws h (fun hz=>?_) (by simp;omega) ?_
      ·exfalso
       have hO:=Nd.Ok.of (V.node_ok hn)
       have:=(Nd.find_le (V.node_ok hn) key).2 hlf
       have hk:n.kids[(n.find key).1]? = some (n.kids[(n.find key).1]):=List.getElem?_eq_getElem this
       have h1:=hO.i _ (List.mem_of_getElem? hk)
       simp only [List.getD,hk,Option.getD_some] at hz
       rw [hz] at h1
       simp [idOk] at h1
      ·intro st hst
       rcases List.mem_append.1 hst with hst | hst
       ·exact ho st hst
       ·simp at hst;subst hst;exact ⟨⟨hn,rfl⟩,hlf⟩
theorem way_ok {v:V} {r:Nat} {key:Bs} {ws:List Stp} (h:v.way r key = some ws):WayOk v key ws:=wayLoop_ok 41 _ [] ws h (fun _=>rfl) (by simp) (by simp)
theorem stpVals_at (l:List (Stp × Adr)) (i k:Nat) (p:Stp × Adr) (hp:l[i]? = some p) (hk:k < 6):(stpVals l)[i * 6 + k]? = (p.1.vals p.2)[k]?:=by
 induction l generalizing i with
 | nil=>simp at hp
 | cons d l ih =>
  have hl:(d.1.vals d.2).length = 6:=rfl
  have e:stpVals (d :: l) = d.1.vals d.2 ++ stpVals l:=rfl
  rw [e]
  match i with
  | 0 =>
   have:d = p:=by simpa using hp
   subst this
   rw [List.getElem?_append_left (by omega)]
   simp
  | i + 1 =>
   rw [List.getElem?_append_right (by omega),hl,show (i + 1) * 6 + k - 6 = i * 6 + k from by omega]
   exact ih i (by simpa using hp)
theorem WayAt.at {w:World} {F:Nat → Prop} {A:Option Addr} {cap:Nat} {l:List (Stp × Adr)} (h:WayAt w F A cap l) {i:Nat} {p:Stp × Adr} (hp:l[i]? = some p) :
  ∃ b o,A = some ⟨b,o,none⟩ ∧ ¬ F b ∧ w.cell? ⟨b,o + i * 6,none⟩ = some (.int .i64 (p.1.id:Int)) ∧ w.cell? ⟨b,o + i * 6 + 1,none⟩ = some (.bool p.1.n.leaf) ∧
   w.cell? ⟨b,o + i * 6 + 2,none⟩ = some (.slice p.2.A1 p.1.n.cells.length p.2.c1) ∧ w.cell? ⟨b,o + i * 6 + 3,none⟩ = some (.slice p.2.A2 p.1.n.keys.length p.2.c2) ∧
   w.cell? ⟨b,o + i * 6 + 4,none⟩ = some (.slice p.2.A3 p.1.n.kids.length p.2.c3) ∧ w.cell? ⟨b,o + i * 6 + 5,none⟩ = some (.int .i64 (p.1.i:Int)):=by
 have hi:i < l.length:=(List.getElem?_eq_some_iff.1 hp).1
 obtain ⟨b,o,e,hb,hx⟩:=h.rd.2 (by omega)
 refine ⟨b,o,e,hb,?_,?_,?_,?_,?_,?_⟩
 ·exact hx (i * 6 + 0) _ ((stpVals_at l i 0 p hp (by omega)).trans rfl)
 ·have:=hx (i * 6 + 1) _ ((stpVals_at l i 1 p hp (by omega)).trans rfl);rw [← Nat.add_assoc] at this;exact this
 ·have:=hx (i * 6 + 2) _ ((stpVals_at l i 2 p hp (by omega)).trans rfl);rw [← Nat.add_assoc] at this;exact this
 ·have:=hx (i * 6 + 3) _ ((stpVals_at l i 3 p hp (by omega)).trans rfl);rw [← Nat.add_assoc] at this;exact this
 ·have:=hx (i * 6 + 4) _ ((stpVals_at l i 4 p hp (by omega)).trans rfl);rw [← Nat.add_assoc] at this;exact this
 ·have:=hx (i * 6 + 5) _ ((stpVals_at l i 5 p hp (by omega)).trans rfl);rw [← Nat.add_assoc] at this;exact this
def V.height (v:V) (root:Nat):Nat × Nat:=match v.way root [] with
 | none=>(0,5)
 | some ws=>(ws.length,0)
theorem height_any (s:Sys) (hs:s.Ok) (w:World) (v:V) (h:TxAt w s v) (hg:v.Good) (gx i:Nat) (hx:Blk w gx 70 (treeCells s i)) (hi:i < 4) :
  Calls Tryz.prog 28 #[.pointer (some ⟨gx,0,none⟩)] w fun e w'=>e = .returned (.tuple #[.int .i64 ((v.height i).1:Int),.int .i64 ((v.height i).2:Int)]) ∧ Ext No w w':=by
 have HN:=Lib.hid (none_no ⟨s.t,0,none⟩ (.int .i64 (i:Int)) gx w hx)
 have HA:=Lib.hid (alive_any s hs w v h gx i hx)
 have HW:=Lib.hid (fun w' (e:Ext No w w')=>way_any s hs w' v (h.no hs e) hg gx i (hx.ext e (fun h=>h)) hi [])
 clear h hg hx
 unfold V.height
 cases hw:v.way i [] with
 | none =>
  rw [hw] at HW
  clear hw
  go_enter Tryz.func28,Tryz.ntmps28
  go_wp2_with fail
  refine (HN.out).mono ?_
  rintro e' w1 ⟨rfl,rfl⟩
  go_wp2_with fail
  refine (HA.out).mono ?_
  rintro e' w1 ⟨rfl,hx1⟩
  go_wp2_with fail
  refine (HW.out _ hx1).mono ?_
  rintro e' w2 ⟨hx2,rfl⟩
  go_wp2_with fail
  go_ret2
  exact ⟨rfl,hx1.trans_ hx2⟩
 | some ws =>
  rw [hw] at HW
  clear hw
  go_enter Tryz.func28,Tryz.ntmps28
  go_wp2_with fail
  refine (HN.out).mono ?_
  rintro e' w1 ⟨rfl,rfl⟩
  go_wp2_with fail
  refine (HA.out).mono ?_
  rintro e' w1 ⟨rfl,hx1⟩
  go_wp2_with fail
  refine (HW.out _ hx1).mono ?_
  rintro e' w2 ⟨hx2,A,cap,l,hl,rfl,_⟩
  clear hl
  go_wp2_with fail
  go_ret2
  exact ⟨rfl,hx1.trans_ hx2⟩
def valOut (o:Option Bs):Value:=match o with
 | none=>.tuple #[.string (str []),.int .i64 5]
 | some b=>.tuple #[.string (str b),.int .i64 0]
def ValueOk (s:Sys) (v:V) (c:Cell):Prop:=∀ w gx i,TxAt w s v → Blk w gx 70 (treeCells s i) → Calls Tryz.prog 17 #[.pointer (some ⟨gx,0,none⟩),c.agg] w fun e w'=>e = .returned (valOut (v.value c)) ∧ Ext No w w'
theorem value_small (s:Sys) (v:V) (c:Cell) (hc:c.over = 0):ValueOk s v c:=by
 intro w gx i h hx
 have HN:=Lib.hid (fun o=>none_no ⟨s.t,0,none⟩ (.int .i64 (i:Int)) gx (w.alloc o) (hx.alloc o))
 have e:v.value c = some c.val:=by simp [V.value,hc]
 rw [e]
 clear h hx e
 simp only [Cell.agg,hc,valOut]
 go_enter Tryz.func17,Tryz.ntmps17
 go_wp2_with fail
 refine (HN.out _).mono ?_
 rintro e' w1 ⟨rfl,rfl⟩
 go_wp2_with fail
 go_ret2
 exact ⟨rfl,by (repeat' (first | exact Ext.refl _ _ | assumption | apply Ext.alloc | apply Ext.drewN | apply Ext.drew | refine Ext.setNew ?_ (by first | omega | (simp;omega) | simp) _ _ | refine Ext.setF ?_ (by first | exact Or.inl rfl | exact Or.inr rfl | rfl) _ _ | refine Ext.trans_ ?_ (by assumption) | refine Ext.trans_ ?_ (Ext.of_no (by assumption))))⟩
theorem last_of {ws:List Stp} {l:List (Stp × Adr)} (h:l.map (·.1) = ws) {m:Nat} (hm:ws.length = m + 1):∃ p,l[m]? = some p ∧ ws.getLast? = some p.1:=by
 have hl:l.length = m + 1:=by rw [← hm,← h];simp
 refine ⟨l[m]'(by omega),List.getElem?_eq_getElem (by omega),?_⟩
 rw [← h,List.getLast?_eq_getElem?]
 simp [hl]
theorem hit_eq {ws:List Stp} {st:Stp} (h:ws.getLast? = some st) (key:Bs):hit ws key = match st.n.cells[st.i]? with | none=>none | some c=>if c.key = key then some c else none:=by
 unfold hit;rw [h]
 rfl
theorem get_any' (s:Sys) (hs:s.Ok) (w:World) (v:V) (h:TxAt w s v) (hg:v.Good) (gx i:Nat) (hx:Blk w gx 70 (treeCells s i)) (hi:i < 4) (key:Bs)
  (hV:∀ ws c,v.way i key = some ws → hit ws key = some c → ValueOk s v c) :
  Calls Tryz.prog 23 #[.pointer (some ⟨gx,0,none⟩),.string (str key)] w fun e w'=>e = .returned (.tuple #[.string (str (v.get i key).1),.bool (v.get i key).2.1,.int .i64 ((v.get i key).2.2:Int)]) ∧ Ext No w w':=by
 have HM:=Lib.hid (may_any s hs w v h gx i hx key [])
 have HW:=Lib.hid (fun w' (e:Ext No w w')=>way_any s hs w' v (h.no hs e) hg gx i (hx.ext e (fun h=>h)) hi key)
 have HT:=Lib.hid (fun (w':World) (e:Ext No w w')=>h.no hs e)
 have HX:=Lib.hid (fun (w':World) (e:Ext No w w')=>hx.ext e (fun h=>h))
 clear h hg hx
 obtain ⟨D,hD⟩:∃ D,D = v.get i key:=⟨_,rfl⟩
 rw [← hD]
 unfold V.get at hD
 by_cases hm:may key [] = 0
 ·rw [if_neg (by omega)] at hD
  rw [hm] at HM
  clear hm
  cases hw:v.way i key with
  | none =>
   rw [hw] at HW hD
   have HD:=Lib.hid hD
   clear hw hV hD
   go_enter Tryz.func23,Tryz.ntmps23
   go_wp2_with fail
   refine (HM.out).mono ?_
   rintro e' w1 ⟨rfl,hx1⟩
   go_wp2_with fail
   refine (HW.out _ hx1).mono ?_
   rintro e' w2 ⟨hx2,rfl⟩
   go_wp2_with fail
   go_ret3
   rw [HD.out]
   exact ⟨rfl,hx1.trans_ hx2⟩
  | some ws =>
   have hWO:=way_ok hw
   have hV:=hV ws
   have HV:=Lib.hid (fun c hc=>hV c hw hc)
   rw [hw] at HW hD
   simp only at hD
   clear hw hV
   rcases Nat.eq_zero_or_pos ws.length with hwl | hwl
   ·have hn:ws = []:=List.eq_nil_of_length_eq_zero hwl
    subst hn
    have HD:=Lib.hid hD
    clear hwl HV hD hWO
    go_enter Tryz.func23,Tryz.ntmps23
    go_wp2_with fail
    refine (HM.out).mono ?_
    rintro e' w1 ⟨rfl,hx1⟩
    go_wp2_with fail
    refine (HW.out _ hx1).mono ?_
    rintro e' w2 ⟨hx2,A,cap,l,hl,rfl,_⟩
    clear hl
    simp only [List.length_nil]
    go_wp2_with fail
    go_ret3
    rw [HD.out]
    exact ⟨rfl,hx1.trans_ hx2⟩
   ·obtain ⟨m,hwl⟩:∃ m,ws.length = m + 1:=by cases hz:ws.length <;> simp_all
    have HL:=Lib.hid (fun (l:List (Stp × Adr)) (h:l.map (·.1) = ws)=>last_of h hwl)
    have HWL:=Lib.hid hwl
    have hm41:m ≤ 40:=by have:=hWO.len;omega
    have HWO:=Lib.hid hWO
    have HD:=Lib.hid hD
    clear hwl hWO hD
    go_enter Tryz.func23,Tryz.ntmps23
    go_wp2_with fail
    refine (HM.out).mono ?_
    rintro e' w1 ⟨rfl,hx1⟩
    go_wp2_with fail
    refine (HW.out _ hx1).mono ?_
    rintro e' w2 ⟨hx2,A,cap,l,hl,rfl,hWA⟩
    rw [HWL.out]
    obtain ⟨p,hp,hlast⟩:=HL.out l hl
    obtain ⟨st,ad⟩:=p
    obtain ⟨b,o,rfl,hbF,q0,q1,q2,q3,q4,q5⟩:=hWA.at hp
    have hnode:=hWA.nodes (st,ad) (List.mem_of_getElem? hp)
    simp only at q0 q1 q2 q3 q4 q5 hnode hlast
    have hlf:=HWO.out.last st hlast
    obtain ⟨hnd,hsi⟩:=HWO.out.all st (List.mem_of_getLast? hlast)
    have hile:st.i ≤ st.n.cells.length:=by rw [hsi];exact (Nd.find_le (V.node_ok hnd) key).1 hlf
    have HHIT:=Lib.hid (hit_eq hlast key)
    have HE2:=Lib.hid (hx1.trans_ hx2)
    have lb:=World.block_lt_of_cell? w2 _ q0
    simp only at lb
    have hcap:m + 1 ≤ cap:=by
     have:=hWA.cap
     have h2:l.length = m + 1:=by rw [← HWL.out,← hl,List.length_map]
     omega
    have hcl1:=hnode.l1
    have hb1:=hnode.b1
    clear hlast hp hl hx1 hx2 hWA hsi hnd hbF
    rcases Nat.lt_or_ge st.i st.n.cells.length with hlt | hge
    ·obtain ⟨c,hc⟩:∃ c,st.n.cells[st.i]? = some c:=⟨_,List.getElem?_eq_getElem hlt⟩
     obtain ⟨cb,co,hA1,_,k0,k1,k2,k3⟩:=hnode.cells.cellAt hc
     have lc:=World.block_lt_of_cell? w2 _ k0
     simp only at lc
     rw [hA1] at q2
     have hh:=HHIT.out
     rw [hc] at hh
     simp only at hh
     have hnei:¬ ((st.i:Int) = (st.n.cells.length:Int)):=by omega
     clear HHIT hc hnode hA1 hile
     generalize hsi:st.i = si at *
     generalize st.n.cells.length = cl at *
     generalize st.n.keys.length = kl at *
     generalize st.n.kids.length = il at *
     generalize st.id = sid at *
     clear hsi
     by_cases hk:c.key = key
     ·rw [if_pos hk] at hh
      have HVV:=Lib.hid (HV.out c hh)
      have hDD:=HD.out
      rw [hh] at hDD
      simp only at hDD
      have hbk:(c.key == key) = true:=by simpa using hk
      clear HD hh hk
      unfold ValueOk at HVV
      simp only [Cell.agg] at HVV
      cases hvc:v.value c with
      | none =>
       rw [hvc] at hDD HVV
       have HDD:=Lib.hid hDD
       simp only [valOut] at HVV
       clear hDD hvc
       go_wp2_with fail
       refine (HVV.out _ gx i (HT.out _ (HE2.out.alloc _)) (HX.out _ (HE2.out.alloc _))).mono ?_
       rintro e' w3 ⟨rfl,hx3⟩
       go_wp2_with fail
       go_ret3
       rw [HDD.out]
       exact ⟨rfl,(HE2.out.alloc _).trans_ hx3⟩
      | some vb =>
       rw [hvc] at hDD HVV
       have HDD:=Lib.hid hDD
       simp only [valOut] at HVV
       clear hDD hvc
       go_wp2_with fail
       refine (HVV.out _ gx i (HT.out _ (HE2.out.alloc _)) (HX.out _ (HE2.out.alloc _))).mono ?_
       rintro e' w3 ⟨rfl,hx3⟩
       go_wp2_with fail
       go_ret3
       rw [HDD.out]
       exact ⟨rfl,(HE2.out.alloc _).trans_ hx3⟩
     ·rw [if_neg hk] at hh
      have hDD:=HD.out
      rw [hh] at hDD
      have HDD:=Lib.hid hDD
      have hbk:(c.key == key) = false:=by simpa using hk
      clear HD hh hk hDD
      go_wp2_with fail
      go_ret3
      rw [HDD.out]
      exact ⟨rfl,HE2.out.alloc _⟩
    ·have hieq:(st.i:Int) = (st.n.cells.length:Int):=by omega
     have hh:=HHIT.out
     rw [List.getElem?_eq_none hge] at hh
     have hDD:=HD.out
     rw [hh] at hDD
     have HDD:=Lib.hid hDD
     clear HD hh hDD HHIT hnode hile hge
     generalize st.i = si at *
     generalize st.n.cells.length = cl at *
     generalize st.n.keys.length = kl at *
     generalize st.n.kids.length = il at *
     generalize st.id = sid at *
     have hse:si = cl:=by omega
     subst hse
     clear hieq
     go_wp2_with fail
     go_ret3
     rw [HDD.out]
     exact ⟨rfl,HE2.out.alloc _⟩
 ·rw [if_pos hm] at hD
  have HD:=Lib.hid hD
  have hm':((may key []:Int) != 0) = true:=by simpa using (by omega:¬ (may key []:Int) = 0)
  obtain ⟨q,hq⟩:∃ q,q = may key []:=⟨_,rfl⟩
  rw [← hq] at HM hm'
  have HQ:=Lib.hid hq
  clear hm hD hq
  go_enter Tryz.func23,Tryz.ntmps23
  go_wp2_with fail
  refine (HM.out).mono ?_
  rintro e' w1 ⟨rfl,hx1⟩
  go_wp2_with fail
  go_ret3
  rw [HD.out,← HQ.out]
  exact ⟨rfl,hx1⟩
theorem sure_ok (gx:Value) (w:World) :
  Calls Tryz.prog 61 #[gx,.int .i64 0] w fun e w'=>e = .returned (.int .i64 0) ∧ w = w':=by
 go_enter Tryz.func61,Tryz.ntmps61
 go_wp2_with fail
 go_ret
 exact ⟨rfl,rfl⟩
theorem sure_bad (s:Sys) (hs:s.Ok) (w:World) (v:V) (h:TxAt w s v) (gx i:Nat) (hx:Blk w gx 70 (treeCells s i)) (k:Nat) (hk:k ≠ 0) :
  Calls Tryz.prog 61 #[.pointer (some ⟨gx,0,none⟩),.int .i64 (k:Int)] w fun e w'=>e = .returned (.int .i64 (k:Int)) ∧ TxAt w' s v.spoil ∧ Ext s.F w w':=by
 have HS:=Lib.hid (spoil_any s hs w v h)
 have c0:=hx.cell 0
 simp [treeCells] at c0
 have hk':((k:Int) != 0) = true:=by simpa using (by omega:¬ (k:Int) = 0)
 clear h hx hk
 go_enter Tryz.func61,Tryz.ntmps61
 go_wp2_with fail
 refine (HS.out).mono ?_
 rintro e' w1 ⟨rfl,hT,hx1⟩
 go_wp2_with fail
 go_ret
 exact ⟨rfl,hT,hx1⟩
def Did (s:Sys) (w:World) (r:Nat × V) (e:Ending) (w':World):Prop:=e = .returned (.int .i64 (r.1:Int)) ∧ TxAt w' s r.2 ∧ r.2.Good ∧ Ext s.F w w'
def GrowOk (s:Sys) (root:Nat) (v:V) (ws:List Stp) (n:Nd):Prop :=
 ∀ (w:World) (gx:Nat) (F:Nat → Prop) (A:Option Addr) (cap:Nat) (l:List (Stp × Adr)) (a:Adr),TxAt w s v → v.Good → Blk w gx 70 (treeCells s root) → (∀ b,s.F b → F b) → WayAt w F A cap l → l.map (·.1) = ws → NodeIn w F a n → n.fits →
  Calls Tryz.prog 100 #[.pointer (some ⟨gx,0,none⟩),.slice A ws.length cap,n.value a.A1 a.c1 a.A2 a.c2 a.A3 a.c3] w (Did s w (V.grow s.cap root ws.reverse n v))
theorem grow_eq {cap root:Nat} {ws:List Stp} {st:Stp} {n:Nd} {v:V} (h:ws.getLast? = some st) (hn:(v.wr st.id n).1 ≠ 3):V.grow cap root ws.reverse n v = v.wr st.id n:=by
 have:ws.reverse = st :: ws.reverse.tail:=by
  have h2:ws.reverse.head? = some st:=by rw [List.head?_reverse];exact h
  cases hr:ws.reverse with
  | nil=>rw [hr] at h2;simp at h2
  | cons a l=>rw [hr] at h2;simp at h2;subst h2;rfl
 rw [this,V.grow,if_pos hn]
theorem grow_one (s:Sys) (hs:s.Ok) (root:Nat) (v:V) (ws:List Stp) (n:Nd) (st:Stp) (hl:ws.getLast? = some st) (hw:(v.wr st.id n).1 ≠ 3):GrowOk s root v ws n:=by
 intro w gx F A cap l a h hg hx hF hWA hlw hn hf
 rw [grow_eq hl hw]
 have hwl:∃ m,ws.length = m + 1:=by cases hz:ws.length <;> simp_all
 obtain ⟨m,hwl⟩:=hwl
 obtain ⟨p,hp,hlast⟩:=last_of hlw hwl
 obtain ⟨st',ad⟩:=p
 have:st' = st:=by rw [hl] at hlast;simp at hlast;exact hlast.symm
 subst this
 obtain ⟨b,o,hA,hbF,q0,q1,q2,q3,q4,q5⟩:=hWA.at hp
 simp only at q0
 subst hA
 have lb:=World.block_lt_of_cell? w _ q0
 simp only at lb
 have hcap:m + 1 ≤ cap:=by
  have:=hWA.cap
  have h2:l.length = m + 1:=by rw [← hwl,← hlw,List.length_map]
  omega
 rw [hwl]
 have HW:=Lib.hid (fun o=>wr_any s hs (w.alloc o) v (h.no hs ((Ext.refl No w).alloc o)) hg gx root (hx.alloc o) st'.id n F _ _ _ _ _ _ (hn.box o) hf)
 have HWD:=Lib.hid (fun o=>wr_any s hs (w.alloc o).drew v (h.no hs ((Ext.refl No w).alloc o).drew) hg gx root (hx.alloc o) st'.id n F _ _ _ _ _ _ (hn.ext ((Ext.refl _ w).alloc o).drew) hf)
 obtain ⟨r,hr⟩:∃ r,r = v.wr st'.id n:=⟨_,rfl⟩
 rw [← hr] at HW HWD hw ⊢
 have hw':((r.1:Int) != 3) = true:=by simpa using (by omega:¬ (r.1:Int) = 3)
 have hm41:m < 65536:=by
  have:=hWA.len
  have h2:l.length = m + 1:=by rw [← hwl,← hlw,List.length_map]
  omega
 simp only [Nd.value] at HW HWD ⊢
 generalize n.cells.length = nl at *
 generalize n.keys.length = kl at *
 generalize n.kids.length = il at *
 generalize st'.id = sid at *
 clear hp hlast hWA hlw hn hf hx hg h hl q1 q2 q3 q4 q5 hwl hw hbF hr
 go_enter Tryz.func100,Tryz.ntmps100
 go_wp2_with fail
 go_loopg [7] 0 (fun gk k wr=>k = .int .i64 (m:Int) ∧ wr = w.alloc (.cells #[.bool n.leaf,.slice a.A1 nl a.c1,.slice a.A2 kl a.c2,.slice a.A3 il a.c3] 40))
 case atStart=>exact ⟨by go_num,rfl⟩
 case round =>
  obtain ⟨rfl,rfl⟩:=hrel
  have hidx:(m:Int) < (m:Int) + 1:=by omega
  have bn:=Blk.new w 40 #[.bool n.leaf,.slice a.A1 nl a.c1,.slice a.A2 kl a.c2,.slice a.A3 il a.c3]
  obtain ⟨p0,p1,p2,p3,g0,g1,g2,g3,ln⟩:=bn.p4
  have q0':=cell_ext ((Ext.refl No w).alloc (.cells #[.bool n.leaf,.slice a.A1 nl a.c1,.slice a.A2 kl a.c2,.slice a.A3 il a.c3] 40)) q0 (fun h=>h)
  have HE0:=Lib.hid (((Ext.refl s.F w).alloc (.cells #[.bool n.leaf,.slice a.A1 nl a.c1,.slice a.A2 kl a.c2,.slice a.A3 il a.c3] 40)).drew)
  clear q0 bn
  go_wp2_with fail
  go_region_law ((go_simp;go_at_call 141;refine (HWD.out _).mono ?_;rintro e w2 ⟨rfl,hT,hG,hx2⟩;have HT:=Lib.hid hT;have HG:=Lib.hid hG;have HX:=Lib.hid hx2;clear hT hG hx2))
  all_goals (
   go_wp2_with fail
   go_ret
   exact ⟨rfl,HT.out,HG.out,HE0.out.trans_ HX.out⟩)
def MkOk (s:Sys) (v:V) (key val:Bs):Prop :=
 (v.mkCell s.cap key val).1.fits ∧ ∀ (w:World) (gx root:Nat),TxAt w s v → v.Good → Blk w gx 70 (treeCells s root) →
  Calls Tryz.prog 97 #[.pointer (some ⟨gx,0,none⟩),.string (str key),.string (str val)] w fun e w'=>e = .returned (.tuple #[(v.mkCell s.cap key val).1.agg,.int .i64 ((v.mkCell s.cap key val).2.1:Int)]) ∧
   TxAt w' s (v.mkCell s.cap key val).2.2 ∧ (v.mkCell s.cap key val).2.2.Good ∧ Ext s.F w w'
theorem mk_small (s:Sys) (hs:s.Ok) (v:V) (key val:Bs) (hl:3 + key.length + val.length ≤ 160):MkOk s v key val:=by
 have e:v.mkCell s.cap key val = (⟨key,val,0,0⟩,0,v):=by unfold V.mkCell;rw [if_pos hl]
 unfold MkOk
 rw [e]
 refine ⟨⟨by simp only;omega,by simp only;omega,by simp,by simp⟩,fun w gx root h hg hx=>?_⟩
 exact (cell_small key val _ w hl).mono fun e w' ⟨h1,h2⟩=>⟨h1,h.no hs h2,hg,h2.of_no⟩
theorem V.alloc_id {v:V} (h:v.Good) {cap:Nat} (h1:v.high ≤ cap) (h2:cap ≤ 65536):(v.alloc cap).1 ≤ 65536:=by
 obtain ⟨l,h⟩:=h
 unfold V.alloc
 split
 ·split
  ·simp
  ·simp only;omega
 ·rename_i hf
  obtain ⟨l',rfl⟩:=h.cons hf
  have:=(h.mem v.free).2 (by simp)
  simp only;omega
theorem V.fresh_id {v:V} (h:v.Good) {cap:Nat} (h1:v.high ≤ cap) (h2:cap ≤ 65536) (n:Nd):(v.fresh cap n).1 ≤ 65536:=by
 have:=V.alloc_id h h1 h2
 unfold V.fresh
 split
 ·exact this
 ·simp
theorem Nd.put_fits {n:Nd} {c:Cell} (h:n.fits) (hc:c.fits):(n.put c).fits:=by
 refine ⟨fun d hd=>?_,h.k,h.i⟩
 simp only [Nd.put] at hd
 rcases List.mem_append.1 hd with hd | hd
 ·exact h.c d (List.mem_of_mem_take hd)
 ·rcases List.mem_cons.1 hd with rfl | hd
  ·exact hc
  ·exact h.c d (List.mem_of_mem_drop hd)
theorem Old.of {w:World} {s:Sys} {v:V} (h:TxAt w s v):∀ b,s.F b → Old w b:=fun b hb=>h.old hb
theorem put0_none (s:Sys) (hs:s.Ok) (w:World) (v:V) (h:TxAt w s v) (hg:v.Good) (gx i:Nat) (hx:Blk w gx 70 (treeCells s i)) (hi:i < 4) (key val:Bs) (hw:v.way i key = none) :
  Calls Tryz.prog 62 #[.pointer (some ⟨gx,0,none⟩),.string (str key),.string (str val)] w (Did s w (5,v)):=by
 have HW:=Lib.hid (way_any s hs w v h hg gx i hx hi key)
 have HT:=Lib.hid (fun (w':World) (e:Ext No w w')=>h.no hs e)
 have HG:=Lib.hid hg
 rw [hw] at HW
 clear h hg hx hw
 go_enter Tryz.func62,Tryz.ntmps62
 go_wp2_with fail
 refine (HW.out).mono ?_
 rintro e' w2 ⟨hx2,rfl⟩
 go_wp2_with fail
 go_ret
 exact ⟨rfl,HT.out _ hx2,HG.out,hx2.of_no⟩
theorem put0_mk (s:Sys) (hs:s.Ok) (w:World) (v:V) (h:TxAt w s v) (hg:v.Good) (gx i:Nat) (hx:Blk w gx 70 (treeCells s i)) (hi:i < 4) (key val:Bs) (ws:List Stp) (hw:v.way i key = some ws)
  (hM:MkOk s v key val) (he:(v.mkCell s.cap key val).2.1 ≠ 0) :
  Calls Tryz.prog 62 #[.pointer (some ⟨gx,0,none⟩),.string (str key),.string (str val)] w (Did s w (v.mkCell s.cap key val).2):=by
 have HW:=Lib.hid (way_any s hs w v h hg gx i hx hi key)
 have HM:=Lib.hid (fun w' (e:Ext No w w')=>hM.2 w' gx i (h.no hs e) hg (hx.ext e (fun h=>h)))
 rw [hw] at HW
 generalize v.mkCell s.cap key val = r at *
 obtain ⟨c,k,v1⟩:=r
 simp only at he HM ⊢
 have he':((k:Int) != 0) = true:=by simpa using (by omega:¬ (k:Int) = 0)
 simp only [Cell.agg] at HM
 clear h hg hx hw hM he
 go_enter Tryz.func62,Tryz.ntmps62
 go_wp2_with fail
 refine (HW.out).mono ?_
 rintro e' w2 ⟨hx2,A,cap,l,hl,rfl,hWA⟩
 clear hl
 go_wp2_with fail
 refine (HM.out _ hx2).mono ?_
 rintro e' w3 ⟨rfl,hT,hG,hx3⟩
 go_wp2_with fail
 go_ret
 exact ⟨rfl,hT.no hs ((Ext.refl _ _).alloc _),hG,(hx2.of_no.trans_ hx3).alloc _⟩
theorem one_cell_node {w:World} {b:Nat} {c:Cell} {F:Nat → Prop} (h:Blk w b 45 #[.string (str c.key),.string (str c.val),.int .i64 (c.over:Int),.int .i64 (c.len:Int)]) (hb:¬ F b) :
  NodeAt w F (some ⟨b,0,none⟩) 1 none 0 none 0 ⟨true,[c],[],[]⟩:=by
 refine ⟨⟨rfl,fun _=>⟨b,0,rfl,hb,fun j u hu=>?_⟩⟩,Rd.nil_ _,Rd.nil_ _,by simp,by simp,by simp,by simp,by simp,by simp,(fun h=>by cases h),(fun _=>rfl),(fun _=>rfl)⟩
 rw [Nat.zero_add,h.cell j]
 simpa [cellVals,Cell.vals] using hu
theorem put0_first (s:Sys) (hs:s.Ok) (w:World) (v:V) (h:TxAt w s v) (hg:v.Good) (gx i:Nat) (hx:Blk w gx 70 (treeCells s i)) (hi:i < 4) (key val:Bs) (hw:v.way i key = some [])
  (hM:MkOk s v key val) (he:(v.mkCell s.cap key val).2.1 = 0) :
  Calls Tryz.prog 62 #[.pointer (some ⟨gx,0,none⟩),.string (str key),.string (str val)] w (Did s w (v.put0 s.cap i key val)):=by
 have HW:=Lib.hid (way_any s hs w v h hg gx i hx hi key)
 have HM:=Lib.hid (fun w' (e:Ext No w w')=>hM.2 w' gx i (h.no hs e) hg (hx.ext e (fun h=>h)))
 have hcf:=hM.1
 obtain ⟨D,hD⟩:∃ D,D = v.put0 s.cap i key val:=⟨_,rfl⟩
 rw [← hD]
 unfold V.put0 at hD
 rw [hw] at HW hD
 simp only [he,ne_eq,not_true,if_false,List.getLast?_nil] at hD
 have HX0:=Lib.hid (fun (w':World) (e:Ext s.F w w')=>tree_ext h hx e)
 generalize v.mkCell s.cap key val = r at *
 obtain ⟨c,k,v1⟩:=r
 simp only at he HM hD hcf
 subst he
 simp only [Cell.agg] at HM
 have HCF:=Lib.hid hcf
 have HD:=Lib.hid hD
 have hgl:=hx.lt
 clear h hg hx hw hM hD hcf
 go_enter Tryz.func62,Tryz.ntmps62
 go_wp2_with fail
 refine (HW.out).mono ?_
 rintro e' w2 ⟨hx2,A,cap,l,hl,rfl,hWA⟩
 clear hl hWA
 simp only [List.length_nil]
 go_wp2_with fail
 refine (HM.out _ hx2).mono ?_
 rintro e' w3 ⟨rfl,hT,hG,hx3⟩
 have HE3:=Lib.hid (hx2.of_no.trans_ hx3)
 have HT:=Lib.hid hT;have HG:=Lib.hid hG
 clear hT hG hx2 hx3
 have hE5:Ext No w3 ((w3.alloc (.cells #[.string (str c.key),.string (str c.val),.int .i64 (c.over:Int),.int .i64 (c.len:Int)] 45)).alloc (.cells #[.string (str c.key),.string (str c.val),.int .i64 (c.over:Int),.int .i64 (c.len:Int)] 45)):=((Ext.refl No w3).alloc _).alloc _
 have hT5:=HT.out.no hs hE5
 have hx5:=HX0.out _ (HE3.out.trans_ hE5.of_no)
 have hb5:Blk ((w3.alloc (.cells #[.string (str c.key),.string (str c.val),.int .i64 (c.over:Int),.int .i64 (c.len:Int)] 45)).alloc (.cells #[.string (str c.key),.string (str c.val),.int .i64 (c.over:Int),.int .i64 (c.len:Int)] 45)) (w3.heap.size + 1) 45 #[.string (str c.key),.string (str c.val),.int .i64 (c.over:Int),.int .i64 (c.len:Int)] :=
  Blk.new_at (b:=w3.heap.size + 1) (w3.alloc _) 45 _ (by simp)
 have hn5:=one_cell_node (F:=s.F) hb5 (fun h=>by have:=HT.out.old h;omega)
 have HFR:=Lib.hid (fresh_any s hs _ v1 hT5 HG.out gx i hx5 ⟨true,[c],[],[]⟩ s.F _ _ _ _ _ _ hn5 ⟨by simpa using HCF.out,by simp,by simp⟩ (fun _ h=>h))
 have hid:=V.fresh_id HG.out HT.out.h2 (Sys.cap_le hs) ⟨true,[c],[],[]⟩
 have HE5:=Lib.hid (HE3.out.trans_ hE5.of_no)
 clear hE5 hT5 hx5 hb5 hn5
 simp only [Nd.value,List.length_cons,List.length_nil] at HFR
 obtain ⟨R,hR⟩:∃ R,R = v1.fresh s.cap ⟨true,[c],[],[]⟩:=⟨_,rfl⟩
 rw [← hR] at HFR hid
 have hD:=HD.out
 rw [← hR] at hD
 clear HD hR
 obtain ⟨id,k2,v2⟩:=R
 simp only at HFR hid hD
 by_cases hk2:k2 = 0
 ·subst hk2
  simp only [ne_eq,not_true,if_false] at hD
  have HD:=Lib.hid hD
  have HID:=Lib.hid hid
  clear hD hid
  go_wp2_with fail
  refine (HFR.out).mono ?_
  rintro e' w6 ⟨rfl,hT6,hG6,hx6⟩
  have hE6:=HE5.out.trans_ hx6
  have hx7:=HX0.out _ hE6
  have c0:=hx7.cell 0
  have c1:=hx7.cell 1
  simp [treeCells] at c0 c1
  have HSR:=Lib.hid (setroot_any s hs w6.drew v2 (hT6.no hs (Ext.refl No w6).drew) i id hi (by have:=HID.out;omega))
  have HG6:=Lib.hid hG6;have HE6:=Lib.hid hE6
  clear hT6 hG6 hx6 hE6 hx7
  go_wp2_with fail
  go_region_law ((go_simp;go_at_call 21;refine (HSR.out).mono ?_;rintro e w7 ⟨rfl,hT7,hx7⟩;have HT7:=Lib.hid hT7;have HX7:=Lib.hid hx7;clear hT7 hx7))
  all_goals (
   go_wp2_with fail
   go_ret
   rw [HD.out]
   exact ⟨rfl,HT7.out,HG6.out.setR _ _,HE6.out.drew.trans_ HX7.out⟩)
 ·simp only [ne_eq,hk2,not_false_eq_true,if_true] at hD
  have HD:=Lib.hid hD
  have hk2':((k2:Int) != 0) = true:=by simpa using (by omega:¬ (k2:Int) = 0)
  clear hD hid hk2
  go_wp2_with fail
  refine (HFR.out).mono ?_
  rintro e' w6 ⟨rfl,hT6,hG6,hx6⟩
  go_wp2_with fail
  go_ret
  rw [HD.out]
  exact ⟨rfl,hT6,hG6,HE5.out.trans_ hx6⟩
theorem Blk.p6 {w:World} {b:Nat} {t:TypeId} {a0 a1 a2 a3 a4 a5:Value} (h:Blk w b t #[a0,a1,a2,a3,a4,a5]) :
  w.cell? ⟨b,0,none⟩ = some a0 ∧ w.cell? ⟨b,1,none⟩ = some a1 ∧ w.cell? ⟨b,2,none⟩ = some a2 ∧ w.cell? ⟨b,3,none⟩ = some a3 ∧ w.cell? ⟨b,4,none⟩ = some a4 ∧ w.cell? ⟨b,5,none⟩ = some a5 ∧ b < w.heap.size :=
 ⟨h.cell 0,h.cell 1,h.cell 2,h.cell 3,h.cell 4,h.cell 5,h.lt⟩
theorem grow_put (s:Sys) (hs:s.Ok) (w wT:World) (v:V) (hT:TxAt wT s v) (hg:v.Good) (gx i:Nat) (hx:Blk wT gx 70 (treeCells s i)) (ws:List Stp) (st:Stp) (hlast:ws.getLast? = some st) (c:Cell) (hcf:c.fits)
  (A:Option Addr) (cap:Nat) (l:List (Stp × Adr)) (hl:l.map (·.1) = ws) (hWA:WayAt wT (Old w) A cap l) (ad:Adr) (hn:NodeIn wT (Old w) ad st.n) (hok:st.n.ok = true) (hlf:st.n.leaf = true) (hO:∀ b,s.F b → Old w b) (hE:Ext s.F w wT)
  (hG:GrowOk s i v ws (st.n.put c)) :
  Calls Tryz.prog 101 #[st.n.value ad.A1 ad.c1 ad.A2 ad.c2 ad.A3 ad.c3,c.agg] wT fun e w8=>∃ a:Adr,e = .returned ((st.n.put c).value a.A1 a.c1 a.A2 a.c2 a.A3 a.c3) ∧
   Calls Tryz.prog 100 #[.pointer (some ⟨gx,0,none⟩),.slice A ws.length cap,(st.n.put c).value a.A1 a.c1 a.A2 a.c2 a.A3 a.c3] w8 (Did s w (V.grow s.cap i ws.reverse (st.n.put c) v)):=by
 have hOk:=Nd.Ok.of hok
 obtain ⟨h1,h2⟩:=hOk.lf hlf
 refine (put_any st.n c wT (Old w) _ _ _ _ _ _ hn hlf h1 h2 (Nd.Ok.sortedC hok) (by have:=hOk.a1;omega)).mono ?_
 rintro e w8 ⟨hx8,A1,c1,A2,c2,A3,c3,rfl,hn8⟩
 have hsz:=hE.size
 refine ⟨⟨A1,c1,A2,c2,A3,c3⟩,rfl,?_⟩
 refine (hG w8 gx (Old w) A cap l ⟨A1,c1,A2,c2,A3,c3⟩ (hT.no hs hx8) hg (hx.ext hx8 (fun h=>h)) hO (hWA.ext hx8.of_no) hl (hn8.mono (fun b _ hb=>Nat.lt_of_lt_of_le hb hsz)) (Nd.put_fits (Nd.Ok.fits hOk) hcf)).mono ?_
 rintro e w9 ⟨he,hT9,hG9,hx9⟩
 exact ⟨he,hT9,hG9,(hE.trans_ hx8.of_no).trans_ hx9⟩
theorem put0_new (s:Sys) (hs:s.Ok) (w:World) (v:V) (h:TxAt w s v) (hg:v.Good) (gx i:Nat) (hx:Blk w gx 70 (treeCells s i)) (hi:i < 4) (key val:Bs) (ws:List Stp) (hw:v.way i key = some ws) (st:Stp) (hst:ws.getLast? = some st)
  (hM:MkOk s v key val) (he:(v.mkCell s.cap key val).2.1 = 0) (hh:hit ws key = none) (hGr:GrowOk s i (v.mkCell s.cap key val).2.2 ws (st.n.put (v.mkCell s.cap key val).1)) :
  Calls Tryz.prog 62 #[.pointer (some ⟨gx,0,none⟩),.string (str key),.string (str val)] w (Did s w (V.grow s.cap i ws.reverse (st.n.put (v.mkCell s.cap key val).1) (v.mkCell s.cap key val).2.2)):=by
 have HW:=Lib.hid (way_any s hs w v h hg gx i hx hi key)
 have HM:=Lib.hid (fun w' (e:Ext No w w')=>hM.2 w' gx i (h.no hs e) hg (hx.ext e (fun h=>h)))
 have HCF:=Lib.hid hM.1
 have HX0:=Lib.hid (fun (w':World) (e:Ext s.F w w')=>tree_ext h hx e)
 have HO:=Lib.hid (Old.of h)
 have HGR:=Lib.hid hGr
 have HWO:=Lib.hid (way_ok hw)
 have HST:=Lib.hid hst
 have HH:=Lib.hid hh
 rw [hw] at HW
 generalize v.mkCell s.cap key val = r at *
 obtain ⟨c,k,v1⟩:=r
 simp only at he HM HCF HGR ⊢
 subst he
 simp only [Cell.agg] at HM
 have hwl:∃ m,ws.length = m + 1:=by cases hz:ws.length <;> simp_all
 obtain ⟨m,hwl⟩:=hwl
 have hm41:m ≤ 40:=by have:=HWO.out.len;omega
 have HWL:=Lib.hid hwl
 clear h hg hx hw hM hGr hst hh hwl
 go_enter Tryz.func62,Tryz.ntmps62
 go_wp2_with fail
 refine (HW.out).mono ?_
 rintro e' w2 ⟨hx2,A,cap,l,hl,rfl,hWA⟩
 have HL:=Lib.hid hl
 have HWA:=Lib.hid hWA
 rw [HWL.out]
 clear hl hWA
 go_wp2_with fail
 refine (HM.out _ hx2).mono ?_
 rintro e' w3 ⟨rfl,hT,hG,hx3⟩
 have hWA3:=HWA.out.ext (hx3.mono fun b _ hb=>HO.out b hb)
 have HE3:=Lib.hid (hx2.of_no.trans_ hx3)
 have HT:=Lib.hid hT;have HG:=Lib.hid hG
 obtain ⟨p,hp,hlast⟩:=last_of HL.out HWL.out
 obtain ⟨st',ad⟩:=p
 have hsst:st' = st:=by have:=HST.out;rw [hlast] at this;simpa using this
 subst hsst
 obtain ⟨b,o,rfl,hbF,q0,q1,q2,q3,q4,q5⟩:=hWA3.at hp
 have hnode:=hWA3.nodes (st',ad) (List.mem_of_getElem? hp)
 simp only at q0 q1 q2 q3 q4 q5 hnode
 have hlf:=HWO.out.last st' hlast
 obtain ⟨hnd,hsi⟩:=HWO.out.all st' (List.mem_of_getLast? hlast)
 have hok:=V.node_ok hnd
 have hile:st'.i ≤ st'.n.cells.length:=by rw [hsi];exact (Nd.find_le hok key).1 hlf
 have hhit:=hit_eq hlast key
 rw [HH.out] at hhit
 have HN:=Lib.hid hnode;have HOK:=Lib.hid hok;have HLF:=Lib.hid hlf;have HWA3:=Lib.hid hWA3
 have lb:=World.block_lt_of_cell? w3 _ q0
 simp only at lb
 have hcap:m + 1 ≤ cap:=by
  have:=hWA3.cap
  have h2:l.length = m + 1:=by rw [← HWL.out,← HL.out,List.length_map]
  omega
 have hcl1:=hnode.l1
 have hb1:=hnode.b1
 have hsz3:w.heap.size ≤ w3.heap.size:=HE3.out.size
 obtain ⟨W,hW⟩:∃ W,W = (w3.alloc (.cells #[.string (str c.key),.string (str c.val),.int .i64 (c.over:Int),.int .i64 (c.len:Int)] 45)).alloc (.cells #[.int .i64 (st'.id:Int),.bool st'.n.leaf,.slice ad.A1 st'.n.cells.length ad.c1,.slice ad.A2 st'.n.keys.length ad.c2,.slice ad.A3 st'.n.kids.length ad.c3,.int .i64 (st'.i:Int)] 125):=⟨_,rfl⟩
 have hEW:Ext No w3 W:=by rw [hW];exact ((Ext.refl No w3).alloc _).alloc _
 have HPUT:=Lib.hid (grow_put s hs w W v1 (HT.out.no hs hEW) HG.out gx i (HX0.out _ (HE3.out.trans_ hEW.of_no)) ws st' HST.out c HCF.out _ cap l HL.out (HWA3.out.ext hEW.of_no) ad (HN.out.ext hEW.of_no) HOK.out HLF.out HO.out (HE3.out.trans_ hEW.of_no) HGR.out)
 rw [HWL.out] at HPUT
 have HEW:=Lib.hid (HE3.out.trans_ hEW.of_no)
 subst hW
 have HPV:st'.n.value ad.A1 ad.c1 ad.A2 ad.c2 ad.A3 ad.c3 = .agg #[.bool st'.n.leaf,.slice ad.A1 st'.n.cells.length ad.c1,.slice ad.A2 st'.n.keys.length ad.c2,.slice ad.A3 st'.n.kids.length ad.c3]:=rfl
 rw [HPV] at HPUT
 simp only [Cell.agg] at HPUT
 rw [hlf] at HPUT q1
 clear HPV hlast hp hx2 hx3 hT hG hWA3 hsi hnd hbF hEW hok hlf
 rcases Nat.lt_or_ge st'.i st'.n.cells.length with hlt | hge
 ·obtain ⟨d,hd⟩:∃ d,st'.n.cells[st'.i]? = some d:=⟨_,List.getElem?_eq_getElem hlt⟩
  obtain ⟨cb,co,hA1,_,k0,k1,k2,k3⟩:=hnode.cells.cellAt hd
  have lc:=World.block_lt_of_cell? w3 _ k0
  simp only at lc
  rw [hA1] at q2 HPUT
  rw [hd] at hhit
  simp only at hhit
  have hbk:(d.key == key) = false:=by
   by_cases hk:d.key = key
   ·rw [if_pos hk] at hhit;cases hhit
   ·simpa using hk
  have hlt':(st'.i:Int) < (st'.n.cells.length:Int):=by omega
  clear hd hnode hA1 hile hhit
  generalize st'.i = si at *
  generalize st'.n.cells.length = cl at *
  generalize st'.n.keys.length = kl at *
  generalize st'.n.kids.length = il at *
  generalize st'.id = sid at *
  go_wp2_with fail
  refine HPUT.out.mono ?_
  rintro e w8 ⟨a,rfl,HG8⟩
  have HG8:=Lib.hid HG8
  go_wp2_with fail
  refine HG8.out.mono ?_
  rintro e w9 ⟨rfl,hT9,hG9,hx9⟩
  go_wp2_with fail
  go_ret
  exact ⟨rfl,hT9,hG9,hx9⟩
 ·have hge':¬ ((st'.i:Int) < (st'.n.cells.length:Int)):=by omega
  clear hnode hhit hile hge
  generalize st'.i = si at *
  generalize st'.n.cells.length = cl at *
  generalize st'.n.keys.length = kl at *
  generalize st'.n.kids.length = il at *
  generalize st'.id = sid at *
  go_wp2_with fail
  refine HPUT.out.mono ?_
  rintro e w8 ⟨a,rfl,HG8⟩
  have HG8:=Lib.hid HG8
  go_wp2_with fail
  refine HG8.out.mono ?_
  rintro e w9 ⟨rfl,hT9,hG9,hx9⟩
  go_wp2_with fail
  go_ret
  exact ⟨rfl,hT9,hG9,hx9⟩
theorem Put_bad (s:Sys) (hs:s.Ok) (w:World) (v:V) (h:TxAt w s v) (hg:v.Good) (gx i:Nat) (hx:Blk w gx 70 (treeCells s i)) (key val:Bs) (hm:may key val ≠ 0) :
  Calls Tryz.prog 25 #[.pointer (some ⟨gx,0,none⟩),.string (str key),.string (str val)] w (Did s w (may key val,v)):=by
 have HM:=Lib.hid (may_any s hs w v h gx i hx key val)
 have HT:=Lib.hid (fun (w':World) (e:Ext No w w')=>h.no hs e)
 have HG:=Lib.hid hg
 have hm':((may key val:Int) != 0) = true:=by simpa using (by omega:¬ (may key val:Int) = 0)
 generalize may key val = k at *
 clear h hg hx hm
 go_enter Tryz.func25,Tryz.ntmps25
 go_wp2_with fail
 refine (HM.out).mono ?_
 rintro e' w1 ⟨rfl,hx1⟩
 go_wp2_with fail
 go_ret
 exact ⟨rfl,HT.out _ hx1,HG.out,hx1.of_no⟩
theorem Put_of (s:Sys) (hs:s.Ok) (w:World) (v:V) (h:TxAt w s v) (hg:v.Good) (gx i:Nat) (hx:Blk w gx 70 (treeCells s i)) (key val:Bs) (hm:may key val = 0)
  (hP:∀ w',Ext No w w' → Calls Tryz.prog 62 #[.pointer (some ⟨gx,0,none⟩),.string (str key),.string (str val)] w' (Did s w' (v.put0 s.cap i key val))) :
  Calls Tryz.prog 25 #[.pointer (some ⟨gx,0,none⟩),.string (str key),.string (str val)] w (Did s w (v.Put s.cap i key val)):=by
 have HM:=Lib.hid (may_any s hs w v h gx i hx key val)
 have HP:=Lib.hid hP
 have HX:=Lib.hid (fun (w':World) (e:Ext s.F w w')=>tree_ext h hx e)
 have e:v.Put s.cap i key val = V.sure (v.put0 s.cap i key val):=by simp [V.Put,hm]
 rw [e]
 rw [hm] at HM
 obtain ⟨r,hr⟩:∃ r,r = v.put0 s.cap i key val:=⟨_,rfl⟩
 rw [← hr] at HP ⊢
 clear h hg hx hm hP e hr
 obtain ⟨k,v2⟩:=r
 by_cases hk:k = 0
 ·subst hk
  have e:V.sure (0,v2) = (0,v2):=rfl
  rw [e]
  clear e
  have HS:=Lib.hid (sure_ok (.pointer (some ⟨gx,0,none⟩)))
  go_enter Tryz.func25,Tryz.ntmps25
  go_wp2_with fail
  refine (HM.out).mono ?_
  rintro e' w1 ⟨rfl,hx1⟩
  go_wp2_with fail
  refine (HP.out _ hx1).mono ?_
  rintro e' w2 ⟨rfl,hT,hG,hx2⟩
  go_wp2_with fail
  refine (HS.out _).mono ?_
  rintro e' w3 ⟨rfl,rfl⟩
  go_wp2_with fail
  go_ret
  exact ⟨rfl,hT,hG,hx1.of_no.trans_ hx2⟩
 ·have e:V.sure (k,v2) = (k,v2.spoil):=by simp [V.sure,hk]
  rw [e]
  clear e
  have HS:=Lib.hid (fun w' (hT:TxAt w' s v2) hX=>sure_bad s hs w' v2 hT gx i hX k hk)
  clear hk
  go_enter Tryz.func25,Tryz.ntmps25
  go_wp2_with fail
  refine (HM.out).mono ?_
  rintro e' w1 ⟨rfl,hx1⟩
  go_wp2_with fail
  refine (HP.out _ hx1).mono ?_
  rintro e' w2 ⟨rfl,hT,hG,hx2⟩
  go_wp2_with fail
  refine (HS.out _ hT (HX.out _ (hx1.of_no.trans_ hx2))).mono ?_
  rintro e' w3 ⟨rfl,hT3,hx3⟩
  go_wp2_with fail
  go_ret
  exact ⟨rfl,hT3,hG.spoil,(hx1.of_no.trans_ hx2).trans_ hx3⟩
end Go.Proofs.YtccnemmlkcmceaaGreatDoor
