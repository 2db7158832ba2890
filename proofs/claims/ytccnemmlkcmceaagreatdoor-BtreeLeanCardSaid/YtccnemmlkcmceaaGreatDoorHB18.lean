/- Proofs about the given program, joined out of the texts GD, GE, GF, C4, Y4, Y5. -/
import Derived.Test.YtccnemmlkcmceaaGreatDoorHB17
import Derived.Deep.RegionHeld3
set_option linter.unusedVariables false
set_option linter.unusedSimpArgs false
set_option maxRecDepth 100000
set_option maxHeartbeats 6400000
namespace Go.Proofs.YtccnemmlkcmceaaGreatDoor
open Go.RowKit
structure NOk (n : Nd) : Prop where
 f : n.fits
 lf : n.leaf = true → n.keys = []
 br : n.leaf = false → n.kids.length = n.keys.length + 1 ∧ ∀ i ∈ n.kids,i < 2147483648
theorem settle_any (s : Sys) (hs : s.Ok) (w : World) (v : V) (h : TxAt w s v) (hg : v.Good) (gx i : Nat) (hx : Blk w gx 70 (treeCells s i)) (hi : i < 4) (id : Nat) (n : Nd) (a : Adr) (hn : NodeIn w s.F a n) (hN : NOk n) (first : Bool) :
  Calls Tryz.prog 153 #[.pointer (some ⟨gx,0,none⟩),.int .i64 (id : Int),n.value a.A1 a.c1 a.A2 a.c2 a.A3 a.c3,.bool first] w (Did s w (v.settle i id n first)) := by
 by_cases hc : first = false ∨ (n.leaf = true ∧ 0 < n.cells.length) ∨ 0 < n.keys.length
 ·exact settle_wr s hs w v h hg gx i hx id n s.F a hn hN.f first hc
 ·have hf : first = true := by cases first; exact absurd (.inl rfl) hc; rfl
  subst hf
  have hk : n.keys = [] := by
   apply List.length_eq_zero_iff.1
   rcases Nat.eq_zero_or_pos n.keys.length with h | h
   ·exact h
   ·exact absurd (.inr (.inr h)) hc
  cases hl : n.leaf
  ·obtain ⟨h1,h2⟩ := hN.br hl
   rw [hk] at h1
   obtain ⟨kid,hkid⟩ : ∃ k,n.kids[0]? = some k := ⟨_,List.getElem?_eq_getElem (by simp at h1; omega)⟩
   exact settle_branch s hs w v h hg gx i hx hi id n a hl hk hn kid hkid (h2 kid (List.mem_of_getElem? hkid))
  ·have hc0 : n.cells = [] := by
    apply List.length_eq_zero_iff.1
    rcases Nat.eq_zero_or_pos n.cells.length with h | h
    ·exact h
    ·exact absurd (.inr (.inl ⟨hl,h⟩)) hc
   exact settle_leaf s hs w v h hg gx i hx hi id n a hl hc0 hk
theorem join_ok {l r b : Nd} {key : Bs} (h : l.join r key = some b) : b.ok = true := by
 unfold Nd.join at h
 split at h
 ·cases h
 ·split at h
  ·rename_i h2; injection h with h; rw [← h]; exact h2
  ·cases h
theorem beside_ok {v : V} {p n : Nd} {i : Nat} (h : (v.beside p i n).1 = 0) (hik : i ≤ p.keys.length) : (v.beside p i n).2.2.ok = true ∧ (v.beside p i n).2.1 < p.keys.length := by
 unfold V.beside at h ⊢
 by_cases hk : p.keys = []
 ·rw [if_pos hk] at h; cases h
 ·have hl : 0 < p.keys.length := List.length_pos_iff.2 hk
  rw [if_neg hk] at h ⊢
  by_cases hi : 0 < i
  ·rw [if_pos hi] at h ⊢
   cases hn : v.node (p.kids.getD (i - 1) 0) with
   | none => rw [hn] at h; cases h
   | some l =>
    rw [hn] at h
    simp only at h ⊢
    cases hj : l.join n (p.keys.getD (i - 1) []) with
    | none => rw [hj] at h; cases h
    | some b => exact ⟨join_ok hj,by show i - 1 < _; omega⟩
  ·rw [if_neg hi] at h ⊢
   cases hn : v.node (p.kids.getD 1 0) with
   | none => rw [hn] at h; cases h
   | some l =>
    rw [hn] at h
    simp only at h ⊢
    cases hj : n.join l (p.keys.getD 0 []) with
    | none => rw [hj] at h; cases h
    | some b => exact ⟨join_ok hj,hl⟩
theorem stpVals_take (l : List (Stp × Adr)) (k : Nat) : (stpVals l).take (k * 6) = stpVals (l.take k) := by
 induction l generalizing k with
 | nil => simp [stpVals]
 | cons p l ih =>
  match k with
  | 0 => simp [stpVals]
  | k + 1 =>
   have h1 : stpVals (p :: l) = p.1.vals p.2 ++ stpVals l := rfl
   have h2 : stpVals (p :: l.take k) = p.1.vals p.2 ++ stpVals (l.take k) := rfl
   rw [List.take_succ_cons,h1,h2,← ih k,List.take_append,show (k + 1) * 6 - (p.1.vals p.2).length = k * 6 from by simp [Stp.vals]; omega]
   congr 1
   exact List.take_of_length_le (by simp [Stp.vals]; omega)
theorem WayAt.take {w : World} {F : Nat → Prop} {A : Option Addr} {cap : Nat} {l : List (Stp × Adr)} (h : WayAt w F A cap l) (k : Nat) (hk : k ≤ l.length) : WayAt w F A cap (l.take k) := by
 have hr := h.rd.take k hk (by omega)
 rw [stpVals_take] at hr
 have hl : (l.take k).length = k := by rw [List.length_take]; omega
 refine ⟨by rw [hl]; exact hr,by have := h.cap; omega,fun p hp => h.nodes p (List.mem_of_mem_take hp),by have := h.len; omega⟩
theorem erase_NOk {p : Nd} {at_ : Nat} (hok : p.ok = true) (hl : p.leaf = false) (ha : at_ < p.keys.length) : NOk ⟨false,[],p.keys.eraseIdx at_,p.kids.eraseIdx (at_ + 1)⟩ := by
 have hO := Nd.Ok.of hok
 have hf := Nd.Ok.fits hO
 have hkk := (hO.br hl).2
 refine ⟨⟨by simp,fun k hk => hf.k k ((List.eraseIdx_sublist ..).subset hk),fun i hi => hf.i i ((List.eraseIdx_sublist ..).subset hi)⟩,(fun h => by cases h),fun _ => ⟨?_,fun i hi => ?_⟩⟩
 ·show (p.kids.eraseIdx (at_ + 1)).length = (p.keys.eraseIdx at_).length + 1
  rw [List.length_eraseIdx,List.length_eraseIdx,if_pos (by omega),if_pos ha]; omega
 ·have := hO.i i ((List.eraseIdx_sublist ..).subset hi)
  simp [idOk] at this
  omega
theorem shrink_end (s : Sys) (hs : s.Ok) (w w12 W20 w16 : World) (ks : List Bs) (is : List Nat) (v12 : V) (KB : Option Addr) (kd : Nat) (IB : Option Addr) (id n1 n2 : Nat) (e1 : ks.length = n1) (e2 : is.length = n2) (b1 : n1 < 65536) (b2 : n2 < 65536) (HOLD : Hid (∀ b,s.F b → b < w.heap.size)) (HDB : Hid (∀ w',Ext s.F w w' → s.db w'))
  (HWF : Hid (∀ b,(s.F b ∨ b = w.heap.size) → b < W20.heap.size)) (HX20 : Hid (Ext No w12 W20)) (HE20 : Hid (Ext s.F w W20)) (HE16 : Hid (Ext No W20 w16)) (HT12 : Hid (TxAt w12 s v12)) (n14 : Nat)
  (HRK : Hid (Rd w16 (fun b => b < W20.heap.size ∨ n14 ≤ b) 1 KB n1 (keyVals ks))) (HRI : Hid (Rd w16 (fun b => b < W20.heap.size) 1 IB n2 (kidVals is)))
  (HC14 : Hid (n1 ≤ kd)) (HC16 : Hid (n2 ≤ id)) (HN14 : Hid (KB = none → kd = 0)) (HN16 : Hid (IB = none → id = 0)) :
  Hid (NodeIn ((((w16.setCell ⟨w.heap.size,0,none⟩ (.bool false)).setCell ⟨w.heap.size,1,none⟩ (.slice none 0 0)).setCell ⟨w.heap.size,2,none⟩ (.slice KB n1 kd)).setCell ⟨w.heap.size,3,none⟩ (.slice IB n2 id)) (fun b => s.F b ∨ b = w.heap.size) ⟨none,0,KB,kd,IB,id⟩ ⟨false,[],ks,is⟩) ∧
  Hid (TxAt ((((w16.setCell ⟨w.heap.size,0,none⟩ (.bool false)).setCell ⟨w.heap.size,1,none⟩ (.slice none 0 0)).setCell ⟨w.heap.size,2,none⟩ (.slice KB n1 kd)).setCell ⟨w.heap.size,3,none⟩ (.slice IB n2 id)) s v12) ∧
  Hid (Ext s.F w ((((w16.setCell ⟨w.heap.size,0,none⟩ (.bool false)).setCell ⟨w.heap.size,1,none⟩ (.slice none 0 0)).setCell ⟨w.heap.size,2,none⟩ (.slice KB n1 kd)).setCell ⟨w.heap.size,3,none⟩ (.slice IB n2 id))) := by
 have hEw : Ext s.F w ((((w16.setCell ⟨w.heap.size,0,none⟩ (.bool false)).setCell ⟨w.heap.size,1,none⟩ (.slice none 0 0)).setCell ⟨w.heap.size,2,none⟩ (.slice KB n1 kd)).setCell ⟨w.heap.size,3,none⟩ (.slice IB n2 id)) :=
  ((((HE20.out.trans_ HE16.out.of_no).setNew (Nat.le_refl _) 0 (.bool false)).setNew (Nat.le_refl _) 1 (.slice none 0 0)).setNew (Nat.le_refl _) 2 (.slice KB n1 kd)).setNew (Nat.le_refl _) 3 (.slice IB n2 id)
 have hset : ∀ (F : Nat → Prop),F w.heap.size → Ext F w16 ((((w16.setCell ⟨w.heap.size,0,none⟩ (.bool false)).setCell ⟨w.heap.size,1,none⟩ (.slice none 0 0)).setCell ⟨w.heap.size,2,none⟩ (.slice KB n1 kd)).setCell ⟨w.heap.size,3,none⟩ (.slice IB n2 id)) :=
  fun F hF => ((((Ext.refl F w16).setF hF 0 (.bool false)).setF hF 1 (.slice none 0 0)).setF hF 2 (.slice KB n1 kd)).setF hF 3 (.slice IB n2 id)
 have hwin := HWF.out w.heap.size (.inr rfl)
 generalize ((((w16.setCell ⟨w.heap.size,0,none⟩ (.bool false)).setCell ⟨w.heap.size,1,none⟩ (.slice none 0 0)).setCell ⟨w.heap.size,2,none⟩ (.slice KB n1 kd)).setCell ⟨w.heap.size,3,none⟩ (.slice IB n2 id)) = wx at *
 refine ⟨Lib.hid ⟨Rd.nil_ _,?_,?_,Nat.le_refl _,by rw [e1]; exact HC14.out,by rw [e2]; exact HC16.out,by simp,by rw [e1]; omega,by rw [e2]; omega,fun _ => rfl,HN14.out,HN16.out⟩,Lib.hid ?_,Lib.hid hEw⟩
 ·show Rd wx _ 1 KB ks.length (keyVals ks)
  rw [e1]
  exact (HRK.out.ext (hset _ (.inl hwin))).mono (by omega) (fun b _ hb => .inl (HWF.out b hb))
 ·show Rd wx _ 1 IB is.length (kidVals is)
  rw [e2]
  exact (HRI.out.ext (hset _ hwin)).mono (by omega) (fun b _ hb => HWF.out b hb)
 ·have hg : Ext (On w.heap.size) w12 wx := (HX20.out.trans_ HE16.out).of_no.trans_ (hset (On w.heap.size) rfl)
  exact HT12.out.local_ hg (fun h => by have h1 := HOLD.out s.t (.inl rfl); have h2 : s.t = w.heap.size := h; omega) (fun h => by have h1 := HOLD.out s.m (.inr rfl); have h2 : s.m = w.heap.size := h; omega) (HDB.out _ hEw)
theorem shrink_any (s : Sys) (hs : s.Ok) (root : Nat) (hroot : root < 4) (v : V) (ws : List Stp) (n : Nd) (hne : ws ≠ []) (hup : ∀ st ∈ ws.dropLast,UpOk st) (hN : NOk n) : ShrinkOk s root v ws n := by
 intro w gx F A cap l a h hg hx hF hWA hlw hn hf
 have hwl : ∃ m,ws.length = m + 1 := by cases hz : ws.length <;> simp_all
 obtain ⟨m,hwl⟩ := hwl
 have hll : l.length = m + 1 := by rw [← hwl,← hlw,List.length_map]
 obtain ⟨b,o,hA,hbF,_⟩ := hWA.rd.2 (by omega)
 subst hA
 have hcap : m + 1 ≤ cap := by have := hWA.cap; omega
 have hm41 : m < 65536 := by have := hWA.len; omega
 have HWA := Lib.hid (hWA.mono (G := s.F) (fun b _ => hF b))
 have HX := Lib.hid (fun (w' : World) (e : Ext s.F w w') => tree_ext h hx e)
 have HOLD := Lib.hid (fun b (hb : s.F b) => h.old hb)
 have HDB := Lib.hid (fun (w' : World) (e : Ext s.F w w') => hs.keep _ _ e h.db)
 have HLT := Lib.hid (fun i (hi : i < m + 1) => (⟨_,List.getElem?_eq_getElem (by omega)⟩ : ∃ p,l[i]? = some p))
 have HLW := Lib.hid hlw
 have HLL := Lib.hid hll
 have HUP := Lib.hid hup
 have HWL := Lib.hid hwl
 have HT0 := Lib.hid (h.no hs ((Ext.refl No w).alloc (.cells #[.bool n.leaf,.slice a.A1 n.cells.length a.c1,.slice a.A2 n.keys.length a.c2,.slice a.A3 n.kids.length a.c3] 40)))
 have HN0 : Hid (NodeIn (w.alloc (.cells #[.bool n.leaf,.slice a.A1 n.cells.length a.c1,.slice a.A2 n.keys.length a.c2,.slice a.A3 n.kids.length a.c3] 40)) (fun b => s.F b ∨ b = w.heap.size) a n) := Lib.hid ((hn.mono (G := fun b => s.F b ∨ b = w.heap.size) (fun b hb h => h.elim (hF b) (fun e => absurd e (by omega)))).box _)
 have HNK0 := Lib.hid hN
 have HG0 := Lib.hid hg
 obtain ⟨D,hD⟩ : ∃ D,D = V.shrink s.cap root ws.reverse n v := ⟨_,rfl⟩
 rw [← hD,hwl]
 have HD : Hid (V.shrink s.cap root (ws.take (m + 1)).reverse n v = D) := Lib.hid (by rw [hD,← hwl,List.take_length])
 have HBN := Lib.hid (Blk.new w 40 #[.bool n.leaf,.slice a.A1 n.cells.length a.c1,.slice a.A2 n.keys.length a.c2,.slice a.A3 n.kids.length a.c3])
 have HE0 := Lib.hid ((Ext.refl s.F w).alloc (.cells #[.bool n.leaf,.slice a.A1 n.cells.length a.c1,.slice a.A2 n.keys.length a.c2,.slice a.A3 n.kids.length a.c3] 40))
 simp only [Nd.value]
 clear hD hlw hup hwl hll hbF hF hn hf hx hg h hne hWA hN
 go_enter Tryz.func102,Tryz.ntmps102
 go_wp2_with fail
 obtain ⟨W0,hW0⟩ : ∃ W0,W0 = (w.alloc (.cells #[.bool n.leaf,.slice a.A1 n.cells.length a.c1,.slice a.A2 n.keys.length a.c2,.slice a.A3 n.kids.length a.c3] 40)) := ⟨_,rfl⟩
 rw [← hW0] at HT0 HN0 HBN HE0 ⊢
 clear hW0
 go_step3
 go_wp2_with fail
 go_step3
 go_wp2_with fail
 go_loopg [1,7] (m + 1) (fun gk ww k wr => ∃ (kk : Nat) (n' : Nd) (v' : V) (a' : Adr),ww = .slice (some ⟨b,o,none⟩) (kk + 1) cap ∧ k = .int .i64 (kk : Int) ∧ Hid (gk = kk + 1) ∧ Hid (kk < m + 1) ∧ Blk wr w.heap.size 40 #[.bool n'.leaf,.slice a'.A1 n'.cells.length a'.c1,.slice a'.A2 n'.keys.length a'.c2,.slice a'.A3 n'.kids.length a'.c3] ∧
  Hid (NodeIn wr (fun b => s.F b ∨ b = w.heap.size) a' n') ∧ Hid (NOk n') ∧ Hid (TxAt wr s v') ∧ Hid v'.Good ∧ Hid (Ext s.F w wr) ∧ Hid (V.shrink s.cap root (ws.take (kk + 1)).reverse n' v' = D))
 case atStart => exact ⟨m,n,v,a,rfl,by go_num,Lib.hid rfl,Lib.hid (by omega),HBN.out,HN0,HNK0,HT0,HG0,HE0,HD⟩
 case round =>
  clear HBN HN0 HNK0 HT0 HG0 HE0 HD
  obtain ⟨kk,n',v',a',rfl,rfl,hgk,hkk,hbn,HN,HNK,HT,HG,HE,HD⟩ := hrel
  obtain ⟨⟨st,ad⟩,hp⟩ := HLT.out kk hkk.out
  obtain ⟨_,_,hAe,_,q0,_⟩ := (HWA.out.ext HE.out).at hp
  injection hAe with hAe; injection hAe with e1 e2
  subst e1; subst e2
  simp only at q0
  have lq := World.block_lt_of_cell? _ _ q0
  simp only at lq
  have hws : ws[kk]? = some st := by rw [← HLW.out,List.getElem?_map,hp]; rfl
  have HP := Lib.hid hp
  have hkc : kk + 1 ≤ cap := by have := hkk.out; omega
  have hkb : kk < 65536 := by have := hkk.out; omega
  have HDD := HD.out
  rw [take_rev hws] at HDD
  have HD' := Lib.hid HDD
  have HST := Lib.hid (fun fst => settle_any s hs wr.drew v' (HT.out.no hs (Ext.refl No wr).drew) HG.out gx root (HX.out _ HE.out.drew) hroot st.id n' a' ((HN.out.mono (G := s.F) (fun b _ hb => Or.inl hb)).ext (Ext.refl s.F wr).drew) HNK.out fst)
  have HSZ := Lib.hid (Size_any n' wr _ _ _ _ _ _ _ HN.out HNK.out.f)
  obtain ⟨p0,p1,p2,p3,g0,g1,g2,g3,ln⟩ := hbn.p4
  have HBN := Lib.hid hbn
  simp only [Nd.value] at HST HSZ
  rw [show n'.Size = n'.Sz from rfl] at HSZ
  clear HDD HD hws hbn HLT
  obtain ⟨A1,c1,A2,c2,A3,c3⟩ := a'
  simp only at HST HSZ p0 p1 p2 p3
  by_cases hk0 : kk = 0
  ·subst hk0
   have hd := HD'.out
   simp only [List.take_zero,List.reverse_nil] at hd
   have hd2 : v'.settle root st.id n' true = D := hd
   have HST1 := Lib.hid (HST.out true)
   rw [hd2] at HST1
   simp only [Nat.zero_mul,Nat.add_zero] at q0
   have hw0 : IntKind.i64.wrap 0 = 0 := rfl
   clear hd hd2 HST
   go_wp2_with fail
   go_region_law ((go_simp; go_at_call 153; refine HST1.out.mono ?_; rintro e w2 ⟨rfl,hT,hG,hx2⟩; have HT2 := Lib.hid hT; have HG2 := Lib.hid hG; have HX2 := Lib.hid hx2; clear hT hG hx2))
   all_goals (
    go_wp2_with fail
    try rw [Exit.noGoto_ret]
    go_ret
    exact ⟨rfl,HT2.out,HG2.out,HE.out.drew.trans_ HX2.out⟩)
  ·obtain ⟨j,hj⟩ : ∃ j,kk = j + 1 := ⟨kk - 1,by omega⟩
   have HJ := Lib.hid hj
   have hkp : (0 : Int) < (kk : Int) := by omega
   obtain ⟨⟨sp,ap⟩,hpp⟩ : ∃ q,l[j]? = some q := ⟨_,List.getElem?_eq_getElem (by have := (List.getElem?_eq_some_iff.1 hp).1; omega)⟩
   have HPP := Lib.hid hpp
   have hwsj : ws[j]? = some sp := by rw [← HLW.out,List.getElem?_map,hpp]; rfl
   have HWSJ := Lib.hid hwsj
   have hupk : UpOk sp := HUP.out sp (by
    have hkl := hkk.out
    have hwm := HWL.out
    refine List.mem_iff_getElem?.2 ⟨j,?_⟩
    rw [List.getElem?_dropLast,if_pos (by omega)]
    exact hwsj)
   have HUPK := Lib.hid hupk
   have hdd := HD'.out
   have htk : (ws.take kk).reverse = sp :: (ws.take j).reverse := by rw [hj]; exact take_rev hwsj
   have HTK := Lib.hid htk
   rw [htk,V.shrink] at hdd
   have HDJ := Lib.hid hdd
   clear hdd htk hwsj hupk hpp hp hj hk0 HD'
   go_wp2_with fail
   refine HSZ.out.mono ?_
   rintro e w2 ⟨rfl,hx2⟩
   have HX2 := Lib.hid hx2
   have HE2 := Lib.hid (HE.out.trans_ hx2.of_no)
   have HT2 := Lib.hid (HT.out.no hs hx2)
   have HN2 := Lib.hid (HN.out.ext hx2.of_no)
   have hb2 := HBN.out.ext hx2 (fun h => h)
   have HBN2 := Lib.hid hb2
   clear p0 p1 p2 p3 g0 g1 g2 g3 ln q0 lq hx2
   obtain ⟨p0,p1,p2,p3,g0,g1,g2,g3,ln⟩ := hb2.p4
   clear hb2
   by_cases hbig : 166 ≤ n'.Sz
   ·have hd := HDJ.out
    rw [if_pos hbig] at hd
    obtain ⟨_,_,hAe,_,q0,_⟩ := (HWA.out.ext HE2.out).at HP.out
    injection hAe with hAe; injection hAe with e1 e2
    subst e1; subst e2
    simp only at q0
    have lq := World.block_lt_of_cell? _ _ q0
    simp only at lq
    have HSTF := Lib.hid (settle_any s hs w2.drew v' (HT2.out.no hs (Ext.refl No w2).drew) HG.out gx root (HX.out _ HE2.out.drew) hroot st.id n' _ ((HN2.out.mono (G := s.F) (fun b _ hb => Or.inl hb)).ext (Ext.refl s.F w2).drew) HNK.out false)
    rw [hd] at HSTF
    simp only [Nd.value] at HSTF
    have hbi : (166 : Int) ≤ (n'.Sz : Int) := by omega
    have hn1 : (((kk : Int) + 1) == 1) = false := beq_eq_false_iff_ne.2 (by omega)
    have hkk2 : (kk : Int) < (kk : Int) + 1 := by omega
    have hwk : IntKind.i64.wrap (kk : Int) = (kk : Int) := IntWalk.i64_in _ (by omega)
    have hn2 : ¬ ((kk : Int) = 0) := by omega
    clear hd hbig HST
    go_wp2_with fail
    go_region_law ((go_simp; go_at_call 153; refine HSTF.out.mono ?_; rintro e w3 ⟨rfl,hT,hG,hx2⟩; have HT3 := Lib.hid hT; have HG3 := Lib.hid hG; have HX3 := Lib.hid hx2; clear hT hG hx2))
    all_goals (
     go_wp2_with fail
     try rw [Exit.noGoto_ret]
     go_ret
     exact ⟨rfl,HT3.out,HG3.out,HE2.out.drew.trans_ HX3.out⟩)
   ·have hd := HDJ.out
    rw [if_neg hbig] at hd
    have HDB2 := Lib.hid hd
    have hbi : ¬ ((166 : Int) ≤ (n'.Sz : Int)) := by omega
    clear hd hbig HST HSZ HDJ
    obtain ⟨_,_,hAe,_,q0,q1,q2,q3,q4,q5⟩ := (HWA.out.ext HE2.out).at HPP.out
    injection hAe with hAe; injection hAe with e1 e2
    subst e1; subst e2
    simp only at q0 q1 q2 q3 q4 q5
    have lq := World.block_lt_of_cell? _ _ q0
    simp only at lq
    have hjm : IntKind.i64.wrap ((kk : Int) - 1) = (j : Int) := by have := HJ.out; rw [IntWalk.i64_in _ (by omega)]; omega
    have hj1 : (j : Int) < (kk : Int) + 1 := by have := HJ.out; omega
    go_wp2_with fail
    obtain ⟨W5,hW5⟩ : ∃ W5,W5 = (w2.alloc (.cells #[.bool sp.n.leaf,.slice ap.A1 sp.n.cells.length ap.c1,.slice ap.A2 sp.n.keys.length ap.c2,.slice ap.A3 sp.n.kids.length ap.c3] 40)) := ⟨_,rfl⟩
    have hE25 : Ext No w2 W5 := by rw [hW5]; exact (Ext.refl No w2).alloc _
    have hBP : Blk W5 w2.heap.size 40 #[.bool sp.n.leaf,.slice ap.A1 sp.n.cells.length ap.c1,.slice ap.A2 sp.n.keys.length ap.c2,.slice ap.A3 sp.n.kids.length ap.c3] := by rw [hW5]; exact Blk.new w2 40 _
    have hW5s : W5.heap.size = w2.heap.size + 1 := by rw [hW5]; simp
    have HW5S := Lib.hid hW5s
    rw [← hW5]
    have HE5 := Lib.hid (HE2.out.trans_ hE25.of_no)
    have HT5 := Lib.hid (HT2.out.no hs hE25)
    have HN5 := Lib.hid (HN2.out.ext hE25.of_no)
    have hb5 := HBN2.out.ext hE25 (fun h => h)
    have HBN5 := Lib.hid hb5
    have HBP := Lib.hid hBP
    have hk5 := cell_ext hE25 q5 (fun h => h)
    have lq5 : b < W5.heap.size := World.block_lt_of_cell? _ _ hk5
    have hspO := Nd.Ok.of HUPK.out.2.1
    have hspkk := (hspO.br HUPK.out.1).2
    have HSPN := Lib.hid ((HWA.out.ext HE5.out).nodes _ (List.mem_of_getElem? HPP.out))
    have HBS := Lib.hid (fun w' (e : Ext No W5 w') => beside_any s hs v' sp.n n' sp.i gx root w' No ap ⟨A1,c1,A2,c2,A3,c3⟩ (HT5.out.no hs e) HG.out (HX.out _ (HE5.out.trans_ e.of_no)) ((HSPN.out.mono (fun _ _ h => h.elim)).ext e) ((HN5.out.mono (fun _ _ h => h.elim)).ext e) (Nd.Ok.fits hspO) HNK.out.f hspkk (by have := HUPK.out.2.2; omega))
    obtain ⟨r,hr⟩ : ∃ r,r = v'.beside sp.n sp.i n' := ⟨_,rfl⟩
    have hro : r.1 = 0 → r.2.2.ok = true ∧ r.2.1 < sp.n.keys.length := fun h0 => by rw [hr] at h0 ⊢; exact beside_ok h0 HUPK.out.2.2
    have HRO := Lib.hid hro
    have hd := HDB2.out
    rw [← hr] at HBS hd
    have HD5 := Lib.hid hd
    simp only [Nd.value] at HBS
    clear hro hr hd hW5 hE25 p0 p1 p2 p3 g0 g1 g2 g3 ln q0 q1 q2 q3 q4 q5 lq HDB2 hspO hspkk
    obtain ⟨p0,p1,p2,p3,g0,g1,g2,g3,ln⟩ := hb5.p4
    obtain ⟨z0,z1,z2,z3,y0,y1,y2,y3,lz⟩ := hBP.p4
    have HK5 := Lib.hid hk5
    have hww : w.heap.size < W5.heap.size := ln
    have ne1 : ¬ (w2.heap.size = W5.heap.size) := by omega
    have ne2 : ¬ (W5.heap.size = w2.heap.size) := by omega
    have ne3 : ¬ (w.heap.size = W5.heap.size) := by omega
    have ne4 : ¬ (W5.heap.size = w.heap.size) := by omega
    have ne5 : ¬ (b = W5.heap.size) := by omega
    have ne6 : ¬ (W5.heap.size = b) := by omega
    clear hb5 hBP hW5s
    go_cut [9,10,11] (fun x9 x10 x11 wx => ∃ (bb : Nat) (c : Adr),x9 = .int .i64 (r.2.1 : Int) ∧ x10 = .pointer (some ⟨bb,0,none⟩) ∧ x11 = .int .i64 (r.1 : Int) ∧ Hid (W5.heap.size ≤ bb) ∧ Hid (Blk wx bb 40 #[.bool r.2.2.leaf,.slice c.A1 r.2.2.cells.length c.c1,.slice c.A2 r.2.2.keys.length c.c2,.slice c.A3 r.2.2.kids.length c.c3]) ∧
     Hid (Ext No W5 wx) ∧ Hid (r.1 = 0 → NodeIn wx (fun b => b < W5.heap.size) c r.2.2))
    case first =>
     go_region_held3 (fun w' => w'.cell? ⟨w2.heap.size,0,none⟩ = some (.bool sp.n.leaf) ∧ w'.cell? ⟨w2.heap.size,1,none⟩ = some (.slice ap.A1 sp.n.cells.length ap.c1) ∧ w'.cell? ⟨w2.heap.size,2,none⟩ = some (.slice ap.A2 sp.n.keys.length ap.c2) ∧ w'.cell? ⟨w2.heap.size,3,none⟩ = some (.slice ap.A3 sp.n.kids.length ap.c3) ∧ w'.cell? ⟨w.heap.size,0,none⟩ = some (.bool n'.leaf) ∧ w'.cell? ⟨w.heap.size,1,none⟩ = some (.slice A1 n'.cells.length c1) ∧ w'.cell? ⟨w.heap.size,2,none⟩ = some (.slice A2 n'.keys.length c2) ∧ w'.cell? ⟨w.heap.size,3,none⟩ = some (.slice A3 n'.kids.length c3) ∧ w'.cell? ⟨b,o + j * 6 + 5,none⟩ = some (.int .i64 (sp.i : Int))) (go_keep)
      ((
       go_at_call 149; refine (HBS.out _ ?_).mono ?_; (with_reducible (repeat' (first | exact Ext.refl _ _ | apply Ext.drew | apply Ext.alloc))); rintro e w7 ⟨hx7,c,rfl,hn7⟩; simp only [Nd.value]; have hE57 : Ext No W5 w7 := (by refine Ext.trans_ ?_ hx7; (with_reducible (repeat' (first | exact Ext.refl _ _ | apply Ext.drew | apply Ext.alloc)))); have HE57 := Lib.hid hE57; have hN7 : r.1 = 0 → NodeIn w7 (fun b => b < W5.heap.size) c r.2.2 := (fun h0 => (hn7 h0).mono (fun b _ hb => by show b < _; first | exact hb | (simp; exact hb) | (simp; omega))); have HN7 := Lib.hid hN7;
       (first | ((with_reducible have hy := (hx7 : Ext No (W5.alloc (.cells #[.bool false,.slice none 0 0,.slice none 0 0,.slice none 0 0] 40)).drew w7)); have hbx := Blk.of_ext hy ((Blk.new W5 40 #[.bool false,.slice none 0 0,.slice none 0 0,.slice none 0 0]).drew1) (fun h => h); have HBX := Lib.hid hbx; have HNY : Hid (r.1 = 0 → NodeIn w7 (fun b => b < W5.heap.size + 1) c r.2.2) := Lib.hid (fun h0 => (hn7 h0).mono (fun b _ hb => by show b < _; simp; omega)); obtain ⟨x0,x1,x2,x3,v0,v1,v2,v3,lx⟩ := hbx.p4; clear hy hbx) | skip);
       have P0 := cell_ext hE57 p0 (fun h => h); have P1 := cell_ext hE57 p1 (fun h => h); have P2 := cell_ext hE57 p2 (fun h => h); have P3 := cell_ext hE57 p3 (fun h => h); have Z0 := cell_ext hE57 z0 (fun h => h); have Z1 := cell_ext hE57 z1 (fun h => h); have Z2 := cell_ext hE57 z2 (fun h => h); have Z3 := cell_ext hE57 z3 (fun h => h); have K5 := cell_ext hE57 hk5 (fun h => h); have L7 := hE57.size; have m1 : ¬ (w2.heap.size = w7.heap.size) := (by omega); have m2 : ¬ (w7.heap.size = w2.heap.size) := (by omega); have m3 : ¬ (w.heap.size = w7.heap.size) := (by omega); have m4 : ¬ (w7.heap.size = w.heap.size) := (by omega); have m5 : ¬ (b = w7.heap.size) := (by omega); have m6 : ¬ (w7.heap.size = b) := (by omega); clear hx7 hE57 hn7 hN7))
     all_goals (
      go_wp2_with fail
      go_meet
      first
       | (
         refine ⟨W5.heap.size,c,rfl,rfl,rfl,Lib.hid (Nat.le_refl _),Lib.hid (HBX.out.put4 (.bool r.2.2.leaf) (.slice c.A1 r.2.2.cells.length c.c1) (.slice c.A2 r.2.2.keys.length c.c2) (.slice c.A3 r.2.2.kids.length c.c3)),Lib.hid ((((HE57.out.setNew (Nat.le_refl W5.heap.size) 0 (.bool r.2.2.leaf)).setNew (Nat.le_refl W5.heap.size) 1 (.slice c.A1 r.2.2.cells.length c.c1)).setNew (Nat.le_refl W5.heap.size) 2 (.slice c.A2 r.2.2.keys.length c.c2)).setNew (Nat.le_refl W5.heap.size) 3 (.slice c.A3 r.2.2.kids.length c.c3)),Lib.hid (fun h0 => ?_)⟩
         have hon : (fun b => b < W5.heap.size + 1) W5.heap.size := Nat.lt_succ_self _
         exact ((HNY.out h0).ext (((((Ext.refl (fun b => b < W5.heap.size + 1) w7).setF hon 0 (.bool r.2.2.leaf)).setF hon 1 (.slice c.A1 r.2.2.cells.length c.c1)).setF hon 2 (.slice c.A2 r.2.2.keys.length c.c2)).setF hon 3 (.slice c.A3 r.2.2.kids.length c.c3))).mono (fun b _ hb => Nat.lt_succ_of_lt hb))
       | exact ⟨w7.heap.size,c,rfl,rfl,rfl,Lib.hid L7,Lib.hid (Blk.new w7 40 #[.bool r.2.2.leaf,.slice c.A1 r.2.2.cells.length c.c1,.slice c.A2 r.2.2.keys.length c.c2,.slice c.A3 r.2.2.kids.length c.c3]),Lib.hid (HE57.out.alloc _),Lib.hid (fun h0 => (HN7.out h0).box _)⟩)
    case rest =>
     clear p0 p1 p2 p3 g0 g1 g2 g3 ln z0 z1 z2 z3 y0 y1 y2 y3 lz hk5 lq5
     obtain ⟨bb,c,rfl,rfl,rfl,HBB,HBK,HXC,HNB⟩ := hcut
     have HEC := Lib.hid (HE5.out.trans_ HXC.out.of_no)
     have HTC := Lib.hid (HT5.out.no hs HXC.out)
     have hkc2 : (kk : Int) ≤ (cap : Int) := by omega
     have hkc3 : kk ≤ cap := by omega
     by_cases hr0 : r.1 = 0
     ·obtain ⟨hbok,hbat⟩ := HRO.out hr0
      have HBOK := Lib.hid hbok; have HBAT := Lib.hid hbat
      have hd := HD5.out
      rw [if_neg (by rw [hr0]; simp)] at hd
      have HD6 := Lib.hid hd
      have HNB1 := Lib.hid (HNB.out hr0)
      obtain ⟨at_,hat⟩ : ∃ at_,at_ = r.2.1 := ⟨_,rfl⟩
      obtain ⟨both,hbth⟩ : ∃ both,both = r.2.2 := ⟨_,rfl⟩
      rw [← hat,← hbth] at HD6
      rw [← hat] at HBAT ⊢
      rw [← hbth] at HBOK HBK HNB1
      rw [hr0]
      have HSZ2 := Lib.hid (Size_any both wc _ _ _ _ _ _ _ HNB1.out (Nd.Ok.fits (Nd.Ok.of HBOK.out)))
      rw [show both.Size = both.Sz from rfl] at HSZ2
      simp only [Nd.value] at HSZ2
      obtain ⟨p0,p1,p2,p3,g0,g1,g2,g3,ln⟩ := HBK.out.p4
      clear hbok hbat hd HD5 HRO HNB HBS hat hbth hr0
      go_wp2_with fail
      refine HSZ2.out.mono ?_
      rintro e w8 ⟨rfl,hx8⟩
      have HX8 := Lib.hid (HXC.out.trans_ hx8)
      have HE8 := Lib.hid (HEC.out.trans_ hx8.of_no)
      have HT8 := Lib.hid (HTC.out.no hs hx8)
      have HBK8 := Lib.hid (HBK.out.ext hx8 (fun h => h))
      have HNB8 := Lib.hid (HNB1.out.ext hx8.of_no)
      have HBP8 := Lib.hid (HBP.out.ext (HXC.out.trans_ hx8) (fun h => h))
      have HSP8 := Lib.hid (HSPN.out.ext (HXC.out.trans_ hx8).of_no)
      have HBN8 := Lib.hid (HBN5.out.ext (HXC.out.trans_ hx8) (fun h => h))
      clear p0 p1 p2 p3 g0 g1 g2 g3 ln hx8
      obtain ⟨p0,p1,p2,p3,g0,g1,g2,g3,ln⟩ := HBK8.out.p4
      obtain ⟨z0,z1,z2,z3,y0,y1,y2,y3,lz⟩ := HBP8.out.p4
      have hFW : ∀ b,s.F b → b < W5.heap.size := fun b hb => by have h1 := HOLD.out b hb; omega
      have HFW := Lib.hid hFW
      have HJL := Lib.hid (show kk ≤ l.length by have h1 := hkk.out; have h2 := HLL.out; omega)
      clear hFW
      by_cases hbg : 500 < both.Sz
      ·have hd := HD6.out
       rw [if_pos hbg,← HTK.out] at hd
       have hbgi : (500 : Int) < (both.Sz : Int) := by omega
       have hsz5 : 500 < both.size := by unfold Nd.Sz at hbg; rw [if_pos HBOK.out] at hbg; exact hbg
       have hlen : (ws.take kk).length = kk := by rw [List.length_take]; have h1 := hkk.out; have h2 := HWL.out; omega
       have hlast : (ws.take kk).getLast? = some sp := by
        rw [List.getLast?_eq_getElem?,hlen,List.getElem?_take,if_pos (by omega)]
        rw [show kk - 1 = j from by have := HJ.out; omega]
        exact HWSJ.out
       have hupt : ∀ st ∈ ws.take kk,UpOk st := fun st hst => HUP.out st (by
        have h1 : ws.take kk = ws.dropLast.take kk := by rw [List.dropLast_eq_take,List.take_take,HWL.out]; congr 1; have := hkk.out; omega
        rw [h1] at hst
        exact List.mem_of_mem_take hst)
       have HSHR := Lib.hid (share_any s hs root hroot v' (ws.take kk) both at_ sp hlast hupt HBOK.out hsz5 HBAT.out w8 gx s.F (some ⟨b,o,none⟩) cap (l.take kk) c HT8.out HG.out (HX.out _ HE8.out) (fun b hb => hb) ((HWA.out.ext HE8.out).take kk HJL.out) (by rw [← HLW.out,List.map_take]) (HNB8.out.mono (fun b _ hb => HFW.out b hb)))
       rw [hlen,hd] at HSHR
       simp only [Nd.value] at HSHR
       clear hd hbg hsz5 hlen hlast hupt
       go_wp2_with fail
       refine HSHR.out.mono ?_
       rintro e w9 ⟨rfl,hT9,hG9,hx9⟩
       have hx := HE8.out.trans_ hx9
       go_wp2_with fail
       try rw [Exit.noGoto_ret]
       go_ret
       exact ⟨rfl,hT9,hG9,hx⟩
      ·have hd := HD6.out
       rw [if_neg hbg] at hd
       have hbgi : ¬ ((500 : Int) < (both.Sz : Int)) := by omega
       have HD7 := Lib.hid hd
       clear hd hbg
       have hspO := Nd.Ok.of HUPK.out.2.1
       have hspkk := (hspO.br HUPK.out.1).2
       have hspa := hspO.a2
       have hatk := HBAT.out
       obtain ⟨k1,hk1⟩ : ∃ k,sp.n.kids[at_]? = some k := ⟨_,List.getElem?_eq_getElem (by omega)⟩
       obtain ⟨k2,hk2⟩ : ∃ k,sp.n.kids[at_ + 1]? = some k := ⟨_,List.getElem?_eq_getElem (by omega)⟩
       obtain ⟨kb,ko,hA3,_,hc1⟩ := HSP8.out.kids.kidAt hk1
       have lk := World.block_lt_of_cell? _ _ hc1
       simp only at lk
       have eg1 : sp.n.kids.getD at_ 0 = k1 := by rw [List.getD_eq_getElem?_getD,hk1]; rfl
       have eg2 : sp.n.kids.getD (at_ + 1) 0 = k2 := by rw [List.getD_eq_getElem?_getD,hk2]; rfl
       have hdd := HD7.out
       rw [eg1,eg2] at hdd
       have HA3 := Lib.hid hA3; have HK2 := Lib.hid hk2
       rw [hA3] at z3
       have hx1 : (at_ : Int) < (sp.n.kids.length : Int) := by omega
       have hx2 : (at_ : Int) + 1 < (sp.n.kids.length : Int) := by omega
       have hx3 : IntKind.i64.wrap ((at_ : Int) + 1) = (at_ : Int) + 1 := IntWalk.i64_in _ (by omega)
       have hx5 : IntKind.i64.wrap ((at_ : Int) + 2) = (at_ : Int) + 2 := IntWalk.i64_in _ (by omega)
       have hx6 : (0 : Int) ≤ (at_ : Int) + 1 := by omega
       have HW12 := Lib.hid (wr_any s hs w8.drew v' (HT8.out.no hs (Ext.refl No w8).drew) HG.out gx root (HX.out _ HE8.out.drew) k1 both s.F _ _ _ _ _ _ ((HNB8.out.mono (fun b _ hb => HFW.out b hb)).ext (Ext.refl _ w8).drew) (Nd.Ok.fits (Nd.Ok.of HBOK.out)))
       obtain ⟨r12,hr12⟩ : ∃ r12,r12 = v'.wr k1 both := ⟨_,rfl⟩
       rw [← hr12] at HW12 hdd
       have HD12 := Lib.hid hdd
       simp only [Nd.value] at HW12
       clear hspO hspkk hspa hk1 hk2 hA3 eg1 eg2 hdd hr12 HD7 HD6
       go_wp2_with fail
       go_cut [12] (fun k9 wx => k9 = .int .i64 (r12.1 : Int) ∧ Hid (TxAt wx s r12.2) ∧ Hid r12.2.Good ∧ Hid (Ext s.F w8 wx))
       case first =>
        go_region_law ((go_simp; go_at_call 141; refine HW12.out.mono ?_; rintro e w2 ⟨rfl,hT,hG,hx2⟩; have HTa := Lib.hid hT; have HGa := Lib.hid hG; have HXa := Lib.hid hx2; clear hT hG hx2))
        all_goals (
         go_wp2_with fail
         go_meet
         exact ⟨rfl,HTa,HGa,Lib.hid ((Ext.refl s.F w8).drew.trans_ HXa.out)⟩)
       case rest =>
        clear p0 p1 p2 p3 g0 g1 g2 g3 ln HW12 z0 z1 z2 z3 y0 y1 y2 y3 lz hc1 lk
        obtain ⟨rfl,HT12,HG12,HX12⟩ := hcut
        obtain ⟨c12,v12⟩ := r12
        simp only at HT12 HG12 HD12 ⊢
        have HE12 := Lib.hid (HE8.out.trans_ HX12.out)
        by_cases h12 : c12 = 0
        ·subst h12
         have hdd := HD12.out
         rw [if_neg (by simp)] at hdd
         have HBP12 := Lib.hid (HBP8.out.ext HX12.out (fun hb => by have h1 := HOLD.out _ hb; have h2 := HE2.out.size; omega))
         have HBN12 := Lib.hid (HBN8.out.ext HX12.out (fun hb => absurd (HOLD.out _ hb) (Nat.lt_irrefl _)))
         have HSP12 := Lib.hid (HSP8.out.ext HX12.out)
         obtain ⟨z0,z1,z2,z3,y0,y1,y2,y3,lz⟩ := HBP12.out.p4
         obtain ⟨_,_,hAe,_,d2⟩ := HSP12.out.kids.kidAt (k := k2) (i := at_ + 1) HK2.out
         rw [HA3.out] at hAe z3
         injection hAe with hAe; injection hAe with e1 e2
         subst e1; subst e2
         have ld := World.block_lt_of_cell? _ _ d2
         simp only at ld
         have hXt := HX.out _ HE12.out
         have t0 := hXt.cell 0
         simp [treeCells] at t0
         have lt0 := hXt.lt
         have HFR := Lib.hid (free_any s hs wc.drew v12 (HT12.out.no hs (Ext.refl No wc).drew) HG12.out k2)
         have hgd := HG12.out.drop k2
         obtain ⟨r15,hr15⟩ : ∃ r15,r15 = v12.drop k2 := ⟨_,rfl⟩
         rw [← hr15] at HFR hdd hgd
         have HGD := Lib.hid hgd
         have HD15 := Lib.hid hdd
         clear hdd hr15 hgd hXt
         go_wp2_with fail
         go_cut [13] (fun k9 wx => k9 = .int .i64 (r15.1 : Int) ∧ Hid (TxAt wx s r15.2) ∧ Hid (Ext s.F wc wx))
         case first =>
          go_region_law ((go_simp; go_at_call 142; refine HFR.out.mono ?_; rintro e w2 ⟨rfl,hT,hx2⟩; have HTa := Lib.hid hT; have HXa := Lib.hid hx2; clear hT hx2))
          all_goals (
           go_wp2_with fail
           go_meet
           exact ⟨rfl,HTa,Lib.hid ((Ext.refl s.F wc).drew.trans_ HXa.out)⟩)
         case rest =>
          clear z0 z1 z2 z3 y0 y1 y2 y3 lz d2 ld t0 lt0 HFR
          obtain ⟨rfl,HT15,HX15⟩ := hcut
          obtain ⟨c15,v15⟩ := r15
          simp only at HT15 HGD HD15 ⊢
          have HE15 := Lib.hid (HE12.out.trans_ HX15.out)
          by_cases h15 : c15 = 0
          ·subst h15
           have hdd := HD15.out
           rw [if_neg (by simp)] at hdd
           have HDN : Hid (V.shrink s.cap root (ws.take (j + 1)).reverse ⟨false,[],sp.n.keys.eraseIdx at_,sp.n.kids.eraseIdx (at_ + 1)⟩ v15 = D) := Lib.hid (by rw [← HJ.out,HTK.out]; exact hdd)
           have hwz : w.heap.size ≤ w2.heap.size := HE2.out.size
           have HBP15 := HBP12.out.ext HX15.out (fun hb => by have h1 := HOLD.out _ hb; omega)
           have HBN15 := Lib.hid (HBN12.out.ext HX15.out (fun hb => absurd (HOLD.out _ hb) (Nat.lt_irrefl _)))
           have hsp15 := HSP12.out.ext HX15.out
           obtain ⟨z0,z1,z2,z3,y0,y1,y2,y3,lz⟩ := HBP15.p4
           have hspO := Nd.Ok.of HUPK.out.2.1
           have hspkk := (hspO.br HUPK.out.1).2
           have hspa := hspO.a2
           have hatk := HBAT.out
           have HCK : Hid (∀ W',Ext No wc W' → Calls Tryz.prog 124 #[.slice ap.A2 sp.n.keys.length ap.c2] W' (Row 9 1 W' (keyVals sp.n.keys) sp.n.keys.length)) := Lib.hid (fun W' e => clone_strings ⟨ap.A2,sp.n.keys.length,ap.c2,keyVals sp.n.keys⟩ W' ⟨(hsp15.keys.mono (G := No) (by omega) (fun _ _ h => h.elim)).ext e,hsp15.e2,one_keys _,hsp15.l2⟩ (by simp only; omega))
           have HCI : Hid (∀ W',Ext No wc W' → Calls Tryz.prog 146 #[.slice ap.A3 sp.n.kids.length ap.c3] W' (Row 3 1 W' (kidVals sp.n.kids) sp.n.kids.length)) := Lib.hid (fun W' e => clone_ints ⟨ap.A3,sp.n.kids.length,ap.c3,kidVals sp.n.kids⟩ W' ⟨(hsp15.kids.mono (G := No) (by omega) (fun _ _ h => h.elim)).ext e,hsp15.e3,one_kids _,hsp15.l3⟩ (by simp only; omega))
           have HDK : Hid (∀ base v w,w.ownsRow base 9 1 v sp.n.keys.length (keyVals sp.n.keys) → Calls Tryz.prog 151 #[v,.int .i64 (at_ : Int),.int .i64 ((at_ : Int) + 1)] w (Rowed base v w (keyVals (sp.n.keys.eraseIdx at_)) (sp.n.keys.length - 1))) :=
            Lib.hid (fun base v w ho => by
             have h0 := delete_strings sp.n.keys at_ hatk base v w ho
             rw [show (((at_ + 1 : Nat) : Int)) = (at_ : Int) + 1 from by omega] at h0
             exact h0)
           have HDI : Hid (∀ base v w,w.ownsRow base 3 1 v sp.n.kids.length (kidVals sp.n.kids) → Calls Tryz.prog 152 #[v,.int .i64 ((at_ : Int) + 1),.int .i64 ((at_ : Int) + 2)] w (Rowed base v w (kidVals (sp.n.kids.eraseIdx (at_ + 1))) (sp.n.kids.length - 1))) :=
            Lib.hid (fun base v w ho => by
             have h0 := delete_ints sp.n.kids (at_ + 1) (by omega) base v w ho
             rw [show (((at_ + 1 : Nat) : Int)) = (at_ : Int) + 1 from by omega,show (((at_ + 1 + 1 : Nat) : Int)) = (at_ : Int) + 2 from by omega] at h0
             exact h0)
           have HNKN := Lib.hid (erase_NOk HUPK.out.2.1 HUPK.out.1 hatk)
           have ek : (sp.n.keys.eraseIdx at_).length = sp.n.keys.length - 1 := by rw [List.length_eraseIdx,if_pos hatk]
           have ei : (sp.n.kids.eraseIdx (at_ + 1)).length = sp.n.kids.length - 1 := by rw [List.length_eraseIdx,if_pos (by omega)]
           have HEK := Lib.hid ek; have HEI := Lib.hid ei
           have HB1 := Lib.hid (show sp.n.keys.length - 1 < 65536 by omega); have HB2 := Lib.hid (show sp.n.kids.length - 1 < 65536 by omega)
           have hwlt : w.heap.size < wc.heap.size := HBN15.out.lt
           have HWF := Lib.hid (show ∀ b,(s.F b ∨ b = w.heap.size) → b < wc.heap.size from fun b hb => by
            rcases hb with hb | hb
            ·have := HOLD.out b hb; omega
            ·omega)
           have HX20 := Lib.hid (Ext.refl No wc)
           have nn1 : ¬ (w2.heap.size = w.heap.size) := by have h1 := HBN2.out.lt; omega
           have nn2 : ¬ (w.heap.size = w2.heap.size) := fun h => nn1 h.symm
           clear hdd hsp15 HBP15 hspO hspkk hspa hatk ek ei
           go_wp2_with fail
           go_region_held3 (fun w' => w'.cell? ⟨w2.heap.size,2,none⟩ = some (.slice ap.A2 sp.n.keys.length ap.c2) ∧ w'.cell? ⟨w2.heap.size,3,none⟩ = some (.slice ap.A3 sp.n.kids.length ap.c3)) (go_keep)
            (first
             | (go_at_call 124; refine (HCK.out _ ?_).mono ?_; (with_reducible (repeat' (first | exact Ext.refl _ _ | apply Ext.drew | apply Ext.alloc))); rintro e w13 ⟨KA,kc,rfl,hown,hx13⟩; have HO13 := Lib.hid hown; have HX13 := Lib.hid hx13; have hE13 : Ext No wc w13 := (by refine Ext.trans_ ?_ hx13; (with_reducible (repeat' (first | exact Ext.refl _ _ | apply Ext.drew | apply Ext.alloc)))); have HE13 := Lib.hid hE13; have k2 := cell_ext hE13 z2 (fun h => h); have k3 := cell_ext hE13 z3 (fun h => h); clear hown hx13 hE13)
             | (go_at_call 151; refine (HDK.out _ _ _ HO13.out).mono ?_; rintro e w14 ⟨KB,kd,rfl,hrd,hcc,hnil,hx14⟩; have HR14 := Lib.hid hrd; have HC14 := Lib.hid hcc; have HN14 := Lib.hid hnil; have hE14 : Ext No wc w14 := (by refine Ext.trans HE13.out hx14 (fun i hi hb => ?_); exfalso; have h1 := HO13.out.lt _ hb; first | omega | (simp at h1; done) | (simp at h1; omega)); have HE14 := Lib.hid hE14; clear k2 k3; have k2 := cell_ext hE14 z2 (fun h => h); have k3 := cell_ext hE14 z3 (fun h => h); clear hrd hcc hnil hx14 hE14)
             | (go_at_call 146; refine (HCI.out _ HE14.out).mono ?_; rintro e w15 ⟨IA,ic,rfl,hown,hx15⟩; have HO15 := Lib.hid hown; have HF15 := Lib.hid hx15; have hE15 : Ext No wc w15 := (HE14.out.trans_ hx15); have HE15x := Lib.hid hE15; clear k2 k3; have k2 := cell_ext hE15 z2 (fun h => h); have k3 := cell_ext hE15 z3 (fun h => h); clear hown hx15 hE15)
             | (go_at_call 152; refine (HDI.out _ _ _ HO15.out).mono ?_; rintro e w16 ⟨IB,id,rfl,hrd,hcc,hnil,hx16⟩; have HC16 := Lib.hid hcc; have HN16 := Lib.hid hnil; have hE16 : Ext No wc w16 := (by refine Ext.trans HE15x.out hx16 (fun i hi hb => ?_); exfalso; have h1 := HO15.out.lt _ hb; have h2 := HE14.out.size; omega); have HE16 := Lib.hid hE16; have hF16 : Ext (fun b => b < wc.heap.size ∨ w14.heap.size ≤ b) w14 w16 := (by refine Ext.trans (F := fun b => b < wc.heap.size ∨ w14.heap.size ≤ b) HF15.out.of_no hx16 (fun i hi hb => ?_); exact Or.inr (by have h1 := HO15.out.lt _ hb; omega)); have hR14 : Rd w14 (fun b => b < wc.heap.size ∨ w14.heap.size ≤ b) 1 KB (sp.n.keys.length - 1) _ := HR14.out.mono (by omega) (fun b hb h => by show b < _; rcases h with h | h; (first | exact h | (simp; exact h)); exact absurd h (by omega)); have HRK := Lib.hid (hR14.ext hF16); have hRI : Rd w16 (fun b => b < wc.heap.size) 1 IB (sp.n.kids.length - 1) _ := hrd.mono (by omega) (fun b hb h => by show b < _; have h4 : b < wc.heap.size := h; have h2 := HE14.out.size; omega); have HRI := Lib.hid hRI; have hb16 := Blk.of_ext hE16 HBN15.out (fun h => h); have HB16 := Lib.hid hb16; obtain ⟨s0,s1,s2,s3,f0,f1,f2,f3,lf⟩ := hb16.p4; clear k2 k3; have k2 := cell_ext hE16 z2 (fun h => h); have k3 := cell_ext hE16 z3 (fun h => h); clear hrd hcc hnil hx16 hE16 hF16 hR14 hRI hb16))
           all_goals (
            go_wp2_with fail
            go_roundg (j + 1)
            case rel =>
             have hend := shrink_end s hs w wc wc w16 (sp.n.keys.eraseIdx at_) (sp.n.kids.eraseIdx (at_ + 1)) v15 KB kd IB id _ _ HEK.out HEI.out HB1.out HB2.out HOLD HDB HWF HX20 HE15 HE16 HT15 (w14.heap.size) HRK HRI HC14 HC16 HN14 HN16
             refine ⟨j,⟨false,[],sp.n.keys.eraseIdx at_,sp.n.kids.eraseIdx (at_ + 1)⟩,v15,⟨none,0,KB,kd,IB,id⟩,by rw [HJ.out],by go_num,Lib.hid rfl,Lib.hid (by have := hkk.out; have := HJ.out; omega),?_,hend.1,HNKN,hend.2.1,HGD,hend.2.2,HDN⟩
             simp only [HEK.out,HEI.out,List.length_nil]
             exact HB16.out.put4 (.bool false) (.slice none 0 0) (.slice KB (sp.n.keys.length - 1) kd) (.slice IB (sp.n.kids.length - 1) id)
            case measure => have := hgk.out; have := HJ.out; omega)
          ·have hD : (c15,v15) = D := by rw [← HD15.out,if_pos h15]
           subst hD
           have h15' : ((c15 : Int) != 0) = true := by simpa using (by omega : ¬ (c15 : Int) = 0)
           clear h15
           go_wp2_with fail
           try rw [Exit.noGoto_ret]
           go_ret
           exact ⟨rfl,HT15.out,HGD.out,HE15.out⟩
        ·have hD : (c12,v12) = D := by rw [← HD12.out,if_pos h12]
         subst hD
         have h12' : ((c12 : Int) != 0) = true := by simpa using (by omega : ¬ (c12 : Int) = 0)
         clear h12
         go_wp2_with fail
         try rw [Exit.noGoto_ret]
         go_ret
         exact ⟨rfl,HT12.out,HG12.out,HE12.out⟩
     ·have hd := HD5.out
      rw [if_pos hr0] at hd
      subst hd
      have hr0' : ((r.1 : Int) != 0) = true := by simpa using (by omega : ¬ (r.1 : Int) = 0)
      clear hr0
      go_wp2_with fail
      try rw [Exit.noGoto_ret]
      go_ret
      exact ⟨rfl,HTC.out,HG.out,HEC.out⟩
theorem del_full (s : Sys) (hs : s.Ok) (w : World) (v : V) (h : TxAt w s v) (hg : v.Good) (gx i : Nat) (hx : Blk w gx 70 (treeCells s i)) (hi : i < 4) (key : Bs) :
  Calls Tryz.prog 27 #[.pointer (some ⟨gx,0,none⟩),.string (str key)] w (DidB s w (v.Del s.cap i key)) := by
 by_cases hm : may key [] = 0
 ·refine Del_of s hs w v h gx i hx key hm fun w' e => ?_
  have h' := h.no hs e
  have hx' := hx.ext e (fun h => h)
  cases hw : v.way i key with
  | none =>
   have hp : v.del0 s.cap i key = (false,5,v) := by unfold V.del0; rw [hw]
   rw [hp]
   exact del0_none s hs w' v h' hg gx i hx' hi key hw
  | some ws =>
   cases hh : hit ws key with
   | none =>
    have hp : v.del0 s.cap i key = (false,0,v) := by
     unfold V.del0
     rw [hw]
     simp only [hh]
     split
     ·rename_i h1 _ h2; cases h2
     ·rfl
    rw [hp]
    exact del0_miss s hs w' v h' hg gx i hx' hi key ws hw hh
   | some c =>
    match ws,hw,hh with
    | [],hw,hh => cases hh
    | a :: l,hw,hh =>
     obtain ⟨st,hst⟩ : ∃ st,(a :: l).getLast? = some st := ⟨_,List.getLast?_eq_some_getLast (by simp)⟩
     have hwo := way_ok hw
     have hup := up_ok hwo
     have hok := V.node_ok (hwo.all st (List.mem_of_getLast? hst)).1
     have hlf := hwo.last st hst
     have hN : NOk (st.n.cut st.i) := by
      refine ⟨Nd.cut_fits (Nd.Ok.fits (Nd.Ok.of hok)),fun _ => ((Nd.Ok.of hok).lf hlf).1,fun h => ?_⟩
      have h2 : st.n.leaf = false := h
      rw [hlf] at h2; cases h2
     have hp : v.del0 s.cap i key = if (v.letGo c).1 ≠ 0 then (false,v.letGo c) else (true,V.shrink s.cap i (a :: l).reverse (st.n.cut st.i) (v.letGo c).2) := by
      unfold V.del0
      rw [hw]
      simp only [hst,hh]
      rfl
     rw [hp]
     exact del0_hit s hs w' v h' hg gx i hx' hi key (a :: l) hw st hst c hh (fun _ => shrink_any s hs i hi _ _ _ (by simp) hup hN)
 ·have hp : v.Del s.cap i key = (false,may key [],v) := by unfold V.Del; rw [if_pos hm]
  rw [hp]
  exact Del_bad s hs w v h hg gx i hx key hm
theorem str_k (l : Bs) : (⟨#[107]⟩ : ByteArray) ++ str l = str (107 :: l) := str_app [107] l
theorem fill_back {Q : Ending → World → Prop} {a : Act} {w : World} (b : Nat) (cs : Array Value) (hb : Blk w b 32 cs) {v : Value} (hs : some 1 = some cs.size) (hp : a.tmps.getD 6 undef = .pointer (some ⟨b,0,none⟩)) (h3 : a.tmps.getD 7 undef = v) (hd : a.defers = [])
  (h : Q (.returned (.tuple #[.agg cs,v])) w) : bodyPost Tryz.prog Tryz.f14 Q Exit.ret a w := by
 refine bodyPost_ret (v := .tuple #[.agg cs,v]) (w := w) ?_ hd h
 have hl := run_loadVar_row w b 32 32 cs (0,0) _ hb Tryz.underlying32 rfl (by rw [← hs]; kernel_rfl)
 rw [results_ct rfl,hp,h3]
 simp [asAddr,Result.andThen,hl]
theorem fill_any (s : Sys) (hs : s.Ok) (w : World) (v : V) (h : TxAt w s v) (gx i : Nat) (hx : Blk w gx 70 (treeCells s i)) (hi : i < 4) (X P0 : List Nat) (hO : One s.cap v i X P0 []) (l : List Ac) (A : Option Addr) (c : Nat)
  (hl : Rd w s.F 4 A l.length (acVals l)) (hll : l.length < 2^63) (hf : ∀ a ∈ l,a.fits) (most : Nat) (hm : 6 * most + X.length + 15 ≤ s.cap) (hm2 : most ≤ 60) :
  Calls Tryz.prog 14 #[.pointer (some ⟨gx,0,none⟩),.slice A l.length c,.int .i64 (most : Int)] w (Filled s w v i X P0 (fillE (l.take most))) := by
 have HPUT := Lib.hid (fun w v h hg hx key val => put_full s hs w v h hg gx i hx hi key val)
 have HDEL := Lib.hid (fun w v h hg hx key => del_full s hs w v h hg gx i hx hi key)
 have HT := Lib.hid h
 have HX := Lib.hid hx
 have HL := Lib.hid hl
 have HF := Lib.hid hf
 have HM := Lib.hid hm
 have HS := Lib.hid hs
 have HLL := Lib.hid hll
 have hfill := Lib.hid (show FillAt s w ((w.alloc (.cells #[.slice none 0 0] 32)).alloc (.cells #[.slice none 0 0] 32)) v v i X P0 P0 [] [] none 0 from
  ⟨h.no hs (((Ext.refl _ _).alloc _).alloc _),hO,Tr.refl _ _ _ hO.tree.us,Blk.new_at (b := w.heap.size + 1) (w.alloc _) 32 _ (by simp),⟨Rd.nil_ _,by simp,fun _ => rfl,by simp⟩,(Blk.new w 32 _).alloc _,((Ext.refl _ _).alloc _).alloc _,.refl⟩)
 have HOFF := Lib.hid (tree_off h hx)
 obtain ⟨D,hD⟩ : ∃ D,D = Filled s w v i X P0 (fillE (l.take most)) := ⟨_,rfl⟩
 rw [← hD]
 have HD := Lib.hid hD
 clear h hx hl hf hm hs hll hO hD
 go_enter Tryz.func14,Tryz.ntmps14
 go_wp2_with fail
 generalize ((w.alloc (.cells #[.slice none 0 0] 32)).alloc (.cells #[.slice none 0 0] 32)) = W0 at *
 go_loopg [9] l.length (fun gk iv wr => ∃ (k : Nat) (v' : V) (P' : List Nat) (A' : Option Addr) (c' : Nat),k + gk = l.length ∧ k ≤ most ∧ iv = .int .i64 (k : Int) ∧ Hid (FillAt s w wr v v' i X P0 P' (fillE (l.take k)) (fillE (l.take k)) A' c'))
 case atStart => exact ⟨0,v,P0,none,0,by omega,by omega,rfl,hfill⟩
 case round =>
  obtain ⟨k,v',P',A',c',hk,hkm,rfl,HFA⟩ := hrel
  have HK := Lib.hid hk
  have HKM := Lib.hid hkm
  have hll := HLL.out
  by_cases hlt : k < l.length
  ·by_cases hlt2 : k < most
   ·obtain ⟨a,ha⟩ : ∃ a,l[k]? = some a := ⟨_,List.getElem?_eq_getElem hlt⟩
    obtain ⟨b,o,hA,_,k0,k1,k2,k3⟩ := (HL.out.ext HFA.out.ex).acAt ha
    subst hA
    have lc := World.block_lt_of_cell? wr _ k0
    simp only at lc
    have hlt' : (k : Int) < (l.length : Int) := by omega
    have hlt2' : (k : Int) < (most : Int) := by omega
    have hfa := HF.out a (List.mem_of_getElem? ha)
    have hkl : a.key.length < 2^63 := hfa.2.2
    have hex : (str a.key).extract 0 (min (a.key.length : Int) 130).toNat = str (a.key.take 130) := by
     rw [str_take]
     congr 1
     rw [show (min (a.key.length : Int) 130).toNat = min 130 a.key.length by omega,← List.take_take,List.take_length]
    have hcat : (⟨#[107]⟩ : ByteArray) ++ str (a.key.take 130) = str a.key1 := str_k _
    have hks := str_size a.key
    have HVAL := Lib.hid (fun w => value_walk a hfa.1 hfa.2.1 w)
    have hst : fillE (l.take (k + 1)) = a.step (fillE (l.take k)) := by
     rw [List.take_add_one,ha]; exact fillE_snoc _ _
    have hEl : (fillE (l.take k)).length ≤ k := Nat.le_trans (fillE_len _) (by rw [List.length_take]; omega)
    obtain ⟨E,hE⟩ : ∃ E,E = fillE (l.take k) := ⟨_,rfl⟩
    rw [← hE] at HFA hst hEl
    have HST := Lib.hid hst
    have HEL := Lib.hid hEl
    have HSO := Lib.hid (HFA.out.one.sorted)
    have hstl : 6 * E.length + X.length + 15 ≤ s.cap := by have := HM.out; omega
    have HROOM := Lib.hid (show E.length < 100 ∧ 6 * E.length + X.length + 15 ≤ s.cap from ⟨by omega,hstl⟩)
    have hcells : Ac.agg a = .agg #[.int .i64 a.kind,.int .i64 a.n,.string (str a.key),.string (str a.val)] := rfl
    obtain ⟨W,hW⟩ : ∃ W,W = wr.alloc (.cells #[.int .i64 a.kind,.int .i64 a.n,.string (str a.key),.string (str a.val)] 53) := ⟨_,rfl⟩
    have HEW := Lib.hid (show Ext No wr W from hW ▸ (Ext.refl _ _).alloc _)
    have HBW := Lib.hid (show Blk W wr.heap.size 53 #[.int .i64 a.kind,.int .i64 a.n,.string (str a.key),.string (str a.val)] from hW ▸ Blk.new wr 53 _)
    have HFW := Lib.hid (HFA.out.no HS.out HEW.out)
    have hwr := HFA.out.ex.size
    have HWR := Lib.hid hwr
    by_cases hk2 : a.kind = 2
    ·have hmay := a.key1_may [] (by simp)
     obtain ⟨d1,d2,P2,d3,d4⟩ := HFW.out.one.del hmay HROOM.out.1 HROOM.out.2
     obtain ⟨bb,hbb⟩ : ∃ bb,bb = decide ((del a.key1 E).length < E.length) := ⟨_,rfl⟩
     have HDE : Hid (Calls Tryz.prog 27 #[.pointer (some ⟨gx,0,none⟩),.string (str a.key1)] W fun e w2 => e = .returned (.tuple #[.bool bb,.int .i64 0]) ∧ Hid (FillAt s w w2 v (v'.Del s.cap i a.key1).2.2 i X P0 P2 (del a.key1 E) E A' c')) := Lib.hid (by
      refine (HDEL.out W v' HFW.out.tx HFW.out.one.sane.1 (HX.out.ext HFW.out.ex HOFF.out) a.key1).mono ?_
      rintro e w2 ⟨h1,h2,_,h3⟩
      rw [d1,d2,← hbb] at h1
      exact ⟨h1,Lib.hid (HFW.out.tree HT.out h2 h3 d3 d4 ((V.StepsB.refl (sp := true)).Del _ _))⟩)
     have HRD : Hid (∀ w2,FillAt s w w2 v (v'.Del s.cap i a.key1).2.2 i X P0 P2 (del a.key1 E) E A' c' → Calls Tryz.prog 37 #[.pointer (some ⟨w.heap.size + 1,0,none⟩),.string (str a.key1)] w2 fun e w3 => e = .returned (.tuple #[.bool bb,.int .i64 0]) ∧ Hid (∃ A3 c3,FillAt s w w3 v (v'.Del s.cap i a.key1).2.2 i X P0 P2 (del a.key1 E) (del a.key1 E) A3 c3)) := Lib.hid (by
      intro w2 hf2
      refine (refdel_any w2 (w.heap.size + 1) A' c' E a.key1 hf2.bm (hf2.ra.mono (fun _ _ h => h.elim)) hmay).mono ?_
      intro e w3 hd
      rw [← hbb] at hd
      exact ⟨hd.e,Lib.hid (hf2.map HS.out HT.out hd)⟩)
     have HSTP : Hid (fillE (l.take (k + 1)) = del a.key1 E) := Lib.hid (by rw [HST.out]; unfold Ac.step; rw [if_pos hk2])
     rw [hk2] at hW
     clear hk hkm hfa hst hEl hmay d1 d2 d3 d4 hbb hE hwr hstl
     go_wp2_with fail
     rw [← hW]
     refine (HDE.out).mono ?_
     rintro e w2 ⟨rfl,HFB⟩
     go_wp2_with fail
     refine (HRD.out _ HFB.out).mono ?_
     rintro e w3 ⟨rfl,HFC⟩
     clear HFB HDE HRD k0 k1 k2 k3 lc hW
     cases bb
     ·go_wp2_with fail
      go_roundg (gk - 1)
      case rel =>
       obtain ⟨A3,c3,h3⟩ := HFC.out
       exact ⟨k + 1,_,P2,A3,c3,by have := HK.out; omega,by omega,by go_num,Lib.hid (by rw [HSTP.out]; exact h3)⟩
      case measure => have := HK.out; omega
     ·go_wp2_with fail
      go_roundg (gk - 1)
      case rel =>
       obtain ⟨A3,c3,h3⟩ := HFC.out
       exact ⟨k + 1,_,P2,A3,c3,by have := HK.out; omega,by omega,by go_num,Lib.hid (by rw [HSTP.out]; exact h3)⟩
      case measure => have := HK.out; omega
    ·have hvl := a.value_le
     have hmay := a.key1_may a.value hvl
     obtain ⟨d1,P2,d3,d4⟩ := HFW.out.one.put hmay hvl HROOM.out.1 HROOM.out.2
     have hins : rput a.key1 a.value false E = ins a.key1 a.value E := rput_ins _ _ _ HSO.out
     have HVW : Hid (∀ w1,Calls Tryz.prog 26 #[.agg #[.int .i64 a.kind,.int .i64 a.n,.string (str a.key),.string (str a.val)]] w1 fun e w' => e = .returned (.string (str a.value)) ∧ Ext No w1 w') := Lib.hid (fun w1 => HVAL.out w1)
     have HDE : Hid (∀ w1,Ext No W w1 → Calls Tryz.prog 25 #[.pointer (some ⟨gx,0,none⟩),.string (str a.key1),.string (str a.value)] w1 fun e w2 => e = .returned (.int .i64 0) ∧ Hid (Blk w2 wr.heap.size 53 #[.int .i64 a.kind,.int .i64 a.n,.string (str a.key),.string (str a.val)]) ∧ Hid (FillAt s w w2 v (v'.Put s.cap i a.key1 a.value).2 i X P0 P2 (ins a.key1 a.value E) E A' c')) := Lib.hid (by
      intro w1 e1
      have hf1 := HFW.out.no HS.out e1
      refine (HPUT.out w1 v' hf1.tx hf1.one.sane.1 (HX.out.ext hf1.ex HOFF.out) a.key1 a.value).mono ?_
      rintro e w2 ⟨h1,h2,_,h3⟩
      rw [d1] at h1
      refine ⟨h1,Lib.hid ((HBW.out.ext e1 (fun h => h)).ext h3 (fun hf => by have := HT.out.old hf; have := HWR.out; omega)),Lib.hid (hf1.tree HT.out h2 h3 d3 d4 ((V.StepsB.refl (sp := true)).Put _ _ _))⟩)
     have HRD : Hid (∀ w2,FillAt s w w2 v (v'.Put s.cap i a.key1 a.value).2 i X P0 P2 (ins a.key1 a.value E) E A' c' → Calls Tryz.prog 38 #[.pointer (some ⟨w.heap.size + 1,0,none⟩),.string (str a.key1),.string (str a.value)] w2 fun e w3 => e = .returned (.int .i64 0) ∧ Hid (∃ A3 c3,FillAt s w w3 v (v'.Put s.cap i a.key1 a.value).2 i X P0 P2 (ins a.key1 a.value E) (ins a.key1 a.value E) A3 c3)) := Lib.hid (by
      intro w2 hf2
      refine (refput_any w2 (w.heap.size + 1) A' c' E a.key1 a.value hf2.bm (hf2.ra.mono (fun _ _ h => h.elim)) (by have := HROOM.out.1; omega) hmay).mono ?_
      intro e w3 hd
      rw [hins] at hd
      exact ⟨hd.e,Lib.hid (hf2.map HS.out HT.out hd)⟩)
     have HSTP : Hid (fillE (l.take (k + 1)) = ins a.key1 a.value E) := Lib.hid (by rw [HST.out]; unfold Ac.step; rw [if_neg hk2])
     have hk2' : (a.kind == 2) = false := by simpa using hk2
     clear hk hkm hfa hst hEl hmay d1 d3 d4 hE hwr hstl hvl hins
     go_wp2_with fail
     rw [← hW]
     refine (HVW.out _).mono ?_
     rintro e w1 ⟨rfl,hx1⟩
     have HX1 := Lib.hid hx1
     clear hx1
     go_wp2_with fail
     refine (HDE.out _ HX1.out).mono ?_
     rintro e w2 ⟨rfl,HB2,HFB⟩
     have b0 := HB2.out.cell 0
     have b1 := HB2.out.cell 1
     have b2 := HB2.out.cell 2
     have b3 := HB2.out.cell 3
     have bl := HB2.out.lt
     simp at b0 b1 b2 b3
     clear k0 k1 k2 k3 lc hW HDE
     go_wp2_with fail
     refine (HVW.out _).mono ?_
     rintro e w3 ⟨rfl,hx3⟩
     have HFB3 := Lib.hid (HFB.out.no HS.out hx3)
     clear hx3 HFB
     go_wp2_with fail
     refine (HRD.out _ HFB3.out).mono ?_
     rintro e w4 ⟨rfl,HFC⟩
     go_wp2_with fail
     go_roundg (gk - 1)
     case rel =>
      obtain ⟨A3,c3,h3⟩ := HFC.out
      exact ⟨k + 1,_,P2,A3,c3,by have := HK.out; omega,by omega,by go_num,Lib.hid (by rw [HSTP.out]; exact h3)⟩
     case measure => have := HK.out; omega
   ·have hkm' : k = most := by omega
    have hge : ¬ ((k : Int) < (most : Int)) := by omega
    have hlt' : (k : Int) < (l.length : Int) := by omega
    have hE : l.take k = l.take most := by rw [hkm']
    rw [hE] at HFA
    have c0 := HFA.out.bm.cell 0
    have cl := HFA.out.bm.lt
    have rl := HFA.out.br.lt
    have rf := HFA.out.br.frozen 0
    have r0 := HFA.out.br.cell 0
    simp at c0 r0
    have HRES := Lib.hid (HFA.out.br.set_ 0 (.slice A' (fillE (l.take most)).length c'))
    have HFIN : Hid (D (.returned (.tuple #[.agg #[.slice A' (fillE (l.take most)).length c'],.bool true])) (wr.setCell ⟨w.heap.size,0,none⟩ (.slice A' (fillE (l.take most)).length c'))) := Lib.hid (by
     rw [HD.out]
     have hx2 : Ext No w (wr.setCell ⟨w.heap.size,0,none⟩ (.slice A' (fillE (l.take most)).length c')) → True := fun _ => trivial
     have hloc : Ext (On w.heap.size) wr (wr.setCell ⟨w.heap.size,0,none⟩ (.slice A' (fillE (l.take most)).length c')) := Ext.setF (F := On w.heap.size) (Ext.refl _ _) (b := w.heap.size) (show On w.heap.size w.heap.size from rfl) _ _
     have hex2 : Ext s.F w (wr.setCell ⟨w.heap.size,0,none⟩ (.slice A' (fillE (l.take most)).length c')) := HFA.out.ex.trans hloc (fun b hb he => by have : b = w.heap.size := he; omega)
     refine ⟨⟨v',P',A',c',rfl,HFA.out.tx.local_ hloc (fun he => ?_) (fun he => ?_) (HS.out.keep _ _ hex2 HT.out.db),HFA.out.one,HFA.out.tr,?_,HFA.out.st⟩,hex2⟩
     ·have h1 : s.t = w.heap.size := he
      have := HT.out.old (b := s.t) (.inl rfl); omega
     ·have h1 : s.m = w.heap.size := he
      have := HT.out.old (b := s.m) (.inr rfl); omega
     ·exact (HFA.out.ra.ext (hloc.mono fun b _ he => by have h1 : b = w.heap.size := he; show b < w.heap.size + 2; omega)).mono (fun b _ hb => by have h1 : b < w.heap.size := hb; show b < w.heap.size + 2; omega))
    clear hk hkm hkm' hE HFA
    go_wp2_with fail
    refine fill_back _ _ HRES.out rfl (by rfl) (by rfl) (by rfl) ?_
    exact HFIN.out
  ·have hkm' : l.take k = l.take most := by rw [List.take_of_length_le (by omega),List.take_of_length_le (by omega)]
   have hge : ¬ ((k : Int) < (l.length : Int)) := by omega
   have hE := hkm'
   rw [hE] at HFA
   have c0 := HFA.out.bm.cell 0
   have cl := HFA.out.bm.lt
   have rl := HFA.out.br.lt
   have rf := HFA.out.br.frozen 0
   have r0 := HFA.out.br.cell 0
   simp at c0 r0
   have HRES := Lib.hid (HFA.out.br.set_ 0 (.slice A' (fillE (l.take most)).length c'))
   have HFIN : Hid (D (.returned (.tuple #[.agg #[.slice A' (fillE (l.take most)).length c'],.bool true])) (wr.setCell ⟨w.heap.size,0,none⟩ (.slice A' (fillE (l.take most)).length c'))) := Lib.hid (by
    rw [HD.out]
    have hx2 : Ext No w (wr.setCell ⟨w.heap.size,0,none⟩ (.slice A' (fillE (l.take most)).length c')) → True := fun _ => trivial
    have hloc : Ext (On w.heap.size) wr (wr.setCell ⟨w.heap.size,0,none⟩ (.slice A' (fillE (l.take most)).length c')) := Ext.setF (F := On w.heap.size) (Ext.refl _ _) (b := w.heap.size) (show On w.heap.size w.heap.size from rfl) _ _
    have hex2 : Ext s.F w (wr.setCell ⟨w.heap.size,0,none⟩ (.slice A' (fillE (l.take most)).length c')) := HFA.out.ex.trans hloc (fun b hb he => by have : b = w.heap.size := he; omega)
    refine ⟨⟨v',P',A',c',rfl,HFA.out.tx.local_ hloc (fun he => ?_) (fun he => ?_) (HS.out.keep _ _ hex2 HT.out.db),HFA.out.one,HFA.out.tr,?_,HFA.out.st⟩,hex2⟩
    ·have h1 : s.t = w.heap.size := he
     have := HT.out.old (b := s.t) (.inl rfl); omega
    ·have h1 : s.m = w.heap.size := he
     have := HT.out.old (b := s.m) (.inr rfl); omega
    ·exact (HFA.out.ra.ext (hloc.mono fun b _ he => by have h1 : b = w.heap.size := he; show b < w.heap.size + 2; omega)).mono (fun b _ hb => by have h1 : b < w.heap.size := hb; show b < w.heap.size + 2; omega))
   clear hk hkm hkm' hE HFA
   go_wp2_with fail
   refine fill_back _ _ HRES.out rfl (by rfl) (by rfl) (by rfl) ?_
   exact HFIN.out
def ka : Bs := [97]
def kb : Bs := [98]
def vx : Bs := [120]
def vy : Bs := [121]
def e1 : V := (v0.Put 20 0 ka vx).2
def e2 : V := (e1.Put 20 0 kb vy).2
def e3 : V := (e2.Del 20 0 ka).2.2
def e4 : V := (e3.Del 20 0 kb).2.2
def cA : Cell := ⟨ka,vx,0,0⟩
def cB : Cell := ⟨kb,vy,0,0⟩
theorem f1 : v0.way 0 ka = some [] := by kernel_rfl
theorem f1e : (v0.Put 20 0 ka vx).1 = 0 := by kernel_rfl
theorem f2 : e1.way 0 kb = some [⟨1,⟨true,[cA],[],[]⟩,1⟩] := by kernel_rfl
theorem f2e : (e1.Put 20 0 kb vy).1 = 0 := by kernel_rfl
theorem f2w : (e1.wr 1 ((⟨true,[cA],[],[]⟩ : Nd).put cB)).1 = 0 := by kernel_rfl
theorem f2h : e2.height 0 = (1,0) := by kernel_rfl
theorem f2r : e2.r 0 = 1 := by kernel_rfl
theorem f2n : e2.node 1 = some ⟨true,[cA,cB],[],[]⟩ := by kernel_rfl
theorem f2g : e2.get 0 kb = (vy,true,0) := by kernel_rfl
theorem f2y : e2.way 0 kb = some [⟨1,⟨true,[cA,cB],[],[]⟩,1⟩] := by kernel_rfl
theorem f3 : e2.way 0 ka = some [⟨1,⟨true,[cA,cB],[],[]⟩,0⟩] := by kernel_rfl
theorem f3e : (e2.Del 20 0 ka).1 = true ∧ (e2.Del 20 0 ka).2.1 = 0 := ⟨by kernel_rfl,by kernel_rfl⟩
theorem f4 : e3.way 0 kb = some [⟨1,⟨true,[cB],[],[]⟩,0⟩] := by kernel_rfl
theorem f4e : (e3.Del 20 0 kb).1 = true ∧ (e3.Del 20 0 kb).2.1 = 0 := ⟨by kernel_rfl,by kernel_rfl⟩
theorem f5h : e4.height 0 = (0,0) := by kernel_rfl
theorem f5r : e4.r 0 = 0 := by kernel_rfl
section
variable {s : Sys} {w : World} {gx : Nat}
theorem ex1 (hs : s.Ok) (hc : s.cap = 20) (h : TxAt w s v0) (hx : Blk w gx 70 (treeCells s 0)) :
  Calls Tryz.prog 25 #[.pointer (some ⟨gx,0,none⟩),.string ⟨#[97]⟩,.string ⟨#[120]⟩] w (Did s w (0,e1)) := by
 have := Put_room s hs w v0 h v0_good gx 0 hx (by decide) ka vx (by decide) (by decide) [] f1 rfl (fun st h => by cases h)
 rw [hc] at this
 exact (show v0.Put 20 0 ka vx = (0,e1) from Prod.ext f1e rfl) ▸ this
theorem ex2 (hs : s.Ok) (hc : s.cap = 20) (h : TxAt w s e1) (hg : e1.Good) (hx : Blk w gx 70 (treeCells s 0)) :
  Calls Tryz.prog 25 #[.pointer (some ⟨gx,0,none⟩),.string ⟨#[98]⟩,.string ⟨#[121]⟩] w (Did s w (0,e2)) := by
 have := Put_room s hs w e1 h hg gx 0 hx (by decide) kb vy (by decide) (by decide) _ f2 (by kernel_rfl) (fun st h => by
  simp at h
  subst h
  have := f2w
  intro e
  rw [show (⟨kb,vy,0,0⟩ : Cell) = cB from rfl,f2w] at e
  cases e)
 rw [hc] at this
 exact (show e1.Put 20 0 kb vy = (0,e2) from Prod.ext f2e rfl) ▸ this
theorem ex3 (hs : s.Ok) (h : TxAt w s e2) (hg : e2.Good) (hx : Blk w gx 70 (treeCells s 0)) :
  Calls Tryz.prog 28 #[.pointer (some ⟨gx,0,none⟩)] w fun e w' => e = .returned (.tuple #[.int .i64 1,.int .i64 0]) ∧ Ext No w w' := by
 have := height_any s hs w e2 h hg gx 0 hx (by decide)
 rw [f2h] at this
 exact this
theorem ex4 (hs : s.Ok) (h : TxAt w s e2) (hg : e2.Good) (hx : Blk w gx 70 (treeCells s 0)) :
  Calls Tryz.prog 24 #[.pointer (some ⟨gx,0,none⟩)] w fun e w' => e = .returned (.tuple #[.int .i64 1,.int .i64 0]) ∧ Ext No w w' := by
 refine pages_of _ w 1 0 (survey_leaf s hs w e2 h hg gx 0 hx (by decide) (by rw [f2r]; decide) ⟨true,[cA,cB],[],[]⟩ (by rw [f2r]; exact f2n) rfl (by simp) (fun c hc => ?_))
 simp at hc
 rcases hc with rfl | rfl <;> rfl
theorem ex5 (hs : s.Ok) (h : TxAt w s e2) (hg : e2.Good) (hx : Blk w gx 70 (treeCells s 0)) :
  Calls Tryz.prog 23 #[.pointer (some ⟨gx,0,none⟩),.string ⟨#[98]⟩] w fun e w' => e = .returned (.tuple #[.string (str vy),.bool true,.int .i64 0]) ∧ Ext No w w' := by
 have := get_any' s hs w e2 h hg gx 0 hx (by decide) kb (fun ws c h1 h2 => value_small s e2 c (by
  rw [f2y] at h1
  injection h1 with h1
  subst h1
  have : hit [⟨1,⟨true,[cA,cB],[],[]⟩,1⟩] kb = some cB := by kernel_rfl
  rw [this] at h2
  injection h2 with h2
  subst h2
  rfl))
 rw [f2g] at this
 exact this
theorem ex6 (hs : s.Ok) (hc : s.cap = 20) (h : TxAt w s e2) (hg : e2.Good) (hx : Blk w gx 70 (treeCells s 0)) :
  Calls Tryz.prog 27 #[.pointer (some ⟨gx,0,none⟩),.string ⟨#[97]⟩] w (DidB s w (true,0,e3)) := by
 have := Del_room s hs w e2 h hg gx 0 hx (by decide) ka (by decide) _ f3 cA (by kernel_rfl) rfl rfl rfl
 rw [hc] at this
 exact (show e2.Del 20 0 ka = (true,0,e3) from Prod.ext f3e.1 (Prod.ext f3e.2 rfl)) ▸ this
theorem ex7 (hs : s.Ok) (hc : s.cap = 20) (h : TxAt w s e3) (hg : e3.Good) (hx : Blk w gx 70 (treeCells s 0)) :
  Calls Tryz.prog 27 #[.pointer (some ⟨gx,0,none⟩),.string ⟨#[98]⟩] w (DidB s w (true,0,e4)) := by
 have := Del_room s hs w e3 h hg gx 0 hx (by decide) kb (by decide) _ f4 cB (by kernel_rfl) rfl rfl rfl
 rw [hc] at this
 exact (show e3.Del 20 0 kb = (true,0,e4) from Prod.ext f4e.1 (Prod.ext f4e.2 rfl)) ▸ this
theorem ex8 (hs : s.Ok) (h : TxAt w s e4) (hg : e4.Good) (hx : Blk w gx 70 (treeCells s 0)) :
  Calls Tryz.prog 28 #[.pointer (some ⟨gx,0,none⟩)] w fun e w' => e = .returned (.tuple #[.int .i64 0,.int .i64 0]) ∧ Ext No w w' := by
 have := height_any s hs w e4 h hg gx 0 hx (by decide)
 rw [f5h] at this
 exact this
theorem ex9 (hs : s.Ok) (h : TxAt w s e4) (hx : Blk w gx 70 (treeCells s 0)) :
  Calls Tryz.prog 24 #[.pointer (some ⟨gx,0,none⟩)] w fun e w' => e = .returned (.tuple #[.int .i64 0,.int .i64 0]) ∧ Ext No w w' :=
 pages_of _ w 0 (-1) (survey_zero s hs w e4 h gx 0 hx (by decide) f5r)
end
theorem Ext.more {s : Sys} {w w1 w2 : World} (h : Ext No w w1) (hx : Ext s.F w1 w2) (hF : ∀ b,s.F b → w.heap.size ≤ b) : Ext No w w2 :=
 h.trans hx fun i hi hf => absurd (hF i hf) (by omega)
theorem works_any (w : World) : Calls Tryz.prog 18 #[] w fun e w' => e = .returned (.bool true) ∧ Ext No w w' := by
 have HB := Lib.hid (begin_any 20 (by decide) (by decide) w)
 go_enter Tryz.func18,Tryz.ntmps18
 go_wp2_with fail
 refine HB.out.mono ?_
 rintro e w1 ⟨s,hF,rfl,hx1,ht,hm,_,_⟩
 have hs := hF.ok
 have hc := hF.cap
 have HS := Lib.hid hs; have HC := Lib.hid hc
 have HT1 := Lib.hid hF.tx
 have HE1 := Lib.hid hx1
 have HFF : Hid (∀ b,s.F b → w.heap.size ≤ b) := Lib.hid (fun b hb => by
  rcases hb with rfl | rfl
  ·exact ht
  ·exact hm)
 have HOF := Lib.hid (of_any (some ⟨s.t,0,none⟩) 0 (by decide) w1)
 have hTa : TxAt (w1.alloc (.cells (treeCells s 0) 70)) s v0 := hF.tx.no hs ((Ext.refl No w1).alloc _)
 have hXa : Blk (w1.alloc (.cells (treeCells s 0) 70)) w1.heap.size 70 (treeCells s 0) := Blk.new w1 70 _
 have HXa := Lib.hid hXa
 have H1 := Lib.hid (ex1 hs hc hTa hXa)
 have HEa := Lib.hid (hx1.alloc (.cells (treeCells s 0) 70))
 have HTa := Lib.hid hTa
 clear hF hs hc hx1 ht hm hTa hXa
 go_wp2_with fail
 refine HOF.out.mono ?_
 rintro e w2 ⟨rfl,rfl⟩
 go_wp2_with fail
 refine H1.out.mono ?_
 rintro e w3 ⟨rfl,hT3,hG3,hx3⟩
 have hX3 := tree_ext HTa.out HXa.out hx3
 have HX3 := Lib.hid hX3; have HT3 := Lib.hid hT3
 have HE3 := Lib.hid (HEa.out.more hx3 HFF.out)
 have H2 := Lib.hid (ex2 HS.out HC.out hT3 hG3 hX3)
 clear hT3 hG3 hx3 hX3
 go_wp2_with fail
 refine H2.out.mono ?_
 rintro e w4 ⟨rfl,hT4,hG4,hx4⟩
 have hX4 := tree_ext HT3.out HX3.out hx4
 have HX4 := Lib.hid hX4; have HT4 := Lib.hid hT4; have HG4 := Lib.hid hG4
 have HE4 := Lib.hid (HE3.out.more hx4 HFF.out)
 have H3 := Lib.hid (ex3 HS.out hT4 hG4 hX4)
 clear hT4 hG4 hx4 hX4
 go_wp2_with fail
 refine H3.out.mono ?_
 rintro e w5 ⟨rfl,hx5⟩
 have HX5 := Lib.hid (HX4.out.ext hx5 (fun h => h)); have HT5 := Lib.hid (HT4.out.no HS.out hx5)
 have HE5 := Lib.hid (HE4.out.trans_ hx5)
 have H4 := Lib.hid (ex4 HS.out HT5.out HG4.out HX5.out)
 clear hx5
 go_wp2_with fail
 refine H4.out.mono ?_
 rintro e w6 ⟨rfl,hx6⟩
 have HX6 := Lib.hid (HX5.out.ext hx6 (fun h => h)); have HT6 := Lib.hid (HT5.out.no HS.out hx6)
 have HE6 := Lib.hid (HE5.out.trans_ hx6)
 have H5 := Lib.hid (ex5 HS.out HT6.out HG4.out HX6.out)
 clear hx6
 go_wp2_with fail
 refine H5.out.mono ?_
 rintro e w7 ⟨rfl,hx7⟩
 have HX7 := Lib.hid (HX6.out.ext hx7 (fun h => h)); have HT7 := Lib.hid (HT6.out.no HS.out hx7)
 have HE7 := Lib.hid (HE6.out.trans_ hx7)
 have H6 := Lib.hid (ex6 HS.out HC.out HT7.out HG4.out HX7.out)
 clear hx7
 simp only [vy]
 go_wp2_with fail
 refine H6.out.mono ?_
 rintro e w8 ⟨rfl,hT8,hG8,hx8⟩
 have hX8 := tree_ext HT7.out HX7.out hx8
 have HX8 := Lib.hid hX8; have HT8 := Lib.hid hT8
 have HE8 := Lib.hid (HE7.out.more hx8 HFF.out)
 have H7 := Lib.hid (ex7 HS.out HC.out hT8 hG8 hX8)
 clear hT8 hG8 hx8 hX8
 go_wp2_with fail
 refine H7.out.mono ?_
 rintro e w9 ⟨rfl,hT9,hG9,hx9⟩
 have hX9 := tree_ext HT8.out HX8.out hx9
 have HX9 := Lib.hid hX9; have HT9 := Lib.hid hT9
 have HE9 := Lib.hid (HE8.out.more hx9 HFF.out)
 have H8 := Lib.hid (ex8 HS.out hT9 hG9 hX9)
 clear hT9 hG9 hx9 hX9
 go_wp2_with fail
 refine H8.out.mono ?_
 rintro e w10 ⟨rfl,hx10⟩
 have HX10 := Lib.hid (HX9.out.ext hx10 (fun h => h)); have HT10 := Lib.hid (HT9.out.no HS.out hx10)
 have HE10 := Lib.hid (HE9.out.trans_ hx10)
 have H9 := Lib.hid (ex9 HS.out HT10.out HX10.out)
 clear hx10
 go_wp2_with fail
 refine H9.out.mono ?_
 rintro e w11 ⟨rfl,hx11⟩
 go_wp2_with fail
 go_ret
 exact ⟨rfl,HE10.out.trans_ hx11⟩
end Go.Proofs.YtccnemmlkcmceaaGreatDoor
