/- Proofs about the given program, joined out of the texts T5, T6, B0, W1, S0, BA, W2, W3, W4. -/
import Derived.Test.YtccnemmlkcmceaaGreatDoorH1
import Derived.Deep.RegionHeld3
import Derived.Deep.LoopGhost
/- The transaction's calls, continued: Alloc. -/
set_option linter.unusedVariables false
set_option linter.unusedSimpArgs false
namespace Go.Proofs.YtccnemmlkcmceaaGreatDoor
open Go.RowKit 

def V.allocNew (v : V) : V := V.put { v with high := v.high + 1, marked := true } v.high ⟨1, []⟩
def V.allocFree (v : V) : V := V.put { v with free := v4 (str (v.pg v.free).body), cnt := v.cnt - 1, marked := true } v.free ⟨1, []⟩

set_option maxRecDepth 100000 in
set_option maxHeartbeats 800000 in
theorem alloc_full (s : Sys) (hs : s.Ok) (w : World) (v : V) (h : TxAt w s v) (h1 : v.free = 0) (h2 : v.high = s.cap) :
    Calls Tryz.prog 19 #[.pointer (some ⟨s.t, 0, none⟩)] w fun e w' => e = .returned (.tuple #[.int .i64 0, .int .i64 7]) ∧ Ext No w w' := by
  have t0 := h.c0
  have t5 := h.c5
  have t6 := h.c6
  rw [h1] at t6
  rw [h2] at t5
  have x0 := hs.x0 w h.db
  have HU := Lib.hid (txup s hs w h.db t0)
  have hdb := Lib.hid h.db
  clear h1 h2 h
  go_enter Tryz.func19, Tryz.ntmps19
  go_wp2_with fail
  refine (HU.out).mono ?_
  rintro e w2 ⟨rfl, rfl⟩
  go_wp2_with fail
  go_quiet ((go_at_call 56; exact Calls.quiet_of (xcount s hs _ (by exact sysKeepNo hs ((Ext.refl No w).drewN _) hdb.out))))
  go_wp2_with fail
  go_ret2
  exact ⟨rfl, by (repeat' (first | exact Ext.refl _ _ | assumption | apply Ext.alloc | apply Ext.drewN | apply Ext.drew | refine Ext.setNew ?_ (by first | omega | (simp; omega) | simp) _ _ | refine Ext.setF ?_ (by first | exact Or.inl rfl | exact Or.inr rfl | rfl) _ _ | refine Ext.trans_ ?_ (by assumption) | refine Ext.trans_ ?_ (Ext.of_no (by assumption))))⟩

set_option maxRecDepth 100000 in
set_option maxHeartbeats 800000 in
theorem alloc_new (s : Sys) (hs : s.Ok) (w : World) (v : V) (h : TxAt w s v) (h1 : v.free = 0) (h2 : v.high < s.cap) :
    Calls Tryz.prog 19 #[.pointer (some ⟨s.t, 0, none⟩)] w fun e w' => e = .returned (.tuple #[.int .i64 (v.high : Int), .int .i64 0]) ∧ TxAt w' s v.allocNew ∧ Ext s.F w w' := by
  have t0 := h.c0
  have t5 := h.c5
  have t6 := h.c6
  have t8 := h.c8
  have t9 := h.c9
  have f0 := h.fz
  have x0 := hs.x0 w h.db
  have HU := Lib.hid (txup s hs w h.db t0)
  have hdb := Lib.hid h.db
  have hcap : s.cap ≤ 65536 := by unfold Sys.cap; have := hs.n2; omega
  have hne : ((v.high : Int) == (s.cap : Int)) = false := by simpa using (by omega : ¬ (v.high : Int) = (s.cap : Int))
  obtain ⟨ov, hm, hk, hv⟩ := h.mp
  have hmt : s.t ≠ s.m := hm.ne h.tx
  have hmx : ∀ W, W.heap[s.m]? = w.heap[s.m]? → MapAt W s.m ov := fun W e => by
    obtain ⟨hn, es, c, ho, hes⟩ := hm
    exact ⟨hn, es, c, e.trans ho, hes⟩
  have hmm : ∀ nq u u', MapAt (((w.drewN nq).setCell ⟨s.t, 5, none⟩ u).setCell ⟨s.t, 9, none⟩ u') s.m ov := fun nq u u' => hmx _ (heap_set2 (w.drewN nq) _ _ _ _ _ _ hmt)
  have ms : ∀ nq u u', (Instr.mapUpdate 109 (.map (some s.m)) (.int .i64 (v.high : Int)) (.agg #[.int .i64 1, .string { data := #[] }])).run Tryz.prog (((w.drewN nq).setCell ⟨s.t, 5, none⟩ u).setCell ⟨s.t, 9, none⟩ u') =
    .ok () (mset (((w.drewN nq).setCell ⟨s.t, 5, none⟩ u).setCell ⟨s.t, 9, none⟩ u') s.m v.high ⟨1, []⟩) := fun nq u u' => (mset_run (hmm nq u u') v.high ⟨1, []⟩).1
  have ms2 := fun nq u u' => (mset_run (hmm nq u u') v.high ⟨1, []⟩).2
  have HK := Lib.hid hk; have HV := Lib.hid hv; have HM := Lib.hid ms2; have H1 := Lib.hid h1
  rw [h1] at t6
  clear hk hv ms2 hmm hmx h1
  go_enter Tryz.func19, Tryz.ntmps19
  go_wp2_with fail
  refine (HU.out).mono ?_
  rintro e w2 ⟨rfl, rfl⟩
  go_wp2_with fail
  go_quiet ((go_at_call 56; exact Calls.quiet_of (xcount s hs _ (by exact sysKeepNo hs ((Ext.refl No w).drewN _) hdb.out))))
  go_wp2_with fail
  go_ret2
  have hE : Ext s.F w (mset (((w.drewN nq).setCell ⟨s.t, 5, none⟩ (.int .i64 ((v.high : Int) + 1))).setCell ⟨s.t, 9, none⟩ (.bool true)) s.m v.high ⟨1, []⟩) :=
    ((((Ext.refl _ w).drewN nq).setF (.inl rfl) _ _).setF (.inl rfl) _ _).trans_ (mset_ext _ _ _ _).of_m
  refine ⟨rfl, ?_, hE⟩
  have hc := h.hc
  refine TxAt.step hs h HK.out HV.out (HM.out _ _ _) hE ?_ h.h1 (Nat.lt_succ_self _) (.inr ⟨rfl, rfl⟩) h2 (Nat.le_succ_of_le hc) rfl
  exact (mset_heap _ _ _ _ _ hmt).trans (((h.tx.drewN nq).set_ _ _).set_ _ _)

theorem heap_set3 (w : World) (t m i j k : Nat) (u u' u'' : Value) (h : t ≠ m) : ((((w.setCell ⟨t, i, none⟩ u).setCell ⟨t, j, none⟩ u').setCell ⟨t, k, none⟩ u'').heap[m]?) = w.heap[m]? :=
  (Below.heap_setCell _ ⟨t, k, none⟩ u'' m (Ne.symm h)).trans (heap_set2 w t m i j u u' h)

set_option maxRecDepth 100000 in
set_option maxHeartbeats 800000 in
theorem alloc_free (s : Sys) (hs : s.Ok) (w : World) (v : V) (h : TxAt w s v) (h1 : 0 < v.free) (h2 : v.free < v.high) (h3 : 4 ≤ (v.pg v.free).body.length) (h4 : 1 ≤ v.cnt) :
    Calls Tryz.prog 19 #[.pointer (some ⟨s.t, 0, none⟩)] w fun e w' => e = .returned (.tuple #[.int .i64 (v.free : Int), .int .i64 0]) ∧ TxAt w' s v.allocFree ∧ Ext s.F w w' := by
  have t0 := h.c0
  have t6 := h.c6
  have HU := Lib.hid (txup s hs w h.db t0)
  have HG := Lib.hid (get_any s hs w v h v.free h1 h2)
  have h3' : 4 ≤ (str (v.pg v.free).body).size := by rw [str_size]; exact h3
  have h1' : (0 : Int) < v.free := by omega
  go_enter Tryz.func19, Tryz.ntmps19
  go_wp2_with fail
  refine (HU.out).mono ?_
  rintro e w2 ⟨rfl, rfl⟩
  go_wp2_with fail
  refine (HG.out).mono ?_
  rintro e w1 ⟨rfl, hb1⟩
  have h' := h.no hs hb1
  have t0 := h'.c0
  have t5 := h'.c5
  have t6 := h'.c6
  have t7 := h'.c7
  have t8 := h'.c8
  have t9 := h'.c9
  have f0 := h'.fz
  have lt := h'.tx.lt
  have hne : w1.heap.size ≠ s.t := by omega
  obtain ⟨ov, hm, hk, hv⟩ := h'.mp
  have hmt : s.t ≠ s.m := hm.ne h'.tx
  have hmlt : s.m < w1.heap.size := by
    obtain ⟨_, es, c, ho, _⟩ := hm
    rcases Nat.lt_or_ge s.m w1.heap.size with hlt | hge
    · exact hlt
    · rw [Array.getElem?_eq_none hge] at ho; cases ho
  have hmx : ∀ W, W.heap[s.m]? = w1.heap[s.m]? → MapAt W s.m ov := fun W e => by
    obtain ⟨hn, es, c, ho, hes⟩ := hm
    exact ⟨hn, es, c, e.trans ho, hes⟩
  generalize hp : v.pg v.free = p at h3' h3
  have hmm : ∀ o k u u' u'', MapAt (((((w1.alloc o).drewN k).setCell ⟨s.t, 6, none⟩ u).setCell ⟨s.t, 7, none⟩ u').setCell ⟨s.t, 9, none⟩ u'') s.m ov := fun o k u u' u'' =>
    hmx _ ((heap_set3 ((w1.alloc o).drewN k) _ _ _ _ _ _ _ _ hmt).trans (Below.heap_alloc w1 o s.m hmlt))
  have ms : ∀ o k u u' u'', (Instr.mapUpdate 109 (.map (some s.m)) (.int .i64 (v.free : Int)) (.agg #[.int .i64 1, .string { data := #[] }])).run Tryz.prog (((((w1.alloc o).drewN k).setCell ⟨s.t, 6, none⟩ u).setCell ⟨s.t, 7, none⟩ u').setCell ⟨s.t, 9, none⟩ u'') =
    .ok () (mset (((((w1.alloc o).drewN k).setCell ⟨s.t, 6, none⟩ u).setCell ⟨s.t, 7, none⟩ u').setCell ⟨s.t, 9, none⟩ u'') s.m v.free ⟨1, []⟩) := fun o k u u' u'' => (mset_run (hmm o k u u' u'') v.free ⟨1, []⟩).1
  have ms2 := fun o k u u' u'' => (mset_run (hmm o k u u' u'') v.free ⟨1, []⟩).2
  have HK := Lib.hid hk; have HV := Lib.hid hv; have HM := Lib.hid ms2; have HP := Lib.hid hp
  clear hk hv ms2 hmm hmx hp
  simp only [Leaf.val]
  go_wp2_with fail
  refine (value_any (str p.body) h3' _).mono ?_
  rintro e w3 ⟨rfl, k, rfl⟩
  have g1 : (0:Int) ≤ v.cnt := by omega
  have hcb := h.hc
  have hhb := h.h2
  have hcap : s.cap ≤ 65536 := by unfold Sys.cap; have := hs.n2; omega
  go_wp2_with fail
  go_ret2
  have hE : Ext s.F w1 (mset (((((w1.alloc (.cells #[.int .i64 (p.kind : Int), .string (str p.body)] 113)).drewN k).setCell ⟨s.t, 6, none⟩ (.int .i64 (v4 (str p.body) : Int))).setCell ⟨s.t, 7, none⟩ (.int .i64 ((v.cnt : Int) - 1))).setCell ⟨s.t, 9, none⟩ (.bool true)) s.m v.free ⟨1, []⟩) :=
    ((((((Ext.refl _ w1).alloc _).drewN k).setF (.inl rfl) _ _).setF (.inl rfl) _ _).setF (.inl rfl) _ _).trans_ (mset_ext _ _ _ _).of_m
  refine ⟨rfl, ?_, hb1.of_no.trans_ hE⟩
  refine TxAt.step hs h' HK.out HV.out (HM.out _ _ _ _ _) hE ?_ h1 h2 (.inl rfl) h.h2 (by show v.cnt - 1 ≤ v.high; omega) rfl
  refine (mset_heap _ _ _ _ _ hmt).trans ?_
  have e1 : (v.allocFree.cells s) = ((((v.cells s).setIfInBounds 6 (.int .i64 (v4 (str p.body) : Int))).setIfInBounds 7 (.int .i64 ((v.cnt : Int) - 1))).setIfInBounds 9 (.bool true)) := by
    have e2 : ((v.cnt - 1 : Nat) : Int) = (v.cnt : Int) - 1 := by omega
    simp only [V.allocFree, V.cells, V.put, HP.out, e2]
    rfl
  rw [e1]
  exact (((((h'.tx.alloc _).drewN k).set_ _ _).set_ _ _).set_ _ _)

end Go.Proofs.YtccnemmlkcmceaaGreatDoor

/- The transaction's calls, continued: Free. -/
set_option linter.unusedVariables false
set_option linter.unusedSimpArgs false
namespace Go.Proofs.YtccnemmlkcmceaaGreatDoor
open Go.RowKit 

def V.letFree (v : V) (id : Nat) : V := V.put { v with free := id, cnt := v.cnt + 1, marked := true } id ⟨255, n4 v.free⟩

set_option maxRecDepth 100000 in
set_option maxHeartbeats 800000 in
theorem free_ok (s : Sys) (hs : s.Ok) (w : World) (v : V) (h : TxAt w s v) (id : Nat) (he : v.err id = 0) (hfr : v.free < 4294967296) (hcn : v.cnt < v.high) :
    Calls Tryz.prog 142 #[.pointer (some ⟨s.t, 0, none⟩), .int .i64 (id : Int)] w fun e w' => e = .returned (.int .i64 0) ∧ TxAt w' s (v.letFree id) ∧ Ext s.F w w' := by
  have HG := Lib.hid (there_ok s hs w v h id he)
  obtain ⟨h1, h2, _⟩ := V.err_ok he
  clear he
  go_enter Tryz.func142, Tryz.ntmps142
  go_wp2_with fail
  refine (HG.out).mono ?_
  rintro e w1 ⟨rfl, hb1⟩
  have h' := h.no hs hb1
  have t6 := h'.c6
  have t7 := h'.c7
  have t8 := h'.c8
  have t9 := h'.c9
  have f0 := h'.fz
  have lt := h'.tx.lt
  obtain ⟨ov, hm, hk, hv⟩ := h'.mp
  have hmt : s.t ≠ s.m := hm.ne h'.tx
  have HK := Lib.hid hk; have HV := Lib.hid hv; have HM := Lib.hid hm
  clear hk hv hm
  have hmc : ∀ W i, (mset W s.m id ⟨255, n4 v.free⟩).cell? ⟨s.t, i, none⟩ = W.cell? ⟨s.t, i, none⟩ := fun W i => mset_cell W s.m id _ s.t i hmt
  have hmf : ∀ W i, (mset W s.m id ⟨255, n4 v.free⟩).frozen? ⟨s.t, i, none⟩ = W.frozen? ⟨s.t, i, none⟩ := fun W i => mset_frozen W s.m id _ s.t i hmt
  simp only [Leaf.val]
  go_wp2_with fail
  go_region_held3 (fun w' => w'.cell? ⟨s.t, 8, none⟩ = some (.map (some s.m)) ∧ w'.cell? ⟨s.t, 6, none⟩ = some (.int .i64 (v.free : Int))) (go_keep)
    ((go_at_call 106; refine (number_any v.free hfr _).mono ?_; rintro e w3 ⟨rfl, hb3⟩; have hx3 : Ext No w1 w3 := ((Ext.refl No w1).alloc _).drew.trans_ hb3; have h3 := h'.no hs hx3; have k8 := h3.c8; have k6 := h3.c6; have k7 := h3.c7; have k9 := h3.c9; have f3 := h3.fz; have ms : (Instr.mapUpdate 109 (.map (some s.m)) (.int .i64 (id : Int)) (.agg #[.int .i64 255, .string (str (n4 v.free))])).run Tryz.prog w3 = .ok () (mset w3 s.m id ⟨255, n4 v.free⟩) := (mset_run (HM.out.ext hx3 (fun h => h)) id ⟨255, n4 v.free⟩).1))
  have hcb := h.hc
  have hhb := h.h2
  have hcap : s.cap ≤ 65536 := by unfold Sys.cap; have := hs.n2; omega
  go_wp2_with fail
  go_ret
  have hM3 := (mset_run (HM.out.ext hx3 (fun h => h)) id ⟨255, n4 v.free⟩).2
  have hE : Ext s.F w1 ((((mset w3 s.m id ⟨255, n4 v.free⟩).setCell ⟨s.t, 6, none⟩ (.int .i64 (id : Int))).setCell ⟨s.t, 7, none⟩ (.int .i64 ((v.cnt : Int) + 1))).setCell ⟨s.t, 9, none⟩ (.bool true)) :=
    (((hx3.of_no.trans_ (mset_ext _ _ _ _).of_m).setF (.inl rfl) _ _).setF (.inl rfl) _ _).setF (.inl rfl) _ _
  refine ⟨rfl, ?_, hb1.of_no.trans_ hE⟩
  have hM : MapAt ((((mset w3 s.m id ⟨255, n4 v.free⟩).setCell ⟨s.t, 6, none⟩ (.int .i64 (id : Int))).setCell ⟨s.t, 7, none⟩ (.int .i64 ((v.cnt : Int) + 1))).setCell ⟨s.t, 9, none⟩ (.bool true)) s.m (setOv ov id ⟨255, n4 v.free⟩) := by
    obtain ⟨hn, es, c, ho, hes⟩ := hM3
    exact ⟨hn, es, c, (heap_set3 _ _ _ _ _ _ _ _ _ hmt).trans ho, hes⟩
  refine TxAt.step hs h' HK.out HV.out hM hE ?_ h1 h2 (.inl rfl) h.h2 (by show v.cnt + 1 ≤ v.high; omega) rfl
  have b3 : Blk (mset w3 s.m id ⟨255, n4 v.free⟩) s.t 111 (v.cells s) := (mset_heap _ _ _ _ _ hmt).trans h3.tx
  have e1 : ((v.letFree id).cells s) = ((((v.cells s).setIfInBounds 6 (.int .i64 (id : Int))).setIfInBounds 7 (.int .i64 ((v.cnt : Int) + 1))).setIfInBounds 9 (.bool true)) := by
    have e2 : ((v.cnt + 1 : Nat) : Int) = (v.cnt : Int) + 1 := by omega
    simp only [V.letFree, V.cells, V.put, e2]
    rfl
  rw [e1]
  exact (((b3.set_ _ _).set_ _ _).set_ _ _)

set_option maxHeartbeats 400000 in
theorem free_bad (s : Sys) (hs : s.Ok) (w : World) (v : V) (h : TxAt w s v) (id : Nat) (he : v.err id ≠ 0) :
    Calls Tryz.prog 142 #[.pointer (some ⟨s.t, 0, none⟩), .int .i64 (id : Int)] w fun e w' => e = .returned (.int .i64 (v.err id : Int)) ∧ Ext No w w' := by
  have HG := Lib.hid (there_bad s hs w v h id he)
  have hb : ((v.err id : Int) == 0) = false := by simpa using (by omega : ¬ (v.err id : Int) = 0)
  clear he
  generalize v.err id = p at *
  go_enter Tryz.func142, Tryz.ntmps142
  go_wp2_with fail
  refine (HG.out).mono ?_
  rintro e w2 ⟨rfl, hb2⟩
  go_wp2_with fail
  go_ret
  exact ⟨rfl, by (repeat' (first | exact Ext.refl _ _ | assumption | apply Ext.alloc | apply Ext.drewN | apply Ext.drew | refine Ext.setNew ?_ (by first | omega | (simp; omega) | simp) _ _ | refine Ext.setF ?_ (by first | exact Or.inl rfl | exact Or.inr rfl | rfl) _ _ | refine Ext.trans_ ?_ (by assumption) | refine Ext.trans_ ?_ (Ext.of_no (by assumption))))⟩

end Go.Proofs.YtccnemmlkcmceaaGreatDoor

/- The transaction's free pages: a list of them; its calls, each as one plain function. -/
set_option linter.unusedVariables false
set_option linter.unusedSimpArgs false
namespace Go.Proofs.YtccnemmlkcmceaaGreatDoor
open Go.RowKit 

/-- The free pages, as a list. -/
structure V.Fr (v : V) (l : List Nat) : Prop where
  nd : l.Nodup
  cnt : v.cnt = l.length
  hd : v.free = l.headD 0
  mem : ∀ a, (1 ≤ a ∧ a < v.high ∧ (v.pg a).kind = 255) ↔ a ∈ l
  body : ∀ k a, l[k]? = some a → (v.pg a).body = n4 (l.getD (k + 1) 0)
  top : v.high ≤ 65536
  h1 : 1 ≤ v.high
  bd : ∀ a, 1 ≤ a → a < v.high → (v.pg a).body.length ≤ 500

def V.Good (v : V) : Prop := ∃ l, v.Fr l

theorem nodup_len : ∀ (n : Nat) (l : List Nat), l.Nodup → (∀ a ∈ l, 1 ≤ a ∧ a < n) → 1 ≤ n → l.length < n
  | 0, _, _, _, h => absurd h (by omega)
  | 1, [], _, _, _ => by simp
  | 1, a :: l, _, h, _ => by have := h a (by simp); omega
  | n + 2, l, hd, h, _ => by
    by_cases hm : n + 1 ∈ l
    · have he := nodup_len (n + 1) (l.erase (n + 1)) (hd.erase _) (fun a ha => by
        have h1 := h a (List.mem_of_mem_erase ha)
        have h2 : a ≠ n + 1 := (hd.mem_erase_iff.1 ha).1
        omega) (by omega)
      rw [List.length_erase_of_mem hm] at he
      omega
    · have := nodup_len (n + 1) l hd (fun a ha => by
        have h1 := h a ha
        have h2 : a ≠ n + 1 := fun e => hm (e ▸ ha)
        omega) (by omega)
      omega

theorem V.Fr.lt {v : V} {l : List Nat} (h : v.Fr l) : l.length < v.high := nodup_len _ l h.nd (fun a ha => by have := (h.mem a).2 ha; omega) h.h1

/-- A page is another one, which is not free. -/
theorem V.Fr.put {v : V} {l : List Nat} (h : v.Fr l) {id : Nat} {p : Leaf} (he : v.err id = 0) (hp : p.kind ≠ 255) (hq : p.body.length ≤ 500) : (v.put id p).Fr l := by
  obtain ⟨h1, h2, h3⟩ := V.err_ok he
  have hn : id ∉ l := fun hm => h3 ((h.mem id).2 hm).2.2
  refine ⟨h.nd, h.cnt, h.hd, fun a => ?_, fun k a hk => ?_, h.top, h.h1, fun a a1 a2 => by simp only [V.put]; split; exact hq; exact h.bd a a1 a2⟩
  · rw [← h.mem a]
    simp only [V.put]
    by_cases ha : a = id
    · subst ha
      simp only [if_true]
      constructor
      · rintro ⟨_, _, e⟩; exact absurd e hp
      · rintro ⟨_, _, e⟩; exact absurd e h3
    · simp only [if_neg ha]
  · have ha : a ≠ id := by
      rintro rfl
      exact hn (List.mem_of_getElem? hk)
    simp only [V.put, if_neg ha]
    exact h.body k a hk

theorem V.Fr.new {v : V} {l : List Nat} (h : v.Fr l) (hc : v.high < 65536) : v.allocNew.Fr l := by
  refine ⟨h.nd, h.cnt, h.hd, fun a => ?_, fun k a hk => ?_, by show v.high + 1 ≤ 65536; omega, by show 1 ≤ v.high + 1; omega, fun a a1 a2 => by
    simp only [V.allocNew, V.put] at a2 ⊢
    split
    · simp
    · exact h.bd a a1 (by omega)⟩
  · rw [← h.mem a]
    simp only [V.allocNew, V.put]
    by_cases ha : a = v.high
    · subst ha
      simp only [if_true]
      constructor
      · rintro ⟨_, _, e⟩; cases e
      · rintro ⟨_, e, _⟩; omega
    · simp only [if_neg ha]
      constructor
      · rintro ⟨a1, a2, a3⟩; exact ⟨a1, by omega, a3⟩
      · rintro ⟨a1, a2, a3⟩; exact ⟨a1, by omega, a3⟩
  · have ha : a ≠ v.high := by
      have := (h.mem a).2 (List.mem_of_getElem? hk)
      omega
    simp only [V.allocNew, V.put, if_neg ha]
    exact h.body k a hk

theorem V.Fr.cons {v : V} {l : List Nat} (h : v.Fr l) (hf : v.free ≠ 0) : ∃ l', l = v.free :: l' := by
  have := h.hd
  match l, this with
  | [], e => exact absurd e hf
  | a :: l', e => exact ⟨l', by rw [e]; rfl⟩

theorem V.Fr.old {v : V} {l : List Nat} (h : v.Fr (v.free :: l)) : v.allocFree.Fr l := by
  have hb := h.body 0 v.free rfl
  have hnd := List.nodup_cons.1 h.nd
  have hfree : v4 (str (v.pg v.free).body) = l.headD 0 := by
    rw [hb]
    have : (v.free :: l).getD (0 + 1) 0 < 4294967296 := by
      match l with
      | [] => simp
      | b :: l => have := (h.mem b).2 (by simp); have := h.top; simp; omega
    have e := v4_n4 _ this []
    rw [List.append_nil] at e
    rw [e]
    cases l <;> simp
  have hc := h.cnt
  simp at hc
  refine ⟨hnd.2, by show v.cnt - 1 = _; omega, hfree, fun a => ?_, fun k a hk => ?_, h.top, h.h1, fun a a1 a2 => by
    simp only [V.allocFree, V.put]
    split
    · simp
    · exact h.bd a a1 a2⟩
  · simp only [V.allocFree, V.put]
    by_cases ha : a = v.free
    · subst ha
      simp only [if_true]
      constructor
      · rintro ⟨_, _, e⟩; cases e
      · intro hm; exact absurd hm hnd.1
    · simp only [if_neg ha]
      rw [h.mem a]
      simp [ha]
  · have ha : a ≠ v.free := by
      rintro rfl
      exact hnd.1 (List.mem_of_getElem? hk)
    simp only [V.allocFree, V.put, if_neg ha]
    have := h.body (k + 1) a (by simpa using hk)
    rw [this]
    simp

theorem V.Fr.let_ {v : V} {l : List Nat} (h : v.Fr l) {id : Nat} (he : v.err id = 0) : (v.letFree id).Fr (id :: l) := by
  obtain ⟨h1, h2, h3⟩ := V.err_ok he
  have hn : id ∉ l := fun hm => h3 ((h.mem id).2 hm).2.2
  refine ⟨List.nodup_cons.2 ⟨hn, h.nd⟩, by show v.cnt + 1 = _; rw [h.cnt]; rfl, rfl, fun a => ?_, fun k a hk => ?_, h.top, h.h1, fun a a1 a2 => by
    simp only [V.letFree, V.put]
    split
    · simp [n4]
    · exact h.bd a a1 a2⟩
  · simp only [V.letFree, V.put]
    by_cases ha : a = id
    · subst ha
      simp [h1, h2]
    · simp only [if_neg ha]
      rw [h.mem a]
      simp [ha]
  · simp only [V.letFree, V.put]
    match k, hk with
    | 0, hk =>
      have : id = a := by simpa using hk
      subst this
      rw [if_pos rfl]
      simp [h.hd]
      cases l <;> simp
    | k + 1, hk =>
      have hk' : l[k]? = some a := by simpa using hk
      have ha : a ≠ id := by
        rintro rfl
        exact hn (List.mem_of_getElem? hk')
      rw [if_neg ha, h.body k a hk']
      simp

theorem V.Fr.re {v v' : V} {l : List Nat} (h : v.Fr l) (h1 : v'.free = v.free) (h2 : v'.cnt = v.cnt) (h3 : v'.high = v.high) (h4 : v'.pg = v.pg) : v'.Fr l :=
  ⟨h.nd, h2 ▸ h.cnt, h1 ▸ h.hd, fun a => by rw [h3, h4]; exact h.mem a, fun k a hk => by rw [h4]; exact h.body k a hk, h3 ▸ h.top, h3 ▸ h.h1, by rw [h3, h4]; exact h.bd⟩

/-- Alloc: the page, the error, what is then. -/
def V.alloc (cap : Nat) (v : V) : Nat × Nat × V :=
  if v.free = 0 then (if v.high = cap then (0, 7, v) else (v.high, 0, v.allocNew)) else (v.free, 0, v.allocFree)
/-- Free. -/
def V.drop (v : V) (id : Nat) : Nat × V := if v.err id = 0 then (0, v.letFree id) else (v.err id, v)
/-- Write. -/
def V.set (v : V) (id kind : Nat) (body : List UInt8) : Nat × V := if v.err id = 0 then (0, v.put id ⟨kind, body⟩) else (v.err id, v)
/-- Read. -/
def V.read (v : V) (id : Nat) : Nat × List UInt8 × Nat := if v.err id = 0 then ((v.pg id).kind, (v.pg id).body, 0) else (0, [], v.err id)

theorem V.Good.alloc {v : V} (h : v.Good) {cap : Nat} (h1 : v.high ≤ cap) (h2 : cap ≤ 65536) : (v.alloc cap).2.2.Good ∧ (v.alloc cap).2.2.high ≤ cap := by
  obtain ⟨l, h⟩ := h
  unfold V.alloc
  split
  · split
    · exact ⟨⟨l, h⟩, h1⟩
    · exact ⟨⟨l, h.new (by omega)⟩, by show v.high + 1 ≤ cap; omega⟩
  · rename_i hf
    obtain ⟨l', rfl⟩ := h.cons hf
    exact ⟨⟨l', h.old⟩, h1⟩
theorem V.Good.drop {v : V} (h : v.Good) (id : Nat) : (v.drop id).2.Good := by
  obtain ⟨l, h⟩ := h
  unfold V.drop
  split
  · rename_i he; exact ⟨_, h.let_ he⟩
  · exact ⟨l, h⟩
theorem V.Good.set {v : V} (h : v.Good) (id kind : Nat) (body : List UInt8) (hk : kind ≠ 255) (hb : body.length ≤ 500) : (v.set id kind body).2.Good := by
  obtain ⟨l, h⟩ := h
  unfold V.set
  split
  · rename_i he; exact ⟨_, h.put he hk hb⟩
  · exact ⟨l, h⟩
theorem V.Good.setR {v : V} (h : v.Good) (i n : Nat) : (v.setR i n).Good := by
  obtain ⟨l, h⟩ := h
  exact ⟨l, h.re rfl rfl rfl rfl⟩
theorem V.Good.spoil {v : V} (h : v.Good) : ({ v with spoilt := true } : V).Good := by
  obtain ⟨l, h⟩ := h
  exact ⟨l, h.re rfl rfl rfl rfl⟩

theorem alloc_any (s : Sys) (hs : s.Ok) (w : World) (v : V) (h : TxAt w s v) (hg : v.Good) :
    Calls Tryz.prog 19 #[.pointer (some ⟨s.t, 0, none⟩)] w fun e w' => e = .returned (.tuple #[.int .i64 ((v.alloc s.cap).1 : Int), .int .i64 ((v.alloc s.cap).2.1 : Int)]) ∧ TxAt w' s (v.alloc s.cap).2.2 ∧ Ext s.F w w' := by
  unfold V.alloc
  split
  · rename_i h0
    split
    · rename_i h1
      exact (alloc_full s hs w v h h0 h1).mono fun e w' ⟨h1, h2⟩ => ⟨h1, h.no hs h2, h2.of_no⟩
    · rename_i h1
      have := h.h2
      exact alloc_new s hs w v h h0 (by omega)
  · rename_i h0
    obtain ⟨l, hl⟩ := hg
    obtain ⟨l', rfl⟩ := hl.cons h0
    have hm := (hl.mem v.free).2 (by simp)
    have hc := hl.cnt
    have hb := hl.body 0 v.free rfl
    exact alloc_free s hs w v h (by omega) hm.2.1 (by rw [hb]; simp [n4]) (by simp at hc; omega)

theorem free_any (s : Sys) (hs : s.Ok) (w : World) (v : V) (h : TxAt w s v) (hg : v.Good) (id : Nat) :
    Calls Tryz.prog 142 #[.pointer (some ⟨s.t, 0, none⟩), .int .i64 (id : Int)] w fun e w' => e = .returned (.int .i64 ((v.drop id).1 : Int)) ∧ TxAt w' s (v.drop id).2 ∧ Ext s.F w w' := by
  unfold V.drop
  split
  · rename_i h0
    obtain ⟨l, hl⟩ := hg
    have := hl.lt
    have := hl.cnt
    have := hl.top
    refine free_ok s hs w v h id h0 ?_ (by omega)
    have hd := hl.hd
    match l, hl, hd with
    | [], _, hd => simp at hd; omega
    | a :: l, hl, hd =>
      have hm := (hl.mem a).2 (by simp)
      simp at hd
      omega
  · rename_i h0
    exact (free_bad s hs w v h id h0).mono fun e w' ⟨h1, h2⟩ => ⟨h1, h.no hs h2, h2.of_no⟩

theorem write_any (s : Sys) (hs : s.Ok) (w : World) (v : V) (h : TxAt w s v) (id kind : Nat) (body : List UInt8) (hk1 : 1 ≤ kind) (hk2 : kind < 255) (hb : body.length ≤ 500) :
    Calls Tryz.prog 20 #[.pointer (some ⟨s.t, 0, none⟩), .int .i64 (id : Int), .int .i64 (kind : Int), .string (str body)] w fun e w' => e = .returned (.int .i64 ((v.set id kind body).1 : Int)) ∧ TxAt w' s (v.set id kind body).2 ∧ Ext s.F w w' := by
  unfold V.set
  split
  · rename_i h0
    exact write_ok s hs w v h id kind body h0 hk1 hk2 hb
  · rename_i h0
    exact (write_bad s hs w v h id kind _ h0).mono fun e w' ⟨h1, h2⟩ => ⟨h1, h.no hs h2, h2.of_no⟩

theorem read_any (s : Sys) (hs : s.Ok) (w : World) (v : V) (h : TxAt w s v) (id : Nat) :
    Calls Tryz.prog 47 #[.pointer (some ⟨s.t, 0, none⟩), .int .i64 (id : Int)] w fun e w' => e = .returned (.tuple #[.int .i64 ((v.read id).1 : Int), .string (str (v.read id).2.1), .int .i64 ((v.read id).2.2 : Int)]) ∧ Ext No w w' := by
  unfold V.read
  split
  · rename_i h0
    exact read_ok s hs w v h id h0
  · rename_i h0
    exact read_bad s hs w v h id h0

end Go.Proofs.YtccnemmlkcmceaaGreatDoor

/- The tree's calls: Of, none, alive, may, Root. -/
set_option linter.unusedVariables false
set_option linter.unusedSimpArgs false
namespace Go.Proofs.YtccnemmlkcmceaaGreatDoor
open Go.RowKit 

/-- A tree's cells. -/
def treeCells (s : Sys) (i : Nat) : Array Value := #[.pointer (some ⟨s.t, 0, none⟩), .int .i64 (i : Int)]

theorem tree_off {w : World} {s : Sys} {v : V} {gx i : Nat} (ht : TxAt w s v) (h : Blk w gx 70 (treeCells s i)) : ¬ s.F gx := by
  rintro (e | e)
  · exact (h.ne_ ht.tx (by decide)) e
  · obtain ⟨ov, hm, _⟩ := ht.mp
    exact hm.ne h e
theorem tree_ext {w w' : World} {s : Sys} {v : V} {gx i : Nat} (ht : TxAt w s v) (h : Blk w gx 70 (treeCells s i)) (he : Ext s.F w w') : Blk w' gx 70 (treeCells s i) := h.ext he (tree_off ht h)

theorem V.read_err (v : V) (id : Nat) : (v.read id).2.2 = 0 ∨ (v.read id).2.2 = 2 ∨ (v.read id).2.2 = 8 := by
  unfold V.read
  split
  · exact .inl rfl
  · rename_i h
    rcases V.err_cases h with ⟨h, _⟩ | ⟨h, _⟩
    · exact .inr (.inl h)
    · exact .inr (.inr h)

set_option maxHeartbeats 400000 in
theorem of_any (t : Option Addr) (i : Nat) (hi : i < 4) (w : World) :
    Calls Tryz.prog 13 #[.pointer t, .int .i64 (i : Int)] w fun e w' => e = .returned (.pointer (some ⟨w.heap.size, 0, none⟩)) ∧ w' = w.alloc (.cells #[.pointer t, .int .i64 (i : Int)] 70) := by
  have g1 : ¬ ((i : Int) < 0) := by omega
  have g2 : ¬ ((4 : Int) ≤ i) := by omega
  go_enter Tryz.func13, Tryz.ntmps13
  go_wp2_with fail
  go_ret
  exact ⟨rfl, rfl⟩

set_option maxHeartbeats 400000 in
theorem of_bad (t : Option Addr) (i : Int) (hi : i < 0 ∨ 4 ≤ i) (w : World) :
    Calls Tryz.prog 13 #[.pointer t, .int .i64 i] w fun e w' => e = .returned (.pointer none) ∧ w' = w := by
  rcases hi with g1 | g2
  · go_enter Tryz.func13, Tryz.ntmps13
    go_wp2_with fail
    go_ret
    exact ⟨rfl, rfl⟩
  · have g1 : ¬ (i < 0) := by omega
    go_enter Tryz.func13, Tryz.ntmps13
    go_wp2_with fail
    go_ret
    exact ⟨rfl, rfl⟩

set_option maxHeartbeats 400000 in
theorem none_no (t : Addr) (i : Value) (gx : Nat) (w : World) (h : Blk w gx 70 #[.pointer (some t), i]) :
    Calls Tryz.prog 45 #[.pointer (some ⟨gx, 0, none⟩)] w fun e w' => e = .returned (.bool false) ∧ w = w' := by
  have c0 := h.cell 0
  simp at c0
  go_enter Tryz.func45, Tryz.ntmps45
  go_wp2
  go_ret
  exact ⟨rfl, rfl⟩

set_option maxHeartbeats 400000 in
theorem alive_any (s : Sys) (hs : s.Ok) (w : World) (v : V) (h : TxAt w s v) (gx i : Nat) (hx : Blk w gx 70 (treeCells s i)) :
    Calls Tryz.prog 64 #[.pointer (some ⟨gx, 0, none⟩)] w fun e w' => e = .returned (.int .i64 0) ∧ Ext No w w' := by
  have HR := Lib.hid (read_any s hs w v h 1)
  have c0 := hx.cell 0
  simp [treeCells] at c0
  have he := v.read_err 1
  generalize (v.read 1).2.2 = e at HR he
  generalize (v.read 1).1 = k at HR
  generalize (v.read 1).2.1 = b at HR
  go_enter Tryz.func64, Tryz.ntmps64
  go_wp2_with fail
  refine (HR.out).mono ?_
  rintro e' w1 ⟨rfl, hx1⟩
  rcases he with rfl | rfl | rfl
  all_goals
    go_wp2_with fail
    go_ret
    exact ⟨rfl, hx1⟩

def may (key val : List UInt8) : Nat := if key = [] then 2 else if 140 < key.length ∨ 16384 < val.length then 3 else 0

set_option maxHeartbeats 400000 in
theorem may_any (s : Sys) (hs : s.Ok) (w : World) (v : V) (h : TxAt w s v) (gx i : Nat) (hx : Blk w gx 70 (treeCells s i)) (key val : List UInt8) :
    Calls Tryz.prog 59 #[.pointer (some ⟨gx, 0, none⟩), .string (str key), .string (str val)] w fun e w' => e = .returned (.int .i64 (may key val : Int)) ∧ Ext No w w' := by
  have HN := Lib.hid (none_no ⟨s.t, 0, none⟩ (.int .i64 (i : Int)) gx w hx)
  have HA := Lib.hid (alive_any s hs w v h gx i hx)
  have hk := str_size key
  have hv := str_size val
  clear h hs hx
  cases key with
  | nil =>
    go_enter Tryz.func59, Tryz.ntmps59
    go_wp2_with fail
    refine (HN.out).mono ?_
    rintro e' w1 ⟨rfl, rfl⟩
    go_wp2_with fail
    go_ret
    exact ⟨rfl, Ext.refl _ _⟩
  | cons a key =>
    have hne : (a :: key).isEmpty = false := rfl
    have hm : may (a :: key) val = if 140 < (a :: key).length ∨ 16384 < val.length then 3 else 0 := by simp [may]
    rw [hm]
    generalize a :: key = k at *
    have HK := Lib.hid hk; have HV := Lib.hid hv
    clear hm
    by_cases h1 : 140 < k.length
    · rw [if_pos (.inl h1)]
      go_enter Tryz.func59, Tryz.ntmps59
      go_wp2_with fail
      refine (HN.out).mono ?_
      rintro e' w1 ⟨rfl, rfl⟩
      go_wp2_with fail
      go_ret
      exact ⟨rfl, Ext.refl _ _⟩
    · by_cases h2 : 16384 < val.length
      · rw [if_pos (.inr h2)]
        go_enter Tryz.func59, Tryz.ntmps59
        go_wp2_with fail
        refine (HN.out).mono ?_
        rintro e' w1 ⟨rfl, rfl⟩
        go_wp2_with fail
        go_ret
        exact ⟨rfl, Ext.refl _ _⟩
      · rw [if_neg (by omega)]
        go_enter Tryz.func59, Tryz.ntmps59
        go_wp2_with fail
        refine (HN.out).mono ?_
        rintro e' w1 ⟨rfl, rfl⟩
        go_wp2_with fail
        refine (HA.out).mono ?_
        rintro e' w1 ⟨rfl, hx1⟩
        go_wp2_with fail
        go_ret
        exact ⟨rfl, hx1⟩

set_option maxHeartbeats 400000 in
theorem treeroot_any (s : Sys) (hs : s.Ok) (w : World) (v : V) (h : TxAt w s v) (gx i : Nat) (hx : Blk w gx 70 (treeCells s i)) (hi : i < 4) :
    Calls Tryz.prog 15 #[.pointer (some ⟨gx, 0, none⟩)] w fun e w' => e = .returned (.int .i64 (v.r i : Int)) ∧ Ext No w w' := by
  have HN := Lib.hid (none_no ⟨s.t, 0, none⟩ (.int .i64 (i : Int)) gx w hx)
  have HR := Lib.hid (fun w h => root_any s hs w v h i hi)
  have c0 := hx.cell 0
  have c1 := hx.cell 1
  simp [treeCells] at c0 c1
  have HT := Lib.hid h
  clear h
  go_enter Tryz.func15, Tryz.ntmps15
  go_wp2_with fail
  refine (HN.out).mono ?_
  rintro e' w1 ⟨rfl, rfl⟩
  go_wp2_with fail
  go_quiet ((go_at_call 46; exact Calls.quiet_of_same ((HR.out _ (HT.out.no hs ((Ext.refl No w).drewN _))).mono fun _ _ ⟨h1, h2⟩ => ⟨h1, h2.symm⟩)))
  go_wp2_with fail
  go_ret
  exact ⟨rfl, by (repeat' (first | exact Ext.refl _ _ | assumption | apply Ext.alloc | apply Ext.drewN | apply Ext.drew | refine Ext.setNew ?_ (by first | omega | (simp; omega) | simp) _ _ | refine Ext.setF ?_ (by first | exact Or.inl rfl | exact Or.inr rfl | rfl) _ _ | refine Ext.trans_ ?_ (by assumption) | refine Ext.trans_ ?_ (Ext.of_no (by assumption))))⟩

end Go.Proofs.YtccnemmlkcmceaaGreatDoor

/- Nodes: plain data, and how they lie in memory. -/
set_option linter.unusedVariables false
set_option linter.unusedSimpArgs false
namespace Go.Proofs.YtccnemmlkcmceaaGreatDoor
open Go.RowKit 

abbrev Bs := List UInt8

structure Cell where
  key : Bs
  val : Bs
  over : Nat
  len : Nat

structure Nd where
  leaf : Bool
  cells : List Cell
  keys : List Bs
  kids : List Nat

def Cell.vals (c : Cell) : List Value := [.string (str c.key), .string (str c.val), .int .i64 (c.over : Int), .int .i64 (c.len : Int)]
def Cell.agg (c : Cell) : Value := .agg #[.string (str c.key), .string (str c.val), .int .i64 (c.over : Int), .int .i64 (c.len : Int)]

/-- A slice's address and length read as these cells, none in a block of F. -/
def Rd (w : World) (F : Nat → Prop) (sz : Nat) (A : Option Addr) (n : Nat) (xs : List Value) : Prop :=
  xs.length = n * sz ∧ (0 < n → ∃ b o, A = some ⟨b, o, none⟩ ∧ ¬ F b ∧ ∀ j u, xs[j]? = some u → w.cell? ⟨b, o + j, none⟩ = some u)

section
variable {w w' : World} {F G : Nat → Prop} {sz n : Nat} {A : Option Addr} {xs : List Value}
theorem Rd.nil_ (A : Option Addr) : Rd w F sz A 0 [] := ⟨by simp, fun h => absurd h (by omega)⟩
theorem Rd.ext (h : Rd w F sz A n xs) (he : Ext F w w') : Rd w' F sz A n xs :=
  ⟨h.1, fun hn => by
    obtain ⟨b, o, e, hb, hc⟩ := h.2 hn
    refine ⟨b, o, e, hb, fun j u hu => ?_⟩
    have hc' := hc j u hu
    have hlt := World.block_lt_of_cell? w _ hc'
    rw [← hc']
    exact World.cell?_of_block (he.block b hlt hb)⟩
theorem Rd.mono (h : Rd w F sz A n xs) (hs : 0 < sz) (hG : ∀ b, b < w.heap.size → G b → F b) : Rd w G sz A n xs :=
  ⟨h.1, fun hn => by
    obtain ⟨b, o, e, hb, hc⟩ := h.2 hn
    refine ⟨b, o, e, fun hg => hb (hG b ?_ hg), hc⟩
    match xs, h.1, hc with
    | [], hl, _ => have := Nat.mul_pos hn hs; simp at hl; omega
    | u :: xs', _, hc => exact World.block_lt_of_cell? w _ (hc 0 u rfl)⟩
theorem Rd.at1 (h : Rd w F 1 A n xs) {i : Nat} (hi : i < n) : ∃ b o u, A = some ⟨b, o, none⟩ ∧ ¬ F b ∧ xs[i]? = some u ∧ w.cell? ⟨b, o + i, none⟩ = some u := by
  obtain ⟨b, o, e, hb, hc⟩ := h.2 (by omega)
  have hl : i < xs.length := by have := h.1; omega
  exact ⟨b, o, xs[i], e, hb, List.getElem?_eq_getElem hl, hc i _ (List.getElem?_eq_getElem hl)⟩
end

def cellVals (cs : List Cell) : List Value := cs.flatMap Cell.vals
def keyVals (ks : List Bs) : List Value := ks.map fun k => .string (str k)
def kidVals (ks : List Nat) : List Value := ks.map fun (k : Nat) => .int .i64 (k : Int)

theorem cellVals_cons (c : Cell) (cs : List Cell) : cellVals (c :: cs) = c.vals ++ cellVals cs := rfl
theorem cellVals_append (a b : List Cell) : cellVals (a ++ b) = cellVals a ++ cellVals b := by simp [cellVals]
theorem cellVals_len (cs : List Cell) : (cellVals cs).length = cs.length * 4 := by
  induction cs with
  | nil => rfl
  | cons c cs ih => rw [cellVals_cons, List.length_append, ih]; simp [Cell.vals]; omega
theorem cellVals_at (cs : List Cell) (i k : Nat) (c : Cell) (hc : cs[i]? = some c) (hk : k < 4) : (cellVals cs)[i * 4 + k]? = c.vals[k]? := by
  induction cs generalizing i with
  | nil => simp at hc
  | cons d cs ih =>
    rw [cellVals_cons]
    have hl : d.vals.length = 4 := rfl
    match i with
    | 0 =>
      have : d = c := by simpa using hc
      subst this
      rw [List.getElem?_append_left (by omega)]
      simp
    | i + 1 =>
      rw [List.getElem?_append_right (by omega), hl, show (i + 1) * 4 + k - 4 = i * 4 + k from by omega]
      exact ih i (by simpa using hc)
theorem cellVals_drop (cs : List Cell) (k : Nat) : (cellVals cs).drop (k * 4) = cellVals (cs.drop k) := by
  induction cs generalizing k with
  | nil => simp [cellVals]
  | cons c cs ih =>
    match k with
    | 0 => simp
    | k + 1 =>
      rw [cellVals_cons, List.drop_succ_cons, ← ih k, List.drop_append, show (k + 1) * 4 - c.vals.length = k * 4 from by simp [Cell.vals]; omega]
      simp [Cell.vals]; omega
theorem cellVals_take (cs : List Cell) (k : Nat) : (cellVals cs).take (k * 4) = cellVals (cs.take k) := by
  induction cs generalizing k with
  | nil => simp [cellVals]
  | cons c cs ih =>
    match k with
    | 0 => simp [cellVals]
    | k + 1 =>
      rw [cellVals_cons, List.take_succ_cons, cellVals_cons, ← ih k, List.take_append, show (k + 1) * 4 - c.vals.length = k * 4 from by simp [Cell.vals]; omega]
      congr 1
      exact List.take_of_length_le (by simp [Cell.vals]; omega)

/-- A cell of a list of cells, as the walk reads it. -/
theorem Rd.cellAt {w : World} {F : Nat → Prop} {A : Option Addr} {cs : List Cell} (h : Rd w F 4 A cs.length (cellVals cs)) {i : Nat} {c : Cell} (hc : cs[i]? = some c) :
    ∃ b o, A = some ⟨b, o, none⟩ ∧ ¬ F b ∧ w.cell? ⟨b, o + i * 4, none⟩ = some (.string (str c.key)) ∧ w.cell? ⟨b, o + i * 4 + 1, none⟩ = some (.string (str c.val)) ∧
      w.cell? ⟨b, o + i * 4 + 2, none⟩ = some (.int .i64 (c.over : Int)) ∧ w.cell? ⟨b, o + i * 4 + 3, none⟩ = some (.int .i64 (c.len : Int)) := by
  have hi : i < cs.length := (List.getElem?_eq_some_iff.1 hc).1
  obtain ⟨b, o, e, hb, hx⟩ := h.2 (by omega)
  refine ⟨b, o, e, hb, ?_, ?_, ?_, ?_⟩
  · have := hx (i * 4 + 0) _ ((cellVals_at cs i 0 c hc (by omega)).trans rfl)
    exact this
  · have := hx (i * 4 + 1) _ ((cellVals_at cs i 1 c hc (by omega)).trans rfl)
    rw [← Nat.add_assoc] at this; exact this
  · have := hx (i * 4 + 2) _ ((cellVals_at cs i 2 c hc (by omega)).trans rfl)
    rw [← Nat.add_assoc] at this; exact this
  · have := hx (i * 4 + 3) _ ((cellVals_at cs i 3 c hc (by omega)).trans rfl)
    rw [← Nat.add_assoc] at this; exact this

theorem Rd.keyAt {w : World} {F : Nat → Prop} {A : Option Addr} {ks : List Bs} (h : Rd w F 1 A ks.length (keyVals ks)) {i : Nat} {k : Bs} (hc : ks[i]? = some k) :
    ∃ b o, A = some ⟨b, o, none⟩ ∧ ¬ F b ∧ w.cell? ⟨b, o + i, none⟩ = some (.string (str k)) := by
  have hi : i < ks.length := (List.getElem?_eq_some_iff.1 hc).1
  obtain ⟨b, o, e, hb, hx⟩ := h.2 (by omega)
  exact ⟨b, o, e, hb, hx i _ (by simp [keyVals, hc])⟩

theorem Rd.kidAt {w : World} {F : Nat → Prop} {A : Option Addr} {ks : List Nat} (h : Rd w F 1 A ks.length (kidVals ks)) {i : Nat} {k : Nat} (hc : ks[i]? = some k) :
    ∃ b o, A = some ⟨b, o, none⟩ ∧ ¬ F b ∧ w.cell? ⟨b, o + i, none⟩ = some (.int .i64 (k : Int)) := by
  have hi : i < ks.length := (List.getElem?_eq_some_iff.1 hc).1
  obtain ⟨b, o, e, hb, hx⟩ := h.2 (by omega)
  exact ⟨b, o, e, hb, hx i _ (by simp [kidVals, hc])⟩

/-- A value reads as a node. -/
structure NodeAt (w : World) (F : Nat → Prop) (A1 : Option Addr) (c1 : Nat) (A2 : Option Addr) (c2 : Nat) (A3 : Option Addr) (c3 : Nat) (n : Nd) : Prop where
  cells : Rd w F 4 A1 n.cells.length (cellVals n.cells)
  keys : Rd w F 1 A2 n.keys.length (keyVals n.keys)
  kids : Rd w F 1 A3 n.kids.length (kidVals n.kids)
  l1 : n.cells.length ≤ c1
  l2 : n.keys.length ≤ c2
  l3 : n.kids.length ≤ c3
  b1 : n.cells.length < 65536
  b2 : n.keys.length < 65536
  b3 : n.kids.length < 65536
  e1 : A1 = none → c1 = 0
  e2 : A2 = none → c2 = 0
  e3 : A3 = none → c3 = 0

def Nd.value (n : Nd) (A1 : Option Addr) (c1 : Nat) (A2 : Option Addr) (c2 : Nat) (A3 : Option Addr) (c3 : Nat) : Value :=
  .agg #[.bool n.leaf, .slice A1 n.cells.length c1, .slice A2 n.keys.length c2, .slice A3 n.kids.length c3]

theorem NodeAt.ext {w w' : World} {F : Nat → Prop} {A1 : Option Addr} {c1 : Nat} {A2 : Option Addr} {c2 : Nat} {A3 : Option Addr} {c3 : Nat} {n : Nd} (h : NodeAt w F A1 c1 A2 c2 A3 c3 n) (he : Ext F w w') :
    NodeAt w' F A1 c1 A2 c2 A3 c3 n := ⟨h.cells.ext he, h.keys.ext he, h.kids.ext he, h.l1, h.l2, h.l3, h.b1, h.b2, h.b3, h.e1, h.e2, h.e3⟩

/-! ### small functions -/
def keyOk (k : Bs) : Bool := decide (1 ≤ k.length ∧ k.length ≤ 140)
def idOk (n : Nat) : Bool := decide (1 ≤ n ∧ n ≤ 2147483647)
def Cell.size (c : Cell) : Nat := if 0 < c.over then 10 + c.key.length else 3 + c.key.length + c.val.length
def Cell.ok (c : Cell) : Bool :=
  if c.over = 0 then keyOk c.key && decide (c.len = 0) && decide (c.size ≤ 160) else keyOk c.key && idOk c.over && decide (c.len ≤ 16384) && c.val.isEmpty

set_option maxHeartbeats 400000 in
theorem key_any (k : Bs) (w : World) (hk : k.length < 4294967296) : Calls Tryz.prog 131 #[.string (str k)] w fun e w' => e = .returned (.bool (keyOk k)) ∧ w = w' := by
  have h0 := str_size k
  by_cases h1 : 1 ≤ k.length
  · by_cases h2 : k.length ≤ 140
    · have e : keyOk k = true := by simp [keyOk, h1, h2]
      rw [e]
      go_enter Tryz.func131, Tryz.ntmps131
      go_wp2
      go_ret
      exact ⟨ret_bool (by simp; omega), rfl⟩
    · have e : keyOk k = false := by simp [keyOk]; omega
      rw [e]
      go_enter Tryz.func131, Tryz.ntmps131
      go_wp2
      go_ret
      exact ⟨ret_bool (by simp; omega), rfl⟩
  · have e : keyOk k = false := by simp [keyOk]; omega
    rw [e]
    go_enter Tryz.func131, Tryz.ntmps131
    go_wp2
    go_ret
    exact ⟨rfl, rfl⟩

set_option maxHeartbeats 400000 in
theorem id_any (n : Nat) (w : World) : Calls Tryz.prog 132 #[.int .i64 (n : Int)] w fun e w' => e = .returned (.bool (idOk n)) ∧ w = w' := by
  by_cases h1 : 1 ≤ n
  · have h1' : ((n : Int) ≥ 1) := by omega
    by_cases h2 : n ≤ 2147483647
    · have e : idOk n = true := by simp [idOk, h1, h2]
      have h2' : decide ((n : Int) ≤ 2147483647) = true := by simp; omega
      rw [e]
      clear h2
      go_enter Tryz.func132, Tryz.ntmps132
      go_wp2
      go_ret
      exact ⟨rfl, rfl⟩
    · have e : idOk n = false := by simp [idOk]; omega
      have h2' : decide ((n : Int) ≤ 2147483647) = false := by simp; omega
      rw [e]
      clear h2
      go_enter Tryz.func132, Tryz.ntmps132
      go_wp2
      go_ret
      exact ⟨rfl, rfl⟩
  · have e : idOk n = false := by simp [idOk]; omega
    rw [e]
    go_enter Tryz.func132, Tryz.ntmps132
    go_wp2
    go_ret
    exact ⟨rfl, rfl⟩

set_option maxHeartbeats 400000 in
theorem length_any (c : Cell) (w : World) (hk : c.key.length < 4294967296) (hv : c.val.length < 4294967296) :
    Calls Tryz.prog 175 #[c.agg] w fun e w' => e = .returned (.int .i64 (c.size : Int)) ∧ ∃ o, w' = w.alloc o := by
  have h0 := str_size c.key
  have h00 := str_size c.val
  by_cases h1 : (0 : Int) < c.over
  · have e : c.size = 10 + c.key.length := by unfold Cell.size; rw [if_pos (by omega)]
    rw [e]
    go_enter Tryz.func175, Tryz.ntmps175
    simp only [Cell.agg]
    go_wp2
    go_ret
    exact ⟨ret_int (by omega), _, rfl⟩
  · have e : c.size = 3 + c.key.length + c.val.length := by unfold Cell.size; rw [if_neg (by omega)]
    rw [e]
    go_enter Tryz.func175, Tryz.ntmps175
    simp only [Cell.agg]
    go_wp2
    go_ret
    exact ⟨ret_int (by omega), _, rfl⟩

end Go.Proofs.YtccnemmlkcmceaaGreatDoor

/- The tree's calls, each as one plain function on what a transaction shows: values. -/
set_option linter.unusedVariables false
set_option linter.unusedSimpArgs false
namespace Go.Proofs.YtccnemmlkcmceaaGreatDoor
open Go.RowKit 

/-- A page read as a part of a value. -/
def V.link (v : V) (id : Nat) : Option (Nat × Bs) :=
  if v.err id = 0 then (if (v.pg id).kind = 3 ∧ 4 < (v.pg id).body.length then some (v4 (str (v.pg id).body), (v.pg id).body.drop 4) else none) else none
def V.valLoop (v : V) (len : Nat) : Nat → Nat → Bs → Option Bs
  | 0, _, b => some b
  | k + 1, id, b => if id = 0 ∨ len < b.length then some b else match v.link id with
    | none => none
    | some (n, s) => v.valLoop len k n (b ++ s)
/-- A cell's value. -/
def V.value (v : V) (c : Cell) : Option Bs :=
  if c.over = 0 then some c.val else match v.valLoop c.len (c.len + 2) c.over [] with
    | none => none
    | some b => if b.length = c.len then some b else none
def chainLoop (cap : Nat) (val : Bs) : Nat → Nat → V → Nat × Nat × V
  | 0, next, v => (next, 0, v)
  | k + 1, next, v =>
    if (v.alloc cap).2.1 = 0 then
      (if ((v.alloc cap).2.2.set (v.alloc cap).1 3 (n4 next ++ (val.drop (k * 496)).take 496)).1 = 0 then chainLoop cap val k (v.alloc cap).1 ((v.alloc cap).2.2.set (v.alloc cap).1 3 (n4 next ++ (val.drop (k * 496)).take 496)).2
      else (0, ((v.alloc cap).2.2.set (v.alloc cap).1 3 (n4 next ++ (val.drop (k * 496)).take 496)).1, ((v.alloc cap).2.2.set (v.alloc cap).1 3 (n4 next ++ (val.drop (k * 496)).take 496)).2))
    else (0, (v.alloc cap).2.1, (v.alloc cap).2.2)
/-- A value written into pages: the first one, the error, what is then. -/
def V.chain (cap : Nat) (v : V) (val : Bs) : Nat × Nat × V := chainLoop cap val ((val.length - 1) / 496 + 1) 0 v
def V.dropLoop : Nat → Nat → V → Nat × V
  | 0, _, v => (0, v)
  | k + 1, id, v => if id = 0 then (0, v) else match v.link id with
    | none => (5, v)
    | some (n, _) => if (v.drop id).1 = 0 then V.dropLoop k n (v.drop id).2 else v.drop id
/-- A cell's value's pages are free. -/
def V.letGo (v : V) (c : Cell) : Nat × V := V.dropLoop (v.high + 1) c.over v
/-- A cell is made. -/
def V.mkCell (cap : Nat) (v : V) (key val : Bs) : Cell × Nat × V :=
  if 3 + key.length + val.length ≤ 160 then (⟨key, val, 0, 0⟩, 0, v) else (⟨key, [], (v.chain cap val).1, val.length⟩, (v.chain cap val).2.1, (v.chain cap val).2.2)

end Go.Proofs.YtccnemmlkcmceaaGreatDoor

/- The tree's calls: a page of a value. -/
set_option linter.unusedVariables false
set_option linter.unusedSimpArgs false
namespace Go.Proofs.YtccnemmlkcmceaaGreatDoor
open Go.RowKit 

theorem V.good_bd {v : V} (h : v.Good) {id : Nat} (he : v.err id = 0) : (v.pg id).body.length ≤ 500 := by
  obtain ⟨l, h⟩ := h
  obtain ⟨h1, h2, _⟩ := V.err_ok he
  exact h.bd id h1 h2

theorem ret_l3 {a b : Int} {x y : Value} (h : a = b) : Ending.returned (.tuple #[.int .i64 a, x, y]) = .returned (.tuple #[.int .i64 b, x, y]) := by rw [h]

def linkOut (o : Option (Nat × List UInt8)) : Value := match o with
  | none => .tuple #[.int .i64 0, .string (str []), .int .i64 5]
  | some (n, b) => .tuple #[.int .i64 (n : Int), .string (str b), .int .i64 0]

set_option maxRecDepth 100000 in
set_option maxHeartbeats 800000 in
theorem link_any (s : Sys) (hs : s.Ok) (w : World) (v : V) (h : TxAt w s v) (gx i : Nat) (hx : Blk w gx 70 (treeCells s i)) (id : Nat) :
    Calls Tryz.prog 50 #[.pointer (some ⟨gx, 0, none⟩), .int .i64 (id : Int)] w fun e w' => e = .returned (linkOut (v.link id)) ∧ Ext No w w' := by
  have HR := Lib.hid (read_any s hs w v h id)
  have c0 := hx.cell 0
  simp [treeCells] at c0
  unfold V.link
  by_cases he : v.err id = 0
  · have hr : v.read id = ((v.pg id).kind, (v.pg id).body, 0) := by simp [V.read, he]
    rw [if_pos he]
    rw [hr] at HR
    clear hr he
    generalize (v.pg id).kind = k at *
    generalize (v.pg id).body = b at *
    have hb := str_size b
    have HB := Lib.hid hb
    by_cases hk : k = 3
    · subst hk
      by_cases hl : 4 < b.length
      · rw [if_pos ⟨rfl, hl⟩]
        have hl' : 4 < (str b).size := by omega
        have i0 : ∀ w, (Instr.index 9 (.string (str b)) (.int .i64 0)).run Tryz.prog w = .ok (.int .u8 (bt (str b) 0 : Int)) w := fun w => idx9 (str b) 0 (by omega) w
        have i1 : ∀ w, (Instr.index 9 (.string (str b)) (.int .i64 1)).run Tryz.prog w = .ok (.int .u8 (bt (str b) 1 : Int)) w := fun w => idx9 (str b) 1 (by omega) w
        have i2 : ∀ w, (Instr.index 9 (.string (str b)) (.int .i64 2)).run Tryz.prog w = .ok (.int .u8 (bt (str b) 2 : Int)) w := fun w => idx9 (str b) 2 (by omega) w
        have i3 : ∀ w, (Instr.index 9 (.string (str b)) (.int .i64 3)).run Tryz.prog w = .ok (.int .u8 (bt (str b) 3 : Int)) w := fun w => idx9 (str b) 3 (by omega) w
        have hor := Lib.hid (or4 (bt (str b) 0) (bt (str b) 1) (bt (str b) 2) (bt (str b) 3) (bt_lt _ 0) (bt_lt _ 1) (bt_lt _ 2) (bt_lt _ 3))
        have hg : ¬ ((b.length : Int) ≤ 4) := by omega
        go_enter Tryz.func50, Tryz.ntmps50
        go_wp2_with fail
        refine (HR.out).mono ?_
        rintro e w1 ⟨rfl, hx1⟩
        go_wp2_with fail
        go_quiet (fail)
        go_wp2_with fail
        have hsl : (str b).extract 4 b.length = str (b.drop 4) := by
          apply ByteArray.ext
          simp [str, ByteArray.data_extract, ← List.toArray_drop, List.extract_toArray]
          exact List.take_of_length_le (by simp)
        rw [hsl]
        go_ret3
        exact ⟨ret_l3 (by simp only [← wrapEq]; exact hor.out), by (repeat' (first | exact Ext.refl _ _ | assumption | apply Ext.alloc | apply Ext.drewN | apply Ext.drew | refine Ext.setNew ?_ (by first | omega | (simp; omega) | simp) _ _ | refine Ext.setF ?_ (by first | exact Or.inl rfl | exact Or.inr rfl | rfl) _ _ | refine Ext.trans_ ?_ (by assumption) | refine Ext.trans_ ?_ (Ext.of_no (by assumption))))⟩
      · rw [if_neg (by omega)]
        have hg : (b.length : Int) ≤ 4 := by omega
        go_enter Tryz.func50, Tryz.ntmps50
        go_wp2_with fail
        refine (HR.out).mono ?_
        rintro e w1 ⟨rfl, hx1⟩
        go_wp2_with fail
        go_ret3
        exact ⟨rfl, hx1⟩
    · rw [if_neg (by omega)]
      have hk' : ((k : Int) != 3) = true := by simpa using (by omega : ¬ (k : Int) = 3)
      clear hk
      go_enter Tryz.func50, Tryz.ntmps50
      go_wp2_with fail
      refine (HR.out).mono ?_
      rintro e w1 ⟨rfl, hx1⟩
      go_wp2_with fail
      go_ret3
      exact ⟨rfl, hx1⟩
  · have hr : v.read id = (0, [], v.err id) := by simp [V.read, he]
    rw [if_neg he]
    rw [hr] at HR
    have he' : v.err id = 2 ∨ v.err id = 8 := by
      rcases V.err_cases he with ⟨h, _⟩ | ⟨h, _⟩
      · exact .inl h
      · exact .inr h
    clear hr he
    generalize v.err id = k at *
    rcases he' with rfl | rfl
    all_goals
      go_enter Tryz.func50, Tryz.ntmps50
      go_wp2_with fail
      refine (HR.out).mono ?_
      rintro e w1 ⟨rfl, hx1⟩
      go_wp2_with fail
      go_ret3
      exact ⟨rfl, hx1⟩

end Go.Proofs.YtccnemmlkcmceaaGreatDoor

/- The tree's calls: a value's pages are let go. -/
set_option linter.unusedVariables false
set_option linter.unusedSimpArgs false
namespace Go.Proofs.YtccnemmlkcmceaaGreatDoor
open Go.RowKit 

theorem V.link_lt {v : V} {id n : Nat} {b : List UInt8} (h : v.link id = some (n, b)) : n < 4294967296 := by
  unfold V.link at h
  split at h
  · split at h
    · injection h with h; injection h with h1 h2; rw [← h1]; exact v4_lt _
    · cases h
  · cases h

theorem drop_stop (k : Nat) (v : V) : V.dropLoop k 0 v = (0, v) := by cases k <;> simp [V.dropLoop]

set_option maxRecDepth 100000 in
set_option maxHeartbeats 1600000 in
theorem letgo_any (s : Sys) (hs : s.Ok) (w : World) (v : V) (h : TxAt w s v) (hg : v.Good) (gx i : Nat) (hx : Blk w gx 70 (treeCells s i)) (c : Cell) :
    Calls Tryz.prog 99 #[.pointer (some ⟨gx, 0, none⟩), c.agg] w fun e w' => e = .returned (.int .i64 ((v.letGo c).1 : Int)) ∧ TxAt w' s (v.letGo c).2 ∧ (v.letGo c).2.Good ∧ Ext s.F w w' := by
  have HL := Lib.hid (fun w v (h : TxAt w s v) (hx : Blk w gx 70 (treeCells s i)) id => link_any s hs w v h gx i hx id)
  have HF := Lib.hid (fun w v (h : TxAt w s v) hg id => free_any s hs w v h hg id)
  have hE0 : Ext s.F w (w.alloc (.cells #[.string (str c.key), .string (str c.val), .int .i64 (c.over : Int), .int .i64 (c.len : Int)] 45)) := (Ext.refl _ w).alloc _
  have hT0 : TxAt (w.alloc (.cells #[.string (str c.key), .string (str c.val), .int .i64 (c.over : Int), .int .i64 (c.len : Int)] 45)) s v := h.no hs ((Ext.refl _ w).alloc _)
  have hX0 := hx.alloc (.cells #[.string (str c.key), .string (str c.val), .int .i64 (c.over : Int), .int .i64 (c.len : Int)] 45)
  obtain ⟨D, hD⟩ : ∃ D, D = v.letGo c := ⟨_, rfl⟩
  rw [← hD]
  unfold V.letGo at hD
  have HD := Lib.hid hD
  have HG := Lib.hid hg
  clear hD hg h hx
  simp only [Cell.agg]
  go_enter Tryz.func99, Tryz.ntmps99
  go_wp2_with fail
  go_loopg [5] (v.high + 1) (fun gk id wr => ∃ (ID : Nat) (v' : V), id = .int .i64 (ID : Int) ∧ TxAt wr s v' ∧ v'.Good ∧ Blk wr gx 70 (treeCells s i) ∧ Hid (v'.high + 1 ≤ gk + v'.cnt) ∧ Hid (V.dropLoop gk ID v' = D) ∧ Ext s.F w wr)
  case atStart => exact ⟨c.over, v, rfl, hT0, HG.out, hX0, Lib.hid (by omega), Lib.hid HD.out.symm, hE0⟩
  case round =>
    clear hT0 hX0 hE0 HG HD
    obtain ⟨ID, v', rfl, hT, hG, hX, hm, hd, hE⟩ := hrel
    have HT := Lib.hid hT; have HG := Lib.hid hG; have HX := Lib.hid hX; have HE := Lib.hid hE
    have c0 := hX.cell 0
    simp [treeCells] at c0
    obtain ⟨j, hj⟩ : ∃ j, gk = j + 1 := ⟨gk - 1, by
      obtain ⟨l, hl⟩ := hG
      have := hl.lt; have := hl.cnt; have := hm.out
      omega⟩
    clear hT hG hX hE
    have HJ := Lib.hid hj
    by_cases h0 : ID = 0
    · subst h0
      have hdd := hd.out
      rw [drop_stop] at hdd
      have HDD := Lib.hid hdd
      clear hj hdd
      go_wp2_with fail
      go_ret
      exact ⟨by rw [← HDD.out]; rfl, by rw [← HDD.out]; exact HT.out, by rw [← HDD.out]; exact HG.out, HE.out⟩
    · have h0' : ((ID : Int) != 0) = true := by simpa using (by omega : ¬ (ID : Int) = 0)
      have hdd := hd.out
      rw [hj] at hdd
      simp only [V.dropLoop, if_neg h0] at hdd
      have HLK := Lib.hid (HL.out _ v' HT.out HX.out ID)
      have HFK := Lib.hid (fun w h => HF.out w v' h HG.out ID)
      have HGD := Lib.hid (HG.out.drop ID)
      have HTR := Lib.hid (fun (w' : World) (h : Ext No wr w') => HT.out.no hs h)
      cases hl : v'.link ID with
      | none =>
        rw [hl] at hdd HLK
        simp only [linkOut] at HLK
        have HDD := Lib.hid hdd
        clear h0 hj hl hdd
        go_wp2_with fail
        refine HLK.out.mono ?_
        rintro e w1 ⟨rfl, hx1⟩
        go_wp2_with fail
        go_ret
        exact ⟨by rw [← HDD.out]; rfl, by rw [← HDD.out]; exact HT.out.no hs hx1, by rw [← HDD.out]; exact HG.out, HE.out.trans_ hx1.of_no⟩
      | some r =>
        obtain ⟨n, b⟩ := r
        rw [hl] at hdd HLK
        simp only [linkOut] at HLK
        simp only at hdd
        by_cases hde : (v'.drop ID).1 = 0
        · rw [if_pos hde] at hdd
          have HDD := Lib.hid hdd
          have hcn : (v'.drop ID).2.high = v'.high ∧ (v'.drop ID).2.cnt = v'.cnt + 1 := by
            unfold V.drop at hde ⊢
            split
            · exact ⟨rfl, rfl⟩
            · rename_i hz; rw [if_neg hz] at hde; exact absurd hde hz
          rw [hde] at HFK
          have HCN := Lib.hid hcn
          clear h0 hj hl hdd hde hcn
          go_wp2_with fail
          refine HLK.out.mono ?_
          rintro e w1 ⟨rfl, hx1⟩
          have c1 := cell_ext hx1 c0 (fun h => h)
          have hX1 := HX.out.ext hx1 (fun h => h)
          have HX1 := Lib.hid hX1
          have HE1 := Lib.hid hx1
          clear hX1
          go_wp2_with fail
          refine (HFK.out _ (HTR.out _ hx1)).mono ?_
          rintro e w2 ⟨rfl, hT2, hx2⟩
          have HT2 := Lib.hid hT2; have HX2 := Lib.hid hx2
          clear hT2 hx2
          go_wp2_with fail
          go_roundg j
          case rel =>
            have h1 := HTR.out _ HE1.out
            exact ⟨n, (v'.drop ID).2, rfl, HT2.out, HGD.out, tree_ext h1 HX1.out HX2.out, Lib.hid (by have := hm.out; have := HJ.out; have := HCN.out; omega), Lib.hid HDD.out, (HE.out.trans_ HE1.out.of_no).trans_ HX2.out⟩
          case measure => have := HJ.out; omega
        · rw [if_neg hde] at hdd
          have hde' : (((v'.drop ID).1 : Int) != 0) = true := by simpa using (by omega : ¬ ((v'.drop ID).1 : Int) = 0)
          rw [hdd] at HFK HGD hde'
          generalize hdv : D.1 = d at HFK hde'
          have HDV := Lib.hid hdv
          clear h0 hj hl hde hdd hdv
          go_wp2_with fail
          refine HLK.out.mono ?_
          rintro e w1 ⟨rfl, hx1⟩
          have c1 := cell_ext hx1 c0 (fun h => h)
          go_wp2_with fail
          refine (HFK.out _ (HTR.out _ hx1)).mono ?_
          rintro e w2 ⟨rfl, hT2, hx2⟩
          go_wp2_with fail
          go_ret
          exact ⟨by rw [HDV.out]; rfl, hT2, HGD.out, (HE.out.trans_ hx1.of_no).trans_ hx2⟩

end Go.Proofs.YtccnemmlkcmceaaGreatDoor

/- The tree's calls: a small cell is made. -/
set_option linter.unusedVariables false
set_option linter.unusedSimpArgs false
namespace Go.Proofs.YtccnemmlkcmceaaGreatDoor
open Go.RowKit 

/-- cell's return: the cell's block, and the number. -/
theorem cell_back {Q : Ending → World → Prop} {a : Act} {w : World} (b : Nat) (cs : Array Value) (hb : Blk w b 45 cs) {v : Value} (hs : some 4 = some cs.size) (hp : a.tmps.getD 6 undef = .pointer (some ⟨b, 0, none⟩)) (h3 : a.tmps.getD 7 undef = v) (hd : a.defers = [])
    (h : Q (.returned (.tuple #[.agg cs, v])) w) : bodyPost Tryz.prog Tryz.f97 Q Exit.ret a w := by
  refine bodyPost_ret (v := .tuple #[.agg cs, v]) (w := w) ?_ hd h
  have hl := run_loadVar_row w b 45 45 cs (0, 0) _ hb Tryz.underlying45 rfl (by rw [← hs]; kernel_rfl)
  rw [results_cell_tmp rfl, hp, h3]
  simp [asAddr, Result.andThen, hl]

set_option maxHeartbeats 800000 in
theorem cell_small (key val : List UInt8) (gx : Value) (w : World) (hl : 3 + key.length + val.length ≤ 160) :
    Calls Tryz.prog 97 #[gx, .string (str key), .string (str val)] w fun e w' => e = .returned (.tuple #[(⟨key, val, 0, 0⟩ : Cell).agg, .int .i64 0]) ∧ Ext No w w' := by
  have hk := str_size key
  have hv := str_size val
  have hi : ((3 : Int) + key.length + val.length ≤ 160) := by omega
  have hi1 : IntKind.i64.wrap ((3 : Int) + key.length) = (3 : Int) + key.length := IntWalk.i64_in _ (by omega)
  have hi2 : IntKind.i64.wrap ((3 : Int) + key.length + val.length) = (3 : Int) + key.length + val.length := IntWalk.i64_in _ (by omega)
  go_enter Tryz.func97, Tryz.ntmps97
  go_wp2_with fail
  exact cell_back w.heap.size _ (Blk.new w 45 _) rfl rfl rfl rfl ⟨rfl, (Ext.refl No w).alloc _⟩

end Go.Proofs.YtccnemmlkcmceaaGreatDoor
