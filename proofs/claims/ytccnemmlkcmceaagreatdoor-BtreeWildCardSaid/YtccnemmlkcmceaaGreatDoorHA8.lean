/- Proofs about the given program, joined out of the texts P2, P3, B1, B2, W2, W3, W4, T7, W5, W6. -/
import Derived.Test.YtccnemmlkcmceaaGreatDoorHA7
import Derived.Deep.RegionHeld3
import Derived.Deep.LoopGhost
/- slot.Cut. -/
set_option linter.unusedVariables false
set_option linter.unusedSimpArgs false
namespace Go.Proofs.YtccnemmlkcmceaaGreatDoor
open Go.RowKit 

def Nd.cut (n : Nd) (i : Nat) : Nd := { n with cells := n.cells.take i ++ n.cells.drop (i + 1) }

set_option maxRecDepth 100000 in
set_option maxHeartbeats 1600000 in
theorem cut_any (n : Nd) (i : Nat) (w : World) (F : Nat → Prop) (A1 : Option Addr) (c1 : Nat) (A2 : Option Addr) (c2 : Nat) (A3 : Option Addr) (c3 : Nat) (hn : NodeAt w F A1 c1 A2 c2 A3 c3 n)
    (hlf : n.leaf = true) (hks : n.keys = []) (hkd : n.kids = []) (hi : i < n.cells.length) (hlen : n.cells.length ≤ 1000) :
    Calls Tryz.prog 103 #[n.value A1 c1 A2 c2 A3 c3, .int .i64 (i : Int)] w (Made w (n.cut i)) := by
  obtain ⟨lf, cs, ks, kd⟩ := n
  simp only at hlf hks hkd hi hlen
  subst hlf; subst hks; subst hkd
  unfold Nd.cut
  simp only [Nd.value, List.length_nil]
  have HN := Lib.hid hn
  have hl1 := hn.l1
  have hb1 := hn.b1
  simp only at hl1 hb1
  obtain ⟨b, o, hA, _⟩ := hn.cells.2 (show 0 < cs.length by omega)
  obtain ⟨ad, had⟩ : ∃ ad, A1 = some ad := ⟨_, hA⟩
  subst had
  clear hn hA
  obtain ⟨i0, hti, htz0, htz1, htz2⟩ := info_parts Tryz.info45
  obtain ⟨L, hL⟩ : ∃ L, L = cs.take i ++ cs.drop (i + 1) := ⟨_, rfl⟩
  rw [← hL]
  have HL := Lib.hid hL
  clear hL
  have bn := (Blk.new w 40 #[.bool true, .slice (some ad) cs.length c1, .slice A2 0 c2, .slice A3 0 c3]).alloc (.cells #[.bool false, .slice none 0 0, .slice none 0 0, .slice none 0 0] 40)
  have br := Blk.new_at (b := w.heap.size + 1) (w.alloc (.cells #[.bool true, .slice (some ad) cs.length c1, .slice A2 0 c2, .slice A3 0 c3] 40)) 40 #[.bool false, .slice none 0 0, .slice none 0 0, .slice none 0 0] (by simp)
  have hE1 : Ext No w ((w.alloc (.cells #[.bool true, .slice (some ad) cs.length c1, .slice A2 0 c2, .slice A3 0 c3] 40)).alloc (.cells #[.bool false, .slice none 0 0, .slice none 0 0, .slice none 0 0] 40)) := ((Ext.refl No w).alloc _).alloc _
  generalize hw1 : (w.alloc (.cells #[.bool true, .slice (some ad) cs.length c1, .slice A2 0 c2, .slice A3 0 c3] 40)).alloc (.cells #[.bool false, .slice none 0 0, .slice none 0 0, .slice none 0 0] 40) = w1 at bn br hE1
  have hw1s : w1.heap.size = w.heap.size + 1 + 1 := by rw [← hw1]; simp
  have hin1 : (i : Int) < cs.length := by omega
  have hin4 : (0 : Int) ≤ (i : Int) := by omega
  obtain ⟨p0, p1, p2, p3, g0, g1, g2, g3, ln⟩ := bn.p4
  have hic : i ≤ c1 := by omega
  have hin2 : (i : Int) ≤ c1 := by omega
  have hin3 : (i : Int) ≤ cs.length := by omega
  have hin5 : cs.length ≤ c1 := hl1
  have hin6 : i + 1 ≤ cs.length := by omega
  have hin7 : (i : Int) + 1 ≤ cs.length := by omega
  have hin8 : (0 : Int) ≤ (i : Int) + 1 := by omega
  have hin9 : IntKind.i64.wrap ((i : Int) + 1) = (i : Int) + 1 := IntWalk.i64_in _ (by omega)
  have hin10 : ((i : Int) + 1).toNat = i + 1 := by omega
  obtain ⟨W, hW⟩ : ∃ W, W = (w1.alloc (.cells #[.slice (some ad) i i, .slice (if c1 = i + 1 then some ad else some (ad.add ((i + 1) * 4))) (cs.length - (i + 1)) (c1 - (i + 1))] 37)).drew := ⟨_, rfl⟩
  have hEW : Ext No w W := by rw [hW]; exact (hE1.alloc _).drew
  have hcl : Rd W No 4 (some ad) cs.length (cellVals cs) := (HN.out.cells.mono (by omega) (fun _ _ h => h.elim)).ext hEW
  have hpb : Blk W (w.heap.size + 1 + 1) 37 #[.slice (some ad) i i, .slice (if c1 = i + 1 then some ad else some (ad.add ((i + 1) * 4))) (cs.length - (i + 1)) (c1 - (i + 1))] := by rw [hW]; exact Blk.new_at (b := w.heap.size + 1 + 1) w1 37 _ hw1s
  have hk1 : Part.Ok W 4 ⟨some ad, i, i, cellVals (cs.take i)⟩ := ⟨by rw [← cellVals_take]; exact hcl.take i (by omega) (by omega), (fun h => by cases h), one_cells _, Nat.le_refl _⟩
  have hk3 : Part.Ok W 4 ⟨if c1 = i + 1 then some ad else some (ad.add ((i + 1) * 4)), cs.length - (i + 1), c1 - (i + 1), cellVals (cs.drop (i + 1))⟩ := ⟨by rw [← cellVals_drop]; exact hcl.rest (i + 1) c1 hin6 hl1, (fun h => by split at h <;> cases h), one_cells _, by simp only; omega⟩
  have HCC := Lib.hid (concat_cells [⟨some ad, i, i, cellVals (cs.take i)⟩, ⟨if c1 = i + 1 then some ad else some (ad.add ((i + 1) * 4)), cs.length - (i + 1), c1 - (i + 1), cellVals (cs.drop (i + 1))⟩] (w.heap.size + 1 + 1) 2 2 W rfl
    (by intro p hp; simp at hp; rcases hp with rfl | rfl; exact hk1; exact hk3) (by simp [total]; omega) (by omega) (by omega)
    (by intro j p hj; match j, hj with
        | 0, hj => simp at hj; subst hj; exact hpb.cell 0
        | 1, hj => simp at hj; subst hj; exact hpb.cell 1
        | j + 2, hj => simp at hj))
  have htot : total [⟨some ad, i, i, cellVals (cs.take i)⟩, ⟨if c1 = i + 1 then some ad else some (ad.add ((i + 1) * 4)), cs.length - (i + 1), c1 - (i + 1), cellVals (cs.drop (i + 1))⟩] = (cs.take i ++ cs.drop (i + 1)).length := by simp [total]; omega
  have hjoi : joined [⟨some ad, i, i, cellVals (cs.take i)⟩, ⟨if c1 = i + 1 then some ad else some (ad.add ((i + 1) * 4)), cs.length - (i + 1), c1 - (i + 1), cellVals (cs.drop (i + 1))⟩] = cellVals (cs.take i ++ cs.drop (i + 1)) := by simp [joined, cellVals_append]
  rw [htot, hjoi] at HCC
  have hLb : (cs.take i ++ cs.drop (i + 1)).length < 65536 := by simp; omega
  rw [← HL.out] at HCC hLb
  clear htot hjoi hk1 hk3 hcl hpb hEW
  subst hW
  go_enter Tryz.func103, Tryz.ntmps103
  go_wp2_with fail
  go_region_law ((go_simp; go_at_call 147; refine HCC.out.mono ?_; rintro e w2 ⟨A, cc, rfl, hown, hx2⟩; have HO := Lib.hid hown; have HX2 := Lib.hid hx2; have bn2 := Blk.of_ext hx2 (bn.alloc _) (fun h => h); have fz2 := bn2.frozen 1; have ce2 := bn2.cell 1; simp at ce2; clear hown hx2))
  all_goals (
    have br2 := Blk.of_ext HX2.out (br.alloc _) (fun h => h)
    have bn3 := bn2.set_ 1 (.slice A L.length cc)
    have bn3 : Blk (w2.setCell ⟨w.heap.size, 1, none⟩ (.slice A L.length cc)) w.heap.size 40 #[.bool true, .slice A L.length cc, .slice A2 0 c2, .slice A3 0 c3] := bn3
    have br3 := br2.far (p := ⟨w.heap.size, 1, none⟩) (show w.heap.size + 1 ≠ w.heap.size by omega) (.slice A L.length cc)
    obtain ⟨p0, p1, p2, p3, g0, g1, g2, g3, ln⟩ := bn3.p4
    obtain ⟨r0, r1, r2, r3, s0, s1, s2, s3, lr⟩ := br3.p4
    go_wp2_with fail
    all_goals (
      refine bodyPost_ret (results_cell_row (P := Tryz.prog) rfl _ _ (w.heap.size + 1) 40 _ (0, 0) _ rfl (br3.put4 (.bool true) (.slice A L.length cc) (.slice A2 0 c2) (.slice A3 0 c3)) Tryz.underlying40 rfl (by kernel_rfl)) rfl ?_
      have hx0 : Ext No w w2 := (((hE1.alloc _).drew).trans_ HX2.out)
      refine ⟨((((hx0.setNew (by omega) _ _).setNew (by omega) _ _).setNew (by omega) _ _).setNew (by omega) _ _).setNew (by omega) _ _, A, cc, A2, c2, A3, c3, rfl, ?_⟩
      have hcap := own_cap HO.out
      have hin : Lo w1.heap.size w.heap.size := by show w.heap.size < w1.heap.size; omega
      have hin' : Lo w1.heap.size (w.heap.size + 1) := by show w.heap.size + 1 < w1.heap.size; omega
      have hn2 : NodeAt w2 (Lo w1.heap.size) A cc A2 c2 A3 c3 ⟨true, L, [], []⟩ := ⟨(Rd.own_lo HO.out (by omega)).mono (by omega) (fun b _ hb => by unfold Lo at hb ⊢; simp; omega), Rd.nil_ _, Rd.nil_ _, hcap, HN.out.l2, HN.out.l3, hLb, by simp, by simp, own_nilcap HO.out, HN.out.e2, HN.out.e3⟩
      have hz : Ext (Lo w1.heap.size) w2 _ := (((((Ext.refl _ w2).setF hin 1 (.slice A L.length cc)).setF hin' 0 (.bool true)).setF hin' 1 (.slice A L.length cc)).setF hin' 2 (.slice A2 0 c2)).setF hin' 3 (.slice A3 0 c3)
      exact (hn2.ext hz).mono (fun b _ hb => by unfold Old at hb; unfold Lo; omega)))

end Go.Proofs.YtccnemmlkcmceaaGreatDoor

/- slot.part. -/
set_option linter.unusedVariables false
set_option linter.unusedSimpArgs false
namespace Go.Proofs.YtccnemmlkcmceaaGreatDoor
open Go.RowKit 

def Nd.part (n : Nd) (f t : Nat) : Nd :=
  if n.leaf then ⟨true, (n.cells.drop f).take (t - f), [], []⟩ else ⟨false, [], (n.keys.drop f).take (t - f), (n.kids.drop f).take (t + 1 - f)⟩

theorem Rd.sub {w : World} {F : Nat → Prop} {sz n : Nat} {ad : Addr} {xs : List Value} (h : Rd w F sz (some ad) n xs) (f t c : Nat) (hf : f ≤ t) (ht : t ≤ n) (hc : n ≤ c) (hs : 0 < sz) : Rd w F sz (if c = f then some ad else some (ad.add (f * sz))) (t - f) ((xs.drop (f * sz)).take ((t - f) * sz)) :=
  (h.rest f c (by omega) hc).take (t - f) (by omega) hs

set_option maxRecDepth 100000 in
set_option maxHeartbeats 1600000 in
theorem part_leaf (n : Nd) (f t : Nat) (w : World) (F : Nat → Prop) (A1 : Option Addr) (c1 : Nat) (A2 : Option Addr) (c2 : Nat) (A3 : Option Addr) (c3 : Nat) (hn : NodeAt w F A1 c1 A2 c2 A3 c3 n)
    (hlf : n.leaf = true) (h0 : 0 < n.cells.length) (hf : f < t) (ht : t ≤ n.cells.length) :
    Calls Tryz.prog 182 #[n.value A1 c1 A2 c2 A3 c3, .int .i64 (f : Int), .int .i64 (t : Int)] w (Made w (n.part f t)) := by
  obtain ⟨b, o, hA, _⟩ := hn.cells.2 h0
  obtain ⟨ad, had⟩ : ∃ ad, A1 = some ad := ⟨_, hA⟩
  subst had
  clear hA
  have hp : n.part f t = ⟨true, (n.cells.drop f).take (t - f), [], []⟩ := by simp [Nd.part, hlf]
  rw [hp]
  have hl1 := hn.l1
  have hb1 := hn.b1
  have hEW : Ext No w ((w.alloc (.cells #[.bool true, .slice (some ad) n.cells.length c1, .slice A2 n.keys.length c2, .slice A3 n.kids.length c3] 40)).alloc (.cells #[.bool false, .slice none 0 0, .slice none 0 0, .slice none 0 0] 40)) := ((Ext.refl No w).alloc _).alloc _
  have hcl := ((hn.cells.mono (G := No) (by omega) (fun _ _ h => h.elim)).ext hEW).sub f t c1 (by omega) ht hl1 (by omega)
  rw [cellVals_drop, cellVals_take] at hcl
  have hok : Part.Ok ((w.alloc (.cells #[.bool true, .slice (some ad) n.cells.length c1, .slice A2 n.keys.length c2, .slice A3 n.kids.length c3] 40)).alloc (.cells #[.bool false, .slice none 0 0, .slice none 0 0, .slice none 0 0] 40)) 4 ⟨if c1 = f then some ad else some (ad.add (f * 4)), t - f, c1 - f, cellVals ((n.cells.drop f).take (t - f))⟩ :=
    ⟨hcl, (fun h => by split at h <;> cases h), one_cells _, by simp only; omega⟩
  have HCC := Lib.hid (clone_cells _ _ hok (by simp only; omega))
  have hLl : ((n.cells.drop f).take (t - f)).length = t - f := by simp; omega
  obtain ⟨L, hL⟩ : ∃ L, L = (n.cells.drop f).take (t - f) := ⟨_, rfl⟩
  rw [← hL] at hLl HCC ⊢
  have HLL := Lib.hid hLl
  simp only [Nd.value, hlf, Part.v] at HCC ⊢
  have hi1 : (f : Int) ≤ t := by omega
  have hi2 : (t : Int) ≤ c1 := by omega
  have hi3 : (0 : Int) ≤ f := by omega
  have hi4 : t ≤ c1 := by omega
  have hLb : t - f < 65536 := by omega
  generalize n.cells.length = nl at *
  generalize n.keys.length = kl at *
  generalize n.kids.length = il at *
  clear hp hl1 hb1 hEW hcl hok hLl hL hn hlf h0 ht
  have hcf : ¬ c1 = f := by omega
  simp only [hcf, if_false] at HCC
  go_enter Tryz.func182, Tryz.ntmps182
  go_wp2_with fail
  refine HCC.out.mono ?_
  rintro e w2 ⟨A, cc, rfl, hown, hx2⟩
  have HO := Lib.hid hown; have HX2 := Lib.hid hx2
  have br := (Blk.new_at (b := w.heap.size + 1) (w.alloc (.cells #[.bool true, .slice (some ad) nl c1, .slice A2 kl c2, .slice A3 il c3] 40)) 40 #[.bool false, .slice none 0 0, .slice none 0 0, .slice none 0 0] (by simp)).ext hx2 (fun h => h)
  obtain ⟨r0, r1, r2, r3, s0, s1, s2, s3, lr⟩ := br.p4
  clear hown hx2
  go_wp2_with fail
  refine bodyPost_ret (results_cell_row (P := Tryz.prog) rfl _ _ (w.heap.size + 1) 40 _ (0, 0) _ rfl (br.put4 (.bool true) (.slice A (t - f) cc) (.slice none 0 0) (.slice none 0 0)) Tryz.underlying40 rfl (by kernel_rfl)) rfl ?_
  have hx0 : Ext No w w2 := (((Ext.refl No w).alloc _).alloc _).trans_ HX2.out
  refine ⟨(((hx0.setNew (by omega) _ _).setNew (by omega) _ _).setNew (by omega) _ _).setNew (by omega) _ _, A, cc, none, 0, none, 0, by rw [← HLL.out]; rfl, ?_⟩
  have hcap := own_cap HO.out
  have hin' : Lo (w.heap.size + 2) (w.heap.size + 1) := by show w.heap.size + 1 < w.heap.size + 2; omega
  have hn2 : NodeAt w2 (Lo (w.heap.size + 2)) A cc none 0 none 0 ⟨true, L, [], []⟩ := ⟨by have := (Rd.own_lo HO.out (by omega)).mono (G := Lo (w.heap.size + 2)) (by omega) (fun b _ hb => by unfold Lo at hb ⊢; simp; omega); rw [HLL.out]; exact this, Rd.nil_ _, Rd.nil_ _, by rw [HLL.out]; exact hcap, by simp, by simp, by rw [HLL.out]; omega, by simp, by simp, own_nilcap HO.out, fun _ => rfl, fun _ => rfl⟩
  have hz : Ext (Lo (w.heap.size + 2)) w2 _ := ((((Ext.refl _ w2).setF hin' 0 (.bool true)).setF hin' 1 (.slice A (t - f) cc)).setF hin' 2 (.slice none 0 0)).setF hin' 3 (.slice none 0 0)
  exact (hn2.ext hz).mono (fun b _ hb => by unfold Old at hb; unfold Lo; omega)

end Go.Proofs.YtccnemmlkcmceaaGreatDoor

/- The tree's calls, each as one plain function on what a transaction shows. -/
set_option linter.unusedVariables false
set_option linter.unusedSimpArgs false
namespace Go.Proofs.YtccnemmlkcmceaaGreatDoor
open Go.RowKit 

/-- A page read as a node. -/
def V.node (v : V) (id : Nat) : Option Nd := if v.err id = 0 then (if (v.pg id).kind = 2 then dec (v.pg id).body else none) else none
/-- A node on the way down. -/
structure Stp where
  id : Nat
  n : Nd
  i : Nat
def V.wayLoop (v : V) (key : Bs) : Nat → Nat → List Stp → Option (List Stp)
  | 0, _, _ => none
  | k + 1, id, out => if id = 0 then some out else match v.node id with
    | none => none
    | some n => if out.length = 40 then none else
      if n.leaf then some (out ++ [⟨id, n, (n.find key).1⟩]) else v.wayLoop key k (n.kids.getD (n.find key).1 0) (out ++ [⟨id, n, (n.find key).1⟩])
/-- The way down to the leaf of a key. -/
def V.way (v : V) (root : Nat) (key : Bs) : Option (List Stp) := v.wayLoop key 41 (v.r root) []
/-- The cell of a key in the last node of a way. -/
def hit (ws : List Stp) (key : Bs) : Option Cell :=
  match ws.getLast? with
  | none => none
  | some st => match st.n.cells[st.i]? with
    | none => none
    | some c => if c.key = key then some c else none
/-- Get. -/
def V.get (v : V) (root : Nat) (key : Bs) : Bs × Bool × Nat :=
  if may key [] ≠ 0 then ([], false, may key []) else
  match v.way root key with
  | none => ([], false, 5)
  | some ws => match hit ws key with
    | none => ([], false, 0)
    | some c => match v.value c with
      | none => ([], false, 5)
      | some b => (b, true, 0)
/-- A node is written to a page. -/
def V.wr (v : V) (id : Nat) (n : Nd) : Nat × V := if n.out.2 = 0 then v.set id 2 n.out.1 else (n.out.2, v)
/-- A node is written to a new page. -/
def V.fresh (cap : Nat) (v : V) (n : Nd) : Nat × Nat × V :=
  if (v.alloc cap).2.1 = 0 then ((v.alloc cap).1, ((v.alloc cap).2.2.wr (v.alloc cap).1 n).1, ((v.alloc cap).2.2.wr (v.alloc cap).1 n).2) else (0, (v.alloc cap).2.1, (v.alloc cap).2.2)
def V.spoil (v : V) : V := { v with spoilt := true }
def V.sure (r : Nat × V) : Nat × V := if r.1 = 0 then r else (r.1, r.2.spoil)

end Go.Proofs.YtccnemmlkcmceaaGreatDoor

/- The tree's calls, continued: Split, Join, Put, Delete, the survey, each as one plain function. -/
set_option linter.unusedVariables false
set_option linter.unusedSimpArgs false
namespace Go.Proofs.YtccnemmlkcmceaaGreatDoor
open Go.RowKit 

def Nd.all (n : Nd) : Nat := if n.leaf then n.cells.length else n.keys.length
def Nd.gap (n : Nd) : Nat := if n.leaf then 0 else 1
def Nd.worse (n : Nd) (i : Nat) : Nat := max (n.part 0 i).size (n.part (i + n.gap) n.all).size
def Nd.bestLoop (n : Nd) : Nat → Nat → Nat × Nat → Nat × Nat
  | 0, _, r => r
  | f + 1, i, r => n.bestLoop f (i + 1) (if n.worse i < r.2 then (i, n.worse i) else r)
def Nd.best (n : Nd) : Nat := (n.bestLoop (n.all - n.gap - 1) 1 (1, 1073741824)).1
def Nd.mid (n : Nd) (k : Nat) : Bs := if n.leaf then (n.cells.map Cell.key).getD k [] else n.keys.getD k []
/-- Split. -/
def Nd.split (n : Nd) : Option (Nd × Nd × Bs) :=
  if n.ok = false ∨ n.all < 2 + n.gap then none else some (n.part 0 n.best, n.part (n.best + n.gap) n.all, n.mid n.best)
/-- Join, before it is looked at. -/
def Nd.glue (l r : Nd) (key : Bs) : Nd := if l.leaf then ⟨true, l.cells ++ r.cells, [], []⟩ else ⟨false, l.cells ++ r.cells, l.keys ++ key :: r.keys, l.kids ++ r.kids⟩
/-- Join. -/
def Nd.join (l r : Nd) (key : Bs) : Option Nd := if l.ok = false ∨ r.ok = false ∨ l.leaf ≠ r.leaf then none else if (l.glue r key).ok then some (l.glue r key) else none
/-- Size. -/
def Nd.Sz (n : Nd) : Nat := if n.ok then n.size else 0

/-- A node is written, and parted, and those above. The way goes from the last node up. -/
def V.grow (cap root : Nat) : List Stp → Nd → V → Nat × V
  | [], _, v => (0, v)
  | st :: up, n, v =>
    if (v.wr st.id n).1 ≠ 3 then v.wr st.id n else
    match n.split with
    | none => (2, (v.wr st.id n).2)
    | some (l, r, key) =>
      if ((v.wr st.id n).2.wr st.id l).1 ≠ 0 then (v.wr st.id n).2.wr st.id l else
      if (((v.wr st.id n).2.wr st.id l).2.fresh cap r).2.1 ≠ 0 then (((v.wr st.id n).2.wr st.id l).2.fresh cap r).2 else
      match up with
      | [] =>
        if ((((v.wr st.id n).2.wr st.id l).2.fresh cap r).2.2.fresh cap ⟨false, [], [key], [st.id, (((v.wr st.id n).2.wr st.id l).2.fresh cap r).1]⟩).2.1 ≠ 0 then
          ((((v.wr st.id n).2.wr st.id l).2.fresh cap r).2.2.fresh cap ⟨false, [], [key], [st.id, (((v.wr st.id n).2.wr st.id l).2.fresh cap r).1]⟩).2 else
        (0, ((((v.wr st.id n).2.wr st.id l).2.fresh cap r).2.2.fresh cap ⟨false, [], [key], [st.id, (((v.wr st.id n).2.wr st.id l).2.fresh cap r).1]⟩).2.2.setR root
          ((((v.wr st.id n).2.wr st.id l).2.fresh cap r).2.2.fresh cap ⟨false, [], [key], [st.id, (((v.wr st.id n).2.wr st.id l).2.fresh cap r).1]⟩).1)
      | p :: _ =>
        V.grow cap root up ⟨false, [], p.n.keys.insertIdx p.i key, p.n.kids.insertIdx (p.i + 1) (((v.wr st.id n).2.wr st.id l).2.fresh cap r).1⟩ (((v.wr st.id n).2.wr st.id l).2.fresh cap r).2.2

/-- Put, below. -/
def V.put0 (cap root : Nat) (v : V) (key val : Bs) : Nat × V :=
  match v.way root key with
  | none => (5, v)
  | some ws =>
    if (v.mkCell cap key val).2.1 ≠ 0 then (v.mkCell cap key val).2 else
    match ws.getLast? with
    | none =>
      if ((v.mkCell cap key val).2.2.fresh cap ⟨true, [(v.mkCell cap key val).1], [], []⟩).2.1 ≠ 0 then ((v.mkCell cap key val).2.2.fresh cap ⟨true, [(v.mkCell cap key val).1], [], []⟩).2 else
      (0, ((v.mkCell cap key val).2.2.fresh cap ⟨true, [(v.mkCell cap key val).1], [], []⟩).2.2.setR root ((v.mkCell cap key val).2.2.fresh cap ⟨true, [(v.mkCell cap key val).1], [], []⟩).1)
    | some st =>
      match hit ws key with
      | none => V.grow cap root ws.reverse (st.n.put (v.mkCell cap key val).1) (v.mkCell cap key val).2.2
      | some c =>
        if ((v.mkCell cap key val).2.2.letGo c).1 ≠ 0 then (v.mkCell cap key val).2.2.letGo c else
        V.grow cap root ws.reverse (st.n.put (v.mkCell cap key val).1) ((v.mkCell cap key val).2.2.letGo c).2
/-- Put. -/
def V.Put (cap root : Nat) (v : V) (key val : Bs) : Nat × V := if may key val ≠ 0 then (may key val, v) else V.sure (v.put0 cap root key val)

def V.settle (root : Nat) (v : V) (id : Nat) (n : Nd) (first : Bool) : Nat × V :=
  if first = false ∨ (n.leaf = true ∧ 0 < n.cells.length) ∨ 0 < n.keys.length then v.wr id n else
  if (v.drop id).1 ≠ 0 then v.drop id else (0, (v.drop id).2.setR root (if n.leaf then 0 else n.kids.getD 0 0))
/-- The error, or where and what both are. -/
def V.beside (v : V) (p : Nd) (i : Nat) (n : Nd) : Nat × Nat × Nd :=
  if p.keys = [] then (5, 0, n) else
  if 0 < i then (match v.node (p.kids.getD (i - 1) 0) with
    | none => (5, i - 1, n)
    | some l => match l.join n (p.keys.getD (i - 1) []) with
      | none => (2, i - 1, ⟨false, [], [], []⟩)
      | some b => (0, i - 1, b))
  else (match v.node (p.kids.getD 1 0) with
    | none => (5, 0, n)
    | some r => match n.join r (p.keys.getD 0 []) with
      | none => (2, 0, ⟨false, [], [], []⟩)
      | some b => (0, 0, b))
def V.share (cap root : Nat) (ws : List Stp) (up : Nd) (at_ : Nat) (both : Nd) (v : V) : Nat × V :=
  match both.split with
  | none => (2, v)
  | some (l, r, key) =>
    if (v.wr (up.kids.getD at_ 0) l).1 ≠ 0 then v.wr (up.kids.getD at_ 0) l else
    if ((v.wr (up.kids.getD at_ 0) l).2.wr (up.kids.getD (at_ + 1) 0) r).1 ≠ 0 then (v.wr (up.kids.getD at_ 0) l).2.wr (up.kids.getD (at_ + 1) 0) r else
    V.grow cap root ws ⟨false, [], up.keys.set at_ key, up.kids⟩ ((v.wr (up.kids.getD at_ 0) l).2.wr (up.kids.getD (at_ + 1) 0) r).2
def V.shrink (cap root : Nat) : List Stp → Nd → V → Nat × V
  | [], _, v => (0, v)
  | [st], n, v => v.settle root st.id n true
  | st :: p :: up, n, v =>
    if 166 ≤ n.Sz then v.settle root st.id n false else
    if (v.beside p.n p.i n).1 ≠ 0 then ((v.beside p.n p.i n).1, v) else
    if 500 < (v.beside p.n p.i n).2.2.Sz then V.share cap root (p :: up) p.n (v.beside p.n p.i n).2.1 (v.beside p.n p.i n).2.2 v else
    if (v.wr (p.n.kids.getD (v.beside p.n p.i n).2.1 0) (v.beside p.n p.i n).2.2).1 ≠ 0 then v.wr (p.n.kids.getD (v.beside p.n p.i n).2.1 0) (v.beside p.n p.i n).2.2 else
    if ((v.wr (p.n.kids.getD (v.beside p.n p.i n).2.1 0) (v.beside p.n p.i n).2.2).2.drop (p.n.kids.getD ((v.beside p.n p.i n).2.1 + 1) 0)).1 ≠ 0 then
      (v.wr (p.n.kids.getD (v.beside p.n p.i n).2.1 0) (v.beside p.n p.i n).2.2).2.drop (p.n.kids.getD ((v.beside p.n p.i n).2.1 + 1) 0) else
    V.shrink cap root (p :: up) ⟨false, [], p.n.keys.eraseIdx (v.beside p.n p.i n).2.1, p.n.kids.eraseIdx ((v.beside p.n p.i n).2.1 + 1)⟩
      ((v.wr (p.n.kids.getD (v.beside p.n p.i n).2.1 0) (v.beside p.n p.i n).2.2).2.drop (p.n.kids.getD ((v.beside p.n p.i n).2.1 + 1) 0)).2

def Nd.cutAt (n : Nd) (i : Nat) : Nd := { n with cells := n.cells.take i ++ n.cells.drop (i + 1) }
/-- Delete, below. -/
def V.del0 (cap root : Nat) (v : V) (key : Bs) : Bool × Nat × V :=
  match v.way root key with
  | none => (false, 5, v)
  | some ws => match ws.getLast?, hit ws key with
    | some st, some c => if (v.letGo c).1 ≠ 0 then (false, v.letGo c) else (true, V.shrink cap root ws.reverse (st.n.cutAt st.i) (v.letGo c).2)
    | _, _ => (false, 0, v)
/-- Delete. -/
def V.Del (cap root : Nat) (v : V) (key : Bs) : Bool × Nat × V :=
  if may key [] ≠ 0 then (false, may key [], v) else
  if (v.del0 cap root key).2.1 = 0 then v.del0 cap root key else (false, (v.del0 cap root key).2.1, (v.del0 cap root key).2.2.spoil)

/-- Is a key in bounds? -/
def inB (low high k : Bs) : Bool := !(klt k low) && (high.isEmpty || klt k high)
def V.lookCells (v : V) (low high : Bs) : List Cell → Nat → Option Nat
  | [], p => some p
  | c :: cs, p => if inB low high c.key then (match v.value c with
    | none => none
    | some _ => v.lookCells low high cs (if 0 < c.over then p + max 1 ((c.len + 495) / 496) else p)) else none
def lookKids (f : Nat → Bs → Bs → Nat × Option Nat → Option (Nat × Option Nat)) (low high : Bs) : Bool → List (Nat × Bs × Bs) → Nat × Option Nat → Option (Nat × Option Nat)
  | _, [], s => some s
  | first, (kid, lo, hi) :: l, s => if first = false ∧ inB low high lo = false then none else match f kid lo hi s with
    | none => none
    | some s' => lookKids f low high false l s'
/-- The look at a node, and all below: pages and the leaves' depth. -/
def V.look (v : V) : Nat → Nat → Nat → Bs → Bs → Nat × Option Nat → Option (Nat × Option Nat)
  | 0, _, _, _, _, _ => none
  | k + 1, id, deep, low, high, s => match v.node id with
    | none => none
    | some n => if 40 < deep ∨ 65536 < s.1 + 1 then none else match v.lookCells low high n.cells (s.1 + 1) with
      | none => none
      | some p => if n.leaf then (if (s.2.isSome = true ∧ s.2 ≠ some deep) ∨ n.cells.length = 0 then none else some (p, some deep))
        else lookKids (fun kid lo hi s => v.look k kid (deep + 1) lo hi s) low high true (n.kids.zip ((low :: n.keys).zip (n.keys ++ [high]))) (p, s.2)
/-- The survey. -/
def V.survey (v : V) (root : Nat) : Option (Nat × Option Nat) := if v.r root = 0 then some (0, none) else v.look 42 (v.r root) 0 [] [] (0, none)
/-- Pages: how many, the error. -/
def V.pages (v : V) (root : Nat) : Nat × Nat := match v.survey root with
  | none => (0, 5)
  | some s => (s.1, 0)

end Go.Proofs.YtccnemmlkcmceaaGreatDoor

/- The tree's calls: a page of a value. -/
set_option linter.unusedVariables false
set_option linter.unusedSimpArgs false
namespace Go.Proofs.YtccnemmlkcmceaaGreatDoor
open Go.RowKit 

theorem V.good_bd {v : V} (h : v.Good) {id : Nat} (he : v.err id = 0) : (v.pg id).body.length ≤ 500 := by
  obtain ⟨l, h⟩ := h
  obtain ⟨h1, h2, _⟩ := V.err_ok he
  exact h.bd id h1 h2

theorem ret_l3 {a b : Int} {x y : Value} (h : a = b) : Ending.returned (.tuple #[.int .i64 a, x, y]) = .returned (.tuple #[.int .i64 b, x, y]) := by rw [h]

def linkOut (o : Option (Nat × List UInt8)) : Value := match o with
  | none => .tuple #[.int .i64 0, .string (str []), .int .i64 5]
  | some (n, b) => .tuple #[.int .i64 (n : Int), .string (str b), .int .i64 0]

set_option maxRecDepth 100000 in
set_option maxHeartbeats 800000 in
theorem link_any (s : Sys) (hs : s.Ok) (w : World) (v : V) (h : TxAt w s v) (gx i : Nat) (hx : Blk w gx 70 (treeCells s i)) (id : Nat) :
    Calls Tryz.prog 50 #[.pointer (some ⟨gx, 0, none⟩), .int .i64 (id : Int)] w fun e w' => e = .returned (linkOut (v.link id)) ∧ Ext No w w' := by
  have HR := Lib.hid (read_any s hs w v h id)
  have c0 := hx.cell 0
  simp [treeCells] at c0
  unfold V.link
  by_cases he : v.err id = 0
  · have hr : v.read id = ((v.pg id).kind, (v.pg id).body, 0) := by simp [V.read, he]
    rw [if_pos he]
    rw [hr] at HR
    clear hr he
    generalize (v.pg id).kind = k at *
    generalize (v.pg id).body = b at *
    have hb := str_size b
    have HB := Lib.hid hb
    by_cases hk : k = 3
    · subst hk
      by_cases hl : 4 < b.length
      · rw [if_pos ⟨rfl, hl⟩]
        have hl' : 4 < (str b).size := by omega
        have i0 : ∀ w, (Instr.index 9 (.string (str b)) (.int .i64 0)).run Tryz.prog w = .ok (.int .u8 (bt (str b) 0 : Int)) w := fun w => idx9 (str b) 0 (by omega) w
        have i1 : ∀ w, (Instr.index 9 (.string (str b)) (.int .i64 1)).run Tryz.prog w = .ok (.int .u8 (bt (str b) 1 : Int)) w := fun w => idx9 (str b) 1 (by omega) w
        have i2 : ∀ w, (Instr.index 9 (.string (str b)) (.int .i64 2)).run Tryz.prog w = .ok (.int .u8 (bt (str b) 2 : Int)) w := fun w => idx9 (str b) 2 (by omega) w
        have i3 : ∀ w, (Instr.index 9 (.string (str b)) (.int .i64 3)).run Tryz.prog w = .ok (.int .u8 (bt (str b) 3 : Int)) w := fun w => idx9 (str b) 3 (by omega) w
        have hor := Lib.hid (or4 (bt (str b) 0) (bt (str b) 1) (bt (str b) 2) (bt (str b) 3) (bt_lt _ 0) (bt_lt _ 1) (bt_lt _ 2) (bt_lt _ 3))
        have hg : ¬ ((b.length : Int) ≤ 4) := by omega
        go_enter Tryz.func50, Tryz.ntmps50
        go_wp2_with fail
        refine (HR.out).mono ?_
        rintro e w1 ⟨rfl, hx1⟩
        go_wp2_with fail
        go_quiet (fail)
        go_wp2_with fail
        have hsl : (str b).extract 4 b.length = str (b.drop 4) := by
          apply ByteArray.ext
          simp [str, ByteArray.data_extract, ← List.toArray_drop, List.extract_toArray]
          exact List.take_of_length_le (by simp)
        rw [hsl]
        go_ret3
        exact ⟨ret_l3 (by simp only [← wrapEq]; exact hor.out), by (repeat' (first | exact Ext.refl _ _ | assumption | apply Ext.alloc | apply Ext.drewN | apply Ext.drew | refine Ext.setNew ?_ (by first | omega | (simp; omega) | simp) _ _ | refine Ext.setF ?_ (by first | exact Or.inl rfl | exact Or.inr rfl | rfl) _ _ | refine Ext.trans_ ?_ (by assumption) | refine Ext.trans_ ?_ (Ext.of_no (by assumption))))⟩
      · rw [if_neg (by omega)]
        have hg : (b.length : Int) ≤ 4 := by omega
        go_enter Tryz.func50, Tryz.ntmps50
        go_wp2_with fail
        refine (HR.out).mono ?_
        rintro e w1 ⟨rfl, hx1⟩
        go_wp2_with fail
        go_ret3
        exact ⟨rfl, hx1⟩
    · rw [if_neg (by omega)]
      have hk' : ((k : Int) != 3) = true := by simpa using (by omega : ¬ (k : Int) = 3)
      clear hk
      go_enter Tryz.func50, Tryz.ntmps50
      go_wp2_with fail
      refine (HR.out).mono ?_
      rintro e w1 ⟨rfl, hx1⟩
      go_wp2_with fail
      go_ret3
      exact ⟨rfl, hx1⟩
  · have hr : v.read id = (0, [], v.err id) := by simp [V.read, he]
    rw [if_neg he]
    rw [hr] at HR
    have he' : v.err id = 2 ∨ v.err id = 8 := by
      rcases V.err_cases he with ⟨h, _⟩ | ⟨h, _⟩
      · exact .inl h
      · exact .inr h
    clear hr he
    generalize v.err id = k at *
    rcases he' with rfl | rfl
    all_goals
      go_enter Tryz.func50, Tryz.ntmps50
      go_wp2_with fail
      refine (HR.out).mono ?_
      rintro e w1 ⟨rfl, hx1⟩
      go_wp2_with fail
      go_ret3
      exact ⟨rfl, hx1⟩

end Go.Proofs.YtccnemmlkcmceaaGreatDoor

/- The tree's calls: a value's pages are let go. -/
set_option linter.unusedVariables false
set_option linter.unusedSimpArgs false
namespace Go.Proofs.YtccnemmlkcmceaaGreatDoor
open Go.RowKit 

theorem V.link_lt {v : V} {id n : Nat} {b : List UInt8} (h : v.link id = some (n, b)) : n < 4294967296 := by
  unfold V.link at h
  split at h
  · split at h
    · injection h with h; injection h with h1 h2; rw [← h1]; exact v4_lt _
    · cases h
  · cases h

theorem drop_stop (k : Nat) (v : V) : V.dropLoop k 0 v = (0, v) := by cases k <;> simp [V.dropLoop]

set_option maxRecDepth 100000 in
set_option maxHeartbeats 1600000 in
theorem letgo_any (s : Sys) (hs : s.Ok) (w : World) (v : V) (h : TxAt w s v) (hg : v.Good) (gx i : Nat) (hx : Blk w gx 70 (treeCells s i)) (c : Cell) :
    Calls Tryz.prog 99 #[.pointer (some ⟨gx, 0, none⟩), c.agg] w fun e w' => e = .returned (.int .i64 ((v.letGo c).1 : Int)) ∧ TxAt w' s (v.letGo c).2 ∧ (v.letGo c).2.Good ∧ Ext s.F w w' := by
  have HL := Lib.hid (fun w v (h : TxAt w s v) (hx : Blk w gx 70 (treeCells s i)) id => link_any s hs w v h gx i hx id)
  have HF := Lib.hid (fun w v (h : TxAt w s v) hg id => free_any s hs w v h hg id)
  have hE0 : Ext s.F w (w.alloc (.cells #[.string (str c.key), .string (str c.val), .int .i64 (c.over : Int), .int .i64 (c.len : Int)] 45)) := (Ext.refl _ w).alloc _
  have hT0 : TxAt (w.alloc (.cells #[.string (str c.key), .string (str c.val), .int .i64 (c.over : Int), .int .i64 (c.len : Int)] 45)) s v := h.no hs ((Ext.refl _ w).alloc _)
  have hX0 := hx.alloc (.cells #[.string (str c.key), .string (str c.val), .int .i64 (c.over : Int), .int .i64 (c.len : Int)] 45)
  obtain ⟨D, hD⟩ : ∃ D, D = v.letGo c := ⟨_, rfl⟩
  rw [← hD]
  unfold V.letGo at hD
  have HD := Lib.hid hD
  have HG := Lib.hid hg
  clear hD hg h hx
  simp only [Cell.agg]
  go_enter Tryz.func99, Tryz.ntmps99
  go_wp2_with fail
  go_loopg [5] (v.high + 1) (fun gk id wr => ∃ (ID : Nat) (v' : V), id = .int .i64 (ID : Int) ∧ TxAt wr s v' ∧ v'.Good ∧ Blk wr gx 70 (treeCells s i) ∧ Hid (v'.high + 1 ≤ gk + v'.cnt) ∧ Hid (V.dropLoop gk ID v' = D) ∧ Ext s.F w wr)
  case atStart => exact ⟨c.over, v, rfl, hT0, HG.out, hX0, Lib.hid (by omega), Lib.hid HD.out.symm, hE0⟩
  case round =>
    clear hT0 hX0 hE0 HG HD
    obtain ⟨ID, v', rfl, hT, hG, hX, hm, hd, hE⟩ := hrel
    have HT := Lib.hid hT; have HG := Lib.hid hG; have HX := Lib.hid hX; have HE := Lib.hid hE
    have c0 := hX.cell 0
    simp [treeCells] at c0
    obtain ⟨j, hj⟩ : ∃ j, gk = j + 1 := ⟨gk - 1, by
      obtain ⟨l, hl⟩ := hG
      have := hl.lt; have := hl.cnt; have := hm.out
      omega⟩
    clear hT hG hX hE
    have HJ := Lib.hid hj
    by_cases h0 : ID = 0
    · subst h0
      have hdd := hd.out
      rw [drop_stop] at hdd
      have HDD := Lib.hid hdd
      clear hj hdd
      go_wp2_with fail
      go_ret
      exact ⟨by rw [← HDD.out]; rfl, by rw [← HDD.out]; exact HT.out, by rw [← HDD.out]; exact HG.out, HE.out⟩
    · have h0' : ((ID : Int) != 0) = true := by simpa using (by omega : ¬ (ID : Int) = 0)
      have hdd := hd.out
      rw [hj] at hdd
      simp only [V.dropLoop, if_neg h0] at hdd
      have HLK := Lib.hid (HL.out _ v' HT.out HX.out ID)
      have HFK := Lib.hid (fun w h => HF.out w v' h HG.out ID)
      have HGD := Lib.hid (HG.out.drop ID)
      have HTR := Lib.hid (fun (w' : World) (h : Ext No wr w') => HT.out.no hs h)
      cases hl : v'.link ID with
      | none =>
        rw [hl] at hdd HLK
        simp only [linkOut] at HLK
        have HDD := Lib.hid hdd
        clear h0 hj hl hdd
        go_wp2_with fail
        refine HLK.out.mono ?_
        rintro e w1 ⟨rfl, hx1⟩
        go_wp2_with fail
        go_ret
        exact ⟨by rw [← HDD.out]; rfl, by rw [← HDD.out]; exact HT.out.no hs hx1, by rw [← HDD.out]; exact HG.out, HE.out.trans_ hx1.of_no⟩
      | some r =>
        obtain ⟨n, b⟩ := r
        rw [hl] at hdd HLK
        simp only [linkOut] at HLK
        simp only at hdd
        by_cases hde : (v'.drop ID).1 = 0
        · rw [if_pos hde] at hdd
          have HDD := Lib.hid hdd
          have hcn : (v'.drop ID).2.high = v'.high ∧ (v'.drop ID).2.cnt = v'.cnt + 1 := by
            unfold V.drop at hde ⊢
            split
            · exact ⟨rfl, rfl⟩
            · rename_i hz; rw [if_neg hz] at hde; exact absurd hde hz
          rw [hde] at HFK
          have HCN := Lib.hid hcn
          clear h0 hj hl hdd hde hcn
          go_wp2_with fail
          refine HLK.out.mono ?_
          rintro e w1 ⟨rfl, hx1⟩
          have c1 := cell_ext hx1 c0 (fun h => h)
          have hX1 := HX.out.ext hx1 (fun h => h)
          have HX1 := Lib.hid hX1
          have HE1 := Lib.hid hx1
          clear hX1
          go_wp2_with fail
          refine (HFK.out _ (HTR.out _ hx1)).mono ?_
          rintro e w2 ⟨rfl, hT2, hx2⟩
          have HT2 := Lib.hid hT2; have HX2 := Lib.hid hx2
          clear hT2 hx2
          go_wp2_with fail
          go_roundg j
          case rel =>
            have h1 := HTR.out _ HE1.out
            exact ⟨n, (v'.drop ID).2, rfl, HT2.out, HGD.out, tree_ext h1 HX1.out HX2.out, Lib.hid (by have := hm.out; have := HJ.out; have := HCN.out; omega), Lib.hid HDD.out, (HE.out.trans_ HE1.out.of_no).trans_ HX2.out⟩
          case measure => have := HJ.out; omega
        · rw [if_neg hde] at hdd
          have hde' : (((v'.drop ID).1 : Int) != 0) = true := by simpa using (by omega : ¬ ((v'.drop ID).1 : Int) = 0)
          rw [hdd] at HFK HGD hde'
          generalize hdv : D.1 = d at HFK hde'
          have HDV := Lib.hid hdv
          clear h0 hj hl hde hdd hdv
          go_wp2_with fail
          refine HLK.out.mono ?_
          rintro e w1 ⟨rfl, hx1⟩
          have c1 := cell_ext hx1 c0 (fun h => h)
          go_wp2_with fail
          refine (HFK.out _ (HTR.out _ hx1)).mono ?_
          rintro e w2 ⟨rfl, hT2, hx2⟩
          go_wp2_with fail
          go_ret
          exact ⟨by rw [HDV.out]; rfl, hT2, HGD.out, (HE.out.trans_ hx1.of_no).trans_ hx2⟩

end Go.Proofs.YtccnemmlkcmceaaGreatDoor

/- The tree's calls: a small cell is made. -/
set_option linter.unusedVariables false
set_option linter.unusedSimpArgs false
namespace Go.Proofs.YtccnemmlkcmceaaGreatDoor
open Go.RowKit 

/-- cell's return: the cell's block, and the number. -/
theorem cell_back {Q : Ending → World → Prop} {a : Act} {w : World} (b : Nat) (cs : Array Value) (hb : Blk w b 45 cs) {v : Value} (hs : some 4 = some cs.size) (hp : a.tmps.getD 6 undef = .pointer (some ⟨b, 0, none⟩)) (h3 : a.tmps.getD 7 undef = v) (hd : a.defers = [])
    (h : Q (.returned (.tuple #[.agg cs, v])) w) : bodyPost Tryz.prog Tryz.f97 Q Exit.ret a w := by
  refine bodyPost_ret (v := .tuple #[.agg cs, v]) (w := w) ?_ hd h
  have hl := run_loadVar_row w b 45 45 cs (0, 0) _ hb Tryz.underlying45 rfl (by rw [← hs]; kernel_rfl)
  rw [results_cell_tmp rfl, hp, h3]
  simp [asAddr, Result.andThen, hl]

set_option maxHeartbeats 800000 in
theorem cell_small (key val : List UInt8) (gx : Value) (w : World) (hl : 3 + key.length + val.length ≤ 160) :
    Calls Tryz.prog 97 #[gx, .string (str key), .string (str val)] w fun e w' => e = .returned (.tuple #[(⟨key, val, 0, 0⟩ : Cell).agg, .int .i64 0]) ∧ Ext No w w' := by
  have hk := str_size key
  have hv := str_size val
  have hi : ((3 : Int) + key.length + val.length ≤ 160) := by omega
  have hi1 : IntKind.i64.wrap ((3 : Int) + key.length) = (3 : Int) + key.length := IntWalk.i64_in _ (by omega)
  have hi2 : IntKind.i64.wrap ((3 : Int) + key.length + val.length) = (3 : Int) + key.length + val.length := IntWalk.i64_in _ (by omega)
  go_enter Tryz.func97, Tryz.ntmps97
  go_wp2_with fail
  exact cell_back w.heap.size _ (Blk.new w 45 _) rfl rfl rfl rfl ⟨rfl, (Ext.refl No w).alloc _⟩

end Go.Proofs.YtccnemmlkcmceaaGreatDoor

/- The transaction's blocks are there. -/
set_option linter.unusedVariables false
set_option linter.unusedSimpArgs false
namespace Go.Proofs.YtccnemmlkcmceaaGreatDoor
open Go.RowKit 

theorem TxAt.old {w : World} {s : Sys} {v : V} (h : TxAt w s v) {b : Nat} (hb : s.F b) : b < w.heap.size := by
  rcases hb with rfl | rfl
  · exact h.tx.lt
  · obtain ⟨ov, ⟨_, es, c, ho, _⟩, _⟩ := h.mp
    rcases Nat.lt_or_ge s.m w.heap.size with hlt | hge
    · exact hlt
    · rw [Array.getElem?_eq_none hge] at ho; cases ho

end Go.Proofs.YtccnemmlkcmceaaGreatDoor

/- The tree's calls: a node is written. -/
set_option linter.unusedVariables false
set_option linter.unusedSimpArgs false
namespace Go.Proofs.YtccnemmlkcmceaaGreatDoor
open Go.RowKit 

theorem Cell.enc_len' (c : Cell) : c.enc.length = c.size := by
  unfold Cell.enc Cell.size txt
  split
  · simp [n4]; omega
  · simp; omega
theorem encCells_len' (cs : List Cell) : (encCells cs).length = sumC cs := by
  induction cs with
  | nil => rfl
  | cons c cs ih => simp only [encCells, List.flatMap_cons, List.length_append, sumC, List.map_cons, List.sum_cons] at *; rw [ih, c.enc_len']
theorem encKeys_len' (ks : List Bs) : ∀ is : List Nat, is.length = ks.length → (encKeys ks is).length = sumK ks := by
  induction ks with
  | nil => intro is _; cases is <;> rfl
  | cons k ks ih =>
    intro is h
    match is, h with
    | i :: is, h =>
      have := ih is (by simpa using h)
      simp only [encKeys, List.length_append, sumK, List.map_cons, List.sum_cons, txt, List.length_cons, n4] at *
      rw [this]; simp; omega
theorem Nd.enc_len {n : Nd} (h : n.ok = true) : n.enc.length = n.size := by
  have hO := Nd.Ok.of h
  unfold Nd.enc Nd.size
  cases hl : n.leaf
  · obtain ⟨h1, h2⟩ := hO.br hl
    have h3 : n.kids.tail.length = n.keys.length := by simp; omega
    simp only [Bool.false_eq_true, if_false, List.length_cons, List.length_append, encKeys_len' _ _ h3, h1]
    simp [n4, sumC]; omega
  · obtain ⟨h1, h2⟩ := hO.lf hl
    simp [encCells_len', h1, sumK]; omega
theorem Nd.out_len (n : Nd) : n.out.1.length ≤ 500 := by
  unfold Nd.out
  split
  · simp
  · split
    · simp
    · rename_i h1 h2
      rw [Nd.enc_len (by simpa using h1)]
      omega

theorem V.Good.wr {v : V} (h : v.Good) (id : Nat) (n : Nd) : (v.wr id n).2.Good := by
  unfold V.wr
  split
  · exact h.set _ _ _ (by decide) n.out_len
  · exact h
theorem V.set_high (v : V) (id k : Nat) (b : List UInt8) : (v.set id k b).2.high = v.high := by unfold V.set; split <;> rfl
theorem V.wr_high (v : V) (id : Nat) (n : Nd) : (v.wr id n).2.high = v.high := by
  unfold V.wr; split
  · exact v.set_high _ _ _
  · rfl

theorem NodeAt.box {w : World} {F : Nat → Prop} {A1 : Option Addr} {c1 : Nat} {A2 : Option Addr} {c2 : Nat} {A3 : Option Addr} {c3 : Nat} {n : Nd} (h : NodeAt w F A1 c1 A2 c2 A3 c3 n) (o : Obj) : NodeAt (w.alloc o) F A1 c1 A2 c2 A3 c3 n := h.ext ((Ext.refl _ w).alloc o)

set_option maxRecDepth 100000 in
set_option maxHeartbeats 800000 in
theorem wr_any (s : Sys) (hs : s.Ok) (w : World) (v : V) (h : TxAt w s v) (hg : v.Good) (gx i : Nat) (hx : Blk w gx 70 (treeCells s i)) (id : Nat)
    (n : Nd) (F : Nat → Prop) (A1 : Option Addr) (c1 : Nat) (A2 : Option Addr) (c2 : Nat) (A3 : Option Addr) (c3 : Nat) (hn : NodeAt w F A1 c1 A2 c2 A3 c3 n) (hf : n.fits) :
    Calls Tryz.prog 141 #[.pointer (some ⟨gx, 0, none⟩), .int .i64 (id : Int), n.value A1 c1 A2 c2 A3 c3] w fun e w' => e = .returned (.int .i64 ((v.wr id n).1 : Int)) ∧ TxAt w' s (v.wr id n).2 ∧ (v.wr id n).2.Good ∧ Ext s.F w w' := by
  have HG := Lib.hid (hg.wr id n)
  have HT := Lib.hid (fun (w' : World) (e : Ext No w w') => h.no hs e)
  have HN := Lib.hid (fun o => encode_any n (w.alloc o) F A1 c1 A2 c2 A3 c3 (hn.box o) hf)
  have HW := Lib.hid (fun w h => write_any s hs w v h id 2 n.out.1 (by decide) (by decide) n.out_len)
  have c0 := hx.cell 0
  simp [treeCells] at c0
  have hgl := hx.lt
  unfold V.wr at HG ⊢
  generalize hn1 : n.out.1 = b at *
  generalize hn2 : n.out.2 = k at *
  simp only [Nd.value] at HN ⊢
  generalize n.cells.length = nl at *
  generalize n.keys.length = kl at *
  generalize n.kids.length = il at *
  by_cases hk : k = 0
  · subst hk
    rw [if_pos rfl] at HG ⊢
    clear hn1 hn2 hn hf hx hg h
    go_enter Tryz.func141, Tryz.ntmps141
    go_wp2_with fail
    refine (HN.out _).mono ?_
    rintro e w1 ⟨rfl, hx1⟩
    have hE : Ext No w w1 := ((Ext.refl No w).alloc _).trans_ hx1
    have c1 := cell_ext hE c0 (fun h => h)
    go_wp2_with fail
    refine (HW.out _ (HT.out _ hE)).mono ?_
    rintro e w2 ⟨rfl, hT, hx2⟩
    go_wp2_with fail
    go_ret
    exact ⟨rfl, hT, HG.out, hE.of_no.trans_ hx2⟩
  · rw [if_neg hk] at HG ⊢
    have hk' : ((k : Int) != 0) = true := by simpa using (by omega : ¬ (k : Int) = 0)
    clear hn1 hn2 hn hf hx hg h hk
    go_enter Tryz.func141, Tryz.ntmps141
    go_wp2_with fail
    refine (HN.out _).mono ?_
    rintro e w1 ⟨rfl, hx1⟩
    have hE : Ext No w w1 := ((Ext.refl No w).alloc _).trans_ hx1
    go_wp2_with fail
    go_ret
    exact ⟨rfl, HT.out _ hE, HG.out, hE.of_no⟩

theorem V.Good.fresh {v : V} (h : v.Good) {cap : Nat} (h1 : v.high ≤ cap) (h2 : cap ≤ 65536) (n : Nd) : (v.fresh cap n).2.2.Good ∧ (v.fresh cap n).2.2.high ≤ cap := by
  obtain ⟨g1, g2⟩ := h.alloc h1 h2
  unfold V.fresh
  split
  · exact ⟨g1.wr _ _, by rw [V.wr_high]; exact g2⟩
  · exact ⟨g1, g2⟩
theorem Sys.cap_le {s : Sys} (hs : s.Ok) : s.cap ≤ 65536 := by unfold Sys.cap; have := hs.n2; omega

set_option maxRecDepth 100000 in
set_option maxHeartbeats 800000 in
theorem fresh_any (s : Sys) (hs : s.Ok) (w : World) (v : V) (h : TxAt w s v) (hg : v.Good) (gx i : Nat) (hx : Blk w gx 70 (treeCells s i))
    (n : Nd) (F : Nat → Prop) (A1 : Option Addr) (c1 : Nat) (A2 : Option Addr) (c2 : Nat) (A3 : Option Addr) (c3 : Nat) (hn : NodeAt w F A1 c1 A2 c2 A3 c3 n) (hf : n.fits) (hF : ∀ b, s.F b → F b) :
    Calls Tryz.prog 98 #[.pointer (some ⟨gx, 0, none⟩), n.value A1 c1 A2 c2 A3 c3] w fun e w' => e = .returned (.tuple #[.int .i64 ((v.fresh s.cap n).1 : Int), .int .i64 ((v.fresh s.cap n).2.1 : Int)]) ∧ TxAt w' s (v.fresh s.cap n).2.2 ∧ (v.fresh s.cap n).2.2.Good ∧ Ext s.F w w' := by
  have HG := Lib.hid (hg.fresh h.h2 (Sys.cap_le hs) n).1
  have HA := Lib.hid (fun o => alloc_any s hs (w.alloc o) v (h.no hs ((Ext.refl No w).alloc o)) hg)
  have HW := Lib.hid (fun w' h' hx hn => wr_any s hs w' (v.alloc s.cap).2.2 h' (hg.alloc h.h2 (Sys.cap_le hs)).1 gx i hx (v.alloc s.cap).1 n F A1 c1 A2 c2 A3 c3 hn hf)
  have c0 := hx.cell 0
  simp [treeCells] at c0
  have hgl := hx.lt
  have HN := Lib.hid hn
  have HX := Lib.hid (fun (w' : World) (e : Ext s.F w w') => tree_ext h hx e)
  have HO := Lib.hid (fun b (hb : s.F b) => h.old hb)
  unfold V.fresh at HG ⊢
  simp only [Nd.value] at HW ⊢
  generalize hnl : n.cells.length = nl at HW ⊢
  generalize hkl : n.keys.length = kl at HW ⊢
  generalize hil : n.kids.length = il at HW ⊢
  generalize hn1 : (v.alloc s.cap).1 = id at *
  generalize hn2 : (v.alloc s.cap).2.1 = k at *
  generalize hn3 : (v.alloc s.cap).2.2 = v' at *
  generalize hwr : v'.wr id n = r at *
  by_cases hk : k = 0
  · subst hk
    rw [if_pos rfl] at HG ⊢
    clear hn1 hn2 hn3 hwr hn hf hx hg h hnl hkl hil
    go_enter Tryz.func98, Tryz.ntmps98
    go_wp2_with fail
    refine (HA.out _).mono ?_
    rintro e w1 ⟨rfl, hT1, hx1⟩
    have hE : Ext s.F w w1 := ((Ext.refl s.F w).alloc _).trans_ hx1
    have hb := (Blk.new w 40 #[.bool n.leaf, .slice A1 nl c1, .slice A2 kl c2, .slice A3 il c3]).ext hx1 (fun h => absurd (HO.out _ h) (by omega))
    obtain ⟨p0, p1, p2, p3, g0, g1, g2, g3, ln⟩ := hb.p4
    go_wp2_with fail
    refine (HW.out _ hT1 (HX.out _ hE) (HN.out.ext (hE.mono (fun b _ => hF b)))).mono ?_
    rintro e w2 ⟨rfl, hT2, hG2, hx2⟩
    go_wp2_with fail
    go_ret2
    exact ⟨rfl, hT2, hG2, hE.trans_ hx2⟩
  · rw [if_neg hk] at HG ⊢
    have hk' : ((k : Int) != 0) = true := by simpa using (by omega : ¬ (k : Int) = 0)
    clear hn1 hn2 hn3 hwr hn hf hx hg h hnl hkl hil hk
    go_enter Tryz.func98, Tryz.ntmps98
    go_wp2_with fail
    refine (HA.out _).mono ?_
    rintro e w1 ⟨rfl, hT1, hx1⟩
    have hE : Ext s.F w w1 := ((Ext.refl s.F w).alloc _).trans_ hx1
    go_wp2_with fail
    go_ret2
    exact ⟨rfl, hT1, HG.out, hE⟩

end Go.Proofs.YtccnemmlkcmceaaGreatDoor

/- The tree's calls: a page is read as a node. -/
set_option linter.unusedVariables false
set_option linter.unusedSimpArgs false
namespace Go.Proofs.YtccnemmlkcmceaaGreatDoor
open Go.RowKit 

/-- Node's return: the node's block, and the number. -/
theorem node_back {Q : Ending → World → Prop} {a : Act} {w : World} (b : Nat) (cs : Array Value) (hb : Blk w b 40 cs) {v : Value} (hs : some 4 = some cs.size) (hp : a.tmps.getD 4 undef = .pointer (some ⟨b, 0, none⟩)) (h3 : a.tmps.getD 5 undef = v) (hd : a.defers = [])
    (h : Q (.returned (.tuple #[.agg cs, v])) w) : bodyPost Tryz.prog Tryz.f16 Q Exit.ret a w := by
  refine bodyPost_ret (v := .tuple #[.agg cs, v]) (w := w) ?_ hd h
  have hl := run_loadVar_row w b 40 40 cs (0, 0) _ hb Tryz.underlying40 rfl (by rw [← hs]; kernel_rfl)
  rw [results_cell_tmp rfl, hp, h3]
  simp [asAddr, Result.andThen, hl]

theorem Told.after {w w1 w2 : World} {o : Option Nd} {e : Ending} (h : Told w1 o e w2) (hx : Ext No w w1) : Told w o e w2 := by
  obtain ⟨h1, h2⟩ := h
  refine ⟨hx.trans_ h1, ?_⟩
  cases o with
  | none => exact h2
  | some n =>
    obtain ⟨A1, c1, A2, c2, A3, c3, he, hn⟩ := h2
    exact ⟨A1, c1, A2, c2, A3, c3, he, hn.mono (fun b _ hb => Nat.lt_of_lt_of_le hb hx.size)⟩

set_option maxRecDepth 100000 in
set_option maxHeartbeats 800000 in
theorem node_any (s : Sys) (hs : s.Ok) (w : World) (v : V) (h : TxAt w s v) (hg : v.Good) (gx i : Nat) (hx : Blk w gx 70 (treeCells s i)) (id : Nat) :
    Calls Tryz.prog 16 #[.pointer (some ⟨gx, 0, none⟩), .int .i64 (id : Int)] w (Told w (v.node id)) := by
  have HN := Lib.hid (none_no ⟨s.t, 0, none⟩ (.int .i64 (i : Int)) gx)
  have HR := Lib.hid (fun o => read_any s hs (w.alloc o) v (h.no hs ((Ext.refl No w).alloc o)) id)
  have HX := Lib.hid hx
  have c0 := hx.cell 0
  simp [treeCells] at c0
  have hgl := hx.lt
  unfold V.node
  by_cases he : v.err id = 0
  · have hr : v.read id = ((v.pg id).kind, (v.pg id).body, 0) := by simp [V.read, he]
    have hbd := V.good_bd hg he
    rw [if_pos he]
    rw [hr] at HR
    clear hr he
    generalize (v.pg id).kind = k at *
    generalize (v.pg id).body = b at *
    by_cases hk : k = 2
    · subst hk
      rw [if_pos rfl]
      have HD := Lib.hid (fun w => decode_any b w (by omega))
      generalize dec b = D at *
      clear hx hbd
      go_enter Tryz.func16, Tryz.ntmps16
      go_wp2_with fail
      refine (HN.out _ (HX.out.alloc _)).mono ?_
      rintro e' w1 ⟨rfl, rfl⟩
      go_wp2_with fail
      refine (HR.out _).mono ?_
      rintro e' w1 ⟨rfl, hx1⟩
      have hE1 : Ext No w w1 := ((Ext.refl No w).alloc _).trans_ hx1
      have bn := (Blk.new w 40 #[.bool false, .slice none 0 0, .slice none 0 0, .slice none 0 0]).ext hx1 (fun h => h)
      go_wp2_with fail
      refine (HD.out _).mono ?_
      rintro e' w2 ⟨hx2, hr⟩
      have bn2 := bn.ext hx2 (fun h => h)
      obtain ⟨p0, p1, p2, p3, g0, g1, g2, g3, ln⟩ := bn2.p4
      cases D with
      | none =>
        simp only at hr
        subst hr
        simp only [Nd.zero]
        go_wp2_with fail
        refine node_back w.heap.size _ (bn2.put4 (.bool false) (.slice none 0 0) (.slice none 0 0) (.slice none 0 0)) rfl rfl rfl rfl ?_
        exact ⟨((((hE1.trans_ hx2).setNew (by omega) _ _).setNew (by omega) _ _).setNew (by omega) _ _).setNew (by omega) _ _, rfl⟩
      | some n =>
        obtain ⟨A1, c1, A2, c2, A3, c3, hr, hn⟩ := hr
        subst hr
        simp only [Nd.value]
        go_wp2_with fail
        refine node_back w.heap.size _ (bn2.put4 (.bool n.leaf) (.slice A1 n.cells.length c1) (.slice A2 n.keys.length c2) (.slice A3 n.kids.length c3)) rfl rfl rfl rfl ?_
        refine ⟨((((hE1.trans_ hx2).setNew (by omega) _ _).setNew (by omega) _ _).setNew (by omega) _ _).setNew (by omega) _ _, A1, c1, A2, c2, A3, c3, rfl, ?_⟩
        have hsz := hx1.size
        simp at hsz
        have hin : Old w1 w.heap.size := by show w.heap.size < w1.heap.size; omega
        have hz : Ext (Old w1) w2 _ := ((((Ext.refl _ w2).setF hin 0 (.bool n.leaf)).setF hin 1 (.slice A1 n.cells.length c1)).setF hin 2 (.slice A2 n.keys.length c2)).setF hin 3 (.slice A3 n.kids.length c3)
        exact (hn.ext hz).mono (fun b _ hb => by unfold Old at hb ⊢; omega)
    · rw [if_neg hk]
      have hk' : ((k : Int) != 2) = true := by simpa using (by omega : ¬ (k : Int) = 2)
      clear hx hbd hk
      go_enter Tryz.func16, Tryz.ntmps16
      go_wp2_with fail
      refine (HN.out _ (HX.out.alloc _)).mono ?_
      rintro e' w1 ⟨rfl, rfl⟩
      go_wp2_with fail
      refine (HR.out _).mono ?_
      rintro e' w1 ⟨rfl, hx1⟩
      have hE1 : Ext No w w1 := ((Ext.refl No w).alloc _).trans_ hx1
      have bn := (Blk.new w 40 #[.bool false, .slice none 0 0, .slice none 0 0, .slice none 0 0]).ext hx1 (fun h => h)
      obtain ⟨p0, p1, p2, p3, g0, g1, g2, g3, ln⟩ := bn.p4
      go_wp2_with fail
      refine node_back w.heap.size _ (bn.put4 (.bool false) (.slice none 0 0) (.slice none 0 0) (.slice none 0 0)) rfl rfl rfl rfl ?_
      exact ⟨(((hE1.setNew (by omega) _ _).setNew (by omega) _ _).setNew (by omega) _ _).setNew (by omega) _ _, rfl⟩
  · have hr : v.read id = (0, [], v.err id) := by simp [V.read, he]
    rw [if_neg he]
    rw [hr] at HR
    have he' : v.err id = 2 ∨ v.err id = 8 := by
      rcases V.err_cases he with ⟨h, _⟩ | ⟨h, _⟩
      · exact .inl h
      · exact .inr h
    clear hr he hx
    generalize v.err id = k at *
    rcases he' with rfl | rfl
    all_goals
      go_enter Tryz.func16, Tryz.ntmps16
      go_wp2_with fail
      refine (HN.out _ (HX.out.alloc _)).mono ?_
      rintro e' w1 ⟨rfl, rfl⟩
      go_wp2_with fail
      refine (HR.out _).mono ?_
      rintro e' w1 ⟨rfl, hx1⟩
      have hE1 : Ext No w w1 := ((Ext.refl No w).alloc _).trans_ hx1
      have bn := (Blk.new w 40 #[.bool false, .slice none 0 0, .slice none 0 0, .slice none 0 0]).ext hx1 (fun h => h)
      obtain ⟨p0, p1, p2, p3, g0, g1, g2, g3, ln⟩ := bn.p4
      go_wp2_with fail
      refine node_back w.heap.size _ (bn.put4 (.bool false) (.slice none 0 0) (.slice none 0 0) (.slice none 0 0)) rfl rfl rfl rfl ?_
      exact ⟨(((hE1.setNew (by omega) _ _).setNew (by omega) _ _).setNew (by omega) _ _).setNew (by omega) _ _, rfl⟩

end Go.Proofs.YtccnemmlkcmceaaGreatDoor
