/- Proofs about the given program, joined out of the texts ED, EF, R0, Z2, R1, R2, R3, C0, C1, R4. -/
import Derived.Test.YtccnemmlkcmceaaGreatDoorHA13
import Derived.Deep.DeepCutAuto
/- The plain law: the look at a tree tells its pages and its height. -/
set_option linter.unusedVariables false
set_option linter.unusedSimpArgs false
namespace Go.Proofs.YtccnemmlkcmceaaGreatDoor
open Go.RowKit 

theorem lookCells_done {v : V} {low high : Bs} : ∀ {cs : List Cell} {P : List Nat} {E : List Ent} (p : Nat), CellsAt true v cs P E → (∀ c ∈ cs, inB low high c.key = true) → v.lookCells low high cs p = some (p + P.length)
  | [], P, E, p, h, _ => by obtain ⟨rfl, _⟩ := h; rfl
  | c :: cs, P, E, p, h, hb => by
    obtain ⟨P1, P2, b, E2, h1, h2, h3, rfl⟩ := h
    have hl := h3.length_eq
    rw [List.length_append] at hl
    rw [V.lookCells, if_pos (hb c (by simp)), h1.val]
    simp only
    rw [lookCells_done _ h2 (fun c hc => hb c (by simp [hc]))]
    rcases h1 with ⟨h4, rfl, _⟩ | ⟨h4, h5, h6, h7⟩
    · rw [if_neg (by omega)]
      simp at hl
      rw [hl]
    · have h8 := h7 rfl
      rw [if_pos (by omega)]
      have : max 1 ((c.len + 495) / 496) = P1.length := by omega
      rw [this, hl, Nat.add_assoc]

/-- The kids with their bounds. -/
def trip : Bs → List (Nat × Bs) → List (Nat × Bs × Bs)
  | _, [] => []
  | lo, (k, x) :: l => (k, lo, x) :: trip x l
theorem trip_zip : ∀ (l : List (Nat × Bs)) (lo : Bs), (l.map (·.1)).zip ((lo :: (l.map (·.2)).dropLast).zip (l.map (·.2))) = trip lo l
  | [], lo => rfl
  | (k, x) :: l, lo => by
    have ih := trip_zip l x
    cases l with
    | nil => rfl
    | cons q l =>
      simp only [List.map_cons, trip] at ih ⊢
      rw [List.dropLast_cons_of_ne_nil (by simp)]
      simp only [List.zip_cons_cons]
      congr 1

theorem lookKids_done {v : V} {h k deep D : Nat} {low high : Bs}
    (IH : ∀ id lo hi P E p d, Sub true v h false id lo hi P E → p + P.length ≤ 65536 → (d = none ∨ d = some D) → v.look k id deep lo hi (p, d) = some (p + P.length, some D)) :
    ∀ (l : List (Nat × Bs)) (lo : Bs) (first : Bool) (P : List Nat) (E : List Ent) (p : Nat) (d : Option Nat), Run (Sub true v h false) lo l P E → (first = false → inB low high lo = true) → (∀ x ∈ (l.map (·.2)).dropLast, inB low high x = true) → p + P.length ≤ 65536 → (d = none ∨ d = some D) →
      lookKids (fun kid lo hi s => v.look k kid deep lo hi s) low high first (trip lo l) (p, d) = some (p + P.length, if l = [] then d else some D)
  | [], lo, first, P, E, p, d, hr, _, _, _, _ => by obtain ⟨rfl, _⟩ := hr; simp [trip, lookKids]
  | (q, x) :: l, lo, first, P, E, p, d, hr, hf, hx, hp, hd => by
    obtain ⟨P1, P2, E1, E2, h1, h2, h3, rfl⟩ := hr
    have hl := h3.length_eq
    rw [List.length_append] at hl
    rw [trip, lookKids, if_neg (by rintro ⟨a, b⟩; rw [hf a] at b; cases b), IH q lo x P1 E1 p d h1 (by omega) hd]
    simp only
    cases l with
    | nil =>
      obtain ⟨rfl, _⟩ := h2
      simp [trip, lookKids]
      simpa using hl.symm
    | cons r l =>
      have hx' : inB low high x = true := hx x (by simp only [List.map_cons]; rw [List.dropLast_cons_of_ne_nil (by simp)]; simp)
      rw [lookKids_done IH (r :: l) x false P2 E2 (p + P1.length) (some D) h2 (fun _ => hx') (fun y hy => hx y (by
        simp only [List.map_cons] at hy ⊢
        rw [List.dropLast_cons_of_ne_nil (by simp)]
        exact List.mem_cons_of_mem _ hy)) (by omega) (.inr rfl)]
      simp
      omega

/-- The look at a tree's part. -/
theorem look_done {v : V} : ∀ (h k id deep : Nat) (rt : Bool) (lo hi : Bs) (P : List Nat) (E : List Ent) (p : Nat) (d : Option Nat), Sub true v h rt id lo hi P E → h < k → deep + h ≤ 40 → p + P.length ≤ 65536 → (d = none ∨ d = some (deep + h)) →
    v.look k id deep lo hi (p, d) = some (p + P.length, some (deep + h))
  | 0, k + 1, id, deep, rt, lo, hi, P, E, p, d, hs, hk, hd, hp, hdd => by
    obtain ⟨n, Q, h1, h2, h3, h4, h5⟩ := hs
    have hl := h3.length_eq
    rw [List.length_cons] at hl
    rw [V.look, h1]
    simp only
    rw [if_neg (by omega), lookCells_done _ h5.2 h4.1]
    simp only
    rw [if_pos h5.1, if_neg]
    · simp; omega
    · rintro (⟨a, b⟩ | a)
      · rcases hdd with rfl | rfl
        · cases a
        · exact b rfl
      · exact (h2.1 h5.1).1 (List.length_eq_zero_iff.1 a)
  | h + 1, k + 1, id, deep, rt, lo, hi, P, E, p, d, hs, hk, hd, hp, hdd => by
    obtain ⟨n, Q, h1, h2, h3, h4, h5, l, l1, l2, h6⟩ := hs
    have hl := h3.length_eq
    rw [List.length_cons] at hl
    have hc := ((Nd.Ok.of (V.node_ok h1)).br h5).1
    rw [V.look, h1]
    simp only
    rw [if_neg (by omega), hc, V.lookCells]
    simp only
    rw [h5]
    simp only [Bool.false_eq_true, if_false]
    have e : n.kids.zip ((lo :: n.keys).zip (n.keys ++ [hi])) = trip lo l := by
      rw [l1, l2, ← drop_last_keys l2]; exact trip_zip l lo
    rw [e, lookKids_done (D := deep + (h + 1)) (fun id lo hi P E p d hs hp hd => by
      have := look_done h k id (deep + 1) false lo hi P E p d hs (by omega) (by omega) hp (by rw [show deep + 1 + h = deep + (h + 1) from by omega]; exact hd)
      rw [this, show deep + 1 + h = deep + (h + 1) from by omega]) l lo true Q E (p + 1) d h6 (fun h => by cases h) (fun x hx => by
        rw [drop_last_keys l2] at hx
        exact (h4.2 x hx).inB) (by omega) hdd]
    rw [if_neg (pairs_ne l2)]
    simp; omega

theorem survey_done {v : V} {root : Nat} {P : List Nat} {E : List Ent} (hT : TreeOf true v root P E) (hp : P.length ≤ 65000) : ∃ d, v.survey root = some (P.length, d) := by
  unfold V.survey
  rcases hT with ⟨h0, rfl, rfl⟩ | ⟨h, hh, hs⟩
  · rw [if_pos h0]; exact ⟨_, rfl⟩
  · have h0 : v.r root ≠ 0 := by
      obtain ⟨n, Q, h1, _⟩ := Sub.iff.1 hs
      have := (V.err_iff v _).1 (V.node_us h1)
      omega
    rw [if_neg h0, look_done h 42 (v.r root) 0 true [] [] P E 0 none hs (by omega) (by omega) (by omega) (.inl rfl)]
    exact ⟨some (0 + h), by rw [Nat.zero_add P.length]⟩

end Go.Proofs.YtccnemmlkcmceaaGreatDoor

/- The plain law: what the look lets by is a tree. -/
set_option linter.unusedVariables false
set_option linter.unusedSimpArgs false
namespace Go.Proofs.YtccnemmlkcmceaaGreatDoor
open Go.RowKit 

theorem lookCells_sound {v : V} {low high : Bs} : ∀ {cs : List Cell} (p p' : Nat), v.lookCells low high cs p = some p' → (∃ P E, CellsAt false v cs P E) ∧ ∀ c ∈ cs, inB low high c.key = true
  | [], p, p', h => ⟨⟨[], [], rfl, rfl⟩, by simp⟩
  | c :: cs, p, p', h => by
    rw [V.lookCells] at h
    split at h
    · rename_i hb
      cases hv : v.value c with
      | none => rw [hv] at h; cases h
      | some b =>
        rw [hv] at h
        simp only at h
        obtain ⟨⟨P, E, h1⟩, h2⟩ := lookCells_sound _ _ h
        obtain ⟨P1, h3⟩ := CellAt.of_val hv
        refine ⟨⟨P1 ++ P, (c.key, b) :: E, P1, P, b, E, h3, h1, List.Perm.refl _, rfl⟩, fun d hd => ?_⟩
        rcases List.mem_cons.1 hd with rfl | hd
        · exact hb
        · exact h2 d hd
    · cases h

/-- Bounds of kids that have something rise. -/
theorem Run.above {S : Nat → Bs → Bs → List Nat → List Ent → Prop} (hS : ∀ k a b Q F, S k a b Q F → Told2 a b F) :
    ∀ {l : List (Nat × Bs)} {lo : Bs} {P : List Nat} {E : List Ent}, Run S lo l P E → (∀ x ∈ (l.map (·.2)).dropLast, x ≠ []) → ∀ x ∈ l.map (·.2), x = [] ∨ klt lo x = true
  | [], lo, P, E, h, _, x, hx => by simp at hx
  | (k, y) :: l, lo, P, E, h, hne, x, hx => by
    obtain ⟨P1, P2, E1, E2, h1, h2, h3, rfl⟩ := h
    obtain ⟨a1, a2, _⟩ := hS _ _ _ _ _ h1
    obtain ⟨e, E1', rfl⟩ := List.exists_cons_of_ne_nil a1
    have he := inB_iff.1 (a2 e (by simp))
    have hy : y = [] ∨ klt lo y = true := he.2.imp (fun h => h) (fun h => kle_lt he.1 h)
    rcases List.mem_cons.1 hx with rfl | hx
    · exact hy
    · have hl : l ≠ [] := by rintro rfl; simp at hx
      have hyne : y ≠ [] := hne y (by simp only [List.map_cons]; rw [List.dropLast_cons_of_ne_nil (by simpa using hl)]; simp)
      have h4 := Run.above hS h2 (fun z hz => hne z (by
        simp only [List.map_cons]
        rw [List.dropLast_cons_of_ne_nil (by simpa using hl)]
        exact List.mem_cons_of_mem _ hz)) x hx
      exact h4.imp (fun h => h) (fun h => klt_trans (hy.resolve_left hyne) h)

theorem lookKids_sound {v : V} {k deep : Nat} {low high : Bs}
    (IH : ∀ id lo hi p d p' d', v.look k id deep lo hi (p, d) = some (p', d') → ∃ h P E, d' = some (deep + h) ∧ (d = none ∨ d = d') ∧ Sub false v h false id lo hi P E) :
    ∀ (l : List (Nat × Bs)) (lo : Bs) (first : Bool) (p : Nat) (d : Option Nat) (p' : Nat) (d' : Option Nat), lookKids (fun kid lo hi s => v.look k kid deep lo hi s) low high first (trip lo l) (p, d) = some (p', d') → l ≠ [] →
      ∃ h P E, d' = some (deep + h) ∧ (d = none ∨ d = d') ∧ Run (Sub false v h false) lo l P E ∧ (first = false → inB low high lo = true) ∧ ∀ x ∈ (l.map (·.2)).dropLast, inB low high x = true
  | [], lo, first, p, d, p', d', hk, hl => absurd rfl hl
  | (q, x) :: l, lo, first, p, d, p', d', hk, _ => by
    rw [trip, lookKids] at hk
    split at hk
    · cases hk
    · rename_i hb
      have hfb : first = false → inB low high lo = true := fun hf => by
        cases hib : inB low high lo
        · exact absurd ⟨hf, hib⟩ hb
        · rfl
      cases hlk : v.look k q deep lo x (p, d) with
      | none => rw [hlk] at hk; cases hk
      | some r =>
        obtain ⟨p1, d1⟩ := r
        rw [hlk] at hk
        simp only at hk
        obtain ⟨h, P1, E1, e1, e2, h1⟩ := IH _ _ _ _ _ _ _ hlk
        cases l with
        | nil =>
          simp only [trip, lookKids, Option.some.injEq, Prod.mk.injEq] at hk
          obtain ⟨rfl, rfl⟩ := hk
          exact ⟨h, P1, E1, e1, e2, Run.one.2 ⟨_, h1, List.Perm.refl _⟩, hfb, by simp⟩
        | cons r l =>
          obtain ⟨h', P2, E2, f1, f2, f3, f4, f5⟩ := lookKids_sound IH (r :: l) x false p1 d1 p' d' hk (by simp)
          have hd : d1 = d' := f2.resolve_left (by rw [e1]; simp)
          have hh : h' = h := by
            rw [hd, f1] at e1
            injection e1 with e1
            omega
          subst hh
          refine ⟨h', P1 ++ P2, E1 ++ E2, f1, by rw [← hd]; exact e2, ⟨P1, P2, E1, E2, h1, f3, List.Perm.refl _, rfl⟩, hfb, fun y hy => ?_⟩
          simp only [List.map_cons] at hy f5
          rw [List.dropLast_cons_of_ne_nil (by simp)] at hy
          rcases List.mem_cons.1 hy with rfl | hy
          · exact f4 rfl
          · exact f5 y hy

theorem look_sound {v : V} : ∀ (k id deep : Nat) (lo hi : Bs) (p : Nat) (d : Option Nat) (p' : Nat) (d' : Option Nat), v.look k id deep lo hi (p, d) = some (p', d') → ∃ h P E, d' = some (deep + h) ∧ (d = none ∨ d = d') ∧ Sub false v h false id lo hi P E
  | 0, id, deep, lo, hi, p, d, p', d', h => by cases h
  | k + 1, id, deep, lo, hi, p, d, p', d', h => by
    rw [V.look] at h
    cases hn : v.node id with
    | none => rw [hn] at h; cases h
    | some n =>
      rw [hn] at h
      simp only at h
      split at h
      · cases h
      · cases hc : v.lookCells lo hi n.cells (p + 1) with
        | none => rw [hc] at h; cases h
        | some pc =>
          rw [hc] at h
          simp only at h
          obtain ⟨⟨P, E, h1⟩, h2⟩ := lookCells_sound _ _ hc
          cases hl : n.leaf with
          | true =>
            rw [hl] at h
            simp only [if_true] at h
            split at h
            · cases h
            · rename_i hb
              injection h with h
              injection h with h3 h4
              subst h4
              refine ⟨0, id :: P, E, rfl, ?_, n, P, hn, ⟨fun _ => ⟨fun e => hb (.inr (by rw [e]; rfl)), fun h => (by cases h)⟩, fun h => (by rw [hl] at h; cases h)⟩, List.Perm.refl _, ⟨h2, by rw [((Nd.Ok.of (V.node_ok hn)).lf hl).1]; simp⟩, hl, h1⟩
              cases d with
              | none => exact .inl rfl
              | some d0 =>
                right
                rcases Classical.em (some d0 = some deep) with h | h
                · exact h
                · exact absurd (.inl ⟨rfl, h⟩) hb
          | false =>
            rw [hl] at h
            simp only [Bool.false_eq_true, if_false] at h
            have hO := Nd.Ok.of (V.node_ok hn)
            have hkk := (hO.br hl).2
            obtain ⟨l, hl1, hl2⟩ : ∃ l : List (Nat × Bs), n.kids = l.map (·.1) ∧ n.keys ++ [hi] = l.map (·.2) := by
              refine ⟨n.kids.zip (n.keys ++ [hi]), ?_, ?_⟩
              · rw [List.map_fst_zip]; simp; omega
              · rw [List.map_snd_zip]; simp; omega
            have e : n.kids.zip ((lo :: n.keys).zip (n.keys ++ [hi])) = trip lo l := by
              rw [hl1, hl2, ← drop_last_keys hl2]; exact trip_zip l lo
            rw [e] at h
            obtain ⟨h', P2, E2, f1, f2, f3, _, f5⟩ := lookKids_sound (fun id lo hi p d p' d' hh => look_sound k id (deep + 1) lo hi p d p' d' hh) l lo true pc d p' d' h (pairs_ne hl2)
            have hne := keys_ne (V.node_ok hn)
            rw [drop_last_keys hl2] at f5
            have hab := Run.above (fun _ _ _ _ _ hs => Sub.told hs) f3 (by rw [drop_last_keys hl2]; exact hne)
            refine ⟨h' + 1, id :: P2, E2, by rw [f1]; congr 1; omega, f2, n, P2, hn, ⟨fun h => (by rw [hl] at h; cases h), fun _ h => (by cases h)⟩, List.Perm.refl _, ⟨by rw [(hO.br hl).1]; simp, fun x hx => ?_⟩, hl, l, hl1, hl2, f3⟩
            have hx2 := hab x (by rw [← hl2]; simp [hx])
            exact ⟨hx2.resolve_left (hne x hx), (inB_iff.1 (f5 x hx)).2⟩
theorem survey_sound {v : V} {root p : Nat} {d : Option Nat} (h : v.survey root = some (p, d)) (hd : ∀ x, d = some x → x < 40) : ∃ P E, TreeOf false v root P E := by
  unfold V.survey at h
  split at h
  · rename_i h0
    exact ⟨[], [], .inl ⟨h0, rfl, rfl⟩⟩
  · obtain ⟨h', P, E, e1, _, hs⟩ := look_sound _ _ _ _ _ _ _ _ _ h
    exact ⟨P, E, .inr ⟨h', by have := hd _ e1; omega, hs.root⟩⟩

end Go.Proofs.YtccnemmlkcmceaaGreatDoor

/- The document's answer (package ref): may; what an act puts. -/
set_option linter.unusedVariables false
set_option linter.unusedSimpArgs false
namespace Go.Proofs.YtccnemmlkcmceaaGreatDoor
open Go.RowKit 

set_option maxHeartbeats 400000 in
theorem refmay_any (w : World) (key val : Bs) :
    Calls Tryz.prog 77 #[.string (str key), .string (str val)] w fun e w' => e = .returned (.int .i64 (may key val : Int)) ∧ w = w' := by
  have hk := str_size key
  have hv := str_size val
  cases key with
  | nil =>
    go_enter Tryz.func77, Tryz.ntmps77
    go_wp2_with fail
    go_ret
    exact ⟨rfl, rfl⟩
  | cons a key =>
    have hne : (a :: key).isEmpty = false := rfl
    have hm : may (a :: key) val = if 140 < (a :: key).length ∨ 16384 < val.length then 3 else 0 := by simp [may]
    rw [hm]
    have hn2 := str_ne_nil (s := a :: key) (by simp)
    generalize a :: key = k at *
    clear hm
    by_cases h1 : 140 < k.length
    · rw [if_pos (.inl h1)]
      go_enter Tryz.func77, Tryz.ntmps77
      go_wp2_with fail
      go_ret
      exact ⟨rfl, rfl⟩
    · by_cases h2 : 16384 < val.length
      · rw [if_pos (.inr h2)]
        go_enter Tryz.func77, Tryz.ntmps77
        go_wp2_with fail
        go_ret
        exact ⟨rfl, rfl⟩
      · rw [if_neg (by simp; omega)]
        go_enter Tryz.func77, Tryz.ntmps77
        go_wp2_with fail
        go_ret
        exact ⟨rfl, rfl⟩

end Go.Proofs.YtccnemmlkcmceaaGreatDoor

/- A page's bytes, as a new disk has them. -/
set_option linter.unusedVariables false
set_option linter.unusedSimpArgs false
namespace Go.Proofs.YtccnemmlkcmceaaGreatDoor
open Go.RowKit Go.BigFrame

theorem str_app (a b : List UInt8) : str a ++ str b = str (a ++ b) := by
  apply ByteArray.ext
  simp [str, ByteArray.data_append]
theorem zs_app (a b : Nat) : zs a ++ zs b = zs (a + b) := by simp [zs]

set_option maxRecDepth 100000 in
set_option maxHeartbeats 800000 in
theorem image_zero (x d kb n log id : Nat) (w : World) (x0 : w.cell? ⟨x, 0, none⟩ = some (.pointer (some ⟨d, 0, none⟩))) (x2 : w.cell? ⟨x, 2, none⟩ = some (.int .i64 (log : Int)))
    (h : Blk w d 140 (diskCells kb n)) (hk : Blk w kb 142 (madeCells zero64 (n * 64))) (hn : n ≤ 65536) (hi : log + id * 8 + 8 ≤ n) :
    Calls Tryz.prog 83 #[.pointer (some ⟨x, 0, none⟩), .int .i64 (id : Int)] w fun e w' => e = .returned (.tuple #[.string (str (zs 512)), .int .i64 0]) ∧ Ext No w w' := by
  have HD := Lib.hid h; have HK := Lib.hid hk
  have HR := Lib.hid (fun k (hk8 : k < 8) w (h : Blk w d 140 (diskCells kb n)) (hk : Blk w kb 142 (madeCells zero64 (n * 64))) => (show ((log + id * 8 + k : Nat) : Int) = (log : Int) + (id : Int) * 8 + (k : Int) by omega) ▸ disk_read d kb n (log + id * 8 + k) (by omega) hn w h hk)
  obtain ⟨z, hz⟩ : ∃ z, z = str (zs 64) := ⟨_, rfl⟩
  rw [← hz] at HR
  have HZ := Lib.hid hz
  clear h hk hz
  go_enter Tryz.func83, Tryz.ntmps83
  go_wp2_with fail
  go_loopg [6, 10] 8 (fun gk s k wr => ∃ K : Nat, K + gk = 8 ∧ k = .int .i64 (K : Int) ∧ s = .string (str (List.replicate (K * 64) 0)) ∧ Ext No w wr)
  case atStart => exact ⟨0, rfl, rfl, rfl, Ext.refl _ _⟩
  case round =>
    obtain ⟨K, hK, rfl, rfl, hE⟩ := hrel
    have y0 := cell_ext hE x0 (fun h => h)
    have y2 := cell_ext hE x2 (fun h => h)
    have l0 := World.block_lt_of_cell? wr _ y0
    simp only at l0
    have HE := Lib.hid hE
    have HKK := Lib.hid hK
    clear hE
    by_cases h8 : K < 8
    · have HR1 := Lib.hid (fun (i : Upd wr) => HR.out K h8 (up wr i) (HD.out.ext (HE.out.trans_ (up_ext wr i)) (fun h => h)) (HK.out.ext (HE.out.trans_ (up_ext wr i)) (fun h => h)))
      have h8' : (K : Int) < 8 := by omega
      have b1 : (log : Int) + (id : Int) * 8 + K < 65536 := by omega
      have b2 : (0 : Int) ≤ (log : Int) + (id : Int) * 8 + K := by omega
      clear hK h8 hi
      go_wp2_with fail
      refine wp_region_up (by kernel_rfl) (by kernel_rfl) ?_; (repeat (go_big_quiet_step ((go_at_call 119; exact Calls.up_of (HR1.out _))))); refine wpQuiet_nil ?_; intro _ hw'; obtain ⟨⟨wq, hq⟩, hw''⟩ := hw'; change _ = wq at hw''; subst hw''
      clear HR HD HK HR1 b1 b2 hn x0 x2 y0 y2 l0
      have hzs : z.size = 64 := by rw [HZ.out, str_size, zs_len]
      have hK7 : K * 64 ≤ 448 := by omega
      go_wp2_with fail

      go_roundg (gk - 1)
      case rel => exact ⟨K + 1, by have := HKK.out; omega, by go_num, by rw [HZ.out, str_app]; show Value.string (str (zs (K * 64) ++ zs 64)) = Value.string (str (zs ((K + 1) * 64))); rw [zs_app, Nat.succ_mul], HE.out.trans_ hq⟩
      case measure => have := HKK.out; omega
    · have hK8 : K = 8 := by omega
      subst hK8
      clear hK h8 hi
      go_wp2_with fail
      go_ret2
      exact ⟨rfl, HE.out⟩

end Go.Proofs.YtccnemmlkcmceaaGreatDoor

/- What an act puts. -/
set_option linter.unusedVariables false
set_option linter.unusedSimpArgs false
namespace Go.Proofs.YtccnemmlkcmceaaGreatDoor
open Go.RowKit 

/-- A call of a law: its kind, its count, key and value. -/
structure Ac where
  kind : Int
  n : Int
  key : Bs
  val : Bs
def Ac.vals (a : Ac) : List Value := [.int .i64 a.kind, .int .i64 a.n, .string (str a.key), .string (str a.val)]
def Ac.agg (a : Ac) : Value := .agg #[.int .i64 a.kind, .int .i64 a.n, .string (str a.key), .string (str a.val)]
def rep (s : Bs) : Nat → Bs
  | 0 => []
  | k + 1 => rep s k ++ s
def times (n : Int) : Nat := ((n.tmod 5 + 5).tmod 5).toNat + 1
def Ac.value (a : Ac) : Bs := rep (a.val.take 400) (times a.n)
theorem rep_len (s : Bs) (k : Nat) : (rep s k).length = k * s.length := by
  induction k with
  | zero => simp [rep]
  | succ k ih => rw [rep, List.length_append, ih, Nat.succ_mul]
theorem times_le (n : Int) : 1 ≤ times n ∧ times n ≤ 5 ∧ ((n.tmod 5 + 5).tmod 5) = ((times n : Int) - 1) := by
  have h1 : -5 < n.tmod 5 ∧ n.tmod 5 < 5 := ⟨by have := Int.lt_tmod_of_pos n (show (0:Int) < 5 by decide); omega, Int.tmod_lt_of_pos n (by decide)⟩
  have h2 : 0 ≤ (n.tmod 5 + 5).tmod 5 := Int.tmod_nonneg _ (by omega)
  have h3 : (n.tmod 5 + 5).tmod 5 < 5 := Int.tmod_lt_of_pos _ (by decide)
  unfold times
  omega
theorem Ac.value_le (a : Ac) : a.value.length ≤ 2000 := by
  unfold Ac.value
  rw [rep_len, List.length_take]
  have := (times_le a.n).2.1
  calc times a.n * min 400 a.val.length ≤ 5 * 400 := Nat.mul_le_mul this (by omega)
    _ = 2000 := rfl

set_option maxRecDepth 100000 in
set_option maxHeartbeats 800000 in
theorem value_walk (a : Ac) (hn : -(2:Int)^63 ≤ a.n ∧ a.n < 2^63) (hl : a.val.length < 2^63) (w : World) :
    Calls Tryz.prog 26 #[a.agg] w fun e w' => e = .returned (.string (str a.value)) ∧ Ext No w w' := by
  obtain ⟨kind, n, key, val⟩ := a
  simp only [Ac.agg, Ac.value]
  have hv := str_size val
  obtain ⟨t1, t2, t3⟩ := times_le n
  have t4 : -5 < n.tmod 5 ∧ n.tmod 5 < 5 := ⟨by have := Int.lt_tmod_of_pos n (show (0:Int) < 5 by decide); omega, Int.tmod_lt_of_pos n (by decide)⟩
  have hex : (str val).extract 0 (min (val.length : Int) 400).toNat = str (val.take 400) := by
    rw [str_take]
    congr 1
    rw [show (min (val.length : Int) 400).toNat = min 400 val.length by omega, ← List.take_take, List.take_length]
  have hsl : (val.take 400).length ≤ 400 := by rw [List.length_take]; omega
  obtain ⟨O, hO⟩ : ∃ O, O = str (rep (val.take 400) (times n)) := ⟨_, rfl⟩
  rw [← hO]
  go_enter Tryz.func26, Tryz.ntmps26
  go_wp2_with fail
  rw [show (1 + ((times n : Int) - 1)) = (times n : Int) by omega]
  have hE0 : Ext No w (w.alloc (.cells #[.int .i64 kind, .int .i64 n, .string (str key), .string (str val)] 53)) := (Ext.refl No w).alloc _
  generalize val.take 400 = s at *
  generalize w.alloc (.cells #[.int .i64 kind, .int .i64 n, .string (str key), .string (str val)] 53) = W at *
  generalize times n = T at *
  go_loopg [4, 18] T (fun gk o i wr => ∃ (k : Nat), k + gk = T ∧ o = .string (str (rep s k)) ∧ i = .int .i64 (k : Int) ∧ W = wr)
  case atStart => exact ⟨0, by omega, rfl, rfl, rfl⟩
  case round =>
    obtain ⟨k, hk, rfl, rfl, rfl⟩ := hrel
    by_cases hlt : k < T
    · have e1 := str_size (rep s k)
      have e2 := str_size s
      rw [rep_len] at e1
      have e3 : k * s.length ≤ 5 * 400 := Nat.mul_le_mul (by omega) (by omega)
      generalize k * s.length = m at e1 e3
      have e4 := str_app (rep s k) s
      have e5 : str (rep s (k + 1)) = str (rep s k ++ s) := rfl
      go_wp2_with fail
      go_roundg (gk - 1)
      case rel => exact ⟨k + 1, by omega, by rw [e5, ← e4], by go_num, rfl⟩
      case measure => omega
    · have : k = T := by omega
      subst this
      go_wp2_with fail
      go_ret
      exact ⟨by rw [hO]; rfl, hE0⟩

end Go.Proofs.YtccnemmlkcmceaaGreatDoor

/- The document's map in memory; its Get. -/
set_option linter.unusedVariables false
set_option linter.unusedSimpArgs false
namespace Go.Proofs.YtccnemmlkcmceaaGreatDoor
open Go.RowKit 

def entVals (E : List Ent) : List Value := E.flatMap fun e => [.string (str e.1), .string (str e.2)]
theorem entVals_cons (e : Ent) (E : List Ent) : entVals (e :: E) = [.string (str e.1), .string (str e.2)] ++ entVals E := rfl
theorem entVals_append (a b : List Ent) : entVals (a ++ b) = entVals a ++ entVals b := by simp [entVals]
theorem entVals_len (E : List Ent) : (entVals E).length = E.length * 2 := by
  induction E with
  | nil => rfl
  | cons e E ih => rw [entVals_cons, List.length_append, ih]; simp; omega
theorem entVals_at : ∀ (E : List Ent) (i : Nat) (e : Ent), E[i]? = some e → (entVals E)[i * 2]? = some (.string (str e.1)) ∧ (entVals E)[i * 2 + 1]? = some (.string (str e.2))
  | d :: E, 0, e, h => by
    have : d = e := by simpa using h
    subst this; exact ⟨rfl, rfl⟩
  | d :: E, i + 1, e, h => by
    have h' : E[i]? = some e := by simpa using h
    obtain ⟨h1, h2⟩ := entVals_at E i e h'
    rw [entVals_cons]
    rw [show (i + 1) * 2 = i * 2 + 2 by omega]
    exact ⟨h1, h2⟩

theorem Rd.entAt {w : World} {F : Nat → Prop} {A : Option Addr} {E : List Ent} (h : Rd w F 2 A E.length (entVals E)) {i : Nat} {e : Ent} (hc : E[i]? = some e) :
    ∃ b o, A = some ⟨b, o, none⟩ ∧ ¬ F b ∧ w.cell? ⟨b, o + i * 2, none⟩ = some (.string (str e.1)) ∧ w.cell? ⟨b, o + i * 2 + 1, none⟩ = some (.string (str e.2)) := by
  have hi : i < E.length := (List.getElem?_eq_some_iff.1 hc).1
  obtain ⟨b, o, e1, hb, hx⟩ := h.2 (by omega)
  obtain ⟨h1, h2⟩ := entVals_at E i e hc
  refine ⟨b, o, e1, hb, hx _ _ h1, ?_⟩
  have := hx _ _ h2
  rw [← Nat.add_assoc] at this; exact this

/-- A map of the document's lies at g: its entries. -/
structure RefAt (w : World) (F : Nat → Prop) (A : Option Addr) (c : Nat) (E : List Ent) : Prop where
  rd : Rd w F 2 A E.length (entVals E)
  l : E.length ≤ c
  n : A = none → c = 0
  b : E.length < 65536
theorem RefAt.ext {w w' : World} {F : Nat → Prop} {A : Option Addr} {c : Nat} {E : List Ent} (h : RefAt w F A c E) (he : Ext F w w') : RefAt w' F A c E := ⟨h.rd.ext he, h.l, h.n, h.b⟩
theorem RefAt.mono {w : World} {F G : Nat → Prop} {A : Option Addr} {c : Nat} {E : List Ent} (h : RefAt w F A c E) (hG : ∀ b, b < w.heap.size → G b → F b) : RefAt w G A c E := ⟨h.rd.mono (by decide) hG, h.l, h.n, h.b⟩

/-- Get's answer. -/
def refGet (E : List Ent) (key : Bs) : Ending :=
  if may key [] = 0 then (match E.lookup key with
    | some b => .returned (.tuple #[.string (str b), .bool true, .int .i64 0])
    | none => .returned (.tuple #[.string (str []), .bool false, .int .i64 0]))
  else .returned (.tuple #[.string (str []), .bool false, .int .i64 (may key [] : Int)])

set_option maxRecDepth 100000 in
set_option maxHeartbeats 800000 in
theorem refget_any (w : World) (g : Nat) (A : Option Addr) (c : Nat) (E : List Ent) (key : Bs) (hg : Blk w g 32 #[.slice A E.length c]) (hr : RefAt w No A c E) :
    Calls Tryz.prog 65 #[.pointer (some ⟨g, 0, none⟩), .string (str key)] w fun e w' => e = refGet E key ∧ w = w' := by
  have HM := Lib.hid (fun w => refmay_any w key [])
  have c0 := hg.cell 0
  have hb := hr.b
  have hl := hr.l
  simp at c0
  have HR := Lib.hid hr
  have HG := Lib.hid hg
  clear hr hg
  by_cases hm : may key [] = 0
  · rw [hm] at HM
    obtain ⟨D, hD⟩ : ∃ D, D = refGet E key := ⟨_, rfl⟩
    rw [← hD]
    simp only [refGet, hm, if_true] at hD
    go_enter Tryz.func65, Tryz.ntmps65
    go_wp2_with fail
    refine (HM.out _).mono ?_
    rintro e w1 ⟨rfl, rfl⟩
    go_wp2_with fail
    go_loopg [8] E.length (fun gk i wr => ∃ (k : Nat), k + gk = E.length ∧ i = .int .i64 (k : Int) ∧ Hid (E.lookup key = (E.drop k).lookup key) ∧ w = wr)
    case atStart => exact ⟨0, by omega, rfl, Lib.hid rfl, rfl⟩
    case round =>
      obtain ⟨k, hk, rfl, hd, rfl⟩ := hrel
      by_cases hlt : k < E.length
      · obtain ⟨e, he⟩ : ∃ e, E[k]? = some e := ⟨_, List.getElem?_eq_getElem hlt⟩
        obtain ⟨b, o, rfl, _, k0, k1⟩ := HR.out.rd.entAt he
        have lc := World.block_lt_of_cell? w _ k0
        simp only at lc
        have hdr : E.drop k = e :: E.drop (k + 1) := by
          rw [List.drop_eq_getElem_cons hlt]
          congr 1
          exact (List.getElem?_eq_some_iff.1 he).2
        have hlt' : (k : Int) < (E.length : Int) := by omega
        by_cases hek : e.1 = key
        · have hq : (e.1 == key) = true := by simpa using hek
          have hf : E.lookup key = some e.2 := by
            rw [hd.out, hdr]
            obtain ⟨a, b⟩ := e
            simp only at hek
            subst hek
            simp [List.lookup]
          rw [hf] at hD
          simp only at hD
          generalize E.length = El at *
          go_wp2_with fail
          go_ret3
          exact ⟨hD.symm, rfl⟩
        · have hq : (e.1 == key) = false := by simpa using hek
          have hf : (E.drop k).lookup key = (E.drop (k + 1)).lookup key := by
            rw [hdr]
            obtain ⟨a, b⟩ := e
            have : (key == a) = false := by simpa using fun h => hek h.symm
            simp [List.lookup, this]
          have hd2 := Lib.hid (hd.out.trans hf)
          have hK : Hid (k + gk = E.length) := Lib.hid hk
          generalize E.length = El at *
          go_wp2_with fail
          go_roundg (gk - 1)
          case rel => exact ⟨k + 1, by have := hK.out; omega, by go_num, hd2, rfl⟩
          case measure => have := hK.out; omega
      · have hk' : k = E.length := by omega
        have hf : E.lookup key = none := by rw [hd.out, hk', List.drop_length]; rfl
        rw [hf] at hD
        simp only at hD
        subst hk'
        go_wp2_with fail
        go_ret3
        exact ⟨hD.symm, rfl⟩
  · have hD : refGet E key = .returned (.tuple #[.string (str []), .bool false, .int .i64 (may key [] : Int)]) := by rw [refGet, if_neg hm]
    rw [hD]
    generalize may key [] = q at *
    go_enter Tryz.func65, Tryz.ntmps65
    go_wp2_with fail
    refine (HM.out _).mono ?_
    rintro e w1 ⟨rfl, rfl⟩
    have hq : ((q : Int) == 0) = false := by simpa using hm
    go_wp2_with fail
    go_ret3
    exact ⟨rfl, rfl⟩

end Go.Proofs.YtccnemmlkcmceaaGreatDoor

/- The document's map: Delete. -/
set_option linter.unusedVariables false
set_option linter.unusedSimpArgs false
namespace Go.Proofs.YtccnemmlkcmceaaGreatDoor
open Go.RowKit 

theorem Tryz.info49 : (Tryz.prog.info? 49).map (fun i => (i.zero, i.size, i.bytes)) = some (some (.agg #[.string ⟨#[]⟩, .string ⟨#[]⟩]), 2, 32) := by kernel_rfl
theorem own_pushE {w : World} {base g cap : Nat} {es : List Ent} {e : Ent} (h : w.ownsRow base 49 2 (.slice (some ⟨g, 0, none⟩) (es.length + 1) cap) (es.length + 1) (entVals es ++ [.string (str e.1), .string (str e.2)])) :
    w.ownsRow base 49 2 (.slice (some ⟨g, 0, none⟩) (es ++ [e]).length cap) (es ++ [e]).length (entVals (es ++ [e])) := by
  rw [List.length_append, entVals_append]; exact h
theorem del_snoc (key : Bs) (E : List Ent) (e : Ent) : del key (E ++ [e]) = if e.1 = key then del key E else del key E ++ [e] := by
  simp [del]; split <;> simp_all
theorem take_snoc {E : List Ent} {k : Nat} {e : Ent} (he : E[k]? = some e) : E.take (k + 1) = E.take k ++ [e] := by
  rw [List.take_add_one, he]; rfl
theorem del_len (key : Bs) (E : List Ent) : (del key E).length ≤ E.length := List.length_filter_le _ _

/-- Delete's answer, and the map behind it. -/
structure RefDid (w : World) (g : Nat) (e0 : Ending) (E' : List Ent) (e : Ending) (w' : World) : Prop where
  e : e = e0
  x : Ext (On g) w w'
  m : ∃ A' c', Blk w' g 32 #[.slice A' E'.length c'] ∧ RefAt w' (Lo w.heap.size) A' c' E'

set_option maxRecDepth 100000 in
set_option maxHeartbeats 1600000 in
theorem refdel_any (w : World) (g : Nat) (A : Option Addr) (c : Nat) (E : List Ent) (key : Bs) (hg : Blk w g 32 #[.slice A E.length c]) (hr : RefAt w No A c E) (hm : may key [] = 0) :
    Calls Tryz.prog 37 #[.pointer (some ⟨g, 0, none⟩), .string (str key)] w (RefDid w g (.returned (.tuple #[.bool (decide ((del key E).length < E.length)), .int .i64 0])) (del key E)) := by
  have HM := Lib.hid (fun w => refmay_any w key [])
  rw [hm] at HM
  have hb := hr.b
  have hl := hr.l
  have HR := Lib.hid hr
  have HG := Lib.hid hg
  have HB := Lib.hid hb
  have hgl := hg.lt
  have HD := Lib.hid (del_len key E)
  obtain ⟨D, hD⟩ : ∃ D, D = RefDid w g (.returned (.tuple #[.bool (decide ((del key E).length < E.length)), .int .i64 0])) (del key E) := ⟨_, rfl⟩
  rw [← hD]
  clear hr hm
  obtain ⟨i0, hti, htz0, htz1, htz2⟩ := info_parts Tryz.info49
  go_enter Tryz.func37, Tryz.ntmps37
  go_wp2_with fail
  refine (HM.out _).mono ?_
  rintro e w1 ⟨rfl, rfl⟩
  go_wp2_with fail
  go_loopg [7, 8] E.length (fun gk v i wr => ∃ (k : Nat) (A1 : Option Addr) (c1 : Nat), k + gk = E.length ∧ i = .int .i64 (k : Int) ∧ v = .slice A1 (del key (E.take k)).length c1 ∧ wr.ownsRow w.heap.size 49 2 (.slice A1 (del key (E.take k)).length c1) (del key (E.take k)).length (entVals (del key (E.take k))) ∧ Ext No w wr)
  case atStart => exact ⟨0, none, 0, by omega, rfl, rfl, World.ownsRow_nil _ _ _ _, Ext.refl _ _⟩
  case round =>
    obtain ⟨k, A1, c1, hk, rfl, rfl, hown, hE⟩ := hrel
    have c0 := (HG.out.ext hE (fun h => h)).cell 0
    simp at c0
    have HE := Lib.hid hE
    have HO := Lib.hid hown
    have HK := Lib.hid hk
    have m0 := hE.size
    have hdl := del_len key (E.take k)
    rw [List.length_take] at hdl
    by_cases hlt : k < E.length
    · obtain ⟨e, he⟩ : ∃ e, E[k]? = some e := ⟨_, List.getElem?_eq_getElem hlt⟩
      obtain ⟨b, o, hA, _, k0, k1⟩ := (HR.out.ext hE).rd.entAt he
      subst hA
      have lc := World.block_lt_of_cell? wr _ k0
      simp only at lc
      have hlt' : (k : Int) < (E.length : Int) := by omega
      have hsn := take_snoc he
      have hds := del_snoc key (E.take k) e
      rw [← hsn] at hds
      by_cases hek : e.1 = key
      · have hq : (e.1 == key) = true := by simpa using hek
        rw [if_pos hek] at hds
        have HDS := Lib.hid hds
        clear hown hE hk hds hsn
        generalize E.length = El at *
        go_wp2_with fail
        go_roundg (gk - 1)
        case rel => exact ⟨k + 1, A1, c1, by have := HK.out; omega, by go_num, by rw [HDS.out], by rw [HDS.out]; exact HO.out, HE.out⟩
        case measure => have := HK.out; omega
      · have hq : (e.1 == key) = false := by simpa using hek
        rw [if_neg hek] at hds
        have HDS := Lib.hid hds
        clear hown hE hk hds hsn
        have hdl2 : (del key (E.take k)).length ≤ 65536 := by omega
        generalize E.length = El at *
        generalize hdd : del key (E.take k) = dd at *
        have m2 : dd.length + 1 ≤ maxLen := by unfold maxLen; omega
        have m3 : (dd.length + 1) * 32 ≤ 140737488355328 := by omega
        have m6 : ∀ o, w.heap.size ≤ (wr.alloc o).heap.size := (fun o => by simp; omega)
        have m7 : ∀ o, (wr.alloc o).heap.size = wr.heap.size + 1 := (fun o => by simp)
        go_wp2_with (at_builtin; refine wpList_append_lies _ (by rfl) _ _ 30 (by rfl) w.heap.size 49 i0 (.agg #[.string ⟨#[]⟩, .string ⟨#[]⟩]) 2 32 Tryz.underlying30 hti htz0 htz1 htz2 (by rfl) (by decide) (.slice A1 dd.length c1) dd.length (entVals dd) (by rfl) (by exact HO.out.alloc _) ⟨wr.heap.size, 0, none⟩ 1 1 [.string (str e.1), .string (str e.2)] (by rfl) (by rfl) (by exact World.news_of_block (cs := #[.string (str e.1), .string (str e.2)]) (t := 49) (fr := (0, 0)) (heap_alloc_new wr _)) (by simp [Value.oneCell']) (by decide) m2 m3 (by exact m6 _) (wr.heap.size + 1) (by exact m7 _) ?_)
        intro g2 cap2 w6 hown2 hgrow2 hat2 hlt2
        have HO6 := Lib.hid (own_pushE hown2)
        have hE6 := Lib.hid ((HE.out.alloc _).grown hgrow2 (own_ge' HO.out (Nat.le_refl _)))
        clear hown2 hgrow2
        go_wp2_with fail
        go_roundg (gk - 1)
        case rel => exact ⟨k + 1, some ⟨g2, 0, none⟩, cap2, by have := HK.out; omega, by go_num, by rw [HDS.out]; simp, by rw [HDS.out]; exact HO6.out, hE6.out⟩
        case measure => have := HK.out; omega
    · have hk' : k = E.length := by omega
      subst hk'
      rw [List.take_length] at HO
      have HE2 := HE
      have hcap := own_cap HO.out
      have hnil := own_nilcap HO.out
      have hbg := (HG.out.ext hE (fun h => h)).set_ 0 (.slice A1 (del key E).length c1)
      have hfr := (HG.out.ext hE (fun h => h)).frozen 0
      have hlt2 := (HG.out.ext hE (fun h => h)).lt
      have hE3 : Ext (On g) w (wr.setCell ⟨g, 0, none⟩ (.slice A1 (del key E).length c1)) := Ext.setF (F := On g) (HE.out.of_no) (b := g) (show On g g from rfl) _ _
      have HBG := Lib.hid hbg; have HE3 := Lib.hid hE3
      have hD2 : D (.returned (.tuple #[.bool (decide ((del key E).length < E.length)), .int .i64 0])) (wr.setCell ⟨g, 0, none⟩ (.slice A1 (del key E).length c1)) := by
        rw [hD]
        refine ⟨rfl, HE3.out, A1, c1, HBG.out, ?_, hcap, hnil, by have := HD.out; have := HB.out; omega⟩
        exact Rd.own_lo (ownsRow_setCell_other HO.out (by intro e; exact own_ge HO.out hgl e.symm) _) (by decide)
      clear hbg hE3 hown hE hk hD
      simp only [List.take_length]
      generalize (del key E).length = dl at *
      go_wp2_with fail
      exact hD2

end Go.Proofs.YtccnemmlkcmceaaGreatDoor

/- One tree that a law keeps, in plain: what its puts and deletes make. -/
set_option linter.unusedVariables false
set_option linter.unusedSimpArgs false
namespace Go.Proofs.YtccnemmlkcmceaaGreatDoor
open Go.RowKit 

/-- A tree that a law keeps: its pages and those of others are all that are in use; its values are short. -/
structure One (cap : Nat) (v : V) (root : Nat) (X P : List Nat) (E : List Ent) : Prop where
  sane : v.Sane cap
  tree : TreeOf true v root P E
  nodup : (P ++ X).Nodup
  us : ∀ p, v.err p = 0 ↔ p ∈ P ++ X
  small : ∀ e ∈ E, e.2.length ≤ 2000

theorem wt_small : ∀ {E : List Ent}, (∀ e ∈ E, e.2.length ≤ 2000) → wt E ≤ 5 * E.length
  | [], _ => by simp [wt]
  | e :: E, h => by
    have h1 := wt_small (E := E) (fun e he => h e (by simp [he]))
    have h2 := h e (by simp)
    have h3 : wt (e :: E) = (e.2.length + 495) / 496 + wt E := by simp [wt]
    rw [h3, List.length_cons]
    omega
theorem insE_len (key val : Bs) : ∀ E : List Ent, (ins key val E).length ≤ E.length + 1
  | [] => by simp [ins]
  | e :: E => by
    have := insE_len key val E
    rw [ins]
    split
    · simp; omega
    · split <;> simp
theorem insE_mem {key val : Bs} : ∀ {E : List Ent} {e : Ent}, e ∈ ins key val E → e = (key, val) ∨ e ∈ E
  | [], e, h => by simpa [ins] using h
  | a :: E, e, h => by
    rw [ins] at h
    split at h
    · rcases List.mem_cons.1 h with h | h
      · exact .inr (by simp [h])
      · rcases insE_mem h with h | h
        · exact .inl h
        · exact .inr (by simp [h])
    · split at h
      · rcases List.mem_cons.1 h with h | h
        · exact .inl h
        · exact .inr (by simp [h])
      · rcases List.mem_cons.1 h with h | h
        · exact .inl h
        · exact .inr h
theorem TreeOf.sorted {g : Bool} {v : V} {root : Nat} {P : List Nat} {E : List Ent} (h : TreeOf g v root P E) : SortedE E := by
  rcases h with ⟨_, _, rfl⟩ | ⟨h, _, hs⟩
  · exact .nil
  · exact hs.told.2.2
theorem SortedE.map {E : List Ent} (h : SortedE E) : Sorted (E.map (·.1)) := List.pairwise_map.2 h
theorem TreeOf.us {g : Bool} {v : V} {root : Nat} {P : List Nat} {E : List Ent} (h : TreeOf g v root P E) : ∀ p ∈ P, v.err p = 0 := by
  rcases h with ⟨_, rfl, _⟩ | ⟨h, _, hs⟩
  · simp
  · exact hs.us
theorem TreeOf.kept {g : Bool} {v v' : V} {root : Nat} {P : List Nat} {E : List Ent} (h : TreeOf g v root P E) (hr : v'.r root = v.r root) (hs : ∀ p ∈ P, v.err p = 0 → v'.err p = 0 ∧ v'.pg p = v.pg p) : TreeOf g v' root P E := by
  rcases h with ⟨h0, rfl, rfl⟩ | ⟨h, hh, hS⟩
  · exact .inl ⟨by rw [hr, h0], rfl, rfl⟩
  · refine .inr ⟨h, hh, ?_⟩
    rw [hr]
    exact hS.same hs

section
variable {cap root : Nat} {v v' : V} {X P : List Nat} {E : List Ent}
theorem One.room (h : One cap v root X P E) : v.room cap + P.length + X.length + 1 = cap ∧ P.length ≤ 6 * E.length := by
  have h1 := room_eq h.sane h.nodup h.us
  have h2 := h.tree.pages
  have h3 := wt_small h.small
  rw [List.length_append] at h1
  omega
theorem One.sorted (h : One cap v root X P E) : Sorted (E.map (·.1)) := h.tree.sorted.map

/-- A put is done. -/
theorem One.put (h : One cap v root X P E) {key val : Bs} (hm : may key val = 0) (hv : val.length ≤ 2000) (hE : E.length < 100) (hc : 6 * E.length + X.length + 15 ≤ cap) :
    (v.Put cap root key val).1 = 0 ∧ ∃ P', One cap (v.Put cap root key val).2 root X P' (ins key val E) ∧ Tr (· = root) v (v.Put cap root key val).2 P P' := by
  have hr := h.room
  have h0 : (v.put0 cap root key val).1 = 0 := by
    rcases put0_codes h.sane h.tree hm with h1 | ⟨h1, h2, h3⟩ | ⟨h1, h2, h3⟩
    · exact h1
    · exfalso
      rcases h.tree with ⟨h4, _⟩ | ⟨x, hx, hS⟩
      · exact h1 h4
      · have h5 := h3 x hS hx
        have h6 := height_lt (H := 7) hS (by omega)
        omega
    · exfalso
      omega
  obtain ⟨P', t1, t2, t3, t4⟩ := put0_tree h.sane h.tree (List.nodup_append.1 h.nodup).1 hm (by omega) h0
  have e : v.Put cap root key val = v.put0 cap root key val := by
    unfold V.Put
    rw [if_neg (by omega)]
    unfold V.sure
    rw [if_pos h0]
  rw [e]
  refine ⟨h0, P', ⟨t3, t4, ?_, ?_, ?_⟩, t1⟩
  · refine List.nodup_append.2 ⟨t2, (List.nodup_append.1 h.nodup).2.1, ?_⟩
    intro a ha b hb e
    subst e
    have h1 : v.err a = 0 := (h.us a).2 (by simp [hb])
    have h2 : a ∉ P := fun hp => (List.nodup_append.1 h.nodup).2.2 a hp a hb rfl
    exact (t1.fr a h1 h2).2 ha
  · intro p
    rw [t1.us p, h.us p]
    have := (List.nodup_append.1 h.nodup).2.2
    simp only [List.mem_append]
    constructor
    · rintro (⟨h1 | h1, h2⟩ | h1)
      · exact absurd h1 h2
      · exact .inr h1
      · exact .inl h1
    · rintro (h1 | h1)
      · exact .inr h1
      · exact .inl ⟨.inr h1, fun hp => this p hp p h1 rfl⟩
  · intro x hx
    rcases insE_mem hx with rfl | hx
    · exact hv
    · exact h.small x hx

/-- A delete is done. -/
theorem One.del (h : One cap v root X P E) {key : Bs} (hm : may key [] = 0) (hE : E.length < 100) (hc : 6 * E.length + X.length + 15 ≤ cap) :
    (v.Del cap root key).1 = decide ((del key E).length < E.length) ∧ (v.Del cap root key).2.1 = 0 ∧ ∃ P', One cap (v.Del cap root key).2.2 root X P' (del key E) ∧ Tr (· = root) v (v.Del cap root key).2.2 P P' := by
  have hr := h.room
  have hn := (List.nodup_append.1 h.nodup).1
  have hlt : E.lookup key ≠ none ↔ (YtccnemmlkcmceaaGreatDoor.del key E).length < E.length := by
    rw [← lookup_mem]
    unfold YtccnemmlkcmceaaGreatDoor.del
    constructor
    · rintro ⟨e, he, h1⟩
      have := List.length_filter_lt_length_iff_exists (p := fun e : Ent => !(e.1 == key)) (l := E)
      exact this.2 ⟨e, he, by simp [h1]⟩
    · intro h1
      have := (List.length_filter_lt_length_iff_exists (p := fun e : Ent => !(e.1 == key)) (l := E)).1 h1
      obtain ⟨e, he, h2⟩ := this
      exact ⟨e, he, by simpa using h2⟩
  rcases del0_told (key := key) h.sane h.tree hn (by omega) with ⟨h1, h2⟩ | ⟨h1, h2, h3⟩
  · have e : v.Del cap root key = (false, 0, v) := by
      unfold V.Del
      rw [if_neg (by omega), h2]; rfl
    have hd : YtccnemmlkcmceaaGreatDoor.del key E = E := del_ne (fun e he h4 => by
      have := (lookup_mem (key := key) (X := E)).1 ⟨e, he, h4⟩
      exact this h1)
    rw [e, hd]
    refine ⟨by simp, rfl, P, h, Tr.refl _ _ _ h.tree.us⟩
  · rcases h3 with ⟨h3, h4⟩ | ⟨h3, P', t1, t2, t3, t4⟩
    · exfalso
      have := h4 7 (by omega)
      omega
    · have e : v.Del cap root key = v.del0 cap root key := by
        unfold V.Del
        rw [if_neg (by omega), if_pos h3]
      rw [e]
      refine ⟨by rw [h2]; simpa using hlt.1 h1, h3, P', ⟨t3, t4, ?_, ?_, ?_⟩, t1⟩
      · refine List.nodup_append.2 ⟨t2, (List.nodup_append.1 h.nodup).2.1, ?_⟩
        intro a ha b hb e
        subst e
        have h1 : v.err a = 0 := (h.us a).2 (by simp [hb])
        have h2 : a ∉ P := fun hp => (List.nodup_append.1 h.nodup).2.2 a hp a hb rfl
        exact (t1.fr a h1 h2).2 ha
      · intro p
        rw [t1.us p, h.us p]
        have := (List.nodup_append.1 h.nodup).2.2
        simp only [List.mem_append]
        constructor
        · rintro (⟨h1 | h1, h2⟩ | h1)
          · exact absurd h1 h2
          · exact .inr h1
          · exact .inl h1
        · rintro (h1 | h1)
          · exact .inr h1
          · exact .inl ⟨.inr h1, fun hp => this p hp p h1 rfl⟩
      · intro x hx
        exact h.small x (List.mem_filter.1 hx).1
end

/-! ### what fill makes -/
def Ac.key1 (a : Ac) : Bs := 107 :: a.key.take 130
def Ac.step (E : List Ent) (a : Ac) : List Ent := if a.kind = 2 then del a.key1 E else ins a.key1 a.value E
def fillE (l : List Ac) : List Ent := l.foldl Ac.step []
theorem fillE_snoc (l : List Ac) (a : Ac) : fillE (l ++ [a]) = a.step (fillE l) := by simp [fillE]
theorem Ac.step_len (a : Ac) (E : List Ent) : (a.step E).length ≤ E.length + 1 := by
  unfold Ac.step
  split
  · exact Nat.le_trans (del_len _ _) (by omega)
  · exact insE_len _ _ _
theorem fillE_le : ∀ (l : List Ac) (E : List Ent), (l.foldl Ac.step E).length ≤ E.length + l.length
  | [], E => by simp
  | a :: l, E => by
    have h1 := fillE_le l (a.step E)
    have h2 := a.step_len E
    simp only [List.foldl_cons, List.length_cons]
    omega
theorem fillE_len (l : List Ac) : (fillE l).length ≤ l.length := by
  have := fillE_le l []
  simpa [fillE] using this
theorem Ac.key1_may (a : Ac) (val : Bs) (hv : val.length ≤ 2000) : may a.key1 val = 0 := by
  unfold may Ac.key1
  have : (a.key.take 130).length ≤ 130 := by rw [List.length_take]; omega
  rw [if_neg (by simp), if_neg (by simp; omega)]

end Go.Proofs.YtccnemmlkcmceaaGreatDoor

/- The law of the cells, in plain: what the pages still to be looked at have. -/
set_option linter.unusedVariables false
set_option linter.unusedSimpArgs false
namespace Go.Proofs.YtccnemmlkcmceaaGreatDoor
open Go.RowKit 

/-- Nodes still to be looked at, the first ahead: so many pages, these entries. -/
def Pend (v : V) : List Nat → Nat → List Ent → Prop
  | [], n, E => n = 0 ∧ E = []
  | id :: S, n, E => ∃ h rt lo hi P n2 E1 E2, Sub true v h rt id lo hi P E1 ∧ Pend v S n2 E2 ∧ n = P.length + n2 ∧ E = E1 ++ E2

theorem Pend.append {v : V} : ∀ {S T : List Nat} {a b : Nat} {E F : List Ent}, Pend v S a E → Pend v T b F → Pend v (S ++ T) (a + b) (E ++ F)
  | [], T, a, b, E, F, h, h' => by
    obtain ⟨rfl, rfl⟩ := h
    simpa using h'
  | id :: S, T, a, b, E, F, h, h' => by
    obtain ⟨x, rt, lo, hi, P, n2, E1, E2, h1, h2, rfl, rfl⟩ := h
    exact ⟨x, rt, lo, hi, P, n2 + b, E1, E2 ++ F, h1, Pend.append h2 h', by omega, by simp⟩
theorem Pend.of_run {v : V} {h : Nat} : ∀ {l : List (Nat × Bs)} {lo : Bs} {P : List Nat} {E : List Ent}, Run (Sub true v h false) lo l P E → Pend v (l.map (·.1)) P.length E
  | [], lo, P, E, hh => by
    obtain ⟨rfl, rfl⟩ := hh
    exact ⟨rfl, rfl⟩
  | (k, x) :: l, lo, P, E, hh => by
    obtain ⟨P1, P2, E1, E2, h1, h2, h3, rfl⟩ := hh
    exact ⟨h, false, lo, x, P1, P2.length, E1, E2, h1, Pend.of_run h2, by rw [h3.length_eq, List.length_append], rfl⟩

theorem CellsAt.at {g : Bool} {v : V} : ∀ {cs : List Cell} {P : List Nat} {E : List Ent}, CellsAt g v cs P E → ∀ (i : Nat) (c : Cell), cs[i]? = some c → ∃ b, E[i]? = some (c.key, b) ∧ v.value c = some b
  | [], P, E, _, i, c, h => by cases h
  | d :: cs, P, E, hh, i, c, h => by
    obtain ⟨P1, P2, b, E2, h1, h2, h3, rfl⟩ := hh
    cases i with
    | zero =>
      have : d = c := by simpa using h
      subst this
      exact ⟨b, rfl, h1.val⟩
    | succ i => exact CellsAt.at h2 i c (by simpa using h)

/-- A node is looked at: its cells are the next entries, its kids are still to be looked at. -/
theorem Pend.step {v : V} {id : Nat} {S : List Nat} {n : Nat} {E : List Ent} (h : Pend v (id :: S) n E) :
    ∃ nd n' E1 E2, v.node id = some nd ∧ E = E1 ++ E2 ∧ E1.length = nd.cells.length ∧ (∀ (i : Nat) (c : Cell), nd.cells[i]? = some c → ∃ b, E1[i]? = some (c.key, b) ∧ v.value c = some b) ∧ Pend v (nd.kids ++ S) n' E2 ∧ n' + 1 ≤ n := by
  obtain ⟨h, rt, lo, hi, P, n2, E1, E2, h1, h2, rfl, rfl⟩ := h
  cases h with
  | zero =>
    obtain ⟨nd, Q, k1, k2, k3, k4, k5, k6⟩ := h1
    have hO := Nd.Ok.of (V.node_ok k1)
    have hl := k3.length_eq
    rw [List.length_cons] at hl
    refine ⟨nd, n2, E1, E2, k1, rfl, k6.len, fun i c hc => k6.at i c hc, ?_, by omega⟩
    rw [(hO.lf k5).2]; exact h2
  | succ h =>
    obtain ⟨nd, Q, k1, k2, k3, k4, k5, l, k6, k7, k8⟩ := h1
    have hO := Nd.Ok.of (V.node_ok k1)
    have hl := k3.length_eq
    rw [List.length_cons] at hl
    refine ⟨nd, Q.length + n2, [], E1 ++ E2, k1, rfl, by simp [(hO.br k5).1], (fun i c hc => by rw [(hO.br k5).1] at hc; cases hc), ?_, by omega⟩
    rw [k6]
    exact (Pend.of_run k8).append h2

theorem One.pend {cap root : Nat} {v : V} {X P : List Nat} {E : List Ent} (h : One cap v root X P E) (hE : E.length ≤ 60) : ∃ n, n ≤ 360 ∧ Pend v (if v.r root = 0 then [] else [v.r root]) n E := by
  have hr := h.room
  rcases h.tree with ⟨h0, rfl, rfl⟩ | ⟨x, hx, hS⟩
  · exact ⟨0, by omega, by rw [if_pos h0]; exact ⟨rfl, rfl⟩⟩
  · have : v.r root ≠ 0 := by
      obtain ⟨n, Q, h1, _⟩ := Sub.iff.1 hS
      have := (V.err_ok (V.node_us h1)).1
      omega
    exact ⟨P.length, by omega, by rw [if_neg this]; exact ⟨x, true, [], [], P, 0, E, [], hS, ⟨rfl, rfl⟩, by omega, by simp⟩⟩

end Go.Proofs.YtccnemmlkcmceaaGreatDoor

/- The document's map: Put. -/
set_option linter.unusedVariables false
set_option linter.unusedSimpArgs false
namespace Go.Proofs.YtccnemmlkcmceaaGreatDoor
open Go.RowKit 

/-- Put's list: what is made of the rest; put: the entry is there already. -/
def rput (key val : Bs) : Bool → List Ent → List Ent
  | put, [] => if put then [] else [(key, val)]
  | put, e :: E => (if !put && !klt e.1 key then [(key, val)] else []) ++ (if e.1 = key then [] else [e]) ++ rput key val (put || !klt e.1 key) E
theorem rput_true (key val : Bs) : ∀ E, rput key val true E = del key E
  | [] => rfl
  | e :: E => by
    rw [rput, Bool.true_or, rput_true key val E]
    by_cases h : e.1 = key <;> simp [del, h]
/-- Of a sorted list it is ins. -/
theorem rput_ins (key val : Bs) : ∀ (E : List Ent), Sorted (E.map (·.1)) → rput key val false E = ins key val E
  | [], _ => rfl
  | e :: E, h => by
    have h' := List.pairwise_cons.1 h
    rw [rput, ins]
    cases hk : klt e.1 key
    · have hgt : ∀ x ∈ E, x.1 ≠ key := fun x hx e1 => by
        have h2 := h'.1 x.1 (List.mem_map.2 ⟨x, hx, rfl⟩)
        rw [e1, hk] at h2; cases h2
      simp only [Bool.not_false, Bool.and_true, if_true, Bool.false_or, rput_true, del_ne hgt]
      by_cases he : e.1 = key <;> simp [he]
    · have hne : e.1 ≠ key := klt_ne hk
      simp [hne, rput_ins key val E h'.2]
theorem rput_step (key val : Bs) (put : Bool) (e : Ent) (E O : List Ent) : O ++ rput key val put (e :: E) = (O ++ (if !put && !klt e.1 key then [(key, val)] else [])) ++ ((if e.1 = key then [] else [e]) ++ rput key val (put || !klt e.1 key) E) := by rw [rput]; simp
theorem rput_len (key val : Bs) : ∀ (put : Bool) (E : List Ent), (rput key val put E).length ≤ E.length + (if put then 0 else 1)
  | put, [] => by cases put <;> simp [rput]
  | put, e :: E => by
    have h := rput_len key val (put || !klt e.1 key) E
    rw [rput]
    simp only [List.length_append, List.length_cons]
    cases put <;> cases hk : klt e.1 key <;> simp [hk] at h ⊢ <;> by_cases he : e.1 = key <;> simp [he] at * <;> omega
set_option maxRecDepth 100000 in
set_option maxHeartbeats 3200000 in
theorem refput_any (w : World) (g : Nat) (A : Option Addr) (c : Nat) (E : List Ent) (key val : Bs) (hg : Blk w g 32 #[.slice A E.length c]) (hr : RefAt w No A c E) (hb1 : E.length < 65000) (hm : may key val = 0) :
    Calls Tryz.prog 38 #[.pointer (some ⟨g, 0, none⟩), .string (str key), .string (str val)] w (RefDid w g (.returned (.int .i64 0)) (rput key val false E)) := by
  have HM := Lib.hid (fun w => refmay_any w key val)
  rw [hm] at HM
  have hl := hr.l
  have HR := Lib.hid hr
  have HG := Lib.hid hg
  have HEB := Lib.hid hb1
  have hgl := hg.lt
  have HGL := Lib.hid hgl
  have HD := Lib.hid (rput_len key val false E)
  obtain ⟨D, hD⟩ : ∃ D, D = RefDid w g (.returned (.int .i64 0)) (rput key val false E) := ⟨_, rfl⟩
  rw [← hD]
  have HDD := Lib.hid hD
  clear hr hm hg hD
  obtain ⟨i0, hti, htz0, htz1, htz2⟩ := info_parts Tryz.info49
  go_enter Tryz.func38, Tryz.ntmps38
  go_wp2_with fail
  refine (HM.out _).mono ?_
  rintro e w1 ⟨rfl, rfl⟩
  go_wp2_with fail
  go_loopg [8, 9, 10] E.length (fun gk v pv i wr => ∃ (k : Nat) (put : Bool) (O : List Ent) (A1 : Option Addr) (c1 : Nat), k + gk = E.length ∧ i = .int .i64 (k : Int) ∧ pv = .bool put ∧ v = .slice A1 O.length c1 ∧ wr.ownsRow w.heap.size 49 2 (.slice A1 O.length c1) O.length (entVals O) ∧ Hid (O.length ≤ k + (if put then 1 else 0)) ∧ Hid (O ++ rput key val put (E.drop k) = rput key val false E) ∧ Ext No w wr)
  case atStart => exact ⟨0, false, [], none, 0, by omega, rfl, rfl, rfl, World.ownsRow_nil _ _ _ _, Lib.hid (by simp), Lib.hid rfl, Ext.refl _ _⟩
  case round =>
    obtain ⟨k, put, O, A1, c1, hk, rfl, rfl, rfl, hown, HOL, hd, hE⟩ := hrel
    have c0 := (HG.out.ext hE (fun h => h)).cell 0
    simp at c0
    have HE := Lib.hid hE
    have HO := Lib.hid hown
    have HK := Lib.hid hk
    have m0 := hE.size
    by_cases hlt : k < E.length
    · obtain ⟨e, he⟩ : ∃ e, E[k]? = some e := ⟨_, List.getElem?_eq_getElem hlt⟩
      obtain ⟨b, o, hA, _, k0, k1⟩ := (HR.out.ext hE).rd.entAt he
      subst hA
      have lc := World.block_lt_of_cell? wr _ k0
      simp only at lc
      have hlt' : (k : Int) < (E.length : Int) := by omega
      have HDR : Hid (E.drop k = e :: E.drop (k + 1)) := Lib.hid (by
        rw [List.drop_eq_getElem_cons hlt]
        congr 1
        exact (List.getElem?_eq_some_iff.1 he).2)
      have HOL2 := Lib.hid (show O.length ≤ 65002 by have := HOL.out; split at this <;> omega)
      have HST := Lib.hid (((rput_step key val put e (E.drop (k + 1)) O).symm.trans (by rw [← HDR.out])).trans hd.out)
      clear hE hown hk
      go_upto_region 9 with fail
      go_cut [39] (fun v wx => v = .bool (!put && !klt e.1 key) ∧ wr = wx)
      case first =>
        cases put
        · cases hkl : klt e.1 key
          · go_wp2_with fail
            go_meet
            exact ⟨by simp [hkl], rfl⟩
          · go_wp2_with fail
            go_meet
            exact ⟨by simp [hkl], rfl⟩
        · go_wp2_with fail
          go_meet
          exact ⟨rfl, rfl⟩
      case rest =>
      obtain ⟨rfl, rfl⟩ := hcut
      obtain ⟨bq, hbq⟩ : ∃ bq, bq = (!put && !klt e.1 key) := ⟨_, rfl⟩
      rw [← hbq]
      have HBQ := Lib.hid hbq
      clear hbq
      go_upto_if 39 with fail
      go_cut [8, 9] (fun v pv wx => ∃ (O2 : List Ent) (A2 : Option Addr) (c2 : Nat), pv = .bool (put || !klt e.1 key) ∧ v = .slice A2 O2.length c2 ∧ Hid (wx.ownsRow w.heap.size 49 2 (.slice A2 O2.length c2) O2.length (entVals O2)) ∧ Hid (O2 = O ++ (if !put && !klt e.1 key then [(key, val)] else [])) ∧ Hid (Ext No w wx))
      case first =>
        have hbq := HBQ.out
        cases bq
        · go_wp2_with fail
          go_meet
          exact ⟨O, A1, c1, by cases put <;> cases h : klt e.1 key <;> simp [h] at hbq ⊢, rfl, HO, Lib.hid (by rw [← HBQ.out]; simp), HE⟩
        · have hput : put = false := by cases put <;> simp at hbq ⊢
          have hkl : klt e.1 key = false := by cases h : klt e.1 key <;> simp [h] at hbq ⊢
          clear hbq
          have m26 : O.length + 1 ≤ maxLen := by unfold maxLen; have := HOL2.out; omega
          have m36 : (O.length + 1) * 32 ≤ 140737488355328 := by have := HOL2.out; omega
          have m66 : ∀ o, w.heap.size ≤ (wr.alloc o).heap.size := (fun o => by have := HE.out.size; simp; omega)
          have m76 : ∀ o, (wr.alloc o).heap.size = wr.heap.size + 1 := (fun o => by simp)
          go_wp2_with (at_builtin; refine wpList_append_lies _ (by rfl) _ _ 30 (by rfl) w.heap.size 49 i0 (.agg #[.string ⟨#[]⟩, .string ⟨#[]⟩]) 2 32 Tryz.underlying30 hti htz0 htz1 htz2 (by rfl) (by decide) (.slice A1 O.length c1) O.length (entVals O) (by rfl) (by exact HO.out.alloc _) ⟨wr.heap.size, 0, none⟩ 1 1 [.string (str key), .string (str val)] (by rfl) (by rfl) (by exact World.news_of_block (cs := #[.string (str key), .string (str val)]) (t := 49) (fr := (0, 0)) (heap_alloc_new wr _)) (by simp [Value.oneCell']) (by decide) m26 m36 (by exact m66 _) (wr.heap.size + 1) (by exact m76 _) ?_)
          intro g6 cap6 w6 hown6 hgrow6 hat6 hlt6
          have HO6 := Lib.hid (own_pushE (e := (key, val)) hown6)
          have HE6 := Lib.hid ((HE.out.alloc _).grown hgrow6 (own_ge' HO.out (Nat.le_refl _)))
          clear hown6 hgrow6 hat6
          go_wp2_with fail
          go_meet
          exact ⟨O ++ [(key, val)], some ⟨g6, 0, none⟩, cap6, by rw [hput, hkl]; rfl, by simp, HO6, Lib.hid (by rw [hput, hkl]; simp), HE6⟩
      case rest =>
        obtain ⟨O2, A2, c2, rfl, rfl, HO2, HQ2, HE2⟩ := hcut
        have HS2 : Hid (O2 ++ ((if e.1 = key then [] else [e]) ++ rput key val (put || !klt e.1 key) (E.drop (k + 1))) = rput key val false E) := Lib.hid (by rw [HQ2.out]; exact HST.out)
        have HL3 : Hid (O2.length ≤ k + (if (put || !klt e.1 key) then 1 else 0)) := Lib.hid (by
          have h1 := HOL.out
          rw [HQ2.out, List.length_append]
          cases put <;> cases klt e.1 key <;> simp at h1 ⊢ <;> omega)
        have HOL2 := Lib.hid (show O2.length ≤ 65003 by have h1 := HEB.out; have h2 := HK.out; have := HL3.out; split at this <;> omega)
        clear HST HOL hd HO HE HQ2
        generalize (put || !klt e.1 key) = put2 at *
        have hE2 := HE2.out
        have c02 := (HG.out.ext hE2 (fun h => h)).cell 0
        simp at c02
        have k3 : wc.cell? ⟨b, o + k * 2, none⟩ = some (.string (str e.1)) := by
          obtain ⟨b', o', hA, _, q0, q1⟩ := (HR.out.ext hE2).rd.entAt he
          injection hA with hA
          injection hA with hb ho
          subst hb; subst ho
          exact q0
        have k4 : wc.cell? ⟨b, o + k * 2 + 1, none⟩ = some (.string (str e.2)) := by
          obtain ⟨b', o', hA, _, q0, q1⟩ := (HR.out.ext hE2).rd.entAt he
          injection hA with hA
          injection hA with hb ho
          subst hb; subst ho
          exact q1
        have lc2 := World.block_lt_of_cell? wc _ k3
        simp only at lc2
        clear hE2 c0 k0 k1 lc
        by_cases hek : e.1 = key
        · have hq : (e.1 == key) = true := by simpa using hek
          have HS3 := Lib.hid (show O2 ++ rput key val put2 (E.drop (k + 1)) = rput key val false E by have := HS2.out; rw [if_pos hek] at this; exact this)
          clear hek HS2
          go_wp2_with fail
          go_roundg (gk - 1)
          case rel => exact ⟨k + 1, put2, O2, A2, c2, by have := HK.out; omega, by go_num, rfl, rfl, HO2.out, Lib.hid (by have := HL3.out; omega), HS3, HE2.out⟩
          case measure => have := HK.out; omega
        · have hq : (e.1 == key) = false := by simpa using hek
          have HS3 := Lib.hid (show (O2 ++ [e]) ++ rput key val put2 (E.drop (k + 1)) = rput key val false E by have := HS2.out; rw [if_neg hek] at this; rw [List.append_assoc]; exact this)
          clear hek HS2
          have m27 : O2.length + 1 ≤ maxLen := by unfold maxLen; have := HOL2.out; omega
          have m37 : (O2.length + 1) * 32 ≤ 140737488355328 := by have := HOL2.out; omega
          have m67 : ∀ o, w.heap.size ≤ (wc.alloc o).heap.size := (fun o => by have := HE2.out.size; simp; omega)
          have m77 : ∀ o, (wc.alloc o).heap.size = wc.heap.size + 1 := (fun o => by simp)
          go_wp2_with (at_builtin; refine wpList_append_lies _ (by rfl) _ _ 30 (by rfl) w.heap.size 49 i0 (.agg #[.string ⟨#[]⟩, .string ⟨#[]⟩]) 2 32 Tryz.underlying30 hti htz0 htz1 htz2 (by rfl) (by decide) (.slice A2 O2.length c2) O2.length (entVals O2) (by rfl) (by exact HO2.out.alloc _) ⟨wc.heap.size, 0, none⟩ 1 1 [.string (str e.1), .string (str e.2)] (by rfl) (by rfl) (by exact World.news_of_block (cs := #[.string (str e.1), .string (str e.2)]) (t := 49) (fr := (0, 0)) (heap_alloc_new wc _)) (by simp [Value.oneCell']) (by decide) m27 m37 (by exact m67 _) (wc.heap.size + 1) (by exact m77 _) ?_)
          intro g7 cap7 w7 hown7 hgrow7 hat7 hlt7
          have HO7 := Lib.hid (own_pushE (e := (e.1, e.2)) hown7)
          have HE7 := Lib.hid ((HE2.out.alloc _).grown hgrow7 (own_ge' HO2.out (Nat.le_refl _)))
          clear hown7 hgrow7 hat7
          go_wp2_with fail
          go_roundg (gk - 1)
          case rel => exact ⟨k + 1, put2, O2 ++ [e], some ⟨g7, 0, none⟩, cap7, by have := HK.out; omega, by go_num, rfl, by simp, HO7.out, Lib.hid (by have := HL3.out; rw [List.length_append, List.length_singleton]; omega), HS3, HE7.out⟩
          case measure => have := HK.out; omega
    · have hk' : k = E.length := by omega
      have HDR : Hid (E.drop k = []) := Lib.hid (by rw [hk', List.drop_length])
      have HOL2 := Lib.hid (show O.length ≤ 65002 by have := HOL.out; split at this <;> omega)
      have HFIN : ∀ (O2 : List Ent) (A2 : Option Addr) (c2 : Nat) (wx : World), wx.ownsRow w.heap.size 49 2 (.slice A2 O2.length c2) O2.length (entVals O2) → O2 = rput key val false E → Ext No w wx → D (.returned (.int .i64 0)) (wx.setCell ⟨g, 0, none⟩ (.slice A2 O2.length c2)) := by
        intro O2 A2 c2 wx q1 q2 q3
        rw [HDD.out, ← q2]
        have hx2 : Ext (On g) w (wx.setCell ⟨g, 0, none⟩ (.slice A2 O2.length c2)) := Ext.setF (F := On g) (q3.of_no) (b := g) (show On g g from rfl) _ _
        have hbg := (HG.out.ext q3 (fun h => h)).set_ 0 (.slice A2 O2.length c2)
        refine ⟨rfl, hx2, A2, c2, hbg, ?_, own_cap q1, own_nilcap q1, by have := HD.out; have := HEB.out; rw [q2]; simp at *; omega⟩
        exact Rd.own_lo (ownsRow_setCell_other q1 (by intro e; exact own_ge q1 HGL.out e.symm) _) (by decide)
      have HFIN := Lib.hid HFIN
      have HK2 := Lib.hid hk'
      clear hk hk' hown
      cases put
      · have m26 : O.length + 1 ≤ maxLen := by unfold maxLen; have := HOL2.out; omega
        have m36 : (O.length + 1) * 32 ≤ 140737488355328 := by have := HOL2.out; omega
        have m66 : ∀ o, w.heap.size ≤ (wr.alloc o).heap.size := (fun o => by have := HE.out.size; simp; omega)
        have m76 : ∀ o, (wr.alloc o).heap.size = wr.heap.size + 1 := (fun o => by simp)
        go_wp2_with (at_builtin; refine wpList_append_lies _ (by rfl) _ _ 30 (by rfl) w.heap.size 49 i0 (.agg #[.string ⟨#[]⟩, .string ⟨#[]⟩]) 2 32 Tryz.underlying30 hti htz0 htz1 htz2 (by rfl) (by decide) (.slice A1 O.length c1) O.length (entVals O) (by rfl) (by exact HO.out.alloc _) ⟨wr.heap.size, 0, none⟩ 1 1 [.string (str key), .string (str val)] (by rfl) (by rfl) (by exact World.news_of_block (cs := #[.string (str key), .string (str val)]) (t := 49) (fr := (0, 0)) (heap_alloc_new wr _)) (by simp [Value.oneCell']) (by decide) m26 m36 (by exact m66 _) (wr.heap.size + 1) (by exact m76 _) ?_)
        intro g6 cap6 w6 hown6 hgrow6 hat6 hlt6
        have HO6 := Lib.hid (own_pushE (e := (key, val)) hown6)
        have HE6 := Lib.hid ((HE.out.alloc _).grown hgrow6 (own_ge' HO.out (Nat.le_refl _)))
        clear hown6 hgrow6 hat6
        have HE9 := HE6.out
        have hfr := (HG.out.ext HE9 (fun h => h)).frozen 0
        have hlt2 := (HG.out.ext HE9 (fun h => h)).lt
        have c06 := (HG.out.ext HE9 (fun h => h)).cell 0
        simp at c06
        have HX := Lib.hid (HFIN.out (O ++ [(key, val)]) (some ⟨g6, 0, none⟩) cap6 w6 HO6.out (by rw [← hd.out, HDR.out]; rfl) HE6.out)
        rw [List.length_append, List.length_singleton] at HX
        clear HE9 hE
        go_wp2_with fail
        exact HX.out
      · have hfr := (HG.out.ext hE (fun h => h)).frozen 0
        have hlt2 := (HG.out.ext hE (fun h => h)).lt
        have HX := Lib.hid (HFIN.out O A1 c1 wr HO.out (by rw [← hd.out, HDR.out]; simp [rput]) HE.out)
        clear hE
        go_wp2_with fail
        exact HX.out

end Go.Proofs.YtccnemmlkcmceaaGreatDoor
