/- Proofs about the given program, joined out of the texts EC, ED, R1, R2, R3, C0, C3, RB. -/
import Derived.Test.YtccnemmlkcmceaaGreatDoorHE29
import Derived.Test.YtccnemmlkcmceaaGreatDoorHE30
import Derived.Lib.SmallJoins
import Derived.Deep.Slices
set_option linter.unusedVariables false
set_option linter.unusedSimpArgs false
set_option maxRecDepth 100000
set_option maxHeartbeats 6400000
namespace Go.Proofs.YtccnemmlkcmceaaGreatDoor
open Go.RowKit
theorem height_lt {v:V} {root h H:Nat} {P:List Nat} {E:List Ent} (hs:Sub true v h true (v.r root) [] [] P E) (hE:E.length < 2 ^ H):h < H:=by
 have:=hs.height
 rcases Nat.lt_or_ge h H with h1 | h1
 ·exact h1
 ·have:=Nat.pow_le_pow_right (n:=2) (by omega) h1
  omega
def wt (E:List Ent):Nat:=(E.map fun e=>(e.2.length + 495) / 496).sum
theorem wt_append (A B:List Ent):wt (A ++ B) = wt A + wt B:=by simp [wt]
theorem CellsAt.pages {v:V}:∀ {cs:List Cell} {P:List Nat} {E:List Ent},CellsAt true v cs P E → P.length ≤ wt E
 | [],P,E,h=>by obtain ⟨rfl,rfl⟩:=h;simp
 | c :: cs,P,E,h=>by
  obtain ⟨P1,P2,b,E2,h1,h2,h3,rfl⟩:=h
  have:=h2.pages
  have hl:=h3.length_eq
  rw [List.length_append] at hl
  have h4:P1.length ≤ (b.length + 495) / 496:=by
   rcases h1 with ⟨_,rfl,_⟩ | ⟨_,_,h5,h6⟩
   ·simp
   ·rw [(h6 rfl).1,h5];exact Nat.le_refl _
  have h5:wt ((c.key,b) :: E2) = (b.length + 495) / 496 + wt E2:=by simp [wt]
  omega
theorem Run.pages {S:Nat → Bs → Bs → List Nat → List Ent → Prop} (hS:∀ k a b Q F,S k a b Q F → Q.length + 1 ≤ F.length + wt F) :
  ∀ {l:List (Nat × Bs)} {lo:Bs} {P:List Nat} {E:List Ent},Run S lo l P E → P.length + l.length ≤ E.length + wt E
 | [],lo,P,E,h=>by obtain ⟨rfl,rfl⟩:=h;simp
 | (k,x) :: l,lo,P,E,h=>by
  obtain ⟨P1,P2,E1,E2,h1,h2,h3,rfl⟩:=h
  have a:=hS _ _ _ _ _ h1
  have b:=Run.pages hS h2
  have hl:=h3.length_eq
  rw [List.length_append] at hl
  rw [List.length_append,List.length_cons,wt_append]
  omega
theorem Sub.pages {v:V}:∀ {h:Nat} {rt:Bool} {id:Nat} {lo hi:Bs} {P:List Nat} {E:List Ent},Sub true v h rt id lo hi P E → P.length + (if rt then 0 else 1) ≤ E.length + wt E
 | 0,rt,id,lo,hi,P,E,hh=>by
  obtain ⟨n,Q,h1,h2,h3,h4,h5⟩:=hh
  have a:=h5.2.pages
  have hl:=h3.length_eq
  rw [List.length_cons] at hl
  have b:=h5.2.len
  have h6:=h2.1 h5.1
  cases rt with
  | true =>
   have:n.cells.length ≠ 0:=fun e=>h6.1 (List.length_eq_zero_iff.1 e)
   simp;omega
  | false=>have:=h6.2 rfl rfl;simp;omega
 | h + 1,rt,id,lo,hi,P,E,hh=>by
  obtain ⟨n,Q,h1,h2,h3,h4,h5,l,l1,l2,h6⟩:=hh
  have a:=Run.pages (fun _ _ _ _ _ hs=>by have:=Sub.pages hs;simpa using this) h6
  have hk:=h2.2 h5 rfl
  have hl:2 ≤ l.length:=by
   have t1:=congrArg List.length l2
   have t2:n.keys.length ≠ 0:=fun e=>hk (List.length_eq_zero_iff.1 e)
   rw [List.length_append,List.length_map,List.length_singleton] at t1
   omega
  have hl2:=h3.length_eq
  rw [List.length_cons] at hl2
  split <;> omega
theorem TreeOf.pages {v:V} {root:Nat} {P:List Nat} {E:List Ent} (h:TreeOf true v root P E):P.length ≤ E.length + wt E:=by
 rcases h with ⟨_,rfl,rfl⟩ | ⟨h',_,hs⟩
 ·simp
 ·have:=hs.pages;simpa using this
theorem room_eq {cap:Nat} {v:V} (hg:v.Sane cap) {P:List Nat} (hnd:P.Nodup) (hu:∀ p,v.err p = 0 ↔ p ∈ P):v.room cap + P.length + 1 = cap ∧ v.high = v.cnt + P.length + 1:=by
 obtain ⟨⟨l,hl⟩,h2,h3⟩:=hg
 have hp:(l ++ P).Perm (List.range' 1 (v.high - 1)):=by
  refine (List.perm_ext_iff_of_nodup (List.nodup_append.2 ⟨hl.nd,hnd,?_⟩) (List.nodup_range' ..)).2 fun a=>?_
  ·rintro a ha b hb rfl
   have h4:=(hl.mem a).2 ha
   have h5:=(V.err_iff v a).1 ((hu a).2 hb)
   exact h5.2.2 h4.2.2
  ·rw [List.mem_append,List.mem_range'_1,← hu a,← hl.mem a,V.err_iff]
   constructor
   ·rintro (⟨h4,h5,_⟩ | ⟨h4,h5,_⟩) <;> omega
   ·rintro ⟨h4,h5⟩
    by_cases hk:(v.pg a).kind = 255
    ·exact .inl ⟨h4,by omega,hk⟩
    ·exact .inr ⟨h4,by omega,hk⟩
 have:=hp.length_eq
 rw [List.length_append,List.length_range'] at this
 have hc:=hl.cnt
 have h1:=hl.h1
 unfold V.room
 omega
theorem lookCells_done {v:V} {low high:Bs}:∀ {cs:List Cell} {P:List Nat} {E:List Ent} (p:Nat),CellsAt true v cs P E → (∀ c ∈ cs,inB low high c.key = true) → v.lookCells low high cs p = some (p + P.length)
 | [],P,E,p,h,_=>by obtain ⟨rfl,_⟩:=h;rfl
 | c :: cs,P,E,p,h,hb=>by
  obtain ⟨P1,P2,b,E2,h1,h2,h3,rfl⟩:=h
  have hl:=h3.length_eq
  rw [List.length_append] at hl
  rw [V.lookCells,if_pos (hb c (by simp)),h1.val]
  simp only
  rw [lookCells_done _ h2 (fun c hc=>hb c (by simp [hc]))]
  rcases h1 with ⟨h4,rfl,_⟩ | ⟨h4,h5,h6,h7⟩
  ·rw [if_neg (by omega)]
   simp at hl
   rw [hl]
  ·have h8:=h7 rfl
   rw [if_pos (by omega)]
   have:max 1 ((c.len + 495) / 496) = P1.length:=by omega
   rw [this,hl,Nat.add_assoc]
def trip:Bs → List (Nat × Bs) → List (Nat × Bs × Bs)
 | _,[]=>[]
 | lo,(k,x) :: l=>(k,lo,x) :: trip x l
theorem trip_zip:∀ (l:List (Nat × Bs)) (lo:Bs),(l.map (·.1)).zip ((lo :: (l.map (·.2)).dropLast).zip (l.map (·.2))) = trip lo l
 | [],lo=>rfl
 | (k,x) :: l,lo=>by
  have ih:=trip_zip l x
  cases l with
  | nil=>rfl
  | cons q l =>
   simp only [List.map_cons,trip] at ih ⊢
   rw [List.dropLast_cons_of_ne_nil (by simp)]
   simp only [List.zip_cons_cons]
   congr 1
theorem lookKids_done {v:V} {h k deep D:Nat} {low high:Bs}
  (IH:∀ id lo hi P E p d,Sub true v h false id lo hi P E → p + P.length ≤ 65536 → (d = none ∨ d = some D) → v.look k id deep lo hi (p,d) = some (p + P.length,some D)) :
  ∀ (l:List (Nat × Bs)) (lo:Bs) (first:Bool) (P:List Nat) (E:List Ent) (p:Nat) (d:Option Nat),Run (Sub true v h false) lo l P E → (first = false → inB low high lo = true) → (∀ x ∈ (l.map (·.2)).dropLast,inB low high x = true) → p + P.length ≤ 65536 → (d = none ∨ d = some D) →
   lookKids (fun kid lo hi s=>v.look k kid deep lo hi s) low high first (trip lo l) (p,d) = some (p + P.length,if l = [] then d else some D)
 | [],lo,first,P,E,p,d,hr,_,_,_,_=>by obtain ⟨rfl,_⟩:=hr;simp [trip,lookKids]
 | (q,x) :: l,lo,first,P,E,p,d,hr,hf,hx,hp,hd=>by
  obtain ⟨P1,P2,E1,E2,h1,h2,h3,rfl⟩:=hr
  have hl:=h3.length_eq
  rw [List.length_append] at hl
  rw [trip,lookKids,if_neg (by rintro ⟨a,b⟩;rw [hf a] at b;cases b),IH q lo x P1 E1 p d h1 (by omega) hd]
  simp only
  cases l with
  | nil =>
   obtain ⟨rfl,_⟩:=h2
   simp [trip,lookKids]
   simpa using hl.symm
  | cons r l =>
   have hx':inB low high x = true:=hx x (by simp only [List.map_cons];rw [List.dropLast_cons_of_ne_nil (by simp)];simp)
   rw [lookKids_done IH (r :: l) x false P2 E2 (p + P1.length) (some D) h2 (fun _=>hx') (fun y hy=>hx y (by
    simp only [List.map_cons] at hy ⊢
    rw [List.dropLast_cons_of_ne_nil (by simp)]
    exact List.mem_cons_of_mem _ hy)) (by omega) (.inr rfl)]
   simp
   omega
theorem look_done {v:V}:∀ (h k id deep:Nat) (rt:Bool) (lo hi:Bs) (P:List Nat) (E:List Ent) (p:Nat) (d:Option Nat),Sub true v h rt id lo hi P E → h < k → deep + h ≤ 40 → p + P.length ≤ 65536 → (d = none ∨ d = some (deep + h)) →
  v.look k id deep lo hi (p,d) = some (p + P.length,some (deep + h))
 | 0,k + 1,id,deep,rt,lo,hi,P,E,p,d,hs,hk,hd,hp,hdd=>by
  obtain ⟨n,Q,h1,h2,h3,h4,h5⟩:=hs
  have hl:=h3.length_eq
  rw [List.length_cons] at hl
  rw [V.look,h1]
  simp only
  rw [if_neg (by omega),lookCells_done _ h5.2 h4.1]
  simp only
  rw [if_pos h5.1,if_neg]
  ·simp;omega
  ·rintro (⟨a,b⟩ | a)
   ·rcases hdd with rfl | rfl
    ·cases a
    ·exact b rfl
   ·exact (h2.1 h5.1).1 (List.length_eq_zero_iff.1 a)
 | h + 1,k + 1,id,deep,rt,lo,hi,P,E,p,d,hs,hk,hd,hp,hdd=>by
  obtain ⟨n,Q,h1,h2,h3,h4,h5,l,l1,l2,h6⟩:=hs
  have hl:=h3.length_eq
  rw [List.length_cons] at hl
  have hc:=((Nd.Ok.of (V.node_ok h1)).br h5).1
  rw [V.look,h1]
  simp only
  rw [if_neg (by omega),hc,V.lookCells]
  simp only
  rw [h5]
  simp only [Bool.false_eq_true,if_false]
  have e:n.kids.zip ((lo :: n.keys).zip (n.keys ++ [hi])) = trip lo l:=by
   rw [l1,l2,← drop_last_keys l2];exact trip_zip l lo
  rw [e,lookKids_done (D:=deep + (h + 1)) (fun id lo hi P E p d hs hp hd=>by
   have:=look_done h k id (deep + 1) false lo hi P E p d hs (by omega) (by omega) hp (by rw [show deep + 1 + h = deep + (h + 1) from by omega];exact hd)
   rw [this,show deep + 1 + h = deep + (h + 1) from by omega]) l lo true Q E (p + 1) d h6 (fun h=>by cases h) (fun x hx=>by
    rw [drop_last_keys l2] at hx
    exact (h4.2 x hx).inB) (by omega) hdd]
  rw [if_neg (pairs_ne l2)]
  simp;omega
theorem survey_done {v:V} {root:Nat} {P:List Nat} {E:List Ent} (hT:TreeOf true v root P E) (hp:P.length ≤ 65000):∃ d,v.survey root = some (P.length,d):=by
 unfold V.survey
 rcases hT with ⟨h0,rfl,rfl⟩ | ⟨h,hh,hs⟩
 ·rw [if_pos h0];exact ⟨_,rfl⟩
 ·have h0:v.r root ≠ 0:=by
   obtain ⟨n,Q,h1,_⟩:=Sub.iff.1 hs
   have:=(V.err_iff v _).1 (V.node_us h1)
   omega
  rw [if_neg h0,look_done h 42 (v.r root) 0 true [] [] P E 0 none hs (by omega) (by omega) (by omega) (.inl rfl)]
  exact ⟨some (0 + h),by rw [Nat.zero_add P.length]⟩
structure Ac where
 kind:Int
 n:Int
 key:Bs
 val:Bs
def Ac.vals (a:Ac):List Value:=[.int .i64 a.kind,.int .i64 a.n,.string (str a.key),.string (str a.val)]
def Ac.agg (a:Ac):Value:=.agg #[.int .i64 a.kind,.int .i64 a.n,.string (str a.key),.string (str a.val)]
def rep (s:Bs):Nat → Bs
 | 0=>[]
 | k + 1=>rep s k ++ s
def times (n:Int):Nat:=((n.tmod 5 + 5).tmod 5).toNat + 1
def Ac.value (a:Ac):Bs:=rep (a.val.take 400) (times a.n)
theorem rep_len (s:Bs) (k:Nat):(rep s k).length = k * s.length:=by
 induction k with
 | zero=>simp [rep]
 | succ k ih=>rw [rep,List.length_append,ih,Nat.succ_mul]
theorem times_le (n:Int):1 ≤ times n ∧ times n ≤ 5 ∧ ((n.tmod 5 + 5).tmod 5) = ((times n:Int) - 1):=by
 have h1:-5 < n.tmod 5 ∧ n.tmod 5 < 5:=⟨by have:=Int.lt_tmod_of_pos n (show (0:Int) < 5 by decide);omega,Int.tmod_lt_of_pos n (by decide)⟩
 have h2:0 ≤ (n.tmod 5 + 5).tmod 5:=Int.tmod_nonneg _ (by omega)
 have h3:(n.tmod 5 + 5).tmod 5 < 5:=Int.tmod_lt_of_pos _ (by decide)
 unfold times
 omega
theorem Ac.value_le (a:Ac):a.value.length ≤ 2000:=by
 unfold Ac.value
 rw [rep_len,List.length_take]
 have:=(times_le a.n).2.1
 calc times a.n * min 400 a.val.length ≤ 5 * 400:=Nat.mul_le_mul this (by omega)
  _ = 2000:=rfl
theorem value_walk (a:Ac) (hn:-(2:Int)^63 ≤ a.n ∧ a.n < 2^63) (hl:a.val.length < 2^63) (w:World) :
  Calls Tryz.prog 26 #[a.agg] w fun e w'=>e = .returned (.string (str a.value)) ∧ Ext No w w':=by
 obtain ⟨kind,n,key,val⟩:=a
 simp only [Ac.agg,Ac.value]
 have hv:=str_size val
 obtain ⟨t1,t2,t3⟩:=times_le n
 have t4:-5 < n.tmod 5 ∧ n.tmod 5 < 5:=⟨by have:=Int.lt_tmod_of_pos n (show (0:Int) < 5 by decide);omega,Int.tmod_lt_of_pos n (by decide)⟩
 have hex:(str val).extract 0 (min (val.length:Int) 400).toNat = str (val.take 400):=by
  rw [str_take]
  congr 1
  rw [show (min (val.length:Int) 400).toNat = min 400 val.length by omega,← List.take_take,List.take_length]
 have hsl:(val.take 400).length ≤ 400:=by rw [List.length_take];omega
 obtain ⟨O,hO⟩:∃ O,O = str (rep (val.take 400) (times n)):=⟨_,rfl⟩
 rw [← hO]
 go_enter Tryz.func26,Tryz.ntmps26
 go_wp2_with fail
 rw [show (1 + ((times n:Int) - 1)) = (times n:Int) by omega]
 have hE0:Ext No w (w.alloc (.cells #[.int .i64 kind,.int .i64 n,.string (str key),.string (str val)] 53)):=(Ext.refl No w).alloc _
 generalize val.take 400 = s at *
 generalize w.alloc (.cells #[.int .i64 kind,.int .i64 n,.string (str key),.string (str val)] 53) = W at *
 generalize times n = T at *
 go_loopg [4,18] T (fun gk o i wr=>∃ (k:Nat),k + gk = T ∧ o = .string (str (rep s k)) ∧ i = .int .i64 (k:Int) ∧ W = wr)
 case atStart=>exact ⟨0,by omega,rfl,rfl,rfl⟩
 case round =>
  obtain ⟨k,hk,rfl,rfl,rfl⟩:=hrel
  by_cases hlt:k < T
  ·have e1:=str_size (rep s k)
   have e2:=str_size s
   rw [rep_len] at e1
   have e3:k * s.length ≤ 5 * 400:=Nat.mul_le_mul (by omega) (by omega)
   generalize k * s.length = m at e1 e3
   have e4:=str_app (rep s k) s
   have e5:str (rep s (k + 1)) = str (rep s k ++ s):=rfl
   go_wp2_with fail
   go_roundg (gk - 1)
   case rel=>exact ⟨k + 1,by omega,by rw [e5,← e4],by go_num,rfl⟩
   case measure=>omega
  ·have:k = T:=by omega
   subst this
   go_wp2_with fail
   go_ret
   exact ⟨by rw [hO];rfl,hE0⟩
def entVals (E:List Ent):List Value:=E.flatMap fun e=>[.string (str e.1),.string (str e.2)]
structure RefAt (w:World) (F:Nat → Prop) (A:Option Addr) (c:Nat) (E:List Ent):Prop where
 rd:Rd w F 2 A E.length (entVals E)
 l:E.length ≤ c
 n:A = none → c = 0
 b:E.length < 65536
structure RefDid (w:World) (g:Nat) (e0:Ending) (E':List Ent) (e:Ending) (w':World):Prop where
 e:e = e0
 x:Ext (On g) w w'
 m:∃ A' c',Blk w' g 32 #[.slice A' E'.length c'] ∧ RefAt w' (Lo w.heap.size) A' c' E'
structure One (cap:Nat) (v:V) (root:Nat) (X P:List Nat) (E:List Ent):Prop where
 sane:v.Sane cap
 tree:TreeOf true v root P E
 nodup:(P ++ X).Nodup
 us:∀ p,v.err p = 0 ↔ p ∈ P ++ X
 small:∀ e ∈ E,e.2.length ≤ 2000
theorem wt_small:∀ {E:List Ent},(∀ e ∈ E,e.2.length ≤ 2000) → wt E ≤ 5 * E.length
 | [],_=>by simp [wt]
 | e :: E,h=>by
  have h1:=wt_small (E:=E) (fun e he=>h e (by simp [he]))
  have h2:=h e (by simp)
  have h3:wt (e :: E) = (e.2.length + 495) / 496 + wt E:=by simp [wt]
  rw [h3,List.length_cons]
  omega
theorem insE_len (key val:Bs):∀ E:List Ent,(ins key val E).length ≤ E.length + 1
 | []=>by simp [ins]
 | e :: E=>by
  have:=insE_len key val E
  rw [ins]
  split
  ·simp;omega
  ·split <;> simp
theorem insE_mem {key val:Bs}:∀ {E:List Ent} {e:Ent},e ∈ ins key val E → e = (key,val) ∨ e ∈ E
 | [],e,h=>by simpa [ins] using h
 | a :: E,e,h=>by
  rw [ins] at h
  split at h
  ·rcases List.mem_cons.1 h with h | h
   ·exact .inr (by simp [h])
   ·rcases insE_mem h with h | h
    ·exact .inl h
    ·exact .inr (by simp [h])
  ·split at h
   ·rcases List.mem_cons.1 h with h | h
    ·exact .inl h
    ·exact .inr (by simp [h])
   ·rcases List.mem_cons.1 h with h | h
    ·exact .inl h
    ·exact .inr h
section
variable {cap root:Nat} {v v':V} {X P:List Nat} {E:List Ent}
theorem One.room (h:One cap v root X P E):v.room cap + P.length + X.length + 1 = cap ∧ P.length ≤ 6 * E.length:=by
 have h1:=room_eq h.sane h.nodup h.us
 have h2:=h.tree.pages
 have h3:=wt_small h.small
 rw [List.length_append] at h1
 omega
end
def acVals (l:List Ac):List Value:=l.flatMap Ac.vals
theorem acVals_cons (a:Ac) (l:List Ac):acVals (a :: l) = a.vals ++ acVals l:=rfl
theorem acVals_len (l:List Ac):(acVals l).length = l.length * 4:=by
 induction l with
 | nil=>rfl
 | cons a l ih=>rw [acVals_cons,List.length_append,ih];simp [Ac.vals];omega
theorem acVals_at:∀ (l:List Ac) (i:Nat) (a:Ac),l[i]? = some a → ∀ j u,a.vals[j]? = some u → (acVals l)[i * 4 + j]? = some u
 | d :: l,0,a,h,j,u,hu=>by
  have:d = a:=by simpa using h
  subst this
  rw [acVals_cons,List.getElem?_append_left (by simpa using (List.getElem?_eq_some_iff.1 hu).1)]
  simpa using hu
 | d :: l,i + 1,a,h,j,u,hu=>by
  have h':l[i]? = some a:=by simpa using h
  rw [acVals_cons,List.getElem?_append_right (by simp [Ac.vals];omega)]
  have:=acVals_at l i a h' j u hu
  rw [show (i + 1) * 4 + j - d.vals.length = i * 4 + j by simp [Ac.vals];omega]
  exact this
theorem Rd.acAt {w:World} {F:Nat → Prop} {A:Option Addr} {l:List Ac} (h:Rd w F 4 A l.length (acVals l)) {i:Nat} {a:Ac} (hc:l[i]? = some a) :
  ∃ b o,A = some ⟨b,o,none⟩ ∧ ¬ F b ∧ w.cell? ⟨b,o + i * 4,none⟩ = some (.int .i64 a.kind) ∧ w.cell? ⟨b,o + i * 4 + 1,none⟩ = some (.int .i64 a.n) ∧ w.cell? ⟨b,o + i * 4 + 2,none⟩ = some (.string (str a.key)) ∧ w.cell? ⟨b,o + i * 4 + 3,none⟩ = some (.string (str a.val)):=by
 have hi:i < l.length:=(List.getElem?_eq_some_iff.1 hc).1
 obtain ⟨b,o,e1,hb,hx⟩:=h.2 (by omega)
 have hv:=acVals_at l i a hc
 refine ⟨b,o,e1,hb,hx _ _ (hv 0 _ rfl),?_,?_,?_⟩
 ·have:=hx _ _ (hv 1 _ rfl);rw [← Nat.add_assoc] at this;exact this
 ·have:=hx _ _ (hv 2 _ rfl);rw [← Nat.add_assoc] at this;exact this
 ·have:=hx _ _ (hv 3 _ rfl);rw [← Nat.add_assoc] at this;exact this
def Ac.fits (a:Ac):Prop:=(-(2:Int)^63 ≤ a.n ∧ a.n < 2^63) ∧ a.val.length < 2^63 ∧ a.key.length < 2^63
structure FillAt (s:Sys) (w wr:World) (v v':V) (i:Nat) (X P0 P':List Nat) (E E':List Ent) (A':Option Addr) (c':Nat):Prop where
 tx:TxAt wr s v'
 one:One s.cap v' i X P' E
 tr:Tr (· = i) v v' P0 P'
 bm:Blk wr (w.heap.size + 1) 32 #[.slice A' E'.length c']
 ra:RefAt wr (Lo (w.heap.size + 2)) A' c' E'
 br:Blk wr w.heap.size 32 #[.slice none 0 0]
 ex:Ext s.F w wr
 st:V.Steps s.cap v v'
structure Filled (s:Sys) (w:World) (v:V) (i:Nat) (X P0:List Nat) (E:List Ent) (e:Ending) (w':World):Prop where
 r:∃ v' P' A' c',e = .returned (.tuple #[.agg #[.slice A' E.length c'],.bool true]) ∧ TxAt w' s v' ∧ One s.cap v' i X P' E ∧ Tr (· = i) v v' P0 P' ∧ RefAt w' (Lo w.heap.size) A' c' E ∧ V.Steps s.cap v v'
 x:Ext s.F w w'
end Go.Proofs.YtccnemmlkcmceaaGreatDoor
namespace Go.Proofs.YtccnemmlkcmceaaGreatDoor
open Go.RowKit Go.ChangeShapes Go.WideShapes Go.ChangeAt
theorem Tryz.cells53:Tryz.prog.cellsOf 53 = 4:=by kernel_rfl
theorem Tryz.cells3:Tryz.prog.cellsOf 3 = 1:=by kernel_rfl
theorem Tryz.cells9:Tryz.prog.cellsOf 9 = 1:=by kernel_rfl
theorem act_cells {H:Type} {enc:TypeId × Value → H} {W:World} {sp:Nat → Bool} {fuel:Nat} {cs:List Value} {x:DataW H × List MemPlace}
  (h:DataW.trod enc Tryz.prog W 0 sp true fuel 53 cs = some x):∃ a:Ac,cs = a.vals ∧ a.fits:=by
 obtain ⟨y0,y1,y2,y3,m,hx,hl,h0,h1,h2,h3⟩:=Go.Joins.trod_struct4 (P:=Tryz.prog) Tryz.underlying53 h
 obtain ⟨n0,e0,_⟩:=DataW.trod_int (P:=Tryz.prog) Tryz.underlying3 h0
 obtain ⟨n1,e1,_,w1⟩:=DataW.trod_int (P:=Tryz.prog) Tryz.underlying3 h1
 obtain ⟨s2,e2,_,z2⟩:=DataW.trod_string (P:=Tryz.prog) Tryz.underlying9 h2
 obtain ⟨s3,e3,_,z3⟩:=DataW.trod_string (P:=Tryz.prog) Tryz.underlying9 h3
 rw [Tryz.cells53] at hl
 refine ⟨⟨n0,n1,s2.data.toList,s3.data.toList⟩,?_,?_,?_,?_⟩
 ·match cs,hl with
  | [a,b,c,d],_ =>
   have q0:[a] = [Value.int .i64 n0]:=by simpa [Value.cells,Tryz.cells3] using e0
   have q1:[b] = [Value.int .i64 n1]:=by simpa [Value.cells,Tryz.cells3] using e1
   have q2:[c] = [Value.string s2]:=by simpa [Value.cells,Tryz.cells9] using e2
   have q3:[d] = [Value.string s3]:=by simpa [Value.cells,Tryz.cells9] using e3
   injection q0 with q0;injection q1 with q1;injection q2 with q2;injection q3 with q3
   subst q0;subst q1;subst q2;subst q3
   simp only [Ac.vals,str_of]
 ·simp only [Lit.wf,Bool.and_eq_true,decide_eq_true_eq,IntKind.min,IntKind.max] at w1
  have a':-(2:Int)^63 ≤ n1:=of_decide_eq_true w1.1
  have b':n1 ≤ (2:Int)^63 - 1:=of_decide_eq_true w1.2
  exact ⟨a',by show n1 < 2^63;omega⟩
 ·have h4:s3.data.toList.length = s3.size:=Array.length_toList
  unfold maxLen at z3
  show s3.data.toList.length < 2 ^ 63
  rw [h4];omega
 ·have h4:s2.data.toList.length = s2.size:=Array.length_toList
  unfold maxLen at z2
  show s2.data.toList.length < 2 ^ 63
  rw [h4];omega
theorem acVals_of {w:World} {b o:Nat} {l:List Ac} (h:∀ i a,l[i]? = some a → ∀ j u,a.vals[j]? = some u → w.cell? ⟨b,o + (i * 4 + j),none⟩ = some u):∀ j u,(acVals l)[j]? = some u → w.cell? ⟨b,o + j,none⟩ = some u:=by
 intro j u hu
 have hj:=(List.getElem?_eq_some_iff.1 hu).1
 rw [acVals_len] at hj
 have hi:j / 4 < l.length:=by omega
 have ha:l[j / 4]? = some (l[j / 4]'hi):=List.getElem?_eq_getElem hi
 have hj4:j % 4 < (l[j / 4]'hi).vals.length:=by simp [Ac.vals];omega
 have h1:=h _ _ ha (j % 4) _ (List.getElem?_eq_getElem hj4)
 have h2:=acVals_at l _ _ ha (j % 4) _ (List.getElem?_eq_getElem hj4)
 rw [show j / 4 * 4 + j % 4 = j by omega] at h1 h2
 rw [hu] at h2
 rw [h1,h2]
theorem list_of_fun {α:Type} {n:Nat} {p:Nat → α → Prop} (h:∀ i,i < n → ∃ x,p i x):∃ l:List α,l.length = n ∧ ∀ i a,l[i]? = some a → p i a:=by
 induction n with
 | zero=>exact ⟨[],rfl,fun i a h=>by cases h⟩
 | succ n ih =>
  obtain ⟨l,h1,h2⟩:=ih (fun i hi=>h i (by omega))
  obtain ⟨x,hx⟩:=h n (by omega)
  refine ⟨l ++ [x],by simp [h1],fun i a ha=>?_⟩
  rcases Nat.lt_or_ge i l.length with hi | hi
  ·rw [List.getElem?_append_left hi] at ha;exact h2 i a ha
  ·rw [List.getElem?_append_right hi] at ha
   have hi':=(List.getElem?_eq_some_iff.1 ha).1
   have:i - l.length = 0:=by simpa using hi'
   rw [this] at ha
   have e:x = a:=by simpa using ha
   subst e
   have e2:i = n:=by omega
   rw [e2];exact hx
theorem acts_open {H:Type} {enc:TypeId × Value → H} {W:World} {base:Nat} {v:Value} {d:DataW H} {p:List MemPlace}
  (hval:Value.okWide Tryz.prog W .any base 22 v) (h:DataW.Trod enc Tryz.prog W 0 (fun _=>true) true 22 v d p) :
  ∃ (A:Option Addr) (l:List Ac) (c:Nat),v = .slice A l.length c ∧ Rd W (fun b=>W.heap.size ≤ b) 4 A l.length (acVals l) ∧ l.length < 2 ^ 63 ∧ ∀ a ∈ l,a.fits:=by
 obtain ⟨A0,n0,c0,rfl⟩:=okWide_slice (P:=Tryz.prog) Tryz.underlying22 hval
 obtain ⟨fuel,hf⟩:=h
 have hf':DataW.trod enc Tryz.prog W 0 (fun _=>true) true fuel 22 [.slice A0 n0 c0] = some (d,p):=hf
 rcases Go.Deep.open_slice (P:=Tryz.prog) Tryz.underlying22 hf' with ⟨e,_⟩ | ⟨a,len,cap,m,n,D,Pl,e,_,hl,hm,hmm,_,hx⟩
 ·injection e with e _
  injection e with e1 e2 e3
  subst e1;subst e2;subst e3
  exact ⟨none,[],0,rfl,Rd.nil_ _,by decide,by simp⟩
 ·injection e with e _
  injection e with e1 e2 e3
  subst e1;subst e2;subst e3
  rw [Tryz.cells53] at hx
  have hlm:n0 ≤ m:=by rw [hmm];split <;> omega
  obtain ⟨l,h1,h2⟩:=list_of_fun (n:=n0) (p:=fun i (x:Ac)=>x.fits ∧ ∀ j u,x.vals[j]? = some u → W.cell? ((a.add (i * 4)).add j) = some u) (fun i hi=>by
   obtain ⟨cs',g1,g2⟩:=hx i (by omega)
   obtain ⟨y,rfl,hy⟩:=act_cells g2
   obtain ⟨_,_,g3⟩:=World.cells?_some g1
   refine ⟨y,hy,fun j u hu=>?_⟩
   have hj:=(List.getElem?_eq_some_iff.1 hu).1
   rw [g3 j (by simpa [Ac.vals] using hj),hu])
  subst h1
  refine ⟨some a,l,c0,rfl,⟨acVals_len l,fun hpos=>?_⟩,by unfold maxLen at hm;omega,fun y hy=>?_⟩
  ·obtain ⟨x0,hx0⟩:∃ x0,l[0]? = some x0:=⟨_,List.getElem?_eq_getElem hpos⟩
   have hspot:a.spot = none:=by
    have:=(h2 0 x0 hx0).2 0 _ rfl
    rw [Go.Deep.add_add,Nat.zero_mul,Nat.add_zero] at this
    unfold Addr.add at this
    simp only [if_true] at this
    unfold World.cell? at this
    cases hs:a.spot with
    | none=>rfl
    | some _=>rw [hs] at this;split at this <;> simp at this
   obtain ⟨b,o,sp⟩:=a
   simp only at hspot
   subst hspot
   have hall:=acVals_of (w:=W) (b:=b) (o:=o) (l:=l) (fun i y hy j u hu=>by
    have:=(h2 i y hy).2 j u hu
    rw [Go.Deep.add_add,Addr.add_none] at this
    exact this)
   refine ⟨b,o,rfl,?_,hall⟩
   have h3:=(h2 0 x0 hx0).2 0 _ rfl
   rw [Go.Deep.add_add,Addr.add_none] at h3
   have:=World.block_lt_of_cell? W _ h3
   simp only at this
   omega
  ·obtain ⟨i,hi,e⟩:=List.getElem_of_mem hy
   exact (h2 i y (by rw [List.getElem?_eq_getElem hi,e])).1
end Go.Proofs.YtccnemmlkcmceaaGreatDoor
