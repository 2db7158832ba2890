/- Proofs about the given program, joined out of the texts PK, DK1, DK2, DK4, DK3. -/
import Derived.Test.YtccnemmlkcmceaaGreatDoorHC3
import Derived.Test.YtccnemmlkcmceaaGreatDoorHC4
import Derived.Deep.MidRow
import Derived.Lib.BufferWrite
import Derived.Deep.WholeRow
import Derived.Deep.RegionLaw
import Derived.Deep.AppendLies
import Derived.Deep.RegionHeld3
import Derived.Deep.LoopGhost
set_option linter.unusedVariables false
set_option linter.unusedSimpArgs false
set_option maxRecDepth 100000
set_option maxHeartbeats 6400000
namespace Go.Proofs.YtccnemmlkcmceaaGreatDoor
open Go.RowKit
structure Dk where
 n:Nat
 K:Nat → Bs
 pd:List (Nat × Bs)
 down:Bool
 armed:Bool
 left:Nat
 done:Nat
def Dk.cur (k:Dk) (i:Nat):Bs:=k.pd.foldl (fun b p=>if p.1 = i then p.2 else b) (k.K i)
def sect (s:Bs):Bs:=s ++ zs (64 - s.length)
theorem sect_len {s:Bs} (h:s.length ≤ 64):(sect s).length = 64:=by
 unfold sect
 rw [List.length_append,zs_len];omega
theorem sect_full {s:Bs} (h:s.length = 64):sect s = s:=by
 unfold sect
 rw [h];simp [zs]
def Dk.does (k:Dk):Nat × Dk:=if k.armed = true ∧ k.left = 0 then (10,{ k with down:=true }) else (0,{ k with left:=if k.armed then k.left - 1 else k.left,done:=k.done + 1 })
def Dk.write (k:Dk) (i:Nat) (s:Bs):Nat × Dk :=
 if k.down then (10,k) else if k.does.1 ≠ 0 then k.does else (0,{ k.does.2 with pd:=k.pd ++ [(i,sect s)] })
def Dk.flush (k:Dk):Nat × Dk :=
 if k.down then (10,k) else if k.does.1 ≠ 0 then k.does else (0,{ k.does.2 with K:=k.cur,pd:=[] })
def Dk.writes:Dk → List (Nat × Bs) → Nat × Dk
 | k,[]=>(0,k)
 | k,p :: l=>if (k.write p.1 p.2).1 ≠ 0 then k.write p.1 p.2 else (k.write p.1 p.2).2.writes l
def Dk.live (k:Dk):Prop:=k.down = false ∧ k.armed = false
theorem Dk.does_code (k:Dk):k.does.1 = 0 ∨ k.does.1 = 10:=by
 unfold Dk.does;split
 ·exact .inr rfl
 ·exact .inl rfl
theorem Dk.does_same (k:Dk):k.does.2.n = k.n ∧ k.does.2.K = k.K ∧ k.does.2.pd = k.pd ∧ k.does.2.armed = k.armed:=by
 unfold Dk.does;split <;> exact ⟨rfl,rfl,rfl,rfl⟩
theorem Dk.does_live {k:Dk} (h:k.live):k.does.1 = 0 ∧ k.does.2.live:=by
 unfold Dk.does
 rw [if_neg (by rw [h.2];simp)]
 exact ⟨rfl,h.1,h.2⟩
theorem Dk.write_live {k:Dk} (h:k.live) (i:Nat) (s:Bs):(k.write i s).1 = 0 ∧ (k.write i s).2.live:=by
 have h1:=Dk.does_live h
 unfold Dk.write
 rw [if_neg (by rw [h.1];simp),if_neg (by rw [h1.1];simp)]
 exact ⟨rfl,h1.2⟩
theorem Dk.flush_live {k:Dk} (h:k.live):k.flush.1 = 0 ∧ k.flush.2.live:=by
 have h1:=Dk.does_live h
 unfold Dk.flush
 rw [if_neg (by rw [h.1];simp),if_neg (by rw [h1.1];simp)]
 exact ⟨rfl,h1.2⟩
theorem Dk.writes_live:∀ {l:List (Nat × Bs)} {k:Dk},k.live → (k.writes l).1 = 0 ∧ (k.writes l).2.live
 | [],k,h=>⟨rfl,h⟩
 | p :: l,k,h=>by
  have h1:=Dk.write_live h p.1 p.2
  rw [Dk.writes,if_neg (by rw [h1.1];simp)]
  exact Dk.writes_live h1.2
theorem Dk.write_n (k:Dk) (i:Nat) (s:Bs):(k.write i s).2.n = k.n:=by
 have h:=k.does_same
 unfold Dk.write;split
 ·rfl
 ·split
  ·exact h.1
  ·exact h.1
theorem Dk.writes_n:∀ (l:List (Nat × Bs)) (k:Dk),(k.writes l).2.n = k.n
 | [],k=>rfl
 | p :: l,k=>by
  rw [Dk.writes]
  split
  ·exact k.write_n p.1 p.2
  ·rw [Dk.writes_n l,k.write_n]
theorem Dk.write_ok {k:Dk} {i:Nat} {s:Bs} (h:(k.write i s).1 = 0):(k.write i s).2.K = k.K ∧ (k.write i s).2.pd = k.pd ++ [(i,sect s)]:=by
 have h2:=k.does_same
 unfold Dk.write at h ⊢
 split at h
 ·cases h
 ·split at h
  ·contradiction
  ·rename_i h3 h4
   rw [if_neg h3,if_neg h4]
   exact ⟨h2.2.1,rfl⟩
theorem Dk.cur_write {k:Dk} {i:Nat} {s:Bs} (h:(k.write i s).1 = 0) (j:Nat):(k.write i s).2.cur j = if i = j then sect s else k.cur j:=by
 obtain ⟨h1,h2⟩:=Dk.write_ok h
 unfold Dk.cur
 rw [h1,h2,List.foldl_append]
 rfl
theorem Dk.flush_ok {k:Dk} (h:k.flush.1 = 0):k.flush.2.K = k.cur ∧ k.flush.2.pd = [] ∧ k.flush.2.n = k.n:=by
 have h2:=k.does_same
 unfold Dk.flush at h ⊢
 split at h
 ·cases h
 ·split at h
  ·contradiction
  ·rename_i h3 h4
   rw [if_neg h3,if_neg h4]
   exact ⟨rfl,rfl,h2.1⟩
theorem Dk.flush_no {k:Dk} (h:k.flush.1 ≠ 0):k.flush.2.K = k.K ∧ k.flush.2.pd = k.pd ∧ k.flush.2.n = k.n:=by
 have h2:=k.does_same
 unfold Dk.flush at h ⊢
 split at h
 ·rename_i h3
  rw [if_pos h3];exact ⟨rfl,rfl,rfl⟩
 ·split at h
  ·rename_i h3 h4
   rw [if_neg h3,if_pos h4]
   exact ⟨h2.2.1,h2.2.2.1,h2.1⟩
  ·exact absurd rfl h
theorem Dk.cur_flush {k:Dk} (h:k.flush.1 = 0) (j:Nat):k.flush.2.cur j = k.cur j:=by
 obtain ⟨h1,h2,_⟩:=Dk.flush_ok h
 show k.flush.2.pd.foldl _ (k.flush.2.K j) = _
 rw [h1,h2]
 rfl
def over (l:List (Nat × Bs)) (c:Nat → Bs) (j:Nat):Bs:=l.foldl (fun b p=>if p.1 = j then sect p.2 else b) (c j)
theorem Dk.cur_writes:∀ {l:List (Nat × Bs)} {k:Dk},(k.writes l).1 = 0 → ∀ j,(k.writes l).2.cur j = over l k.cur j
 | [],k,_,j=>rfl
 | p :: l,k,h,j=>by
  rw [Dk.writes] at h ⊢
  by_cases h1:(k.write p.1 p.2).1 ≠ 0
  ·rw [if_pos h1] at h;exact absurd h h1
  ·rw [if_neg h1] at h ⊢
   rw [Dk.cur_writes h j]
   show l.foldl _ ((k.write p.1 p.2).2.cur j) = _
   rw [Dk.cur_write (by simpa using h1) j]
   rfl
theorem over_not {l:List (Nat × Bs)} {c:Nat → Bs} {j:Nat} (h:∀ p ∈ l,p.1 ≠ j):over l c j = c j:=by
 unfold over
 induction l generalizing c with
 | nil=>rfl
 | cons p l ih =>
  have h1:=h p (by simp)
  rw [List.foldl_cons,if_neg h1]
  exact ih (fun q hq=>h q (by simp [hq]))
theorem over_append (a b:List (Nat × Bs)) (c:Nat → Bs) (j:Nat):over (a ++ b) c j = over b (over a c) j:=by
 unfold over
 rw [List.foldl_append]
def rowOf (a:Nat):List Bs → List (Nat × Bs)
 | []=>[]
 | b :: l=>(a,b) :: rowOf (a + 1) l
theorem rowOf_mem {a:Nat}:∀ {l:List Bs} {p:Nat × Bs},p ∈ rowOf a l → a ≤ p.1 ∧ p.1 < a + l.length ∧ p.2 ∈ l
 | [],p,h=>by cases h
 | b :: l,p,h=>by
  rcases List.mem_cons.1 h with rfl | h
  ·exact ⟨Nat.le_refl _,by simp,by simp⟩
  ·have:=rowOf_mem h
   simp only [List.length_cons]
   exact ⟨by omega,by omega,by simp [this.2.2]⟩
theorem over_row:∀ (l:List Bs) (a:Nat) (c:Nat → Bs) (j:Nat),over (rowOf a l) c j = if a ≤ j ∧ j < a + l.length then sect (l.getD (j - a) []) else c j
 | [],a,c,j=>by
  rw [if_neg (by rintro ⟨h1,h2⟩;simp at h2;omega)];rfl
 | b :: l,a,c,j=>by
  have h:over (rowOf a (b :: l)) c j = over (rowOf (a + 1) l) (fun i=>if a = i then sect b else c i) j:=rfl
  rw [h,over_row l]
  simp only [List.length_cons]
  by_cases h1:a = j
  ·subst h1
   rw [if_neg (by omega),if_pos rfl,if_pos (by omega)]
   simp
  ·by_cases h2:a + 1 ≤ j ∧ j < a + 1 + l.length
   ·rw [if_pos h2,if_pos (by omega)]
    rw [show j - a = (j - (a + 1)) + 1 by omega]
    simp
   ·rw [if_neg h2]
    show (if a = j then sect b else c j) = _
    rw [if_neg h1,if_neg (by omega)]
def cutS:Nat → Bs → List Bs
 | 0,_=>[]
 | n + 1,s=>s.take 64 :: cutS n (s.drop 64)
theorem cutS_len (n:Nat) (s:Bs):(cutS n s).length = n:=by
 induction n generalizing s with
 | zero=>rfl
 | succ n ih=>simp [cutS,ih]
theorem cutS_flat:∀ (n:Nat) (s:Bs),s.length = n * 64 → (cutS n s).flatten = s
 | 0,s,h=>by
  have:s = []:=List.eq_nil_of_length_eq_zero (by omega)
  subst this;rfl
 | n + 1,s,h=>by
  rw [cutS,List.flatten_cons,cutS_flat n (s.drop 64) (by rw [List.length_drop];omega),List.take_append_drop]
theorem cutS_full:∀ (n:Nat) (s:Bs),n * 64 ≤ s.length → ∀ b ∈ cutS n s,b.length = 64
 | 0,s,_,b,hb=>by cases hb
 | n + 1,s,h,b,hb=>by
  rcases List.mem_cons.1 hb with rfl | hb
  ·rw [List.length_take];omega
  ·exact cutS_full n (s.drop 64) (by rw [List.length_drop];omega) b hb
def pageOf (c:Nat → Bs) (log id:Nat):Bs:=((List.range 8).map fun j=>c (log + id * 8 + j)).flatten
def layPage (log id:Nat) (image:Bs):List (Nat × Bs):=rowOf (log + id * 8) (cutS 8 image)
def layAll (log:Nat) (l:List (Nat × Bs)):List (Nat × Bs):=l.flatMap fun p=>layPage log p.1 p.2
theorem getD_range_flat (l:List Bs):((List.range l.length).map fun j=>l.getD j []).flatten = l.flatten:=by
 congr 1
 apply List.ext_getElem
 ·simp
 ·intro i h1 h2
  simp [h2]
theorem pageOf_lay {c:Nat → Bs} {log id:Nat} {image:Bs} (h:image.length = 512) (i:Nat):pageOf (over (layPage log id image) c) log i = if i = id then image else pageOf c log i:=by
 have hl:(cutS 8 image).length = 8:=cutS_len _ _
 by_cases hi:i = id
 ·rw [if_pos hi]
  subst hi
  unfold pageOf layPage
  have h1:((List.range 8).map fun j=>over (rowOf (log + i * 8) (cutS 8 image)) c (log + i * 8 + j)) = (List.range 8).map fun j=>(cutS 8 image).getD j []:=by
   apply List.map_congr_left
   intro j hj
   have hj8:j < 8:=List.mem_range.1 hj
   rw [over_row,if_pos (by omega)]
   rw [show log + i * 8 + j - (log + i * 8) = j by omega]
   apply sect_full
   apply cutS_full 8 image (by omega)
   rw [List.getD_eq_getElem?_getD,List.getElem?_eq_getElem (by omega)]
   exact List.getElem_mem _
  rw [h1]
  have h2:=getD_range_flat (cutS 8 image)
  rw [hl] at h2
  rw [h2,cutS_flat 8 image (by omega)]
 ·rw [if_neg hi]
  unfold pageOf layPage
  congr 1
  apply List.map_congr_left
  intro j hj
  have hj8:j < 8:=List.mem_range.1 hj
  rw [over_row,if_neg (by omega)]
def pages (l:List (Nat × Bs)) (f:Nat → Bs) (i:Nat):Bs:=l.foldl (fun b p=>if p.1 = i then p.2 else b) (f i)
theorem pageOf_all:∀ (l:List (Nat × Bs)) (c:Nat → Bs) (log:Nat),(∀ p ∈ l,p.2.length = 512) → ∀ i,pageOf (over (layAll log l) c) log i = pages l (pageOf c log) i
 | [],c,log,_,i=>rfl
 | p :: l,c,log,h,i=>by
  have e:layAll log (p :: l) = layPage log p.1 p.2 ++ layAll log l:=rfl
  rw [e]
  have h1:over (layPage log p.1 p.2 ++ layAll log l) c = over (layAll log l) (over (layPage log p.1 p.2) c):=funext fun j=>over_append _ _ _ _
  rw [h1,pageOf_all l _ log (fun q hq=>h q (by simp [hq]))]
  unfold pages
  rw [List.foldl_cons,pageOf_lay (h p (by simp))]
  congr 1
  by_cases hi:p.1 = i
  ·rw [if_pos hi,if_pos hi.symm]
  ·rw [if_neg hi,if_neg (fun e=>hi e.symm)]
def seal0 (id kind:Nat) (body:Bs):Bs:=n4 id ++ ([UInt8.ofNat kind,0,UInt8.ofNat (body.length % 256),UInt8.ofNat (body.length / 256)] ++ (body ++ zs (500 - body.length)))
def sealed (cr:Bs → Nat) (id kind:Nat) (body:Bs):Bs:=seal0 id kind body ++ n4 (cr (seal0 id kind body))
theorem seal0_len {id kind:Nat} {body:Bs} (h:body.length ≤ 500):(seal0 id kind body).length = 508:=by
 unfold seal0
 simp only [List.length_append,n4_len,zs_len,List.length_cons,List.length_nil]
 omega
theorem sealed_len {cr:Bs → Nat} {id kind:Nat} {body:Bs} (h:body.length ≤ 500):(sealed cr id kind body).length = 512:=by
 unfold sealed
 rw [List.length_append,seal0_len h,n4_len]
structure Mt where
 r:Nat → Nat
 high:Nat
 free:Nat
 cnt:Nat
def Mt.body (m:Mt):Bs:=n4 m.high ++ (n4 m.free ++ (n4 m.cnt ++ (n4 (m.r 0) ++ (n4 (m.r 1) ++ (n4 (m.r 2) ++ n4 (m.r 3))))))
theorem Mt.body_len (m:Mt):m.body.length = 28:=rfl
def encRec (l:List (Nat × Bs)):Bs:=n4 l.length ++ l.flatMap fun p=>n4 p.1 ++ p.2
theorem encRec_len {l:List (Nat × Bs)} (h:∀ p ∈ l,p.2.length = 512):(encRec l).length = 4 + l.length * 516:=by
 unfold encRec
 rw [List.length_append,n4_len]
 congr 1
 induction l with
 | nil=>rfl
 | cons p l ih =>
  rw [List.flatMap_cons,List.length_append,List.length_append,n4_len,h p (by simp),ih (fun q hq=>h q (by simp [hq])),List.length_cons]
  omega
def n8 (n:Nat):Bs:=n4 n ++ n4 (n / 4294967296)
def frameOf (cr:Bs → Nat) (rec:Bs):Bs:=n4 rec.length ++ (n4 (cr (n4 rec.length ++ rec)) ++ rec)
def head0 (epoch len:Nat):Bs:=[65,81,87,76] ++ (n8 epoch ++ n4 len)
def headOf (cr:Bs → Nat) (epoch len:Nat):Bs:=head0 epoch len ++ (n4 (cr (head0 epoch len)) ++ zs 44)
theorem head_len (cr:Bs → Nat) (epoch len:Nat):(headOf cr epoch len).length = 64:=by
 simp [headOf,head0,n8,n4,zs]
structure Db where
 k:Dk
 epoch:Nat
 bytes:Bs
 recs:List Bs
 m:Mt
def Dk.logLay (k:Dk) (bytes all:Bs):Nat × Dk :=
 if (k.writes (rowOf (1 + bytes.length / 64) (cutS ((all.length + 63) / 64 - bytes.length / 64) (all.drop (bytes.length / 64 * 64))))).1 ≠ 0 then k.writes (rowOf (1 + bytes.length / 64) (cutS ((all.length + 63) / 64 - bytes.length / 64) (all.drop (bytes.length / 64 * 64))))
 else (k.writes (rowOf (1 + bytes.length / 64) (cutS ((all.length + 63) / 64 - bytes.length / 64) (all.drop (bytes.length / 64 * 64))))).2.flush
def Dk.logHead (cr:Bs → Nat) (k:Dk) (epoch len:Nat):Nat × Dk :=
 if (k.write 0 (headOf cr epoch len)).1 ≠ 0 then k.write 0 (headOf cr epoch len) else (k.write 0 (headOf cr epoch len)).2.flush
def Db.settle (cr:Bs → Nat) (s:Db):Nat × Db :=
 if s.recs = [] then (0,s) else
 if s.k.flush.1 ≠ 0 then (s.k.flush.1,{ s with k:=s.k.flush.2 }) else
 if (s.k.flush.2.logHead cr (s.epoch + 1) 0).1 ≠ 0 then ((s.k.flush.2.logHead cr (s.epoch + 1) 0).1,{ s with k:=(s.k.flush.2.logHead cr (s.epoch + 1) 0).2 }) else
 (0,{ s with k:=(s.k.flush.2.logHead cr (s.epoch + 1) 0).2,epoch:=s.epoch + 1,bytes:=[],recs:=[] })
def Db.sync (cr:Bs → Nat) (s:Db) (rec:Bs):Nat × Db :=
 if (s.k.logLay s.bytes (s.bytes ++ frameOf cr rec)).1 ≠ 0 then ((s.k.logLay s.bytes (s.bytes ++ frameOf cr rec)).1,{ s with k:=(s.k.logLay s.bytes (s.bytes ++ frameOf cr rec)).2 }) else
 if ((s.k.logLay s.bytes (s.bytes ++ frameOf cr rec)).2.logHead cr s.epoch (s.bytes ++ frameOf cr rec).length).1 ≠ 0 then
  (((s.k.logLay s.bytes (s.bytes ++ frameOf cr rec)).2.logHead cr s.epoch (s.bytes ++ frameOf cr rec).length).1,{ s with k:=((s.k.logLay s.bytes (s.bytes ++ frameOf cr rec)).2.logHead cr s.epoch (s.bytes ++ frameOf cr rec).length).2 }) else
 (0,{ s with k:=((s.k.logLay s.bytes (s.bytes ++ frameOf cr rec)).2.logHead cr s.epoch (s.bytes ++ frameOf cr rec).length).2,bytes:=s.bytes ++ frameOf cr rec,recs:=s.recs ++ [rec] })
def Db.room (log:Nat) (s:Db):Nat:=64 * (log - 1) - s.bytes.length
def Db.keep (cr:Bs → Nat) (log:Nat) (s:Db) (l:List (Nat × Bs)) (m:Mt):Nat × Db :=
 if (s.sync cr (encRec l)).1 ≠ 0 then s.sync cr (encRec l) else
 (((s.sync cr (encRec l)).2.k.writes (layAll log l)).1,{ (s.sync cr (encRec l)).2 with k:=((s.sync cr (encRec l)).2.k.writes (layAll log l)).2,m:=m })
def Db.commit (cr:Bs → Nat) (log:Nat) (s:Db) (spoilt:Bool) (l:List (Nat × Bs)) (m:Mt):Nat × Db :=
 if spoilt then (9,s) else
 if l = [] then (0,s) else
 if (encRec l).length > 65536 ∨ (encRec l).length + 8 > 64 * (log - 1) then (7,s) else
 if (encRec l).length + 8 > s.room log then
  if (s.settle cr).1 ≠ 0 then s.settle cr else (s.settle cr).2.keep cr log l m
 else s.keep cr log l m
structure Db.Fine (log:Nat) (s:Db):Prop where
 live:s.k.live
 bytes:s.bytes.length ≤ 64 * (log - 1)
theorem Dk.logLay_live {k:Dk} (h:k.live) (bytes all:Bs):(k.logLay bytes all).1 = 0 ∧ (k.logLay bytes all).2.live:=by
 unfold Dk.logLay
 have h1:=Dk.writes_live (l:=rowOf (1 + bytes.length / 64) (cutS ((all.length + 63) / 64 - bytes.length / 64) (all.drop (bytes.length / 64 * 64)))) h
 rw [if_neg (by rw [h1.1];simp)]
 exact Dk.flush_live h1.2
theorem Dk.logHead_live {cr:Bs → Nat} {k:Dk} (h:k.live) (epoch len:Nat):(k.logHead cr epoch len).1 = 0 ∧ (k.logHead cr epoch len).2.live:=by
 unfold Dk.logHead
 have h1:=Dk.write_live h 0 (headOf cr epoch len)
 rw [if_neg (by rw [h1.1];simp)]
 exact Dk.flush_live h1.2
def Keeps (log:Nat) (k k':Dk):Prop:=k'.n = k.n ∧ ∀ j,log ≤ j → k'.cur j = k.cur j
theorem Keeps.trans {log:Nat} {k k1 k2:Dk} (h:Keeps log k k1) (h':Keeps log k1 k2):Keeps log k k2:=⟨h'.1.trans h.1,fun j hj=>(h'.2 j hj).trans (h.2 j hj)⟩
theorem Keeps.flush {log:Nat} {k:Dk} (h:k.live):Keeps log k k.flush.2:=by
 have h1:=(Dk.flush_live h).1
 exact ⟨(Dk.flush_ok h1).2.2,fun j _=>Dk.cur_flush h1 j⟩
theorem Keeps.write {log i:Nat} {k:Dk} {s:Bs} (h:k.live) (hi:i < log):Keeps log k (k.write i s).2:=by
 have h1:=(Dk.write_live h i s).1
 exact ⟨k.write_n i s,fun j hj=>by rw [Dk.cur_write h1,if_neg (by omega)]⟩
theorem Keeps.writes {log:Nat} {k:Dk} {l:List (Nat × Bs)} (h:k.live) (hl:∀ p ∈ l,p.1 < log):Keeps log k (k.writes l).2:=by
 have h1:=(Dk.writes_live (l:=l) h).1
 exact ⟨Dk.writes_n l k,fun j hj=>by rw [Dk.cur_writes h1,over_not (fun p hp=>by have:=hl p hp;omega)]⟩
theorem Keeps.lay {log:Nat} {k:Dk} {bytes all:Bs} (h:k.live) (hb:bytes.length ≤ all.length) (ha:all.length ≤ 64 * (log - 1)) (hlog:2 ≤ log):Keeps log k (k.logLay bytes all).2:=by
 have h1:=Dk.writes_live (l:=rowOf (1 + bytes.length / 64) (cutS ((all.length + 63) / 64 - bytes.length / 64) (all.drop (bytes.length / 64 * 64)))) h
 unfold Dk.logLay
 rw [if_neg (by rw [h1.1];simp)]
 refine (Keeps.writes h (fun p hp=>?_)).trans (Keeps.flush h1.2)
 have:=rowOf_mem hp
 rw [cutS_len] at this
 omega
theorem Keeps.head {cr:Bs → Nat} {log epoch len:Nat} {k:Dk} (h:k.live) (hlog:2 ≤ log):Keeps log k (k.logHead cr epoch len).2:=by
 have h1:=Dk.write_live h 0 (headOf cr epoch len)
 unfold Dk.logHead
 rw [if_neg (by rw [h1.1];simp)]
 exact (Keeps.write h (by omega)).trans (Keeps.flush h1.2)
theorem Db.settle_live {cr:Bs → Nat} {log:Nat} {s:Db} (h:s.Fine log) (hlog:2 ≤ log):(s.settle cr).1 = 0 ∧ (s.settle cr).2.Fine log ∧ Keeps log s.k (s.settle cr).2.k ∧ (s.settle cr).2.m = s.m ∧ (s.settle cr).2.epoch ≤ s.epoch + 1 ∧ (s.recs = [] ∨ (s.settle cr).2.bytes = []) ∧ (s.recs = [] → (s.settle cr).2 = s):=by
 unfold Db.settle
 by_cases hr:s.recs = []
 ·rw [if_pos hr];exact ⟨rfl,h,⟨rfl,fun _ _=>rfl⟩,rfl,by simp,.inl hr,fun _=>rfl⟩
 ·have h1:=Dk.flush_live h.live
  have h2:=Dk.logHead_live (cr:=cr) h1.2 (s.epoch + 1) 0
  rw [if_neg hr,if_neg (by rw [h1.1];simp),if_neg (by rw [h2.1];simp)]
  exact ⟨rfl,⟨h2.2,by simp⟩,(Keeps.flush h.live).trans (Keeps.head h1.2 hlog),rfl,by simp,.inr rfl,fun e=>absurd e hr⟩
theorem Db.sync_live {cr:Bs → Nat} {log:Nat} {s:Db} {rec:Bs} (h:s.Fine log) (hlog:2 ≤ log) (hr:rec.length + 8 ≤ s.room log):(s.sync cr rec).1 = 0 ∧ (s.sync cr rec).2.Fine log ∧ Keeps log s.k (s.sync cr rec).2.k ∧ (s.sync cr rec).2.m = s.m ∧ (s.sync cr rec).2.epoch = s.epoch ∧ (s.sync cr rec).2.recs = s.recs ++ [rec]:=by
 have hf:(frameOf cr rec).length = rec.length + 8:=by
  simp only [frameOf,List.length_append,n4_len];omega
 have hb:=h.bytes
 unfold Db.room at hr
 have hlen:(s.bytes ++ frameOf cr rec).length = s.bytes.length + (rec.length + 8):=by rw [List.length_append,hf]
 have h1:=Dk.logLay_live h.live s.bytes (s.bytes ++ frameOf cr rec)
 have h2:=Dk.logHead_live (cr:=cr) h1.2 s.epoch (s.bytes ++ frameOf cr rec).length
 unfold Db.sync
 rw [if_neg (by rw [h1.1];simp),if_neg (by rw [h2.1];simp)]
 refine ⟨rfl,⟨h2.2,by show (s.bytes ++ frameOf cr rec).length ≤ _;omega⟩,(Keeps.lay h.live (by omega) (by omega) hlog).trans (Keeps.head h1.2 hlog),rfl,rfl,rfl⟩
theorem Db.keep_live {cr:Bs → Nat} {log:Nat} {s:Db} {l:List (Nat × Bs)} {m:Mt} (h:s.Fine log) (hlog:2 ≤ log) (hr:(encRec l).length + 8 ≤ s.room log) (hl:∀ p ∈ l,p.2.length = 512) :
  (s.keep cr log l m).1 = 0 ∧ (s.keep cr log l m).2.Fine log ∧ (s.keep cr log l m).2.k.n = s.k.n ∧ (s.keep cr log l m).2.m = m ∧ (s.keep cr log l m).2.epoch = s.epoch ∧ (∀ i,pageOf (s.keep cr log l m).2.k.cur log i = pages l (pageOf s.k.cur log) i):=by
 obtain ⟨h1,h2,h3,h4,h5,_⟩:=Db.sync_live (cr:=cr) h hlog hr
 have h6:=Dk.writes_live (l:=layAll log l) h2.live
 unfold Db.keep
 rw [if_neg (by rw [h1];simp)]
 refine ⟨h6.1,⟨h6.2,h2.bytes⟩,?_,rfl,h5,fun i=>?_⟩
 ·show ((s.sync cr (encRec l)).2.k.writes (layAll log l)).2.n = _
  rw [Dk.writes_n,h3.1]
 ·have e:pageOf ((s.sync cr (encRec l)).2.k.writes (layAll log l)).2.cur log i = pageOf (over (layAll log l) (s.sync cr (encRec l)).2.k.cur) log i:=by
   unfold pageOf
   congr 1
   apply List.map_congr_left
   intro j _
   exact Dk.cur_writes h6.1 _
  refine e.trans ?_
  rw [pageOf_all l _ log hl]
  unfold pages
  congr 1
  unfold pageOf
  congr 1
  apply List.map_congr_left
  intro j _
  exact h3.2 _ (by omega)
theorem Db.commit_live {cr:Bs → Nat} {log:Nat} {s:Db} {l:List (Nat × Bs)} {m:Mt} (h:s.Fine log) (hlog:2 ≤ log) (hl:∀ p ∈ l,p.2.length = 512) (hne:l ≠ []) (hb:s.recs = [] → s.bytes = []) :
  ((s.commit cr log false l m).1 = 7 ∧ (s.commit cr log false l m).2 = s ∧ ((encRec l).length > 65536 ∨ (encRec l).length + 8 > 64 * (log - 1))) ∨
  ((s.commit cr log false l m).1 = 0 ∧ (s.commit cr log false l m).2.Fine log ∧ (s.commit cr log false l m).2.k.n = s.k.n ∧ (s.commit cr log false l m).2.m = m ∧ (s.commit cr log false l m).2.epoch ≤ s.epoch + 1 ∧ (∀ i,pageOf (s.commit cr log false l m).2.k.cur log i = pages l (pageOf s.k.cur log) i)):=by
 unfold Db.commit
 rw [if_neg (by simp),if_neg hne]
 by_cases h1:(encRec l).length > 65536 ∨ (encRec l).length + 8 > 64 * (log - 1)
 ·rw [if_pos h1];exact .inl ⟨rfl,rfl,h1⟩
 ·right
  rw [if_neg h1]
  by_cases h2:(encRec l).length + 8 > s.room log
  ·obtain ⟨s1,s2,s3,s4,s5,s6,s7⟩:=Db.settle_live (cr:=cr) h hlog
   rw [if_pos h2,if_neg (by rw [s1];simp)]
   have hr:(encRec l).length + 8 ≤ (s.settle cr).2.room log:=by
    have:(s.settle cr).2.bytes = []:=by
     rcases s6 with s6 | s6
     ·rw [s7 s6];exact hb s6
     ·exact s6
    unfold Db.room
    rw [this,List.length_nil]
    omega
   obtain ⟨k1,k2,k3,k4,k5,k6⟩:=Db.keep_live (cr:=cr) (m:=m) s2 hlog hr hl
   refine ⟨k1,k2,by rw [k3,s3.1],k4,by rw [k5];exact s5,fun i=>?_⟩
   rw [k6]
   unfold pages
   congr 1
   unfold pageOf
   congr 1
   apply List.map_congr_left
   intro j _
   exact s3.2 _ (by omega)
  ·rw [if_neg h2]
   obtain ⟨k1,k2,k3,k4,k5,k6⟩:=Db.keep_live (cr:=cr) (m:=m) h hlog (by omega) hl
   exact ⟨k1,k2,k3,k4,by rw [k5];omega,k6⟩
def pendVals (pd:List (Nat × Bs)):List Value:=pd.flatMap fun p=>.int .i64 (p.1:Int) :: bcs p.2
theorem pendVals_append (a b:List (Nat × Bs)):pendVals (a ++ b) = pendVals a ++ pendVals b:=by simp [pendVals]
def Grow (D:Nat → Prop) (w w':World):Nat → Prop:=fun b=>D b ∨ (w.heap.size ≤ b ∧ b < w'.heap.size)
def Dk.cells (k:Dk) (kb:Nat) (A:Option Addr) (c:Nat):Array Value:=#[.slice (some ⟨kb,0,none⟩) k.n k.n,.slice A k.pd.length c,.bool k.down,.bool k.armed,.int .i64 (k.left:Int),.int .i64 (k.done:Int)]
structure DiskAt (w:World) (D:Nat → Prop) (d kb:Nat) (k:Dk):Prop where
 cells:∃ A c,Blk w d 140 (k.cells kb A c) ∧ w.ownsRow 0 144 65 (.slice A k.pd.length c) k.pd.length (pendVals k.pd) ∧ ∀ g,(Value.slice A k.pd.length c).ownBlock = some g → D g ∧ g ≠ d ∧ g ≠ kb
 kept:∃ cs,Blk w kb 142 cs ∧ cs.size = k.n * 64 ∧ ∀ i,i < k.n → ∀ j,j < 64 → cs[i * 64 + j]? = some (.int .u8 (((k.K i).getD j 0).toNat:Int))
 klen:∀ i,i < k.n → (k.K i).length = 64
 plen:∀ p ∈ k.pd,p.1 < k.n ∧ p.2.length = 64
 dd:D d
 dk:D kb
 ne:d ≠ kb
 old:∀ b,D b → b < w.heap.size
 n1:1 ≤ k.n
 n2:k.n ≤ 65536
theorem DiskAt.ext {w w':World} {D F:Nat → Prop} {d kb:Nat} {k:Dk} (h:DiskAt w D d kb k) (hx:Ext F w w') (hF:∀ b,D b → ¬ F b):DiskAt w' D d kb k:=by
 obtain ⟨A,c,h1,h2,h3⟩:=h.cells
 obtain ⟨cs,h4,h5,h6⟩:=h.kept
 refine ⟨⟨A,c,h1.ext hx (hF d h.dd),?_,h3⟩,⟨cs,h4.ext hx (hF kb h.dk),h5,h6⟩,h.klen,h.plen,h.dd,h.dk,h.ne,fun b hb=>Nat.lt_of_lt_of_le (h.old b hb) hx.size,h.n1,h.n2⟩
 refine ⟨h2.1,?_⟩
 rcases h2.2 with h0 | ⟨g,cap,cur,e,hg,hb,r1,r2,r3,r4⟩
 ·exact .inl h0
 ·have hgD:=(h3 g (by rw [e];rfl)).1
  refine .inr ⟨g,cap,cur,e,hg,?_,r1,r2,r3,r4⟩
  rw [hx.block g (h.old g hgD) (hF g hgD)];exact hb
theorem DiskAt.mono {w:World} {D D':Nat → Prop} {d kb:Nat} {k:Dk} (h:DiskAt w D d kb k) (hD:∀ b,D b → D' b) (ho:∀ b,D' b → b < w.heap.size):DiskAt w D' d kb k:=by
 obtain ⟨A,c,h1,h2,h3⟩:=h.cells
 exact ⟨⟨A,c,h1,h2,fun g hg=>⟨hD g (h3 g hg).1,(h3 g hg).2⟩⟩,h.kept,h.klen,h.plen,hD d h.dd,hD kb h.dk,h.ne,ho,h.n1,h.n2⟩
theorem Grow.old {D:Nat → Prop} {w w':World} (h:∀ b,D b → b < w.heap.size) (hs:w.heap.size ≤ w'.heap.size):∀ b,Grow D w w' b → b < w'.heap.size:=fun b hb=>by
 rcases hb with hb | hb
 ·exact Nat.lt_of_lt_of_le (h b hb) hs
 ·exact hb.2
theorem Grow.trans {D:Nat → Prop} {w w1 w':World} (h1:w.heap.size ≤ w1.heap.size) (h2:w1.heap.size ≤ w'.heap.size) {b:Nat} (h:Grow (Grow D w w1) w1 w' b):Grow D w w' b:=by
 rcases h with (h | h) | h
 ·exact .inl h
 ·exact .inr ⟨h.1,by omega⟩
 ·exact .inr ⟨by omega,h.2⟩
section
variable {w:World} {D:Nat → Prop} {d kb:Nat} {k:Dk}
theorem DiskAt.c {w:World} {D:Nat → Prop} {d kb:Nat} {k:Dk} (h:DiskAt w D d kb k):∃ A c,Blk w d 140 (k.cells kb A c) ∧ w.cell? ⟨d,0,none⟩ = some (.slice (some ⟨kb,0,none⟩) k.n k.n) ∧ w.cell? ⟨d,1,none⟩ = some (.slice A k.pd.length c) ∧ w.cell? ⟨d,2,none⟩ = some (.bool k.down) ∧
  w.cell? ⟨d,3,none⟩ = some (.bool k.armed) ∧ w.cell? ⟨d,4,none⟩ = some (.int .i64 (k.left:Int)) ∧ w.cell? ⟨d,5,none⟩ = some (.int .i64 (k.done:Int)) ∧ d < w.heap.size ∧ (∀ i,w.frozen? ⟨d,i,none⟩ = false):=by
 obtain ⟨A,c,h1,_,_⟩:=h.cells
 exact ⟨A,c,h1,h1.cell 0,h1.cell 1,h1.cell 2,h1.cell 3,h1.cell 4,h1.cell 5,h1.lt,fun i=>h1.frozen i⟩
theorem dk_none (h:DiskAt w D d kb k):Calls Tryz.prog 79 #[.pointer (some ⟨d,0,none⟩)] w fun e w'=>e = .returned (.bool false) ∧ w = w':=by
 obtain ⟨A,c,_,c0,_⟩:=h.c
 exact dnone_no d k.n _ w c0 h.n1
theorem dk_up (h:DiskAt w D d kb k):Calls Tryz.prog 78 #[.pointer (some ⟨d,0,none⟩)] w fun e w'=>e = .returned (.int .i64 (if k.down then 10 else 0)) ∧ w = w':=by
 have HN:=Lib.hid (dk_none h)
 obtain ⟨A,c,_,c0,_,c2,_⟩:=h.c
 cases hd:k.down
 ·rw [hd] at c2
  clear h
  go_enter Tryz.func78,Tryz.ntmps78
  go_wp2_with (go_at_call 79;refine (HN.out).mono ?_;rintro e w' ⟨rfl,rfl⟩)
  go_ret
  exact ⟨rfl,rfl⟩
 ·rw [hd] at c2
  clear h
  go_enter Tryz.func78,Tryz.ntmps78
  go_wp2_with (go_at_call 79;refine (HN.out).mono ?_;rintro e w' ⟨rfl,rfl⟩)
  go_ret
  exact ⟨rfl,rfl⟩
theorem dk_is (h:DiskAt w D d kb k) (i:Nat) (hi:i < k.n):Calls Tryz.prog 163 #[.pointer (some ⟨d,0,none⟩),.int .i64 (i:Int)] w fun e w'=>e = .returned (.bool true) ∧ w = w':=by
 obtain ⟨A,c,_,c0,_⟩:=h.c
 have h1:(0:Int) ≤ i:=by omega
 have h2:(i:Int) < k.n:=by omega
 go_enter Tryz.func163,Tryz.ntmps163
 go_wp2_with fail
 go_ret
 exact ⟨rfl,rfl⟩
theorem DiskAt.set (h:DiskAt w D d kb k) {A:Option Addr} {c:Nat} (hb:Blk w d 140 (k.cells kb A c)) {w':World} {k':Dk} (hx:Ext (On d) w w') (hb':Blk w' d 140 (k'.cells kb A c)) (e1:k'.n = k.n) (e2:k'.K = k.K) (e3:k'.pd = k.pd):DiskAt w' D d kb k':=by
 obtain ⟨A2,c2,h1,h2,h3⟩:=h.cells
 have e:A2 = A ∧ c2 = c:=by
  unfold Blk at hb h1
  rw [hb] at h1
  simp only [Dk.cells,Option.some.injEq,Obj.cells.injEq,and_true] at h1
  have:=congrArg (fun a:Array Value=>a[1]?) h1
  simp at this
  exact ⟨this.1.symm,this.2.symm⟩
 obtain ⟨rfl,rfl⟩:=e
 obtain ⟨cs,h4,h5,h6⟩:=h.kept
 refine ⟨⟨A2,c2,hb',?_,fun g hg=>h3 g (by rw [e3] at hg;exact hg)⟩,⟨cs,h4.ext hx (fun e=>h.ne e.symm),by rw [e1];exact h5,by rw [e1,e2];exact h6⟩,by rw [e1,e2];exact h.klen,by rw [e1,e3];exact h.plen,h.dd,h.dk,h.ne,fun b hb=>Nat.lt_of_lt_of_le (h.old b hb) hx.size,by rw [e1];exact h.n1,by rw [e1];exact h.n2⟩
 rw [e3]
 refine ⟨h2.1,?_⟩
 rcases h2.2 with h0 | ⟨g,cap,cur,e,hg,hbb,r1,r2,r3,r4⟩
 ·exact .inl h0
 ·have hgD:=h3 g (by rw [e];rfl)
  refine .inr ⟨g,cap,cur,e,hg,?_,r1,r2,r3,r4⟩
  rw [hx.block g (h.old g hgD.1) hgD.2.1];exact hbb
theorem dk_does (h:DiskAt w D d kb k) (hl:k.left < 2^40) (hdn:k.done < 2^40):Calls Tryz.prog 158 #[.pointer (some ⟨d,0,none⟩)] w fun e w'=>e = .returned (.int .i64 (k.does.1:Int)) ∧ DiskAt w' D d kb k.does.2 ∧ Ext (On d) w w':=by
 obtain ⟨A,c,hb,c0,c1,c2,c3,c4,c5,hlt,hfz⟩:=h.c
 have f2:=hfz 2
 have f4:=hfz 4
 have f5:=hfz 5
 have hon:On d d:=rfl
 cases ha:k.armed
 ·have e:k.does = (0,{ k with left:=k.left,done:=k.done + 1 }):=by unfold Dk.does;simp [ha]
  rw [e]
  rw [ha] at c3
  have HR:Hid (DiskAt (w.setCell ⟨d,5,none⟩ (.int .i64 ((k.done:Int) + 1))) D d kb { k with left:=k.left,done:=k.done + 1 }):=Lib.hid (h.set hb ((Ext.refl _ _).setF (F:=On d) hon 5 _) (hb.set_ 5 _) rfl rfl rfl)
  clear h hfz e
  go_enter Tryz.func158,Tryz.ntmps158
  go_wp2_with fail
  go_ret
  exact ⟨rfl,HR.out,(Ext.refl _ _).setF (F:=On d) hon 5 _⟩
 ·rw [ha] at c3
  by_cases h0:k.left = 0
  ·have e:k.does = (10,{ k with down:=true }):=by unfold Dk.does;simp [ha,h0]
   rw [e]
   rw [h0] at c4
   have HR:Hid (DiskAt (w.setCell ⟨d,2,none⟩ (.bool true)) D d kb { k with down:=true }):=Lib.hid (h.set hb ((Ext.refl _ _).setF (F:=On d) hon 2 _) (hb.set_ 2 _) rfl rfl rfl)
   clear h hfz e
   go_enter Tryz.func158,Tryz.ntmps158
   go_wp2_with fail
   go_ret
   exact ⟨rfl,HR.out,(Ext.refl _ _).setF (F:=On d) hon 2 _⟩
  ·have e:k.does = (0,{ k with left:=k.left - 1,done:=k.done + 1 }):=by unfold Dk.does;simp [ha,h0]
   rw [e]
   have hz:((k.left:Int) == 0) = false:=by simpa using h0
   have hsub:((k.left:Int) - 1) = ((k.left - 1:Nat):Int):=by omega
   have HR:Hid (DiskAt ((w.setCell ⟨d,4,none⟩ (.int .i64 ((k.left:Int) - 1))).setCell ⟨d,5,none⟩ (.int .i64 ((k.done:Int) + 1))) D d kb { k with left:=k.left - 1,done:=k.done + 1 }):=Lib.hid (by
    have h1:=h.set (k':={ k with left:=k.left - 1 }) hb ((Ext.refl _ _).setF (F:=On d) hon 4 (.int .i64 ((k.left:Int) - 1))) (by rw [hsub];exact hb.set_ 4 _) rfl rfl rfl
    exact h1.set (k':={ k with left:=k.left - 1,done:=k.done + 1 }) (by rw [hsub];exact hb.set_ 4 _) ((Ext.refl _ _).setF (F:=On d) hon 5 _) (by rw [hsub];exact (hb.set_ 4 _).set_ 5 _) rfl rfl rfl)
   have hge:(1:Int) ≤ k.left:=by omega
   clear h hfz e hsub
   go_enter Tryz.func158,Tryz.ntmps158
   go_wp2_with fail
   go_ret
   exact ⟨rfl,HR.out,((Ext.refl _ _).setF (F:=On d) hon 4 _).setF (F:=On d) hon 5 _⟩
end
def zero65:Array Value:=#[.int .i64 0] ++ zero64
theorem Tryz.info144:(Tryz.prog.info? 144).map (fun i=>(i.zero,i.size,i.bytes)) = some (some (.agg zero65),65,72):=by kernel_rfl
def wrVals (i:Nat) (b:Bs):List Value:=.int .i64 (i:Int) :: bcs b
theorem wrVals_len {i:Nat} {b:Bs} (h:b.length = 64):(wrVals i b).length = 65:=by simp [wrVals,bcs_len,h]
theorem pendVals_snoc (pd:List (Nat × Bs)) (i:Nat) (b:Bs):pendVals (pd ++ [(i,b)]) = pendVals pd ++ wrVals i b:=by
 rw [pendVals_append];simp [pendVals,wrVals]
theorem box_list (i:Nat):(#[Value.int .i64 (i:Int)] ++ zero64).toList = Value.int .i64 (i:Int) :: List.replicate 64 (.int .u8 0):=by
 rw [Array.toList_append]
 show [Value.int .i64 (i:Int)] ++ (Array.replicate 64 (Value.int .u8 0)).toList = _
 rw [Array.toList_replicate];rfl
theorem box_copy (i:Nat) {s:Bs} (hs:s.length ≤ 64):((#[Value.int .i64 (i:Int)] ++ zero64).toList.take 1 ++ bcs s ++ (#[Value.int .i64 (i:Int)] ++ zero64).toList.drop (1 + s.length)) = wrVals i (sect s):=by
 rw [box_list,show 1 + s.length = s.length + 1 by omega,List.drop_succ_cons,List.drop_replicate]
 have h1:bcs (zs (64 - s.length)) = List.replicate (64 - s.length) (.int .u8 0):=by unfold bcs zs;rw [List.map_replicate];rfl
 unfold wrVals sect
 rw [bcs_append,h1]
 rfl
theorem zero144_list:Tryz.zeroCells144.toList = Value.int .i64 0 :: List.replicate 64 (.int .u8 0):=by kernel_rfl
theorem box_set (w:World) (i:Nat):(storeCells ⟨w.heap.size,0,none⟩ (Tryz.zeroCells144.toList.set 0 (.int .i64 (i:Int)))).run Tryz.prog (w.alloc (.cells Tryz.zeroCells144 144)) = .ok () (w.alloc (.cells (#[.int .i64 (i:Int)] ++ zero64) 144)):=by
 have h:=run_storeCells_new (P:=Tryz.prog) w 144 Tryz.zeroCells144 (#[.int .i64 (i:Int)] ++ zero64) (by kernel_rfl) (by kernel_rfl) (by
  rw [Array.all_eq_true_iff_forall_mem]
  intro v hv
  have hv':v ∈ (#[Value.int .i64 (i:Int)] ++ zero64).toList:=Array.mem_toList_iff.2 hv
  rw [box_list] at hv'
  rcases List.mem_cons.1 hv' with rfl | hv'
  ·rfl
  ·rw [List.eq_of_mem_replicate hv'];rfl)
 rw [box_list] at h
 rw [zero144_list]
 exact h
theorem copied_gen (w:World) (C:Array Value) {s:Bs} (hs:s.length ≤ 64) (hC:C.size = 65) (ty:TypeId):(Builtin.copy_ #[98,9] ty #[.slice (some ⟨w.heap.size,1,none⟩) 64 64,.string (str s)]).run Tryz.prog (w.alloc (.cells C 144)) = .ok (goInt s.length) (w.alloc (.cells (C.toList.take 1 ++ bcs s ++ C.toList.drop (1 + s.length)).toArray 144)):=by
 have h5:(Tryz.prog.info? 5).map (·.size) = some 1:=by kernel_rfl
 have h:=Lib.run_copy_row_string (P:=Tryz.prog) (w.alloc (.cells C 144)) 98 9 ty 5 w.heap.size 1 64 64 (str s) C 144 Tryz.underlying98 h5 (heap_alloc_new w (.cells C 144)) (by rw [str_size];exact hs) (by rw [str_size,hC];omega)
 rw [World.setRow_alloc_new,str_size,str_toList] at h
 exact h
theorem box_copied (w:World) (i:Nat) {s:Bs} (hs:s.length ≤ 64) (ty:TypeId):(Builtin.copy_ #[98,9] ty #[.slice (some ⟨w.heap.size,1,none⟩) 64 64,.string (str s)]).run Tryz.prog (w.alloc (.cells (#[.int .i64 (i:Int)] ++ zero64) 144)) = .ok (goInt s.length) (w.alloc (.cells (wrVals i (sect s)).toArray 144)):=by
 have e:=box_copy i hs
 have hz:(#[Value.int .i64 (i:Int)] ++ zero64).size = 65:=by rw [← Array.length_toList,box_list];rfl
 generalize (#[Value.int .i64 (i:Int)] ++ zero64) = C at *
 rw [copied_gen w C hs hz ty,e]
def setRange (cs:Array Value):Nat → List Value → Array Value
 | _,[]=>cs
 | o,v :: r=>setRange (cs.setIfInBounds o v) (o + 1) r
theorem Blk.setCells {g:Nat} {t:TypeId}:∀ (vs:List Value) {cs:Array Value} {o:Nat} {w:World},Blk w g t cs → Blk (w.setCells g o vs) g t (setRange cs o vs)
 | [],cs,o,w,h=>h
 | v :: r,cs,o,w,h=>Blk.setCells r (h.set_ o v)
theorem setRange_size:∀ (vs:List Value) (cs:Array Value) (o:Nat),(setRange cs o vs).size = cs.size
 | [],cs,o=>rfl
 | v :: r,cs,o=>by rw [setRange,setRange_size];simp
theorem setRange_get:∀ (vs:List Value) (cs:Array Value) (o i:Nat),o + vs.length ≤ cs.size → (setRange cs o vs)[i]? = if o ≤ i ∧ i < o + vs.length then vs[i - o]? else cs[i]?
 | [],cs,o,i,h=>by rw [if_neg (by rintro ⟨h1,h2⟩;simp at h2;omega)];rfl
 | v :: r,cs,o,i,h=>by
  rw [List.length_cons] at h
  rw [setRange,setRange_get r _ _ _ (by simp;omega)]
  by_cases h1:o = i
  ·subst h1
   rw [if_neg (by omega),if_pos (by simp)]
   simp [show o < cs.size by omega]
  ·by_cases h2:o + 1 ≤ i ∧ i < o + 1 + r.length
   ·rw [if_pos h2,if_pos (by simp;omega),show i - o = (i - (o + 1)) + 1 by omega]
    simp
   ·rw [if_neg h2,if_neg (by simp;omega)]
    simp [h1]
theorem Ext.setCellsF {F:Nat → Prop} {w:World} {b:Nat} (hb:F b):∀ (vs:List Value) (o:Nat) {w':World},Ext F w w' → Ext F w (w'.setCells b o vs)
 | [],o,w',h=>h
 | v :: r,o,w',h=>Ext.setCellsF hb r (o + 1) (h.setF hb o v)
theorem fold_range:∀ (l:List Value) (k:Nat) (base:Array Value),(l.zipIdx k).foldl (fun cs x=>cs.setIfInBounds x.2 x.1) base = setRange base k l
 | [],k,base=>rfl
 | v :: l,k,base=>by rw [List.zipIdx_cons,List.foldl_cons,fold_range l (k + 1)];rfl
theorem range_all {base cs:Array Value} (h:base.size = cs.size):setRange base 0 cs.toList = cs:=by
 apply Array.ext_getElem?
 intro i
 rw [setRange_get _ _ _ _ (by rw [Array.length_toList];omega)]
 by_cases hi:i < cs.size
 ·rw [if_pos ⟨by omega,by rw [Array.length_toList];omega⟩];simp
 ·rw [if_neg (by rintro ⟨_,h2⟩;rw [Array.length_toList] at h2;omega),Array.getElem?_eq_none (by omega),Array.getElem?_eq_none (by omega)]
theorem fold_all {base cs:Array Value} (h:base.size = cs.size):cs.zipIdx.foldl (fun a x=>a.setIfInBounds (0 + x.2) x.1) base = cs:=by
 have e:(fun (a:Array Value) (x:Value × Nat)=>a.setIfInBounds (0 + x.2) x.1) = fun a x=>a.setIfInBounds x.2 x.1:=by funext a x;rw [Nat.zero_add]
 rw [e,← Array.foldl_toList,Array.toList_zipIdx,fold_range,range_all h]
theorem fill_box {base cs:Array Value} (hb:base.size = 65) (h:cs.size = 65):Instr.fill (fun i=>some (i * 65,65)) base [(0,Value.agg cs)] = some cs:=by
 unfold Instr.fill
 simp only [Nat.zero_mul,Value.cells]
 rw [if_neg (by simp [h,hb])]
 unfold Instr.fill
 exact congrArg some (fold_all (by rw [hb,h]))
theorem zero65_size:zero65.size = 65:=by
 have h:=congrArg List.length (box_list 0)
 rw [Array.length_toList] at h
 exact h.trans (by simp)
theorem run_build_box (w:World) {cs:Array Value} (h:cs.size = 65):(Instr.buildSlice 138 1 #[(0,.agg cs)]).run Tryz.prog w = .ok (.slice (some ⟨w.heap.size,0,none⟩) 1 1) (w.alloc (.cells cs 144)):=by
 obtain ⟨i,hi,hzz⟩:=Option.map_eq_some_iff.1 Tryz.info144
 simp only [Prod.mk.injEq] at hzz
 obtain ⟨hz,hs,hb⟩:=hzz
 have hzs:=zero65_size
 generalize zero65 = Z at *
 have hfl:=fill_box (base:=(Array.range 65).map (fun x=>Z[x % 65]!)) (by simp) h
 unfold Instr.buildSlice
 rw [Sem.run_bind,run_underlying Tryz.underlying138]
 simp [Sem.run_bind,sizeOf,typeInfo,hi,hs,zeroValue,hz,Value.cells,hzs,hfl,newRow,Result.andThen]
theorem wp_build_box {P:Program} {o:Oper} {a:Act} {K:Act → World → Prop} {Q:Exit → Act → World → Prop} {W:World} {cs:Array Value} (hP:P = Tryz.prog) (x:Operand) (ho:o.op = .buildSlice 138 1 #[(0,x)]) (hx:a.eval x = .agg cs) (hs:cs.size = 65)
  (h:K (a.put o.dst (.slice (some ⟨W.heap.size,0,none⟩) 1 1)) (W.alloc (.cells cs 144))):Oper.wp P o a W K Q:=by
 subst hP
 have hr:=run_build_box W hs
 unfold Oper.wp execOp
 simp only [ho,List.map_toArray,List.map_cons,List.map_nil,hx,hr,Sem.run_bind,Sem.run_pure,Result.andThen_ok]
 exact h
theorem step_build_box {P:Program} {ops:Array Oper} {o:Oper} {a:Act} {K:Act → World → Prop} {Q:Exit → Act → World → Prop} {E:Prop} {W:World} {cs:Array Value} (hP:P = Tryz.prog) (hgd:o.guard = none) (x:Operand) (ho:o.op = .buildSlice 138 1 #[(0,x)]) (hx:a.eval x = .agg cs) (hs:cs.size = 65)
  (h:K (a.put o.dst (.slice (some ⟨W.heap.size,0,none⟩) 1 1)) (W.alloc (.cells cs 144))):if Region.wanted o (yielded ops a.tmps) = true then Oper.wp P o a W K Q else E:=by
 have hw:Region.wanted o (yielded ops a.tmps) = true:=by simp [Region.wanted,hgd]
 rw [if_pos hw]
 exact wp_build_box hP x ho hx hs h
theorem owns_ext {F:Nat → Prop} {w w':World} {e:TypeId} {size:Nat} {v:Value} {n:Nat} {xs:List Value} (h:w.ownsRow 0 e size v n xs) (hx:Ext F w w') (hF:∀ g,v.ownBlock = some g → ¬ F g):w'.ownsRow 0 e size v n xs:=by
 refine ⟨h.1,?_⟩
 rcases h.2 with h0 | ⟨g,cap,cur,e1,hg,hb,r⟩
 ·exact .inl h0
 ·refine .inr ⟨g,cap,cur,e1,hg,?_,r⟩
  have hlt:g < w.heap.size:=by
   rcases Nat.lt_or_ge g w.heap.size with hl | hl
   ·exact hl
   ·rw [Array.getElem?_eq_none hl] at hb;cases hb
  rw [hx.block g hlt (hF g (by rw [e1];rfl))];exact hb
theorem wr_one {p:Nat × Bs}:∀ v ∈ wrVals p.1 p.2,v.oneCell' = true:=by
 intro v hv
 rcases List.mem_cons.1 hv with rfl | hv
 ·rfl
 ·obtain ⟨u,_,rfl⟩:=List.mem_map.1 hv
  rfl
theorem dk_pushed {w W W6 w7:World} {D:Nat → Prop} {d kb c:Nat} {k:Dk} {A:Option Addr} {p:Nat × Bs} (h:DiskAt W D d kb k) (hb:Blk W d 140 (k.cells kb A c)) (hw:w.heap.size ≤ W.heap.size) (hD:∀ b,D b → b < w.heap.size) (hx:Ext No W W6) {g cap:Nat}
  (hown:w7.ownsRow 0 144 65 (.slice (some ⟨g,0,none⟩) (k.pd.length + 1) cap) (k.pd.length + 1) (pendVals k.pd ++ wrVals p.1 p.2)) (hg:W6.grownBy w7 (Value.slice A k.pd.length c).ownBlock) (ha:(Value.slice A k.pd.length c).ownBlock = some g ∨ g = W6.heap.size) (hlt:g < w7.heap.size) (hp:p.1 < k.n ∧ p.2.length = 64) :
  DiskAt (w7.setCell ⟨d,1,none⟩ (.slice (some ⟨g,0,none⟩) (k.pd.length + 1) cap)) (Grow D w (w7.setCell ⟨d,1,none⟩ (.slice (some ⟨g,0,none⟩) (k.pd.length + 1) cap))) d kb { k with pd:=k.pd ++ [p] } ∧
  Ext D W (w7.setCell ⟨d,1,none⟩ (.slice (some ⟨g,0,none⟩) (k.pd.length + 1) cap)):=by
 obtain ⟨A2,c2,h1,h2,h3⟩:=h.cells
 have e:A2 = A ∧ c2 = c:=by
  unfold Blk at hb h1
  rw [hb] at h1
  simp only [Dk.cells,Option.some.injEq,Obj.cells.injEq,and_true] at h1
  have:=congrArg (fun a:Array Value=>a[1]?) h1
  simp at this
  exact ⟨this.1.symm,this.2.symm⟩
 obtain ⟨rfl,rfl⟩:=e
 have hx7:Ext (fun b=>(Value.slice A2 k.pd.length c2).ownBlock = some b) W w7:=⟨hg.os.trans hx.os,hg.tape.trans hx.tape,hg.output.trans hx.output,Nat.le_trans hx.size hg.size,fun b hbl hne=>(hg.block b (Nat.lt_of_lt_of_le hbl hx.size) (fun e=>hne e.symm)).trans (hx.block b hbl (fun h=>h))⟩
 have hd7:Blk w7 d 140 (k.cells kb A2 c2):=h1.ext hx7 (fun e=>(h3 d e).2.1 rfl)
 have hk7:∀ b,D b → (Value.slice A2 k.pd.length c2).ownBlock ≠ some b → w7.heap[b]? = W.heap[b]?:=fun b hb hne=>hx7.block b (h.old b hb) hne
 have hgd:g ≠ d ∧ g ≠ kb:=by
  rcases ha with ha | ha
  ·exact (h3 g ha).2
  ·have:=hx.size
   have h4:=h.old d h.dd
   have h5:=h.old kb h.dk
   exact ⟨by omega,by omega⟩
 have hx9:=hx7.setCell (p:=⟨d,1,none⟩)
 have hxD:Ext D W (w7.setCell ⟨d,1,none⟩ (.slice (some ⟨g,0,none⟩) (k.pd.length + 1) cap)):=(hx7.mono (fun b _ hb=>(h3 b hb).1)).setF (F:=D) h.dd 1 _
 have hsz:(w7.setCell ⟨d,1,none⟩ (.slice (some ⟨g,0,none⟩) (k.pd.length + 1) cap)).heap.size = w7.heap.size:=by simp
 have hsz7:=hx7.size
 obtain ⟨cs,h4,h5,h6⟩:=h.kept
 have hlen:(k.pd ++ [p]).length = k.pd.length + 1:=by simp
 refine ⟨⟨⟨some ⟨g,0,none⟩,cap,?_,?_,?_⟩,⟨cs,?_,h5,h6⟩,h.klen,?_,.inl h.dd,.inl h.dk,h.ne,?_,h.n1,h.n2⟩,hxD⟩
 ·have:=hd7.set_ 1 (.slice (some ⟨g,0,none⟩) (k.pd.length + 1) cap)
  have e2:({ k with pd:=k.pd ++ [p] }:Dk).cells kb (some ⟨g,0,none⟩) cap = (k.cells kb A2 c2).setIfInBounds 1 (.slice (some ⟨g,0,none⟩) (k.pd.length + 1) cap):=by
   unfold Dk.cells
   simp only [hlen]
   rfl
  rw [e2]
  exact this
 ·show (w7.setCell _ _).ownsRow 0 144 65 (.slice (some ⟨g,0,none⟩) (k.pd ++ [p]).length cap) (k.pd ++ [p]).length (pendVals (k.pd ++ [p]))
  rw [hlen,show pendVals (k.pd ++ [p]) = pendVals k.pd ++ wrVals p.1 p.2 from pendVals_snoc _ _ _]
  refine owns_ext (F:=On d) hown ((Ext.refl _ _).setF (F:=On d) rfl 1 _) (fun b hb e=>?_)
  have hb':g = b:=by simpa [Value.ownBlock] using hb
  have e':b = d:=e
  exact hgd.1 (hb'.trans e')
 ·intro b hb
  have hb':g = b:=by simpa [Value.ownBlock] using hb
  subst hb'
  refine ⟨?_,hgd⟩
  rcases ha with ha | ha
  ·exact .inl (h3 g ha).1
  ·exact .inr ⟨by have:=hx.size;omega,by omega⟩
 ·have hkb:Blk w7 kb 142 cs:=h4.ext hx7 (fun e=>(h3 kb e).2.2 rfl)
  exact hkb.far (p:=⟨d,1,none⟩) (fun e=>h.ne e.symm) _
 ·intro q hq
  rcases List.mem_append.1 hq with hq | hq
  ·exact h.plen q hq
  ·rw [List.mem_singleton.1 hq];exact hp
 ·exact Grow.old hD (by omega)
theorem cur_snoc (K:Bs) (pd:List (Nat × Bs)) (p:Nat × Bs) (i:Nat):(pd ++ [p]).foldl (fun b p=>if p.1 = i then p.2 else b) K = if p.1 = i then p.2 else pd.foldl (fun b p=>if p.1 = i then p.2 else b) K:=by
 rw [List.foldl_append];rfl
theorem pend_range {pd:List (Nat × Bs)} (h:∀ p ∈ pd,p.2.length = 64) {j:Nat} {p:Nat × Bs} (hj:pd[j]? = some p):∀ (x:Nat) (u:Value),(wrVals p.1 p.2)[x]? = some u → (pendVals pd)[j * 65 + x]? = some u:=by
 induction pd generalizing j with
 | nil=>cases hj
 | cons q pd ih =>
  have e:pendVals (q :: pd) = wrVals q.1 q.2 ++ pendVals pd:=rfl
  have hl:=wrVals_len (i:=q.1) (h q (by simp))
  intro x u hu
  rw [e]
  cases j with
  | zero =>
   have:q = p:=by simpa using hj
   subst this
   have hx:=(List.getElem?_eq_some_iff.1 hu).1
   rw [List.getElem?_append_left (by omega)]
   simpa using hu
  | succ j =>
   rw [List.getElem?_append_right (by omega),hl,show (j + 1) * 65 + x - 65 = j * 65 + x by omega]
   exact ih (fun q hq=>h q (by simp [hq])) (by simpa using hj) x u hu
theorem load_pend {w:World} {D:Nat → Prop} {d kb:Nat} {k:Dk} (h:DiskAt w D d kb k) {j:Nat} {p:Nat × Bs} (hj:k.pd[j]? = some p):∃ g c,w.cell? ⟨d,1,none⟩ = some (.slice (some ⟨g,0,none⟩) k.pd.length c) ∧ k.pd.length ≤ c ∧ w.rangeAt g (j * 65) (wrVals p.1 p.2) ∧ g < w.heap.size:=by
 obtain ⟨A,c,h1,h2,h3⟩:=h.cells
 have hjl:=(List.getElem?_eq_some_iff.1 hj).1
 have hpl:∀ p ∈ k.pd,p.2.length = 64:=fun p hp=>(h.plen p hp).2
 have hcell:=h1.cell 1
 rcases h2.2 with ⟨h0,h00⟩ | ⟨g,cap,cur,e,hg,hbb,r1,r2,r3,r4⟩
 ·omega
 ·injection e with e1 e2 e3
  subst e1;subst e3
  have hwl:=wrVals_len (i:=p.1) (hpl p (List.mem_of_getElem? hj))
  refine ⟨g,c,hcell,r1,fun x u hx=>?_,World.ownsRow.lt h2 g rfl |>.2⟩
  have hx1:=(List.getElem?_eq_some_iff.1 hx).1
  have:=pend_range hpl hj x u hx
  rw [h2.cellAt (j * 65 + x) (by omega)]
  exact this
theorem run_store_box (w:World) {i:Nat} {b:Bs} (hb:b.length = 64):(storeCells ⟨w.heap.size,0,none⟩ (wrVals i b)).run Tryz.prog (w.alloc (.cells Tryz.zeroCells144 144)) = .ok () (w.alloc (.cells (wrVals i b).toArray 144)):=by
 have hz:(wrVals i b).toArray.size = 65:=by rw [List.size_toArray,wrVals_len hb]
 have h:=run_storeCells_new (P:=Tryz.prog) w 144 Tryz.zeroCells144 (wrVals i b).toArray (by rw [hz];kernel_rfl) (by rw [hz];kernel_rfl) (all_oneCell_toArray (wr_one (p:=(i,b))))
 simpa using h
theorem DiskAt.keep {w:World} {D:Nat → Prop} {d kb:Nat} {k:Dk} (h:DiskAt w D d kb k) {i:Nat} {b:Bs} (hi:i < k.n) (hb:b.length = 64) :
  DiskAt (w.setCells kb (i * 64) (bcs b)) D d kb { k with K:=fun j=>if i = j then b else k.K j }:=by
 have hx:Ext (On kb) w (w.setCells kb (i * 64) (bcs b)):=Ext.setCellsF (F:=On kb) (b:=kb) rfl _ _ (Ext.refl _ _)
 obtain ⟨A,c,h1,h2,h3⟩:=h.cells
 obtain ⟨cs,h4,h5,h6⟩:=h.kept
 have hl:(bcs b).length = 64:=by rw [bcs_len,hb]
 refine ⟨⟨A,c,h1.ext hx (fun e=>h.ne e),?_,h3⟩,⟨_,Blk.setCells _ h4,by rw [setRange_size];exact h5,fun j hj x hx64=>?_⟩,fun j hj=>?_,h.plen,h.dd,h.dk,h.ne,fun y hy=>Nat.lt_of_lt_of_le (h.old y hy) hx.size,h.n1,h.n2⟩
 ·refine ⟨h2.1,?_⟩
  rcases h2.2 with h0 | ⟨g,cap,cur,e,hg,hbb,r1,r2,r3,r4⟩
  ·exact .inl h0
  ·have hgD:=h3 g (by rw [e];rfl)
   refine .inr ⟨g,cap,cur,e,hg,?_,r1,r2,r3,r4⟩
   rw [hx.block g (h.old g hgD.1) hgD.2.2];exact hbb
 ·have hj':j < k.n:=hj
  rw [setRange_get _ _ _ _ (by rw [hl,h5];omega),hl]
  by_cases hij:i = j
  ·subst hij
   rw [if_pos (by omega),show i * 64 + x - i * 64 = x by omega]
   show (bcs b)[x]? = some (.int .u8 (((if i = i then b else k.K i).getD x 0).toNat:Int))
   rw [if_pos rfl]
   simp [bcs,List.getElem?_eq_getElem (show x < b.length by omega)]
  ·rw [if_neg (by omega)]
   show cs[j * 64 + x]? = some (.int .u8 (((if i = j then b else k.K j).getD x 0).toNat:Int))
   rw [if_neg hij]
   exact h6 j hj' x hx64
 ·show (if i = j then b else k.K j).length = 64
  split
  ·exact hb
  ·exact h.klen j hj
theorem DiskAt.there {w:World} {D:Nat → Prop} {d kb:Nat} {k:Dk} (h:DiskAt w D d kb k) {i:Nat} (hi:i < k.n):w.there kb (i * 64) 64:=fun j hj=>by
 obtain ⟨cs,h4,h5,h6⟩:=h.kept
 refine ⟨?_,h4.frozen _⟩
 rw [h4.cell,h6 i hi j hj];rfl
theorem bcs_one {b:Bs}:∀ v ∈ bcs b,v.oneCell' = true:=fun v hv=>by
 obtain ⟨u,_,rfl⟩:=List.mem_map.1 hv
 rfl
theorem DiskAt.emptied {w:World} {D:Nat → Prop} {d kb:Nat} {k:Dk} (h:DiskAt w D d kb k):DiskAt (w.setCell ⟨d,1,none⟩ (.slice none 0 0)) D d kb { k with pd:=[] }:=by
 have hx:Ext (On d) w (w.setCell ⟨d,1,none⟩ (.slice none 0 0)):=(Ext.refl _ _).setF (F:=On d) rfl 1 _
 obtain ⟨A,c,h1,h2,h3⟩:=h.cells
 obtain ⟨cs,h4,h5,h6⟩:=h.kept
 refine ⟨⟨none,0,h1.set_ 1 _,⟨rfl,.inl ⟨rfl,rfl⟩⟩,(fun g hg=>by cases hg)⟩,⟨cs,h4.ext hx (fun e=>h.ne e.symm),h5,h6⟩,h.klen,(fun p hp=>by cases hp),h.dd,h.dk,h.ne,fun y hy=>Nat.lt_of_lt_of_le (h.old y hy) hx.size,h.n1,h.n2⟩
def Dk.upto (k:Dk) (j:Nat):Dk:={ k with K:=fun i=>(k.pd.take j).foldl (fun b p=>if p.1 = i then p.2 else b) (k.K i) }
theorem Dk.upto_next {k:Dk} {j:Nat} {p:Nat × Bs} (hp:k.pd[j]? = some p):{ k.upto j with K:=fun i=>if p.1 = i then p.2 else (k.upto j).K i } = k.upto (j + 1):=by
 have hj:=(List.getElem?_eq_some_iff.1 hp).1
 have e:(fun i=>if p.1 = i then p.2 else (k.upto j).K i) = (k.upto (j + 1)).K:=by
  funext i
  show _ = (k.pd.take (j + 1)).foldl (fun b p=>if p.1 = i then p.2 else b) (k.K i)
  rw [List.take_add_one,hp,Option.toList_some,cur_snoc];rfl
 rw [e];rfl
def Dk.flushed (k:Dk):Dk:={ k.upto k.pd.length with pd:=[] }
theorem Dk.flush_eq {k:Dk} (hd:k.down = false):k.flush = if k.does.1 ≠ 0 then k.does else (0,k.does.2.flushed):=by
 have h1:=k.does_same
 have e:k.does.2.flushed = { k.does.2 with K:=k.cur,pd:=[] }:=by
  unfold Dk.flushed Dk.upto Dk.cur
  simp [h1.2.1,h1.2.2.1]
 unfold Dk.flush
 rw [hd,e];rfl
theorem dk_flush {w:World} {D:Nat → Prop} {d kb:Nat} {k:Dk} (h:DiskAt w D d kb k) (hl:k.left < 2^40) (hdn:k.done < 2^40) (hpd:k.pd.length < 2^30) :
  Calls Tryz.prog 110 #[.pointer (some ⟨d,0,none⟩)] w fun e w'=>e = .returned (.int .i64 ((k.flush).1:Int)) ∧ DiskAt w' D d kb k.flush.2 ∧ Ext D w w':=by
 have HU:=Lib.hid (dk_up h)
 have HDO:=Lib.hid (dk_does h hl hdn)
 have HH:=Lib.hid h
 have hon:∀ b,On d b → D b:=fun b hb=>by have:b = d:=hb;rw [this];exact HH.out.dd
 cases hd:k.down
 ·have e0:=Dk.flush_eq hd
  rw [e0]
  rw [hd] at HU
  clear h hd
  rcases k.does_code with hc | hc
  ·rw [if_neg (by omega)]
   rw [hc] at HDO
   have hpd1:k.does.2.pd = k.pd:=k.does_same.2.2.1
   have hK1:k.does.2.n = k.n:=k.does_same.1
   have hpb:(k.does.2.pd.length:Int) < 1073741824:=by rw [hpd1];omega
   have hpl:=HH.out.plen
   rw [← hpd1,← hK1] at hpl
   have HPL:=Lib.hid hpl
   clear hpl
   generalize k.does.2 = k2 at *
   clear hpd1 hK1 e0
   go_enter Tryz.func110,Tryz.ntmps110
   go_wp2_with fail
   refine (HU.out).mono ?_
   rintro e w1 ⟨rfl,rfl⟩
   go_wp2_with fail
   refine (HDO.out).mono ?_
   rintro e w1 ⟨rfl,hd1,hx1⟩
   have HD1:=Lib.hid hd1;have HX1:=Lib.hid (hx1.mono (fun b _=>hon b))
   clear hd1 hx1 HDO HU
   obtain ⟨A,c,_,_,c1,_,_,_,_,hlt,_⟩:=HD1.out.c
   have HC1:=Lib.hid c1
   go_wp2_with fail
   clear c1
   go_loopg [22] k2.pd.length (fun gk q22 wr=>∃ j:Nat,j + gk = k2.pd.length ∧ q22 = .int .i64 (j:Int) ∧ Hid (DiskAt wr D d kb (k2.upto j)) ∧ Hid (Ext D w wr) ∧ Hid (wr.cell? ⟨d,1,none⟩ = some (.slice A k2.pd.length c)))
   case atStart=>exact ⟨0,by omega,rfl,HD1,HX1,HC1⟩
   case round =>
    obtain ⟨j,hk,rfl,HD,HX,HC⟩:=hrel
    have HK:=Lib.hid hk
    by_cases hj:j < k2.pd.length
    ·obtain ⟨p,hp⟩:∃ p,k2.pd[j]? = some p:=⟨_,List.getElem?_eq_getElem hj⟩
     obtain ⟨g,c9,x1,x2,x3,x4⟩:=load_pend HD.out hp
     have hAc:A = some ⟨g,0,none⟩ ∧ c = c9:=by
      rw [HC.out] at x1
      injection x1 with e
      injection e with e1 e2 e3
      exact ⟨e1,e3⟩
     obtain ⟨rfl,rfl⟩:=hAc
     have hpm:=HPL.out p (List.mem_of_getElem? hp)
     have hpl:=hpm.2
     have hpn:=hpm.1
     have HX3:=Lib.hid x3
     have HPP:=Lib.hid hpl
     have hst:=run_store_box wr (i:=p.1) hpl
     have hwl:=wrVals_len (i:=p.1) hpl
     have HB:=Lib.hid (Blk.new wr 144 (wrVals p.1 p.2).toArray)
     have HXW:=Lib.hid ((Ext.refl No wr).alloc (.cells (wrVals p.1 p.2).toArray 144))
     have hlt:d < wr.heap.size:=HD.out.old d HD.out.dd
     have hltk:kb < wr.heap.size:=HD.out.old kb HD.out.dk
     have hj1:(0:Int) ≤ j:=by omega
     have hj2:(j:Int) < k2.pd.length:=by omega
     clear hk x1 x3 hpm
     go_upto_region 9 with fail
     refine wp_region_lit ?_
     iterate 1 (refine wpList_step (fun K hK=>?_);go_simp;refine hK _ _ ?_;clear hK K)
     refine wpList_load_mid (P:=Tryz.prog) (by rfl) 144 (.tmp 24) (by rfl) g (j * 65) (by rfl) (wrVals p.1 p.2) _ HX3.out Tryz.underlying144 rfl (by rw [wrVals_len HPP.out];kernel_rfl) ?_
     refine wpList_step (fun K hK=>?_);go_simp;refine hK _ _ ?_;clear hK K
     refine wpList_step (fun K hK=>?_);go_simp;refine hK _ _ ?_;clear hK K hst hwl
     have hWs:(wr.alloc (.cells (wrVals p.1 p.2).toArray 144)).heap.size = wr.heap.size + 1:=by simp
     generalize wr.alloc (.cells (wrVals p.1 p.2).toArray 144) = W at *
     have HDW:=Lib.hid (HD.out.ext HXW.out (fun _ _ h=>h))
     go_upto_region 10 with fail
     have HDD:=Lib.hid (HDW.out.ext ((Ext.refl No W).drew) (fun _ _ h=>h))
     have hs1:W.drew.cell? ⟨d,0,none⟩ = some (.slice (some ⟨kb,0,none⟩) k2.n k2.n):=by
      obtain ⟨_,_,_,y0,_⟩:=HDD.out.c
      exact y0
     have hs2:W.drew.cell? ⟨wr.heap.size,0,none⟩ = some (.int .i64 (p.1:Int)):=(HB.out.drewN 1).cell 0
     have hs3:W.drew.rangeAt wr.heap.size 1 (bcs p.2):=fun x u hx=>by
      rw [show W.drew.cell? ⟨wr.heap.size,1 + x,none⟩ = _ from (HB.out.drewN 1).cell (1 + x),Nat.add_comm]
      simpa [wrVals] using hx
     have hb64:(bcs p.2).length = 64:=by rw [bcs_len,hpl]
     have hxk:Ext (On kb) W.drew (W.drew.setCells kb (p.1 * 64) (bcs p.2)):=Ext.setCellsF (F:=On kb) (b:=kb) rfl _ _ (Ext.refl _ _)
     have hS':((W.drew.setCells kb (p.1 * 64) (bcs p.2)).cell? ⟨d,0,none⟩ = some (.slice (some ⟨kb,0,none⟩) k2.n k2.n) ∧ (W.drew.setCells kb (p.1 * 64) (bcs p.2)).cell? ⟨wr.heap.size,0,none⟩ = some (.int .i64 (p.1:Int)) ∧ (W.drew.setCells kb (p.1 * 64) (bcs p.2)).rangeAt wr.heap.size 1 (bcs p.2)):=by
      have hne1:¬ On kb d:=fun e=>HH.out.ne e
      have hne2:¬ On kb wr.heap.size:=fun e=>by have:wr.heap.size = kb:=e;omega
      refine ⟨cell_ext hxk hs1 hne1,cell_ext hxk hs2 hne2,World.rangeAt_setCells_apart hs3 _ _ _ (.inl hne2)⟩
     have HKEEP:=Lib.hid (HDD.out.keep hpn hpl)
     rw [Dk.upto_next hp] at HKEEP
     have HTH:=Lib.hid (HDD.out.there hpn)
     have HXF:=Lib.hid ((HX.out.trans_ (HXW.out.of_no)).drew |>.trans hxk (fun b _ hb=>by have:b = kb:=hb;rw [this];exact HH.out.dk))
     have HC9:Hid ((W.drew.setCells kb (p.1 * 64) (bcs p.2)).cell? ⟨d,1,none⟩ = some (.slice (some ⟨g,0,none⟩) k2.pd.length c)):=Lib.hid (cell_ext hxk (cell_ext ((Ext.refl No W).drew) (cell_ext HXW.out HC.out (fun h=>h)) (fun h=>h)) (fun e=>HH.out.ne e))
     have hi1:(0:Int) ≤ p.1:=by omega
     have hi2:(p.1:Int) < k2.n:=by omega
     have hu142:=Tryz.underlying142
     have hi142:(Tryz.prog.info? 142).map (·.size) = some (bcs p.2).length:=by rw [hb64];kernel_rfl
     have hone:∀ v ∈ bcs p.2,v.oneCell' = true:=bcs_one
     have hth:=HTH.out
     clear hxk
     go_region_held3 (fun w'=>w'.cell? ⟨d,0,none⟩ = some (.slice (some ⟨kb,0,none⟩) k2.n k2.n) ∧ w'.cell? ⟨wr.heap.size,0,none⟩ = some (.int .i64 (p.1:Int)) ∧ w'.rangeAt wr.heap.size 1 (bcs p.2)) (first | exact ⟨hs1,hs2,hs3⟩ | exact hS') (fail)
     clear hs1 hs2 hs3 hS' hone hi142 hu142 hth
     clear HB HDW HDD HTH
     generalize W.drew.setCells kb (p.1 * 64) (bcs p.2) = W9 at *
     go_wp2_with fail
     go_roundg (gk - 1)
     case rel=>exact ⟨j + 1,by have:=HK.out;omega,by go_num,HKEEP,HXF,HC9⟩
     case measure=>have:=HK.out;omega
    ·have hge:¬ ((j:Int) < (k2.pd.length:Int)):=by omega
     have hjl:j = k2.pd.length:=by omega
     have HR:=Lib.hid HD.out.emptied
     rw [hjl] at HR
     have HXR:=Lib.hid (HX.out.setF (F:=D) HH.out.dd 1 (.slice none 0 0))
     have hf:=HC.out
     obtain ⟨_,_,hb9,_⟩:=HD.out.cells
     have f1:=hb9.frozen 1
     have hlt:d < wr.heap.size:=HD.out.old d HD.out.dd
     clear hk hjl hb9
     go_wp2_with fail
     go_ret
     exact ⟨rfl,HR.out,HXR.out⟩
  ·rw [if_pos (by omega),hc]
   rw [hc] at HDO
   go_enter Tryz.func110,Tryz.ntmps110
   go_wp2_with fail
   refine (HU.out).mono ?_
   rintro e w1 ⟨rfl,rfl⟩
   go_wp2_with fail
   refine (HDO.out).mono ?_
   rintro e w1 ⟨rfl,hd1,hx1⟩
   go_wp2_with fail
   go_ret
   exact ⟨rfl,hd1,hx1.mono (fun b _ hb=>hon b hb)⟩
 ·have e0:k.flush = (10,k):=by unfold Dk.flush;rw [hd];rfl
  rw [e0]
  rw [hd] at HU
  clear h hd
  go_enter Tryz.func110,Tryz.ntmps110
  go_wp2_with fail
  refine (HU.out).mono ?_
  rintro e w1 ⟨rfl,rfl⟩
  go_wp2_with fail
  go_ret
  exact ⟨rfl,HH.out,Ext.refl _ _⟩
end Go.Proofs.YtccnemmlkcmceaaGreatDoor
