/- Proofs about the given program, joined out of the texts PK, DK1, CR, PX, PY, LH. -/
import Derived.Test.YtccnemmlkcmceaaGreatDoorHE8
import Derived.Deep.MidRow
set_option linter.unusedVariables false
set_option linter.unusedSimpArgs false
set_option maxRecDepth 100000
set_option maxHeartbeats 6400000
namespace Go.Proofs.YtccnemmlkcmceaaGreatDoor
open Go.RowKit
structure Dk where
 n:Nat
 K:Nat → Bs
 pd:List (Nat × Bs)
 down:Bool
 armed:Bool
 left:Nat
 done:Nat
def Dk.cur (k:Dk) (i:Nat):Bs:=k.pd.foldl (fun b p=>if p.1 = i then p.2 else b) (k.K i)
def sect (s:Bs):Bs:=s ++ zs (64 - s.length)
theorem sect_len {s:Bs} (h:s.length ≤ 64):(sect s).length = 64:=by
 unfold sect
 rw [List.length_append,zs_len];omega
theorem sect_full {s:Bs} (h:s.length = 64):sect s = s:=by
 unfold sect
 rw [h];simp [zs]
def Dk.does (k:Dk):Nat × Dk:=if k.armed = true ∧ k.left = 0 then (10,{ k with down:=true }) else (0,{ k with left:=if k.armed then k.left - 1 else k.left,done:=k.done + 1 })
def Dk.write (k:Dk) (i:Nat) (s:Bs):Nat × Dk :=
 if k.down then (10,k) else if k.does.1 ≠ 0 then k.does else (0,{ k.does.2 with pd:=k.pd ++ [(i,sect s)] })
def Dk.flush (k:Dk):Nat × Dk :=
 if k.down then (10,k) else if k.does.1 ≠ 0 then k.does else (0,{ k.does.2 with K:=k.cur,pd:=[] })
def Dk.writes:Dk → List (Nat × Bs) → Nat × Dk
 | k,[]=>(0,k)
 | k,p :: l=>if (k.write p.1 p.2).1 ≠ 0 then k.write p.1 p.2 else (k.write p.1 p.2).2.writes l
def Dk.live (k:Dk):Prop:=k.down = false ∧ k.armed = false
theorem Dk.does_code (k:Dk):k.does.1 = 0 ∨ k.does.1 = 10:=by
 unfold Dk.does;split
 ·exact .inr rfl
 ·exact .inl rfl
theorem Dk.does_same (k:Dk):k.does.2.n = k.n ∧ k.does.2.K = k.K ∧ k.does.2.pd = k.pd ∧ k.does.2.armed = k.armed:=by
 unfold Dk.does;split <;> exact ⟨rfl,rfl,rfl,rfl⟩
theorem Dk.does_live {k:Dk} (h:k.live):k.does.1 = 0 ∧ k.does.2.live:=by
 unfold Dk.does
 rw [if_neg (by rw [h.2];simp)]
 exact ⟨rfl,h.1,h.2⟩
theorem Dk.write_live {k:Dk} (h:k.live) (i:Nat) (s:Bs):(k.write i s).1 = 0 ∧ (k.write i s).2.live:=by
 have h1:=Dk.does_live h
 unfold Dk.write
 rw [if_neg (by rw [h.1];simp),if_neg (by rw [h1.1];simp)]
 exact ⟨rfl,h1.2⟩
theorem Dk.flush_live {k:Dk} (h:k.live):k.flush.1 = 0 ∧ k.flush.2.live:=by
 have h1:=Dk.does_live h
 unfold Dk.flush
 rw [if_neg (by rw [h.1];simp),if_neg (by rw [h1.1];simp)]
 exact ⟨rfl,h1.2⟩
theorem Dk.writes_live:∀ {l:List (Nat × Bs)} {k:Dk},k.live → (k.writes l).1 = 0 ∧ (k.writes l).2.live
 | [],k,h=>⟨rfl,h⟩
 | p :: l,k,h=>by
  have h1:=Dk.write_live h p.1 p.2
  rw [Dk.writes,if_neg (by rw [h1.1];simp)]
  exact Dk.writes_live h1.2
theorem Dk.write_n (k:Dk) (i:Nat) (s:Bs):(k.write i s).2.n = k.n:=by
 have h:=k.does_same
 unfold Dk.write;split
 ·rfl
 ·split
  ·exact h.1
  ·exact h.1
theorem Dk.writes_n:∀ (l:List (Nat × Bs)) (k:Dk),(k.writes l).2.n = k.n
 | [],k=>rfl
 | p :: l,k=>by
  rw [Dk.writes]
  split
  ·exact k.write_n p.1 p.2
  ·rw [Dk.writes_n l,k.write_n]
theorem Dk.write_ok {k:Dk} {i:Nat} {s:Bs} (h:(k.write i s).1 = 0):(k.write i s).2.K = k.K ∧ (k.write i s).2.pd = k.pd ++ [(i,sect s)]:=by
 have h2:=k.does_same
 unfold Dk.write at h ⊢
 split at h
 ·cases h
 ·split at h
  ·contradiction
  ·rename_i h3 h4
   rw [if_neg h3,if_neg h4]
   exact ⟨h2.2.1,rfl⟩
theorem Dk.cur_write {k:Dk} {i:Nat} {s:Bs} (h:(k.write i s).1 = 0) (j:Nat):(k.write i s).2.cur j = if i = j then sect s else k.cur j:=by
 obtain ⟨h1,h2⟩:=Dk.write_ok h
 unfold Dk.cur
 rw [h1,h2,List.foldl_append]
 rfl
theorem Dk.flush_ok {k:Dk} (h:k.flush.1 = 0):k.flush.2.K = k.cur ∧ k.flush.2.pd = [] ∧ k.flush.2.n = k.n:=by
 have h2:=k.does_same
 unfold Dk.flush at h ⊢
 split at h
 ·cases h
 ·split at h
  ·contradiction
  ·rename_i h3 h4
   rw [if_neg h3,if_neg h4]
   exact ⟨rfl,rfl,h2.1⟩
theorem Dk.flush_no {k:Dk} (h:k.flush.1 ≠ 0):k.flush.2.K = k.K ∧ k.flush.2.pd = k.pd ∧ k.flush.2.n = k.n:=by
 have h2:=k.does_same
 unfold Dk.flush at h ⊢
 split at h
 ·rename_i h3
  rw [if_pos h3];exact ⟨rfl,rfl,rfl⟩
 ·split at h
  ·rename_i h3 h4
   rw [if_neg h3,if_pos h4]
   exact ⟨h2.2.1,h2.2.2.1,h2.1⟩
  ·exact absurd rfl h
theorem Dk.cur_flush {k:Dk} (h:k.flush.1 = 0) (j:Nat):k.flush.2.cur j = k.cur j:=by
 obtain ⟨h1,h2,_⟩:=Dk.flush_ok h
 show k.flush.2.pd.foldl _ (k.flush.2.K j) = _
 rw [h1,h2]
 rfl
def over (l:List (Nat × Bs)) (c:Nat → Bs) (j:Nat):Bs:=l.foldl (fun b p=>if p.1 = j then sect p.2 else b) (c j)
theorem Dk.cur_writes:∀ {l:List (Nat × Bs)} {k:Dk},(k.writes l).1 = 0 → ∀ j,(k.writes l).2.cur j = over l k.cur j
 | [],k,_,j=>rfl
 | p :: l,k,h,j=>by
  rw [Dk.writes] at h ⊢
  by_cases h1:(k.write p.1 p.2).1 ≠ 0
  ·rw [if_pos h1] at h;exact absurd h h1
  ·rw [if_neg h1] at h ⊢
   rw [Dk.cur_writes h j]
   show l.foldl _ ((k.write p.1 p.2).2.cur j) = _
   rw [Dk.cur_write (by simpa using h1) j]
   rfl
theorem over_not {l:List (Nat × Bs)} {c:Nat → Bs} {j:Nat} (h:∀ p ∈ l,p.1 ≠ j):over l c j = c j:=by
 unfold over
 induction l generalizing c with
 | nil=>rfl
 | cons p l ih =>
  have h1:=h p (by simp)
  rw [List.foldl_cons,if_neg h1]
  exact ih (fun q hq=>h q (by simp [hq]))
theorem over_append (a b:List (Nat × Bs)) (c:Nat → Bs) (j:Nat):over (a ++ b) c j = over b (over a c) j:=by
 unfold over
 rw [List.foldl_append]
def rowOf (a:Nat):List Bs → List (Nat × Bs)
 | []=>[]
 | b :: l=>(a,b) :: rowOf (a + 1) l
theorem rowOf_mem {a:Nat}:∀ {l:List Bs} {p:Nat × Bs},p ∈ rowOf a l → a ≤ p.1 ∧ p.1 < a + l.length ∧ p.2 ∈ l
 | [],p,h=>by cases h
 | b :: l,p,h=>by
  rcases List.mem_cons.1 h with rfl | h
  ·exact ⟨Nat.le_refl _,by simp,by simp⟩
  ·have:=rowOf_mem h
   simp only [List.length_cons]
   exact ⟨by omega,by omega,by simp [this.2.2]⟩
theorem over_row:∀ (l:List Bs) (a:Nat) (c:Nat → Bs) (j:Nat),over (rowOf a l) c j = if a ≤ j ∧ j < a + l.length then sect (l.getD (j - a) []) else c j
 | [],a,c,j=>by
  rw [if_neg (by rintro ⟨h1,h2⟩;simp at h2;omega)];rfl
 | b :: l,a,c,j=>by
  have h:over (rowOf a (b :: l)) c j = over (rowOf (a + 1) l) (fun i=>if a = i then sect b else c i) j:=rfl
  rw [h,over_row l]
  simp only [List.length_cons]
  by_cases h1:a = j
  ·subst h1
   rw [if_neg (by omega),if_pos rfl,if_pos (by omega)]
   simp
  ·by_cases h2:a + 1 ≤ j ∧ j < a + 1 + l.length
   ·rw [if_pos h2,if_pos (by omega)]
    rw [show j - a = (j - (a + 1)) + 1 by omega]
    simp
   ·rw [if_neg h2]
    show (if a = j then sect b else c j) = _
    rw [if_neg h1,if_neg (by omega)]
def cutS:Nat → Bs → List Bs
 | 0,_=>[]
 | n + 1,s=>s.take 64 :: cutS n (s.drop 64)
theorem cutS_len (n:Nat) (s:Bs):(cutS n s).length = n:=by
 induction n generalizing s with
 | zero=>rfl
 | succ n ih=>simp [cutS,ih]
theorem cutS_flat:∀ (n:Nat) (s:Bs),s.length = n * 64 → (cutS n s).flatten = s
 | 0,s,h=>by
  have:s = []:=List.eq_nil_of_length_eq_zero (by omega)
  subst this;rfl
 | n + 1,s,h=>by
  rw [cutS,List.flatten_cons,cutS_flat n (s.drop 64) (by rw [List.length_drop];omega),List.take_append_drop]
theorem cutS_full:∀ (n:Nat) (s:Bs),n * 64 ≤ s.length → ∀ b ∈ cutS n s,b.length = 64
 | 0,s,_,b,hb=>by cases hb
 | n + 1,s,h,b,hb=>by
  rcases List.mem_cons.1 hb with rfl | hb
  ·rw [List.length_take];omega
  ·exact cutS_full n (s.drop 64) (by rw [List.length_drop];omega) b hb
def pageOf (c:Nat → Bs) (log id:Nat):Bs:=((List.range 8).map fun j=>c (log + id * 8 + j)).flatten
def layPage (log id:Nat) (image:Bs):List (Nat × Bs):=rowOf (log + id * 8) (cutS 8 image)
def layAll (log:Nat) (l:List (Nat × Bs)):List (Nat × Bs):=l.flatMap fun p=>layPage log p.1 p.2
theorem getD_range_flat (l:List Bs):((List.range l.length).map fun j=>l.getD j []).flatten = l.flatten:=by
 congr 1
 apply List.ext_getElem
 ·simp
 ·intro i h1 h2
  simp [h2]
theorem pageOf_lay {c:Nat → Bs} {log id:Nat} {image:Bs} (h:image.length = 512) (i:Nat):pageOf (over (layPage log id image) c) log i = if i = id then image else pageOf c log i:=by
 have hl:(cutS 8 image).length = 8:=cutS_len _ _
 by_cases hi:i = id
 ·rw [if_pos hi]
  subst hi
  unfold pageOf layPage
  have h1:((List.range 8).map fun j=>over (rowOf (log + i * 8) (cutS 8 image)) c (log + i * 8 + j)) = (List.range 8).map fun j=>(cutS 8 image).getD j []:=by
   apply List.map_congr_left
   intro j hj
   have hj8:j < 8:=List.mem_range.1 hj
   rw [over_row,if_pos (by omega)]
   rw [show log + i * 8 + j - (log + i * 8) = j by omega]
   apply sect_full
   apply cutS_full 8 image (by omega)
   rw [List.getD_eq_getElem?_getD,List.getElem?_eq_getElem (by omega)]
   exact List.getElem_mem _
  rw [h1]
  have h2:=getD_range_flat (cutS 8 image)
  rw [hl] at h2
  rw [h2,cutS_flat 8 image (by omega)]
 ·rw [if_neg hi]
  unfold pageOf layPage
  congr 1
  apply List.map_congr_left
  intro j hj
  have hj8:j < 8:=List.mem_range.1 hj
  rw [over_row,if_neg (by omega)]
def pages (l:List (Nat × Bs)) (f:Nat → Bs) (i:Nat):Bs:=l.foldl (fun b p=>if p.1 = i then p.2 else b) (f i)
theorem pageOf_all:∀ (l:List (Nat × Bs)) (c:Nat → Bs) (log:Nat),(∀ p ∈ l,p.2.length = 512) → ∀ i,pageOf (over (layAll log l) c) log i = pages l (pageOf c log) i
 | [],c,log,_,i=>rfl
 | p :: l,c,log,h,i=>by
  have e:layAll log (p :: l) = layPage log p.1 p.2 ++ layAll log l:=rfl
  rw [e]
  have h1:over (layPage log p.1 p.2 ++ layAll log l) c = over (layAll log l) (over (layPage log p.1 p.2) c):=funext fun j=>over_append _ _ _ _
  rw [h1,pageOf_all l _ log (fun q hq=>h q (by simp [hq]))]
  unfold pages
  rw [List.foldl_cons,pageOf_lay (h p (by simp))]
  congr 1
  by_cases hi:p.1 = i
  ·rw [if_pos hi,if_pos hi.symm]
  ·rw [if_neg hi,if_neg (fun e=>hi e.symm)]
def seal0 (id kind:Nat) (body:Bs):Bs:=n4 id ++ ([UInt8.ofNat kind,0,UInt8.ofNat (body.length % 256),UInt8.ofNat (body.length / 256)] ++ (body ++ zs (500 - body.length)))
def sealed (cr:Bs → Nat) (id kind:Nat) (body:Bs):Bs:=seal0 id kind body ++ n4 (cr (seal0 id kind body))
theorem seal0_len {id kind:Nat} {body:Bs} (h:body.length ≤ 500):(seal0 id kind body).length = 508:=by
 unfold seal0
 simp only [List.length_append,n4_len,zs_len,List.length_cons,List.length_nil]
 omega
theorem sealed_len {cr:Bs → Nat} {id kind:Nat} {body:Bs} (h:body.length ≤ 500):(sealed cr id kind body).length = 512:=by
 unfold sealed
 rw [List.length_append,seal0_len h,n4_len]
structure Mt where
 r:Nat → Nat
 high:Nat
 free:Nat
 cnt:Nat
def Mt.body (m:Mt):Bs:=n4 m.high ++ (n4 m.free ++ (n4 m.cnt ++ (n4 (m.r 0) ++ (n4 (m.r 1) ++ (n4 (m.r 2) ++ n4 (m.r 3))))))
theorem Mt.body_len (m:Mt):m.body.length = 28:=rfl
def encRec (l:List (Nat × Bs)):Bs:=n4 l.length ++ l.flatMap fun p=>n4 p.1 ++ p.2
theorem encRec_len {l:List (Nat × Bs)} (h:∀ p ∈ l,p.2.length = 512):(encRec l).length = 4 + l.length * 516:=by
 unfold encRec
 rw [List.length_append,n4_len]
 congr 1
 induction l with
 | nil=>rfl
 | cons p l ih =>
  rw [List.flatMap_cons,List.length_append,List.length_append,n4_len,h p (by simp),ih (fun q hq=>h q (by simp [hq])),List.length_cons]
  omega
def n8 (n:Nat):Bs:=n4 n ++ n4 (n / 4294967296)
def frameOf (cr:Bs → Nat) (rec:Bs):Bs:=n4 rec.length ++ (n4 (cr (n4 rec.length ++ rec)) ++ rec)
def head0 (epoch len:Nat):Bs:=[65,81,87,76] ++ (n8 epoch ++ n4 len)
def headOf (cr:Bs → Nat) (epoch len:Nat):Bs:=head0 epoch len ++ (n4 (cr (head0 epoch len)) ++ zs 44)
theorem head_len (cr:Bs → Nat) (epoch len:Nat):(headOf cr epoch len).length = 64:=by
 simp [headOf,head0,n8,n4,zs]
structure Db where
 k:Dk
 epoch:Nat
 bytes:Bs
 recs:List Bs
 m:Mt
def Dk.logLay (k:Dk) (bytes all:Bs):Nat × Dk :=
 if (k.writes (rowOf (1 + bytes.length / 64) (cutS ((all.length + 63) / 64 - bytes.length / 64) (all.drop (bytes.length / 64 * 64))))).1 ≠ 0 then k.writes (rowOf (1 + bytes.length / 64) (cutS ((all.length + 63) / 64 - bytes.length / 64) (all.drop (bytes.length / 64 * 64))))
 else (k.writes (rowOf (1 + bytes.length / 64) (cutS ((all.length + 63) / 64 - bytes.length / 64) (all.drop (bytes.length / 64 * 64))))).2.flush
def Dk.logHead (cr:Bs → Nat) (k:Dk) (epoch len:Nat):Nat × Dk :=
 if (k.write 0 (headOf cr epoch len)).1 ≠ 0 then k.write 0 (headOf cr epoch len) else (k.write 0 (headOf cr epoch len)).2.flush
def Db.settle (cr:Bs → Nat) (s:Db):Nat × Db :=
 if s.recs = [] then (0,s) else
 if s.k.flush.1 ≠ 0 then (s.k.flush.1,{ s with k:=s.k.flush.2 }) else
 if (s.k.flush.2.logHead cr (s.epoch + 1) 0).1 ≠ 0 then ((s.k.flush.2.logHead cr (s.epoch + 1) 0).1,{ s with k:=(s.k.flush.2.logHead cr (s.epoch + 1) 0).2 }) else
 (0,{ s with k:=(s.k.flush.2.logHead cr (s.epoch + 1) 0).2,epoch:=s.epoch + 1,bytes:=[],recs:=[] })
def Db.sync (cr:Bs → Nat) (s:Db) (rec:Bs):Nat × Db :=
 if (s.k.logLay s.bytes (s.bytes ++ frameOf cr rec)).1 ≠ 0 then ((s.k.logLay s.bytes (s.bytes ++ frameOf cr rec)).1,{ s with k:=(s.k.logLay s.bytes (s.bytes ++ frameOf cr rec)).2 }) else
 if ((s.k.logLay s.bytes (s.bytes ++ frameOf cr rec)).2.logHead cr s.epoch (s.bytes ++ frameOf cr rec).length).1 ≠ 0 then
  (((s.k.logLay s.bytes (s.bytes ++ frameOf cr rec)).2.logHead cr s.epoch (s.bytes ++ frameOf cr rec).length).1,{ s with k:=((s.k.logLay s.bytes (s.bytes ++ frameOf cr rec)).2.logHead cr s.epoch (s.bytes ++ frameOf cr rec).length).2 }) else
 (0,{ s with k:=((s.k.logLay s.bytes (s.bytes ++ frameOf cr rec)).2.logHead cr s.epoch (s.bytes ++ frameOf cr rec).length).2,bytes:=s.bytes ++ frameOf cr rec,recs:=s.recs ++ [rec] })
def Db.room (log:Nat) (s:Db):Nat:=64 * (log - 1) - s.bytes.length
def Db.keep (cr:Bs → Nat) (log:Nat) (s:Db) (l:List (Nat × Bs)) (m:Mt):Nat × Db :=
 if (s.sync cr (encRec l)).1 ≠ 0 then s.sync cr (encRec l) else
 (((s.sync cr (encRec l)).2.k.writes (layAll log l)).1,{ (s.sync cr (encRec l)).2 with k:=((s.sync cr (encRec l)).2.k.writes (layAll log l)).2,m:=m })
def Db.commit (cr:Bs → Nat) (log:Nat) (s:Db) (spoilt:Bool) (l:List (Nat × Bs)) (m:Mt):Nat × Db :=
 if spoilt then (9,s) else
 if l = [] then (0,s) else
 if (encRec l).length > 65536 ∨ (encRec l).length + 8 > 64 * (log - 1) then (7,s) else
 if (encRec l).length + 8 > s.room log then
  if (s.settle cr).1 ≠ 0 then s.settle cr else (s.settle cr).2.keep cr log l m
 else s.keep cr log l m
structure Db.Fine (log:Nat) (s:Db):Prop where
 live:s.k.live
 bytes:s.bytes.length ≤ 64 * (log - 1)
theorem Dk.logLay_live {k:Dk} (h:k.live) (bytes all:Bs):(k.logLay bytes all).1 = 0 ∧ (k.logLay bytes all).2.live:=by
 unfold Dk.logLay
 have h1:=Dk.writes_live (l:=rowOf (1 + bytes.length / 64) (cutS ((all.length + 63) / 64 - bytes.length / 64) (all.drop (bytes.length / 64 * 64)))) h
 rw [if_neg (by rw [h1.1];simp)]
 exact Dk.flush_live h1.2
theorem Dk.logHead_live {cr:Bs → Nat} {k:Dk} (h:k.live) (epoch len:Nat):(k.logHead cr epoch len).1 = 0 ∧ (k.logHead cr epoch len).2.live:=by
 unfold Dk.logHead
 have h1:=Dk.write_live h 0 (headOf cr epoch len)
 rw [if_neg (by rw [h1.1];simp)]
 exact Dk.flush_live h1.2
def Keeps (log:Nat) (k k':Dk):Prop:=k'.n = k.n ∧ ∀ j,log ≤ j → k'.cur j = k.cur j
theorem Keeps.trans {log:Nat} {k k1 k2:Dk} (h:Keeps log k k1) (h':Keeps log k1 k2):Keeps log k k2:=⟨h'.1.trans h.1,fun j hj=>(h'.2 j hj).trans (h.2 j hj)⟩
theorem Keeps.flush {log:Nat} {k:Dk} (h:k.live):Keeps log k k.flush.2:=by
 have h1:=(Dk.flush_live h).1
 exact ⟨(Dk.flush_ok h1).2.2,fun j _=>Dk.cur_flush h1 j⟩
theorem Keeps.write {log i:Nat} {k:Dk} {s:Bs} (h:k.live) (hi:i < log):Keeps log k (k.write i s).2:=by
 have h1:=(Dk.write_live h i s).1
 exact ⟨k.write_n i s,fun j hj=>by rw [Dk.cur_write h1,if_neg (by omega)]⟩
theorem Keeps.writes {log:Nat} {k:Dk} {l:List (Nat × Bs)} (h:k.live) (hl:∀ p ∈ l,p.1 < log):Keeps log k (k.writes l).2:=by
 have h1:=(Dk.writes_live (l:=l) h).1
 exact ⟨Dk.writes_n l k,fun j hj=>by rw [Dk.cur_writes h1,over_not (fun p hp=>by have:=hl p hp;omega)]⟩
theorem Keeps.lay {log:Nat} {k:Dk} {bytes all:Bs} (h:k.live) (hb:bytes.length ≤ all.length) (ha:all.length ≤ 64 * (log - 1)) (hlog:2 ≤ log):Keeps log k (k.logLay bytes all).2:=by
 have h1:=Dk.writes_live (l:=rowOf (1 + bytes.length / 64) (cutS ((all.length + 63) / 64 - bytes.length / 64) (all.drop (bytes.length / 64 * 64)))) h
 unfold Dk.logLay
 rw [if_neg (by rw [h1.1];simp)]
 refine (Keeps.writes h (fun p hp=>?_)).trans (Keeps.flush h1.2)
 have:=rowOf_mem hp
 rw [cutS_len] at this
 omega
theorem Keeps.head {cr:Bs → Nat} {log epoch len:Nat} {k:Dk} (h:k.live) (hlog:2 ≤ log):Keeps log k (k.logHead cr epoch len).2:=by
 have h1:=Dk.write_live h 0 (headOf cr epoch len)
 unfold Dk.logHead
 rw [if_neg (by rw [h1.1];simp)]
 exact (Keeps.write h (by omega)).trans (Keeps.flush h1.2)
theorem Db.settle_live {cr:Bs → Nat} {log:Nat} {s:Db} (h:s.Fine log) (hlog:2 ≤ log):(s.settle cr).1 = 0 ∧ (s.settle cr).2.Fine log ∧ Keeps log s.k (s.settle cr).2.k ∧ (s.settle cr).2.m = s.m ∧ (s.settle cr).2.epoch ≤ s.epoch + 1 ∧ (s.recs = [] ∨ (s.settle cr).2.bytes = []) ∧ (s.recs = [] → (s.settle cr).2 = s):=by
 unfold Db.settle
 by_cases hr:s.recs = []
 ·rw [if_pos hr];exact ⟨rfl,h,⟨rfl,fun _ _=>rfl⟩,rfl,by simp,.inl hr,fun _=>rfl⟩
 ·have h1:=Dk.flush_live h.live
  have h2:=Dk.logHead_live (cr:=cr) h1.2 (s.epoch + 1) 0
  rw [if_neg hr,if_neg (by rw [h1.1];simp),if_neg (by rw [h2.1];simp)]
  exact ⟨rfl,⟨h2.2,by simp⟩,(Keeps.flush h.live).trans (Keeps.head h1.2 hlog),rfl,by simp,.inr rfl,fun e=>absurd e hr⟩
theorem Db.sync_live {cr:Bs → Nat} {log:Nat} {s:Db} {rec:Bs} (h:s.Fine log) (hlog:2 ≤ log) (hr:rec.length + 8 ≤ s.room log):(s.sync cr rec).1 = 0 ∧ (s.sync cr rec).2.Fine log ∧ Keeps log s.k (s.sync cr rec).2.k ∧ (s.sync cr rec).2.m = s.m ∧ (s.sync cr rec).2.epoch = s.epoch ∧ (s.sync cr rec).2.recs = s.recs ++ [rec]:=by
 have hf:(frameOf cr rec).length = rec.length + 8:=by
  simp only [frameOf,List.length_append,n4_len];omega
 have hb:=h.bytes
 unfold Db.room at hr
 have hlen:(s.bytes ++ frameOf cr rec).length = s.bytes.length + (rec.length + 8):=by rw [List.length_append,hf]
 have h1:=Dk.logLay_live h.live s.bytes (s.bytes ++ frameOf cr rec)
 have h2:=Dk.logHead_live (cr:=cr) h1.2 s.epoch (s.bytes ++ frameOf cr rec).length
 unfold Db.sync
 rw [if_neg (by rw [h1.1];simp),if_neg (by rw [h2.1];simp)]
 refine ⟨rfl,⟨h2.2,by show (s.bytes ++ frameOf cr rec).length ≤ _;omega⟩,(Keeps.lay h.live (by omega) (by omega) hlog).trans (Keeps.head h1.2 hlog),rfl,rfl,rfl⟩
theorem Db.keep_live {cr:Bs → Nat} {log:Nat} {s:Db} {l:List (Nat × Bs)} {m:Mt} (h:s.Fine log) (hlog:2 ≤ log) (hr:(encRec l).length + 8 ≤ s.room log) (hl:∀ p ∈ l,p.2.length = 512) :
  (s.keep cr log l m).1 = 0 ∧ (s.keep cr log l m).2.Fine log ∧ (s.keep cr log l m).2.k.n = s.k.n ∧ (s.keep cr log l m).2.m = m ∧ (s.keep cr log l m).2.epoch = s.epoch ∧ (∀ i,pageOf (s.keep cr log l m).2.k.cur log i = pages l (pageOf s.k.cur log) i):=by
 obtain ⟨h1,h2,h3,h4,h5,_⟩:=Db.sync_live (cr:=cr) h hlog hr
 have h6:=Dk.writes_live (l:=layAll log l) h2.live
 unfold Db.keep
 rw [if_neg (by rw [h1];simp)]
 refine ⟨h6.1,⟨h6.2,h2.bytes⟩,?_,rfl,h5,fun i=>?_⟩
 ·show ((s.sync cr (encRec l)).2.k.writes (layAll log l)).2.n = _
  rw [Dk.writes_n,h3.1]
 ·have e:pageOf ((s.sync cr (encRec l)).2.k.writes (layAll log l)).2.cur log i = pageOf (over (layAll log l) (s.sync cr (encRec l)).2.k.cur) log i:=by
   unfold pageOf
   congr 1
   apply List.map_congr_left
   intro j _
   exact Dk.cur_writes h6.1 _
  refine e.trans ?_
  rw [pageOf_all l _ log hl]
  unfold pages
  congr 1
  unfold pageOf
  congr 1
  apply List.map_congr_left
  intro j _
  exact h3.2 _ (by omega)
theorem Db.commit_live {cr:Bs → Nat} {log:Nat} {s:Db} {l:List (Nat × Bs)} {m:Mt} (h:s.Fine log) (hlog:2 ≤ log) (hl:∀ p ∈ l,p.2.length = 512) (hne:l ≠ []) (hb:s.recs = [] → s.bytes = []) :
  ((s.commit cr log false l m).1 = 7 ∧ (s.commit cr log false l m).2 = s ∧ ((encRec l).length > 65536 ∨ (encRec l).length + 8 > 64 * (log - 1))) ∨
  ((s.commit cr log false l m).1 = 0 ∧ (s.commit cr log false l m).2.Fine log ∧ (s.commit cr log false l m).2.k.n = s.k.n ∧ (s.commit cr log false l m).2.m = m ∧ (s.commit cr log false l m).2.epoch ≤ s.epoch + 1 ∧ (∀ i,pageOf (s.commit cr log false l m).2.k.cur log i = pages l (pageOf s.k.cur log) i)):=by
 unfold Db.commit
 rw [if_neg (by simp),if_neg hne]
 by_cases h1:(encRec l).length > 65536 ∨ (encRec l).length + 8 > 64 * (log - 1)
 ·rw [if_pos h1];exact .inl ⟨rfl,rfl,h1⟩
 ·right
  rw [if_neg h1]
  by_cases h2:(encRec l).length + 8 > s.room log
  ·obtain ⟨s1,s2,s3,s4,s5,s6,s7⟩:=Db.settle_live (cr:=cr) h hlog
   rw [if_pos h2,if_neg (by rw [s1];simp)]
   have hr:(encRec l).length + 8 ≤ (s.settle cr).2.room log:=by
    have:(s.settle cr).2.bytes = []:=by
     rcases s6 with s6 | s6
     ·rw [s7 s6];exact hb s6
     ·exact s6
    unfold Db.room
    rw [this,List.length_nil]
    omega
   obtain ⟨k1,k2,k3,k4,k5,k6⟩:=Db.keep_live (cr:=cr) (m:=m) s2 hlog hr hl
   refine ⟨k1,k2,by rw [k3,s3.1],k4,by rw [k5];exact s5,fun i=>?_⟩
   rw [k6]
   unfold pages
   congr 1
   unfold pageOf
   congr 1
   apply List.map_congr_left
   intro j _
   exact s3.2 _ (by omega)
  ·rw [if_neg h2]
   obtain ⟨k1,k2,k3,k4,k5,k6⟩:=Db.keep_live (cr:=cr) (m:=m) h hlog (by omega) hl
   exact ⟨k1,k2,k3,k4,by rw [k5];omega,k6⟩
def pendVals (pd:List (Nat × Bs)):List Value:=pd.flatMap fun p=>.int .i64 (p.1:Int) :: bcs p.2
theorem pendVals_append (a b:List (Nat × Bs)):pendVals (a ++ b) = pendVals a ++ pendVals b:=by simp [pendVals]
def Grow (D:Nat → Prop) (w w':World):Nat → Prop:=fun b=>D b ∨ (w.heap.size ≤ b ∧ b < w'.heap.size)
def Dk.cells (k:Dk) (kb:Nat) (A:Option Addr) (c:Nat):Array Value:=#[.slice (some ⟨kb,0,none⟩) k.n k.n,.slice A k.pd.length c,.bool k.down,.bool k.armed,.int .i64 (k.left:Int),.int .i64 (k.done:Int)]
structure DiskAt (w:World) (D:Nat → Prop) (d kb:Nat) (k:Dk):Prop where
 cells:∃ A c,Blk w d 140 (k.cells kb A c) ∧ w.ownsRow 0 144 65 (.slice A k.pd.length c) k.pd.length (pendVals k.pd) ∧ ∀ g,(Value.slice A k.pd.length c).ownBlock = some g → D g ∧ g ≠ d ∧ g ≠ kb
 kept:∃ cs,Blk w kb 142 cs ∧ cs.size = k.n * 64 ∧ ∀ i,i < k.n → ∀ j,j < 64 → cs[i * 64 + j]? = some (.int .u8 (((k.K i).getD j 0).toNat:Int))
 klen:∀ i,i < k.n → (k.K i).length = 64
 plen:∀ p ∈ k.pd,p.1 < k.n ∧ p.2.length = 64
 dd:D d
 dk:D kb
 ne:d ≠ kb
 old:∀ b,D b → b < w.heap.size
 n1:1 ≤ k.n
 n2:k.n ≤ 65536
theorem DiskAt.ext {w w':World} {D F:Nat → Prop} {d kb:Nat} {k:Dk} (h:DiskAt w D d kb k) (hx:Ext F w w') (hF:∀ b,D b → ¬ F b):DiskAt w' D d kb k:=by
 obtain ⟨A,c,h1,h2,h3⟩:=h.cells
 obtain ⟨cs,h4,h5,h6⟩:=h.kept
 refine ⟨⟨A,c,h1.ext hx (hF d h.dd),?_,h3⟩,⟨cs,h4.ext hx (hF kb h.dk),h5,h6⟩,h.klen,h.plen,h.dd,h.dk,h.ne,fun b hb=>Nat.lt_of_lt_of_le (h.old b hb) hx.size,h.n1,h.n2⟩
 refine ⟨h2.1,?_⟩
 rcases h2.2 with h0 | ⟨g,cap,cur,e,hg,hb,r1,r2,r3,r4⟩
 ·exact .inl h0
 ·have hgD:=(h3 g (by rw [e];rfl)).1
  refine .inr ⟨g,cap,cur,e,hg,?_,r1,r2,r3,r4⟩
  rw [hx.block g (h.old g hgD) (hF g hgD)];exact hb
theorem DiskAt.mono {w:World} {D D':Nat → Prop} {d kb:Nat} {k:Dk} (h:DiskAt w D d kb k) (hD:∀ b,D b → D' b) (ho:∀ b,D' b → b < w.heap.size):DiskAt w D' d kb k:=by
 obtain ⟨A,c,h1,h2,h3⟩:=h.cells
 exact ⟨⟨A,c,h1,h2,fun g hg=>⟨hD g (h3 g hg).1,(h3 g hg).2⟩⟩,h.kept,h.klen,h.plen,hD d h.dd,hD kb h.dk,h.ne,ho,h.n1,h.n2⟩
theorem Grow.old {D:Nat → Prop} {w w':World} (h:∀ b,D b → b < w.heap.size) (hs:w.heap.size ≤ w'.heap.size):∀ b,Grow D w w' b → b < w'.heap.size:=fun b hb=>by
 rcases hb with hb | hb
 ·exact Nat.lt_of_lt_of_le (h b hb) hs
 ·exact hb.2
theorem Grow.trans {D:Nat → Prop} {w w1 w':World} (h1:w.heap.size ≤ w1.heap.size) (h2:w1.heap.size ≤ w'.heap.size) {b:Nat} (h:Grow (Grow D w w1) w1 w' b):Grow D w w' b:=by
 rcases h with (h | h) | h
 ·exact .inl h
 ·exact .inr ⟨h.1,by omega⟩
 ·exact .inr ⟨by omega,h.2⟩
section
variable {w:World} {D:Nat → Prop} {d kb:Nat} {k:Dk}
theorem DiskAt.c {w:World} {D:Nat → Prop} {d kb:Nat} {k:Dk} (h:DiskAt w D d kb k):∃ A c,Blk w d 140 (k.cells kb A c) ∧ w.cell? ⟨d,0,none⟩ = some (.slice (some ⟨kb,0,none⟩) k.n k.n) ∧ w.cell? ⟨d,1,none⟩ = some (.slice A k.pd.length c) ∧ w.cell? ⟨d,2,none⟩ = some (.bool k.down) ∧
  w.cell? ⟨d,3,none⟩ = some (.bool k.armed) ∧ w.cell? ⟨d,4,none⟩ = some (.int .i64 (k.left:Int)) ∧ w.cell? ⟨d,5,none⟩ = some (.int .i64 (k.done:Int)) ∧ d < w.heap.size ∧ (∀ i,w.frozen? ⟨d,i,none⟩ = false):=by
 obtain ⟨A,c,h1,_,_⟩:=h.cells
 exact ⟨A,c,h1,h1.cell 0,h1.cell 1,h1.cell 2,h1.cell 3,h1.cell 4,h1.cell 5,h1.lt,fun i=>h1.frozen i⟩
theorem dk_none (h:DiskAt w D d kb k):Calls Tryz.prog 79 #[.pointer (some ⟨d,0,none⟩)] w fun e w'=>e = .returned (.bool false) ∧ w = w':=by
 obtain ⟨A,c,_,c0,_⟩:=h.c
 exact dnone_no d k.n _ w c0 h.n1
theorem dk_up (h:DiskAt w D d kb k):Calls Tryz.prog 78 #[.pointer (some ⟨d,0,none⟩)] w fun e w'=>e = .returned (.int .i64 (if k.down then 10 else 0)) ∧ w = w':=by
 have HN:=Lib.hid (dk_none h)
 obtain ⟨A,c,_,c0,_,c2,_⟩:=h.c
 cases hd:k.down
 ·rw [hd] at c2
  clear h
  go_enter Tryz.func78,Tryz.ntmps78
  go_wp2_with (go_at_call 79;refine (HN.out).mono ?_;rintro e w' ⟨rfl,rfl⟩)
  go_ret
  exact ⟨rfl,rfl⟩
 ·rw [hd] at c2
  clear h
  go_enter Tryz.func78,Tryz.ntmps78
  go_wp2_with (go_at_call 79;refine (HN.out).mono ?_;rintro e w' ⟨rfl,rfl⟩)
  go_ret
  exact ⟨rfl,rfl⟩
theorem dk_is (h:DiskAt w D d kb k) (i:Nat) (hi:i < k.n):Calls Tryz.prog 163 #[.pointer (some ⟨d,0,none⟩),.int .i64 (i:Int)] w fun e w'=>e = .returned (.bool true) ∧ w = w':=by
 obtain ⟨A,c,_,c0,_⟩:=h.c
 have h1:(0:Int) ≤ i:=by omega
 have h2:(i:Int) < k.n:=by omega
 go_enter Tryz.func163,Tryz.ntmps163
 go_wp2_with fail
 go_ret
 exact ⟨rfl,rfl⟩
theorem DiskAt.set (h:DiskAt w D d kb k) {A:Option Addr} {c:Nat} (hb:Blk w d 140 (k.cells kb A c)) {w':World} {k':Dk} (hx:Ext (On d) w w') (hb':Blk w' d 140 (k'.cells kb A c)) (e1:k'.n = k.n) (e2:k'.K = k.K) (e3:k'.pd = k.pd):DiskAt w' D d kb k':=by
 obtain ⟨A2,c2,h1,h2,h3⟩:=h.cells
 have e:A2 = A ∧ c2 = c:=by
  unfold Blk at hb h1
  rw [hb] at h1
  simp only [Dk.cells,Option.some.injEq,Obj.cells.injEq,and_true] at h1
  have:=congrArg (fun a:Array Value=>a[1]?) h1
  simp at this
  exact ⟨this.1.symm,this.2.symm⟩
 obtain ⟨rfl,rfl⟩:=e
 obtain ⟨cs,h4,h5,h6⟩:=h.kept
 refine ⟨⟨A2,c2,hb',?_,fun g hg=>h3 g (by rw [e3] at hg;exact hg)⟩,⟨cs,h4.ext hx (fun e=>h.ne e.symm),by rw [e1];exact h5,by rw [e1,e2];exact h6⟩,by rw [e1,e2];exact h.klen,by rw [e1,e3];exact h.plen,h.dd,h.dk,h.ne,fun b hb=>Nat.lt_of_lt_of_le (h.old b hb) hx.size,by rw [e1];exact h.n1,by rw [e1];exact h.n2⟩
 rw [e3]
 refine ⟨h2.1,?_⟩
 rcases h2.2 with h0 | ⟨g,cap,cur,e,hg,hbb,r1,r2,r3,r4⟩
 ·exact .inl h0
 ·have hgD:=h3 g (by rw [e];rfl)
  refine .inr ⟨g,cap,cur,e,hg,?_,r1,r2,r3,r4⟩
  rw [hx.block g (h.old g hgD.1) hgD.2.1];exact hbb
theorem dk_does (h:DiskAt w D d kb k) (hl:k.left < 2^40) (hdn:k.done < 2^40):Calls Tryz.prog 158 #[.pointer (some ⟨d,0,none⟩)] w fun e w'=>e = .returned (.int .i64 (k.does.1:Int)) ∧ DiskAt w' D d kb k.does.2 ∧ Ext (On d) w w':=by
 obtain ⟨A,c,hb,c0,c1,c2,c3,c4,c5,hlt,hfz⟩:=h.c
 have f2:=hfz 2
 have f4:=hfz 4
 have f5:=hfz 5
 have hon:On d d:=rfl
 cases ha:k.armed
 ·have e:k.does = (0,{ k with left:=k.left,done:=k.done + 1 }):=by unfold Dk.does;simp [ha]
  rw [e]
  rw [ha] at c3
  have HR:Hid (DiskAt (w.setCell ⟨d,5,none⟩ (.int .i64 ((k.done:Int) + 1))) D d kb { k with left:=k.left,done:=k.done + 1 }):=Lib.hid (h.set hb ((Ext.refl _ _).setF (F:=On d) hon 5 _) (hb.set_ 5 _) rfl rfl rfl)
  clear h hfz e
  go_enter Tryz.func158,Tryz.ntmps158
  go_wp2_with fail
  go_ret
  exact ⟨rfl,HR.out,(Ext.refl _ _).setF (F:=On d) hon 5 _⟩
 ·rw [ha] at c3
  by_cases h0:k.left = 0
  ·have e:k.does = (10,{ k with down:=true }):=by unfold Dk.does;simp [ha,h0]
   rw [e]
   rw [h0] at c4
   have HR:Hid (DiskAt (w.setCell ⟨d,2,none⟩ (.bool true)) D d kb { k with down:=true }):=Lib.hid (h.set hb ((Ext.refl _ _).setF (F:=On d) hon 2 _) (hb.set_ 2 _) rfl rfl rfl)
   clear h hfz e
   go_enter Tryz.func158,Tryz.ntmps158
   go_wp2_with fail
   go_ret
   exact ⟨rfl,HR.out,(Ext.refl _ _).setF (F:=On d) hon 2 _⟩
  ·have e:k.does = (0,{ k with left:=k.left - 1,done:=k.done + 1 }):=by unfold Dk.does;simp [ha,h0]
   rw [e]
   have hz:((k.left:Int) == 0) = false:=by simpa using h0
   have hsub:((k.left:Int) - 1) = ((k.left - 1:Nat):Int):=by omega
   have HR:Hid (DiskAt ((w.setCell ⟨d,4,none⟩ (.int .i64 ((k.left:Int) - 1))).setCell ⟨d,5,none⟩ (.int .i64 ((k.done:Int) + 1))) D d kb { k with left:=k.left - 1,done:=k.done + 1 }):=Lib.hid (by
    have h1:=h.set (k':={ k with left:=k.left - 1 }) hb ((Ext.refl _ _).setF (F:=On d) hon 4 (.int .i64 ((k.left:Int) - 1))) (by rw [hsub];exact hb.set_ 4 _) rfl rfl rfl
    exact h1.set (k':={ k with left:=k.left - 1,done:=k.done + 1 }) (by rw [hsub];exact hb.set_ 4 _) ((Ext.refl _ _).setF (F:=On d) hon 5 _) (by rw [hsub];exact (hb.set_ 4 _).set_ 5 _) rfl rfl rfl)
   have hge:(1:Int) ≤ k.left:=by omega
   clear h hfz e hsub
   go_enter Tryz.func158,Tryz.ntmps158
   go_wp2_with fail
   go_ret
   exact ⟨rfl,HR.out,((Ext.refl _ _).setF (F:=On d) hon 4 _).setF (F:=On d) hon 5 _⟩
end
structure Half (w:World) (T:Nat → Nat):Prop where
 cell:∀ i,i < 16 → w.cell? ⟨0,i,none⟩ = some (.int .u32 (T i:Int))
 lt:∀ i,T i < 4294967296
theorem Half.ext {F:Nat → Prop} {w w':World} {T:Nat → Nat} (h:Half w T) (hx:Ext F w w') (h0:¬ F 0):Half w' T:=⟨fun i hi=>cell_ext hx (h.cell i hi) h0,h.lt⟩
def crcHalf (T:Nat → Nat) (r:Nat):Nat:=(r / 16) ^^^ T (r % 16)
def crcStep (T:Nat → Nat) (r x:Nat):Nat:=crcHalf T (crcHalf T (r ^^^ x))
def crcLoop (T:Nat → Nat):Nat → Bs → Nat
 | r,[]=>r
 | r,x :: l=>crcLoop T (crcStep T r x.toNat) l
def crc (T:Nat → Nat) (b:Bs):Nat:=4294967295 ^^^ crcLoop T 4294967295 b
theorem crcHalf_lt {T:Nat → Nat} (h:∀ i,T i < 4294967296) {r:Nat} (hr:r < 4294967296):crcHalf T r < 4294967296:=Nat.xor_lt_two_pow (n:=32) (by omega) (h _)
theorem crcStep_lt {T:Nat → Nat} (h:∀ i,T i < 4294967296) {r x:Nat} (hr:r < 4294967296) (hx:x < 256):crcStep T r x < 4294967296:=crcHalf_lt h (crcHalf_lt h (Nat.xor_lt_two_pow (n:=32) (by omega) (by omega)))
theorem crcLoop_lt {T:Nat → Nat} (h:∀ i,T i < 4294967296):∀ (l:Bs) (r:Nat),r < 4294967296 → crcLoop T r l < 4294967296
 | [],r,hr=>hr
 | x :: l,r,hr=>crcLoop_lt h l _ (crcStep_lt h hr x.toNat_lt)
theorem half_facts {T:Nat → Nat} {w:World} (h:Half w T) {r:Nat} (hr:r < 4294967296):∃ a m t:Nat,((r:Int) / 16) = (a:Int) ∧ bits .and .u32 (r:Int) 15 = (m:Int) ∧ (m:Int) < 16 ∧ w.cell? ⟨0,m,none⟩ = some (.int .u32 (t:Int)) ∧ bits .xor .u32 (a:Int) (t:Int) = ((crcHalf T r:Nat):Int):=by
 have hT:=h.lt (r % 16)
 refine ⟨r / 16,r % 16,T (r % 16),by omega,?_,by omega,h.cell _ (by omega),?_⟩
 ·have:=u32_and_nat r 15 hr (by omega)
  rw [show ((15:Nat):Int) = 15 from rfl] at this
  rw [this]
  congr 1
  exact Nat.and_two_pow_sub_one_eq_mod r 4
 ·rw [u32_xor_nat _ _ (by omega) hT];rfl
theorem crc_lt {T:Nat → Nat} (h:∀ i,T i < 4294967296) (b:Bs):crc T b < 4294967296:=Nat.xor_lt_two_pow (n:=32) (by omega) (crcLoop_lt h b _ (by omega))
theorem update_any (T:Nat → Nat) (w:World) (h:Half w T) (A:Option Addr) (l:Bs) (c:Nat) (hr:Rd w No 1 A l.length (bcs l)) (hl:l.length < 2^62) :
  Calls Tryz.prog 174 #[.int .u32 0,.slice A l.length c] w fun e w'=>e = .returned (.int .u32 (crc T l:Int)) ∧ w = w':=by
 have HH:=Lib.hid h
 have HR:=Lib.hid hr
 obtain ⟨C,hC⟩:∃ C,C = crc T l:=⟨_,rfl⟩
 rw [← hC]
 have hT:=h.lt
 clear h hr
 go_enter Tryz.func174,Tryz.ntmps174
 go_wp2_with fail
 have hx0:bits .xor .u32 IntKind.u32.max 0 = 4294967295:=by decide
 rw [hx0]
 go_loopg [5,12] l.length (fun gk q5 q12 wr=>∃ (k r:Nat),k + gk = l.length ∧ r < 4294967296 ∧ q5 = .int .u32 (r:Int) ∧ q12 = .int .i64 (k:Int) ∧ Hid (crcLoop T r (l.drop k) = crcLoop T 4294967295 l) ∧ w = wr)
 case atStart=>exact ⟨0,4294967295,by omega,by omega,rfl,rfl,Lib.hid rfl,rfl⟩
 case round =>
  obtain ⟨k,r,hk,hr,rfl,rfl,hL,rfl⟩:=hrel
  have HK:=Lib.hid hk
  by_cases hlt:k < l.length
  ·obtain ⟨x,hx⟩:∃ x,l[k]? = some x:=⟨_,List.getElem?_eq_getElem hlt⟩
   obtain ⟨b,o,hA,_,hcells⟩:=HR.out.2 (by omega)
   subst hA
   have k0:=hcells k (.int .u8 (x.toNat:Int)) (by simp [bcs,hx])
   have lc:=World.block_lt_of_cell? w _ k0
   simp only at lc
   have hlt':(k:Int) < (l.length:Int):=by omega
   have hx256:x.toNat < 256:=x.toNat_lt
   clear hk hcells
   obtain ⟨r1,hr1⟩:∃ r1,r1 = r ^^^ x.toNat:=⟨_,rfl⟩
   have hr1l:r1 < 4294967296:=hr1 ▸ Nat.xor_lt_two_pow (n:=32) (by omega) (by omega)
   have e1:bits .xor .u32 (r:Int) (x.toNat:Int) = (r1:Int):=by rw [u32_xor_nat _ _ hr (by omega),hr1]
   obtain ⟨a1,m1,t1,e2,e3,e4,e5,e6⟩:=half_facts HH.out hr1l
   obtain ⟨r2,hr2⟩:∃ r2,r2 = crcHalf T r1:=⟨_,rfl⟩
   have hr2l:r2 < 4294967296:=hr2 ▸ crcHalf_lt hT hr1l
   rw [← hr2] at e6
   obtain ⟨a2,m2,t2,f2,f3,f4,f5,f6⟩:=half_facts HH.out hr2l
   obtain ⟨r3,hr3⟩:∃ r3,r3 = crcHalf T r2:=⟨_,rfl⟩
   have hr3l:r3 < 4294967296:=hr3 ▸ crcHalf_lt hT hr2l
   rw [← hr3] at f6
   have HN:Hid (crcLoop T r3 (l.drop (k + 1)) = crcLoop T 4294967295 l):=Lib.hid (by
    rw [← hL.out,List.drop_eq_getElem_cons hlt,(List.getElem?_eq_some_iff.1 hx).2]
    show _ = crcLoop T (crcStep T r x.toNat) (l.drop (k + 1))
    rw [hr3,hr2,hr1];rfl)
   have HR3:=Lib.hid hr3l
   have g0:0 < w.heap.size:=by have:=World.block_lt_of_cell? w _ e5;exact this
   clear hr1 hr2 hr3 hx hr1l hr2l hr3l hr
   go_wp2_with fail
   go_roundg (gk - 1)
   case rel=>exact ⟨k + 1,r3,by have:=HK.out;omega,HR3.out,rfl,by go_num,HN,rfl⟩
   case measure=>have:=HK.out;omega
  ·have hk':k = l.length:=by omega
   have HF:Hid (crcLoop T 4294967295 l = r):=Lib.hid (by rw [← hL.out,hk',List.drop_length];rfl)
   have ef:bits .xor .u32 IntKind.u32.max (r:Int) = ((4294967295 ^^^ r:Nat):Int):=u32_xor_nat 4294967295 r (by omega) hr
   have hge:¬ ((k:Int) < (l.length:Int)):=by omega
   clear hk hk' hr
   go_wp2_with fail
   go_ret
   refine ⟨?_,rfl⟩
   unfold crc
   rw [HF.out]
   rfl
theorem sum_any (T:Nat → Nat) (w:World) (h:Half w T) (A:Option Addr) (l:Bs) (c:Nat) (hr:Rd w No 1 A l.length (bcs l)) (hl:l.length < 2^62) :
  Calls Tryz.prog 126 #[.slice A l.length c] w fun e w'=>e = .returned (.int .u32 (crc T l:Int)) ∧ w = w':=by
 have HU:=Lib.hid (update_any T w h A l c hr hl)
 clear h hr
 go_enter Tryz.func126,Tryz.ntmps126
 go_wp2_with fail
 refine (HU.out).mono ?_
 rintro e w1 ⟨rfl,rfl⟩
 go_wp2_with fail
 go_ret
 exact ⟨rfl,rfl⟩
def BytesAt (c:Nat → Bs) (bytes:Bs):Prop:=∀ i,i < bytes.length → (c (1 + i / 64))[i % 64]? = bytes[i]?
structure LogOn (cr:Bs → Nat) (c:Nat → Bs) (epoch:Nat) (bytes:Bs) (ls:List (List (Nat × Bs))):Prop where
 hd:c 0 = headOf cr epoch bytes.length ∨ (c 0 = zs 64 ∧ epoch = 0 ∧ bytes = [] ∧ ls = [])
 by_:BytesAt c bytes
 en:bytes = ls.flatMap fun l=>frameOf cr (encRec l)
def RecOk (cap:Nat) (l:List (Nat × Bs)):Prop:=l ≠ [] ∧ (encRec l).length ≤ 65536 ∧ ∀ p ∈ l,p.1 < cap ∧ p.2.length = 512
def ids (ls:List (List (Nat × Bs))):List Nat:=ls.flatten.map (·.1)
structure Rest (cr:Bs → Nat) (log cap:Nat) (k:Dk) (epoch:Nat) (bytes:Bs) (ls:List (List (Nat × Bs))) (f:Nat → Bs):Prop where
 lg:LogOn cr k.K epoch bytes ls
 fits:bytes.length ≤ 64 * (log - 1)
 ok:∀ l ∈ ls,RecOk cap l
 pd:∀ p ∈ k.pd,∃ id j,p.1 = log + id * 8 + j ∧ j < 8 ∧ id ∈ ids ls
 pg:∀ id,id ∉ ids ls → pageOf k.K log id = f id
 pl:∀ id,id ∈ ids ls → ∀ g,pages ls.flatten g id = f id
section
variable {cr:Bs → Nat} {log cap E epoch:Nat} {k:Dk} {bytes all:Bs} {ls:List (List (Nat × Bs))} {f:Nat → Bs} {c:Nat → Bs}
theorem cutS_get:∀ (n:Nat) (s:Bs) (t:Nat),t < n → (cutS n s)[t]? = some ((s.drop (t * 64)).take 64)
 | 0,s,t,h=>by omega
 | n + 1,s,0,h=>by simp [cutS]
 | n + 1,s,t + 1,h=>by
  rw [cutS,List.getElem?_cons_succ,cutS_get n (s.drop 64) t (by omega),List.drop_drop,show 64 + t * 64 = (t + 1) * 64 by omega]
structure Laid (cr:Bs → Nat) (log cap:Nat) (k:Dk) (epoch:Nat) (bytes all:Bs) (ls:List (List (Nat × Bs))) (f:Nat → Bs):Prop where
 rest:Rest cr log cap k epoch bytes ls f
 pd:k.pd = []
 all:BytesAt k.K all
 pg:∀ id,pageOf k.K log id = f id
theorem frame_len (cr:Bs → Nat) (rec:Bs):(frameOf cr rec).length = rec.length + 8:=by
 simp only [frameOf,List.length_append,n4_len];omega
end
def halfs:List Int:=[0,274646895,549293790,820201905,1098587580,1361435347,1640403810,1905808397,2197175160,2460548119,2722870694,2987750089,3280807620,3553878443,3811616794,4084100981]
def halfT (i:Nat):Nat:=(halfs.getD i 0).toNat
theorem halfT_lt (i:Nat):halfT i < 4294967296:=by
 unfold halfT
 rcases Nat.lt_or_ge i 16 with h | h
 ·have hall:∀ j,j < 16 → (halfs.getD j 0).toNat < 4294967296:=by decide
  exact hall i h
 ·rw [List.getD_eq_getElem?_getD,List.getElem?_eq_none (by simpa [halfs] using h)];decide
theorem half_of_laid {rest:List (String × DataW Unit)} {W:World} (h:laidMet Tryz.prog (("aquifer/castagnoli.half",Rows.laid_aquifer_castagnoli_half) :: rest) W):Half W halfT:=by
 have h1:Lib.TabIs Tryz.prog W "aquifer/castagnoli.half" .u32 halfs:=Lib.tabIs_of_head (rest:=rest) (t:=258) (e:=192) (n:=16) gHalf (by kernel_rfl) (by kernel_rfl) (by kernel_rfl) (by kernel_rfl) (by kernel_rfl) h
 refine ⟨fun i hi=>?_,halfT_lt⟩
 have h2:=h1.cell gHalf i (by simpa [halfs] using hi)
 rw [h2]
 have hall:∀ j,j < 16 → (0:Int) ≤ halfs.getD j 0:=by decide
 unfold halfT
 rw [Int.toNat_of_nonneg (hall i hi)]
end Go.Proofs.YtccnemmlkcmceaaGreatDoor
