/- Proofs about the given program, joined out of the texts RB, LH. -/
import Derived.Test.YtccnemmlkcmceaaGreatDoorHC6
import Derived.Test.YtccnemmlkcmceaaGreatDoorHC18
import Derived.Test.YtccnemmlkcmceaaGreatDoorHC20
import Derived.Lib.SmallJoins
import Derived.Deep.Slices
import Derived.Lib.LaidTab
set_option linter.unusedVariables false
set_option linter.unusedSimpArgs false
set_option maxRecDepth 100000
set_option maxHeartbeats 6400000
namespace Go.Proofs.YtccnemmlkcmceaaGreatDoor
open Go.RowKit Go.ChangeShapes Go.WideShapes Go.ChangeAt
theorem Tryz.cells53:Tryz.prog.cellsOf 53 = 4:=by kernel_rfl
theorem Tryz.cells3:Tryz.prog.cellsOf 3 = 1:=by kernel_rfl
theorem Tryz.cells9:Tryz.prog.cellsOf 9 = 1:=by kernel_rfl
theorem act_cells {H:Type} {enc:TypeId × Value → H} {W:World} {sp:Nat → Bool} {fuel:Nat} {cs:List Value} {x:DataW H × List MemPlace}
  (h:DataW.trod enc Tryz.prog W 0 sp true fuel 53 cs = some x):∃ a:Ac,cs = a.vals ∧ a.fits:=by
 obtain ⟨y0,y1,y2,y3,m,hx,hl,h0,h1,h2,h3⟩:=Go.Joins.trod_struct4 (P:=Tryz.prog) Tryz.underlying53 h
 obtain ⟨n0,e0,_⟩:=DataW.trod_int (P:=Tryz.prog) Tryz.underlying3 h0
 obtain ⟨n1,e1,_,w1⟩:=DataW.trod_int (P:=Tryz.prog) Tryz.underlying3 h1
 obtain ⟨s2,e2,_,z2⟩:=DataW.trod_string (P:=Tryz.prog) Tryz.underlying9 h2
 obtain ⟨s3,e3,_,z3⟩:=DataW.trod_string (P:=Tryz.prog) Tryz.underlying9 h3
 rw [Tryz.cells53] at hl
 refine ⟨⟨n0,n1,s2.data.toList,s3.data.toList⟩,?_,?_,?_,?_⟩
 ·match cs,hl with
  | [a,b,c,d],_ =>
   have q0:[a] = [Value.int .i64 n0]:=by simpa [Value.cells,Tryz.cells3] using e0
   have q1:[b] = [Value.int .i64 n1]:=by simpa [Value.cells,Tryz.cells3] using e1
   have q2:[c] = [Value.string s2]:=by simpa [Value.cells,Tryz.cells9] using e2
   have q3:[d] = [Value.string s3]:=by simpa [Value.cells,Tryz.cells9] using e3
   injection q0 with q0;injection q1 with q1;injection q2 with q2;injection q3 with q3
   subst q0;subst q1;subst q2;subst q3
   simp only [Ac.vals,str_of]
 ·simp only [Lit.wf,Bool.and_eq_true,decide_eq_true_eq,IntKind.min,IntKind.max] at w1
  have a':-(2:Int)^63 ≤ n1:=of_decide_eq_true w1.1
  have b':n1 ≤ (2:Int)^63 - 1:=of_decide_eq_true w1.2
  exact ⟨a',by show n1 < 2^63;omega⟩
 ·have h4:s3.data.toList.length = s3.size:=Array.length_toList
  unfold maxLen at z3
  show s3.data.toList.length < 2 ^ 63
  rw [h4];omega
 ·have h4:s2.data.toList.length = s2.size:=Array.length_toList
  unfold maxLen at z2
  show s2.data.toList.length < 2 ^ 63
  rw [h4];omega
theorem acVals_of {w:World} {b o:Nat} {l:List Ac} (h:∀ i a,l[i]? = some a → ∀ j u,a.vals[j]? = some u → w.cell? ⟨b,o + (i * 4 + j),none⟩ = some u):∀ j u,(acVals l)[j]? = some u → w.cell? ⟨b,o + j,none⟩ = some u:=by
 intro j u hu
 have hj:=(List.getElem?_eq_some_iff.1 hu).1
 rw [acVals_len] at hj
 have hi:j / 4 < l.length:=by omega
 have ha:l[j / 4]? = some (l[j / 4]'hi):=List.getElem?_eq_getElem hi
 have hj4:j % 4 < (l[j / 4]'hi).vals.length:=by simp [Ac.vals];omega
 have h1:=h _ _ ha (j % 4) _ (List.getElem?_eq_getElem hj4)
 have h2:=acVals_at l _ _ ha (j % 4) _ (List.getElem?_eq_getElem hj4)
 rw [show j / 4 * 4 + j % 4 = j by omega] at h1 h2
 rw [hu] at h2
 rw [h1,h2]
theorem list_of_fun {α:Type} {n:Nat} {p:Nat → α → Prop} (h:∀ i,i < n → ∃ x,p i x):∃ l:List α,l.length = n ∧ ∀ i a,l[i]? = some a → p i a:=by
 induction n with
 | zero=>exact ⟨[],rfl,fun i a h=>by cases h⟩
 | succ n ih =>
  obtain ⟨l,h1,h2⟩:=ih (fun i hi=>h i (by omega))
  obtain ⟨x,hx⟩:=h n (by omega)
  refine ⟨l ++ [x],by simp [h1],fun i a ha=>?_⟩
  rcases Nat.lt_or_ge i l.length with hi | hi
  ·rw [List.getElem?_append_left hi] at ha;exact h2 i a ha
  ·rw [List.getElem?_append_right hi] at ha
   have hi':=(List.getElem?_eq_some_iff.1 ha).1
   have:i - l.length = 0:=by simpa using hi'
   rw [this] at ha
   have e:x = a:=by simpa using ha
   subst e
   have e2:i = n:=by omega
   rw [e2];exact hx
theorem acts_open {H:Type} {enc:TypeId × Value → H} {W:World} {base:Nat} {v:Value} {d:DataW H} {p:List MemPlace}
  (hval:Value.okWide Tryz.prog W .any base 22 v) (h:DataW.Trod enc Tryz.prog W 0 (fun _=>true) true 22 v d p) :
  ∃ (A:Option Addr) (l:List Ac) (c:Nat),v = .slice A l.length c ∧ Rd W (fun b=>W.heap.size ≤ b) 4 A l.length (acVals l) ∧ l.length < 2 ^ 63 ∧ ∀ a ∈ l,a.fits:=by
 obtain ⟨A0,n0,c0,rfl⟩:=okWide_slice (P:=Tryz.prog) Tryz.underlying22 hval
 obtain ⟨fuel,hf⟩:=h
 have hf':DataW.trod enc Tryz.prog W 0 (fun _=>true) true fuel 22 [.slice A0 n0 c0] = some (d,p):=hf
 rcases Go.Deep.open_slice (P:=Tryz.prog) Tryz.underlying22 hf' with ⟨e,_⟩ | ⟨a,len,cap,m,n,D,Pl,e,_,hl,hm,hmm,_,hx⟩
 ·injection e with e _
  injection e with e1 e2 e3
  subst e1;subst e2;subst e3
  exact ⟨none,[],0,rfl,Rd.nil_ _,by decide,by simp⟩
 ·injection e with e _
  injection e with e1 e2 e3
  subst e1;subst e2;subst e3
  rw [Tryz.cells53] at hx
  have hlm:n0 ≤ m:=by rw [hmm];split <;> omega
  obtain ⟨l,h1,h2⟩:=list_of_fun (n:=n0) (p:=fun i (x:Ac)=>x.fits ∧ ∀ j u,x.vals[j]? = some u → W.cell? ((a.add (i * 4)).add j) = some u) (fun i hi=>by
   obtain ⟨cs',g1,g2⟩:=hx i (by omega)
   obtain ⟨y,rfl,hy⟩:=act_cells g2
   obtain ⟨_,_,g3⟩:=World.cells?_some g1
   refine ⟨y,hy,fun j u hu=>?_⟩
   have hj:=(List.getElem?_eq_some_iff.1 hu).1
   rw [g3 j (by simpa [Ac.vals] using hj),hu])
  subst h1
  refine ⟨some a,l,c0,rfl,⟨acVals_len l,fun hpos=>?_⟩,by unfold maxLen at hm;omega,fun y hy=>?_⟩
  ·obtain ⟨x0,hx0⟩:∃ x0,l[0]? = some x0:=⟨_,List.getElem?_eq_getElem hpos⟩
   have hspot:a.spot = none:=by
    have:=(h2 0 x0 hx0).2 0 _ rfl
    rw [Go.Deep.add_add,Nat.zero_mul,Nat.add_zero] at this
    unfold Addr.add at this
    simp only [if_true] at this
    unfold World.cell? at this
    cases hs:a.spot with
    | none=>rfl
    | some _=>rw [hs] at this;split at this <;> simp at this
   obtain ⟨b,o,sp⟩:=a
   simp only at hspot
   subst hspot
   have hall:=acVals_of (w:=W) (b:=b) (o:=o) (l:=l) (fun i y hy j u hu=>by
    have:=(h2 i y hy).2 j u hu
    rw [Go.Deep.add_add,Addr.add_none] at this
    exact this)
   refine ⟨b,o,rfl,?_,hall⟩
   have h3:=(h2 0 x0 hx0).2 0 _ rfl
   rw [Go.Deep.add_add,Addr.add_none] at h3
   have:=World.block_lt_of_cell? W _ h3
   simp only at this
   omega
  ·obtain ⟨i,hi,e⟩:=List.getElem_of_mem hy
   exact (h2 i y (by rw [List.getElem?_eq_getElem hi,e])).1
end Go.Proofs.YtccnemmlkcmceaaGreatDoor
namespace Go.Proofs.YtccnemmlkcmceaaGreatDoor
open Go.RowKit
def halfs:List Int:=[0,274646895,549293790,820201905,1098587580,1361435347,1640403810,1905808397,2197175160,2460548119,2722870694,2987750089,3280807620,3553878443,3811616794,4084100981]
def halfT (i:Nat):Nat:=(halfs.getD i 0).toNat
theorem halfT_lt (i:Nat):halfT i < 4294967296:=by
 unfold halfT
 rcases Nat.lt_or_ge i 16 with h | h
 ·have hall:∀ j,j < 16 → (halfs.getD j 0).toNat < 4294967296:=by decide
  exact hall i h
 ·rw [List.getD_eq_getElem?_getD,List.getElem?_eq_none (by simpa [halfs] using h)];decide
theorem half_of_laid {rest:List (String × DataW Unit)} {W:World} (h:laidMet Tryz.prog (("aquifer/castagnoli.half",Rows.laid_aquifer_castagnoli_half) :: rest) W):Half W halfT:=by
 have h1:Lib.TabIs Tryz.prog W "aquifer/castagnoli.half" .u32 halfs:=Lib.tabIs_of_head (rest:=rest) (t:=258) (e:=192) (n:=16) gHalf (by kernel_rfl) (by kernel_rfl) (by kernel_rfl) (by kernel_rfl) (by kernel_rfl) h
 refine ⟨fun i hi=>?_,halfT_lt⟩
 have h2:=h1.cell gHalf i (by simpa [halfs] using hi)
 rw [h2]
 have hall:∀ j,j < 16 → (0:Int) ≤ halfs.getD j 0:=by decide
 unfold halfT
 rw [Int.toNat_of_nonneg (hall i hi)]
end Go.Proofs.YtccnemmlkcmceaaGreatDoor
