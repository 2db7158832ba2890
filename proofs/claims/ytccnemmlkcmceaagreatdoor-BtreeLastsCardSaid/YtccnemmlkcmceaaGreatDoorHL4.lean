/- Proofs about the given program, joined out of the texts RM, RA. -/
import Derived.Test.YtccnemmlkcmceaaGreatDoorHL1
import Derived.Test.YtccnemmlkcmceaaGreatDoorCards
import Derived.Test.YtccnemmlkcmceaaGreatDoorTie
import Derived.ProofKit
import Derived.OpenShut
import Derived.Deep.DeepHandedRow
import Derived.Lib.LaidTab
set_option linter.unusedVariables false
set_option linter.unusedSimpArgs false
set_option maxRecDepth 100000
set_option maxHeartbeats 6400000
namespace Go.Proofs.YtccnemmlkcmceaaGreatDoor
open Go.RowKit
theorem Ut {n:Int}(h:(Lit.int .i64 n).wf=true):-(2:Int)^63<=n/\n<2^63:=by
 simp only[Lit.wf,Bool.and_eq_true]at h;have a':-(2:Int)^63<=n:=of_decide_eq_true h.1;have b':n<=(2:Int)^63-1:=of_decide_eq_true h.2;exact⟨a',by omega⟩
theorem abJ (n:Int) (m:Nat) (hm:0<m):∃q:Nat,q<m/\(n.tmod m+m).tmod m=(q:Int) /\ -(m:Int)<n.tmod m/\n.tmod m<m:=by
 have h0:(0:Int)<m:=by omega
 have h1:-(m:Int)<n.tmod m:=by have:=Int.lt_tmod_of_pos n h0;omega
 have h2:n.tmod m<m:=Int.tmod_lt_of_pos n h0;have h3:0<=(n.tmod m+m).tmod m:=Int.tmod_nonneg _ (by omega);have h4:(n.tmod m+m).tmod m<m:=Int.tmod_lt_of_pos _ h0;exact⟨((n.tmod m+m).tmod m).toNat,by omega,by omega,h1,h2⟩
end Go.Proofs.YtccnemmlkcmceaaGreatDoor
namespace Go.Proofs.YtccnemmlkcmceaaGreatDoor
open Go.RowKit Go.ChangeShapes Go.WideShapes Go.ChangeAt
theorem Tryz.own:ownKnob Tryz.prog.godebug=none:=by kernel_rfl
theorem Tryz.laidOut:laidOutB Tryz.prog=true:=by kernel_rfl
theorem WN {w w':World}(h:ah No w w') (iE:MemPlace->Prop):w.keptBut w' iE:=by
 refine⟨h.os,h.output,fun i hi=>?_⟩;rw[h.block i hi (fun h=>h)];exact(World.keptBut_refl w iE).2.2 i hi
def WK:DataW Unit->List Value
 | .lit (.int k n)=>[.int k n]
 | _=>[]
def ae8:DataW Unit->List Value
 | .agg l=>l.flatMap WK
 | d=>WK d
def WJ:DataW Unit->List Value
 | .agg l=>l.flatMap ae8
 | d=>WK d
def CE (cs:List Value):Obj->Obj
 | .cells _ t frozen=>.cells cs.toArray t frozen
 | o=>o
theorem abg:Tryz.prog.globalNamed "aquifer/castagnoli.half" = some 0:=by kernel_rfl
noncomputable def yR (os:Os):World :=
 { World.holding Tryz.prog os ⟨#[],#[],[]⟩with heap:=((((World.holding Tryz.prog os ⟨#[],#[],[]⟩).heap.modify 0 (CE (WJ Rows.laid_aquifer_castagnoli_half))).modify 2 (CE (WJ Rows.laid_unicode_utf8_first))).modify 3 (CE (WJ Rows.laid_unicode_utf8_acceptRanges))) }
theorem Vf (os:Os) (args:Array Value):laidMet Tryz.prog [("aquifer/castagnoli.half",Rows.laid_aquifer_castagnoli_half),("unicode/utf8.acceptRanges",Rows.laid_unicode_utf8_acceptRanges),("unicode/utf8.first",Rows.laid_unicode_utf8_first)] ((yR os).forCall (fun _ _=>0) ⟨#[],args,[]⟩).memory :=
 laidMet_of_run' 8 (by kernel_rfl) (by kernel_rfl)
end Go.Proofs.YtccnemmlkcmceaaGreatDoor
