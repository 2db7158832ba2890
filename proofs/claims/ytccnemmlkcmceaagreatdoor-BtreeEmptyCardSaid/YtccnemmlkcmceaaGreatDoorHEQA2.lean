/- Proofs about the given program, joined out of the texts RM. -/
import Derived.Test.YtccnemmlkcmceaaGreatDoorHEQA1
set_option linter.unusedVariables false
set_option linter.unusedSimpArgs false
set_option maxRecDepth 100000
set_option maxHeartbeats 6400000
namespace Go.Proofs.YtccnemmlkcmceaaGreatDoor
open Go.RowKit
theorem wf_i64 {n:Int} (h:(Lit.int .i64 n).wf = true):-(2:Int)^63 ≤ n ∧ n < 2^63:=by
 simp only [Lit.wf,Bool.and_eq_true] at h
 have a':-(2:Int)^63 ≤ n:=of_decide_eq_true h.1
 have b':n ≤ (2:Int)^63 - 1:=of_decide_eq_true h.2
 exact ⟨a',by omega⟩
theorem rem_of (n:Int) (m:Nat) (hm:0 < m):∃ q:Nat,q < m ∧ (n.tmod m + m).tmod m = (q:Int) ∧ -(m:Int) < n.tmod m ∧ n.tmod m < m:=by
 have h0:(0:Int) < m:=by omega
 have h1:-(m:Int) < n.tmod m:=by have:=Int.lt_tmod_of_pos n h0;omega
 have h2:n.tmod m < m:=Int.tmod_lt_of_pos n h0
 have h3:0 ≤ (n.tmod m + m).tmod m:=Int.tmod_nonneg _ (by omega)
 have h4:(n.tmod m + m).tmod m < m:=Int.tmod_lt_of_pos _ h0
 exact ⟨((n.tmod m + m).tmod m).toNat,by omega,by omega,h1,h2⟩
end Go.Proofs.YtccnemmlkcmceaaGreatDoor
