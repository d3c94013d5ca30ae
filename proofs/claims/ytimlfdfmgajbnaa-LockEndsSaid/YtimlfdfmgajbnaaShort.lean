/-
Two proofs that printed texts give again and again, each under a short name.
-/
import Derived.Test.YtimlfdfmgajbnaaWWords
namespace Go.Proofs.Ytimlfdfmgajbnaa.Sh
open Go.RowKit Go.Proofs.YtimlfdfmgajbnaaW.PrintWords
/-- n times true, then k times false. -/
abbrev m (n k : Nat) : Array Bool := (List.replicate n true ++ List.replicate k false).toArray
theorem B {p : Prop} (h : p := by repeat (first | (with_reducible first | exact HB.out | apply below_alloc | apply pw_below_drewN | apply below_drew1) | exact HB.out)) : p := h
theorem A {p : Prop} (h : p := by first | (with_reducible assumption) | assumption) : p := h
end Go.Proofs.Ytimlfdfmgajbnaa.Sh
