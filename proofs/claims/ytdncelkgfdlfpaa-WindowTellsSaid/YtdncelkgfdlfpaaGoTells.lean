/-
The walk of the law WindowTells: it returns true, whatever comes in.
-/
import Derived.Test.YtdncelkgfdlfpaaMath
namespace Go.Proofs.Ytdncelkgfdlfpaa.PA
open Go.RowKit Go.Proofs.YtdncelkgfdlfpaaW.PrintWords
set_option linter.unusedVariables false

theorem WindowTells_goes (x0 x1 : S23) (x2 : Int) (W : World) (h0 : ((Lit.int .i64 x0.f0).wf = true) ∧ ((Lit.int .i64 x0.f1).wf = true)) (h1 : ((Lit.int .i64 x1.f0).wf = true) ∧ ((Lit.int .i64 x1.f1).wf = true)) (h2 : (Lit.int .i64 x2).wf = true) :
    Calls Try.prog 3 #[.agg #[.int .i64 x0.f0, .int .i64 x0.f1], .agg #[.int .i64 x1.f0, .int .i64 x1.f1], .int .i64 x2] W fun e W' => e = .returned (.bool true) ∧ Below W.heap.size W W' := by
  obtain ⟨k, hk⟩ := tells_pure x0.f0 x0.f1 x1.f0 x1.f1 x2
  exact storemanlaw01_WindowTells.calls k _ _ _ _ _ true W hk rfl
end Go.Proofs.Ytdncelkgfdlfpaa.PA
