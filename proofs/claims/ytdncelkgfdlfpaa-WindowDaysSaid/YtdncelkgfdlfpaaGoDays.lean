/-
The walk of the law WindowDays: it returns true, whatever comes in.
-/
import Derived.Test.YtdncelkgfdlfpaaDays
namespace Go.Proofs.Ytdncelkgfdlfpaa.PA
open Go.RowKit Go.Proofs.YtdncelkgfdlfpaaW.PrintWords
set_option linter.unusedVariables false
theorem WindowDays_goes (A0 : Option Addr) (l : List S23) (c0 : Nat) (A1 : Option Addr) (m : List S23) (c1 : Nat) (day : Int) (W : World) (hr0 : Kd.C k23 W A0 l.length l) (hc0 : l.length ≤ c0) (hg0 : l.length * 16 ≤ 140737488351232 ∧ ∀ x ∈ l, (Lit.int .i64 x.f0).wf = true ∧ (Lit.int .i64 x.f1).wf = true) (hr1 : Kd.C k23 W A1 m.length m) (hc1 : m.length ≤ c1) (hg1 : m.length * 16 ≤ 140737488351232 ∧ ∀ x ∈ m, (Lit.int .i64 x.f0).wf = true ∧ (Lit.int .i64 x.f1).wf = true) (hd : (Lit.int .i64 day).wf = true) :
    Calls Try.prog 6 #[.slice A0 l.length c0, .slice A1 m.length c1, .int .i64 day] W fun e W' => e = .returned (.bool true) ∧ Below W.heap.size W W' := by
  obtain ⟨k, hk⟩ := days_pure l m day hg0.1 hg1.1
  exact storemanlaw01_WindowDays.calls k A0 c0 l A1 c1 m day true W hr0 hc0 hr1 hc1 hk rfl
end Go.Proofs.Ytdncelkgfdlfpaa.PA
