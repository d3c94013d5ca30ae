/-
The law LockLives: for every input it returns true and its arguments read as before: the given row, out of the walk LockLives_goes. No condition.
-/
import Derived.Test.YtimlfdfmgajbnaaRows
import Derived.Test.YtimlfdfmgajbnaaOpen
import Derived.Test.YtimlfdfmgajbnaaML3
import Derived.WalkKit
import Derived.ProofKit
import Derived.OpenShut
import Derived.ShutString
import Derived.ChangeOld
import Derived.Below
import Derived.SizedLaws
import Derived.WideShapes
import Derived.KernelRfl
namespace Go.Proofs.Ytimlfdfmgajbnaa.lockLives
open Go.ChangeShapes Go.WideShapes Go.ChangeAt Go.RowKit Go.Proofs.YtimlfdfmgajbnaaW.PrintWords Go.Proofs.Ytimlfdfmgajbnaa.Opening Go.Proofs.Ytimlfdfmgajbnaa.PA
open Go.ChangeMaps (open_string shut_string)
set_option linter.unusedVariables false
theorem own : ownKnob Try.prog.godebug = none := by kernel_rfl
theorem laidOut : laidOutB Try.prog = true := by kernel_rfl
theorem opens3 : Opens Try.prog 3 (Kd.int .i64) (fun n => (Lit.int .i64 n).wf = true) := opens_int Try.underlying3
theorem opens2 : Opens Try.prog 2 (Kd.int .i64) (fun n => (Lit.int .i64 n).wf = true) := opens_int Try.underlying2
theorem opens9 : Opens Try.prog 9 Kd.string (fun s => s.size ≤ 140737488351232) := opens_string Try.underlying9
theorem opens32 : Opens Try.prog 32 (Kd.slice 9 Kd.string) (fun xs => xs.length * 16 ≤ 140737488351232 ∧ ∀ x ∈ xs, (fun s => ByteArray.size s ≤ 140737488351232) x) := opens_slice Try.underlying32 (by kernel_rfl) (B := 16) (by kernel_rfl) opens9
def good34 (x : S34) : Prop := (fun n => (Lit.int .i64 n).wf = true) x.f0 ∧ (fun n => (Lit.int .i64 n).wf = true) x.f1 ∧ (fun xs => List.length xs * 16 ≤ 140737488351232 ∧ ∀ x ∈ xs, (fun s => ByteArray.size s ≤ 140737488351232) x) x.f2
theorem opens34 : Opens Try.prog 34 k34 good34 := by
  refine Opens.imp (opens_iso _ (fun a => ⟨⟨a.1, a.2.1, a.2.2⟩, rfl⟩) (opens_struct Try.underlying34 (by kernel_rfl) (fields_cons _ opens3 (by kernel_rfl) rfl (fields_cons _ opens2 (by kernel_rfl) rfl (fields_one opens32 (by kernel_rfl)))))) (fun b h => h)
theorem opens22 : Opens Try.prog 22 (Kd.slice 34 k34) (fun xs => xs.length * 40 ≤ 140737488351232 ∧ ∀ x ∈ xs, good34 x) := opens_slice Try.underlying22 (by kernel_rfl) (B := 40) (by kernel_rfl) opens34
set_option maxRecDepth 100000 in
theorem lifted (os : Os) (started : os.Started) (H : Type) (enc : TypeId × Value → H) :
    ReturnsInHanded {} Try.checked os 3 .any (Rows.lockLivesSpec.pre6 enc Try.prog Try.f3 Rows.lockLivesRow.domain false) (Rows.lockLivesSpec.post enc Try.prog Try.f3 false true false false) := by
  refine returnsInHanded_of_change_sized (C := Try.checked) own started (by kernel_rfl) Try.func3
    (ChangeSpec.witness6 (enc := enc) (C := Try.checked) false ⟨#[], #[.slice none 0 0], []⟩ 8 (by kernel_rfl) (by kernel_rfl) (by kernel_rfl) (by kernel_rfl)) ?_
  intro W base args ds gs before hval0 hW hcnd hsz0 _
  have hsz : (DataW.weightsEach Try.prog (Try.f3.params.toList ++ Rows.lockLivesSpec.plain.varTypes Try.prog) (ds ++ gs)).all (· ≤ reachBytes) = true := hsz0
  have hval : ∀ (j : Nat) t v, Try.f3.params[j]? = some t → args[j]? = some v → Value.okWide Try.prog W .any base t v := hval0
  have hW' := hW
  obtain ⟨p, q, hA0, hV, rfl, hfz, hnd⟩ := hW
  have hA : DataW.TrodAll enc Try.prog W 0 (fun _ => true) true Try.f3.params.toList args.toList ds p := hA0
  rw [Try.params3] at hA hval hsz
  obtain ⟨v0, vs0, d0, ds0, p0, q0, hargs, rfl, rfl, h0, r0⟩ := trodAll_cons hA
  obtain ⟨rfl, rfl, rfl⟩ := trodAll_nil r0
  obtain rfl : args = #[v0] := by cases args; simp_all
  obtain ⟨rfl, rfl⟩ := trodVars_none hV
  have k0 := h0
  have lt0 : ∀ x ∈ p0, x.block < W.heap.size := by obtain ⟨m, hm⟩ := k0; exact DataW.trod_lt m _ _ _ hm
  have wt0 : (d0.weights Try.prog 22).all (· ≤ reachBytes) = true := weights_of hsz (j := 0) rfl rfl
  obtain ⟨a0, len0, cap0, rfl⟩ := okWide_slice Try.underlying22 (hval 0 22 v0 rfl rfl)
  obtain ⟨x0, rfl, hc0, hr0, hg0⟩ := param_slice opens22 k0 wt0
  clear hA0 hval0 hsz0 hsz
  refine (LockLives_goes a0 x0 cap0 W hr0 hc0 hg0).mono fun e W' ⟨he, bel⟩ => ?_
  subst he
  exact ⟨_, rfl, _, _, _, [], _, [], hW', trodAll_mk1 (shut_bool Try.underlying4 _), (trodAll_cons_mk (Below.trod laidOut (by kernel_rfl) (of_decide_eq_true (by kernel_rfl)) k0 bel lt0) trodAll_mk0), rfl, bel.frame _, fun h => by cases h⟩
theorem over : Rows.lockLivesRow.holds Try.pinned (OpenSpec.ofChange Rows.lockLivesSpec) :=
  OpenClaim.holds_of_wide 3 Try.f3 rfl rfl rfl rfl rfl rfl rfl ⟨rfl, rfl, rfl, rfl, rfl⟩ rfl rfl rfl rfl rfl (by kernel_rfl) Try.func3 (by kernel_rfl)
    (of_decide_eq_true (by kernel_rfl)) (by unfold Func.isWrapper; first | (rw [if_pos (by decide +kernel)]; kernel_rfl) | (rw [if_neg (by decide +kernel)]; exact ⟨rfl, rfl⟩))
    (fun os started H enc _ => lifted os started H enc)
theorem proved : Rows.LockLivesSaid := over
end Go.Proofs.Ytimlfdfmgajbnaa.lockLives
namespace Go.Proofs.Ytimlfdfmgajbnaa
/-- The row, under a short name, for the claim. -/
theorem lockLives_holds : Rows.LockLivesSaid := lockLives.proved
end Go.Proofs.Ytimlfdfmgajbnaa
