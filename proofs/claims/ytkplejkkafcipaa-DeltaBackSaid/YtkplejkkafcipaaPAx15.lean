-- Printed by a program of this session (wip/tools: the kit's printer with functions that are given by hand). Not trusted: Lean checks it.
import Derived.Test.YtkplejkkafcipaaPAx0
import Derived.Test.YtkplejkkafcipaaPAx11
namespace Go.Proofs.Ytkplejkkafcipaa.PA
open Go.RowKit Go.Proofs.YtkplejkkafcipaaW.PrintWords Go.Proofs.YtkplejkkafcipaaW.PrintLast Go.Proofs.YtkplejkkafcipaaW.PrintMore
attribute [local go_sem] max2_int min2_int max_two min_two max_three min_three max_four min_four   -- for this text's walks alone
set_option linter.unusedVariables false
set_option linter.unusedSimpArgs false

/-! ### storemanlaw17_right: function 19 -/
def storemanlaw17_right.f (k : Nat) (l0 : List (S37)) : Option (Bool) := (delta_Turns.f k ([] : List (S37)) l0).bind fun t393 => (some ((t393.length : Int) == (l0.length : Int)))
theorem storemanlaw17_right.mono : ∀ a0 k, LeO (storemanlaw17_right.f k a0) (storemanlaw17_right.f (k + 1) a0) := by
  intro a0 k
  unfold storemanlaw17_right.f
  repeat' first
      | (with_reducible exact delta_Turns.mono _ _ _)
      | (with_reducible exact LeO.refl _)
      | (with_reducible exact LeO.none _)
      | (with_reducible refine LeO.ite ?_ ?_)
      | (with_reducible refine LeO.bind ?_ (fun _ => ?_))
      | exact delta_Turns.mono _ _ _
      | exact LeO.none _
      | refine LeO.ite ?_ ?_
      | refine LeO.bind ?_ (fun _ => ?_)
set_option maxHeartbeats 8000000 in
set_option maxRecDepth 100000 in
theorem storemanlaw17_right.calls (k : Nat) (A0 : Option Addr) (c0 : Nat) (l0 : List (S37)) (r : Bool) (w : World) (hr0 : Kd.C k37 w A0 l0.length l0) (hc0 : l0.length ≤ c0) (h : storemanlaw17_right.f k l0 = some r) :
    Calls Try.prog 19 #[.slice A0 l0.length c0] w fun e w' => e = .returned (.bool r) ∧ Below w.heap.size w w' := by
 (have HR0 := Aside0.mk hr0); (have HC0 := Aside0.mk hc0); (clear hr0 hc0); (have HB := Aside0.mk (Below.refl w.heap.size w)); (have H : ((delta_Turns.f k ([] : List (S37)) l0).bind fun t393 => (some ((t393.length : Int) == (l0.length : Int)))) = some r := h); (clear h); (replace H := Option.bind_eq_some_iff.mp H); (obtain ⟨t393, A20, H⟩ := H); (replace H : (some ((t393.length : Int) == (l0.length : Int))) = some r := H); (have A2 := Aside0.mk A20); (clear A20); (obtain rfl := Option.some.inj H); (go_enter Try.func19, Try.ntmps19); (go_wp2_with (first | ((with_reducible refine gate_callee (f := 9) rfl ?_); refine goesL_ (some 4) rfl rfl Try.func9 (by kernel_rfl) rfl #[.slice none 0 0, .slice A0 l0.length c0] rfl (by (try simp only [List.map_toArray, List.map_cons, List.map_nil]); first | done | rfl | (simp only [List.length_drop, List.length_take]; rfl)) ?_; (refine (delta_Turns.calls k (fun k_ => False) _ _ ([] : List (S37)) (fun k_ => k_ < w.heap.size) _ _ l0 t393 _ ?side1 ?side2 A2.out).mono ?_); (case side1 => exact Kd.V_nil _ _ _ _ _); (case side2 => exact Kd.V_mk HC0.out (Kd.F_below (Kd.C_F k37_heap HR0.out) Sh.B)); rintro e w3 ⟨v394, rfl, ho0, hb⟩; refine ⟨_, rfl, ?_⟩; have n0_ := Aside0.mk (Kd.S_lower (Kd.S_mono (ok' := fun k_ => True) ho0 (fun _ hk_ => trivial)) (below_size Sh.B)); have n1_ := Aside0.mk (below_step Sh.B hb); clear HB; have HO395 := n0_; have HB := n1_; clear n0_ n1_; (try clear hb); (try clear hb2); (try clear hk); (try clear hi); (try clear ho0); obtain ⟨Ao4, co4, eo4⟩ := Kd.S_slice HO395.out; subst eo4))); (go_ret); (exact ⟨by first | rfl | (simp [errW_none, errW_some] <;> rfl) | (simp [*, errW_none, errW_some] <;> rfl), Sh.B⟩)

-- NOT PRINTED: function 6 (storemanlaw17_awake)

-- NOT PRINTED: function 3 (storemanlaw17_DeltaTells)

-- NOT PRINTED: function 4 (storemanlaw17_DeltaApplies)

-- NOT PRINTED: function 5 (storemanlaw17_DeltaBack)

end Go.Proofs.Ytkplejkkafcipaa.PA
