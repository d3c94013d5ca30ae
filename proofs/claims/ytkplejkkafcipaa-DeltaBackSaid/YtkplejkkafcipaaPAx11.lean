-- Printed by a program of this session (wip/tools: the kit's printer with functions that are given by hand). Not trusted: Lean checks it.
import Derived.Test.YtkplejkkafcipaaPAx0
import Derived.Test.YtkplejkkafcipaaPAx1
import Derived.Test.YtkplejkkafcipaaPAx10
import Derived.Test.YtkplejkkafcipaaHBytes
namespace Go.Proofs.Ytkplejkkafcipaa.PA
open Go.RowKit Go.Proofs.YtkplejkkafcipaaW.PrintWords Go.Proofs.YtkplejkkafcipaaW.PrintLast Go.Proofs.YtkplejkkafcipaaW.PrintMore
attribute [local go_sem] max2_int min2_int max_two min_two max_three min_three max_four min_four   -- for this text's walks alone
set_option linter.unusedVariables false
set_option linter.unusedSimpArgs false

/-! ### delta_Turns: function 9 -/
mutual
def delta_Turns.j0 : Nat → List (S37) → List (S37) → Bool → Option ((List (S43)))
  | 0, _, _, _ => none
  | k + 1, x0, x1, x14 => if x14 = true then (some ([] : List (S43))) else (delta_Turns.l0 k x0 x1 ([] : List (S43)))
def delta_Turns.l0 : Nat → List (S37) → List (S37) → List (S43) → Option ((List (S43)))
  | 0, _, _, _ => none
  | k + 1, x0, x1, x5 => if (x0.length : Int) > 0 then (delta_Turns.j2 k x0 x1 x5 true) else (delta_Turns.j2 k x0 x1 x5 (decide ((x1.length : Int) > 0)))
def delta_Turns.j2 : Nat → List (S37) → List (S37) → List (S43) → Bool → Option ((List (S43)))
  | 0, _, _, _, _ => none
  | k + 1, x0, x1, x5, x22 => if x22 = true then (if (x0.length : Int) = 0 then (delta_Turns.j3 k x0 x1 x5 1) else (if (x1.length : Int) = 0 then (delta_Turns.j3 k x0 x1 x5 (-1)) else (if 0 < (x0.length : Int) then (if 0 < (x1.length : Int) then ((bytes_Compare.f ((rd_T37 x0 0).f0) ((rd_T37 x1 0).f0)).bind fun t264 => (delta_Turns.j3 k x0 x1 x5 t264)) else (none)) else (none)))) else (some x5)
def delta_Turns.j3 : Nat → List (S37) → List (S37) → List (S43) → Int → Option ((List (S43)))
  | 0, _, _, _, _ => none
  | k + 1, x0, x1, x5, x6 => if x6 < 0 then (if 0 < (x0.length : Int) then ((delta_turn.f ((rd_T37 x0 0).f0) ((rd_T37 x0 0).f1) ([] : List Int)).bind fun bt267 => (if x5.length < 1954687338268 then (if 1 ≤ (x0.length : Int) then (delta_Turns.l0 k (x0.drop 1) x1 (x5 ++ [(⟨bt267.1, bt267.2.1, bt267.2.2⟩ : S43)])) else (none)) else (none))) else (none)) else (if x6 > 0 then (if 0 < (x1.length : Int) then ((delta_turn.f ((rd_T37 x1 0).f0) ([] : List Int) ((rd_T37 x1 0).f1)).bind fun bt286 => (if x5.length < 1954687338268 then (delta_Turns.j4 k x0 x1 (x5 ++ [(⟨bt286.1, bt286.2.1, bt286.2.2⟩ : S43)]) x6) else (none))) else (none)) else (if 0 < (x0.length : Int) then (if 0 < (x1.length : Int) then ((bytes_Equal.f ((rd_T37 x0 0).f1) ((rd_T37 x1 0).f1)).bind fun t300 => (if t300 = true then (delta_Turns.j4 k x0 x1 x5 x6) else ((delta_turn.f ((rd_T37 x0 0).f0) ((rd_T37 x0 0).f1) ((rd_T37 x1 0).f1)).bind fun bt304 => (if x5.length < 1954687338268 then (delta_Turns.j4 k x0 x1 (x5 ++ [(⟨bt304.1, bt304.2.1, bt304.2.2⟩ : S43)]) x6) else (none))))) else (none)) else (none)))
def delta_Turns.j4 : Nat → List (S37) → List (S37) → List (S43) → Int → Option ((List (S43)))
  | 0, _, _, _, _ => none
  | k + 1, x0, x1, x5, x6 => if 1 ≤ (x1.length : Int) then ((some (x1.drop 1 : List (S37))).bind fun y316 => (if x6 = 0 then (if 1 ≤ (x0.length : Int) then (delta_Turns.l0 k (x0.drop 1) y316 x5) else (none)) else (delta_Turns.l0 k x0 y316 x5))) else (none)
end
def delta_Turns.f (k : Nat) (l0 : List (S37)) (l1 : List (S37)) : Option ((List (S43))) := (delta_right.f k l0).bind fun t260 => (if t260 = true then ((delta_right.f k l1).bind fun t261 => (delta_Turns.j0 k l0 l1 (!t261))) else (delta_Turns.j0 k l0 l1 true))
theorem delta_Turns.mono_l : ∀ k, (∀ y0 y1 y2, LeO (delta_Turns.j0 k y0 y1 y2) (delta_Turns.j0 (k + 1) y0 y1 y2)) ∧ (∀ y0 y1 y2, LeO (delta_Turns.l0 k y0 y1 y2) (delta_Turns.l0 (k + 1) y0 y1 y2)) ∧ (∀ y0 y1 y2 y3, LeO (delta_Turns.j2 k y0 y1 y2 y3) (delta_Turns.j2 (k + 1) y0 y1 y2 y3)) ∧ (∀ y0 y1 y2 y3, LeO (delta_Turns.j3 k y0 y1 y2 y3) (delta_Turns.j3 (k + 1) y0 y1 y2 y3)) ∧ (∀ y0 y1 y2 y3, LeO (delta_Turns.j4 k y0 y1 y2 y3) (delta_Turns.j4 (k + 1) y0 y1 y2 y3))
  | 0 => ⟨fun _ _ _ r h => by simp [delta_Turns.j0] at h, fun _ _ _ r h => by simp [delta_Turns.l0] at h, fun _ _ _ _ r h => by simp [delta_Turns.j2] at h, fun _ _ _ _ r h => by simp [delta_Turns.j3] at h, fun _ _ _ _ r h => by simp [delta_Turns.j4] at h⟩
  | k + 1 => by
    obtain ⟨ih0, ih1, ih2, ih3, ih4⟩ := delta_Turns.mono_l k
    refine ⟨?_, ?_, ?_, ?_, ?_⟩
    · intro y0 y1 y2
      unfold delta_Turns.j0
      repeat' first
      | (with_reducible exact ih0 _ _ _)
      | (with_reducible exact ih1 _ _ _)
      | (with_reducible exact ih2 _ _ _ _)
      | (with_reducible exact ih3 _ _ _ _)
      | (with_reducible exact ih4 _ _ _ _)
      | (with_reducible exact delta_right.mono _ _)
      | (with_reducible exact LeO.refl _)
      | (with_reducible exact LeO.none _)
      | (with_reducible refine LeO.ite ?_ ?_)
      | (with_reducible refine LeO.bind ?_ (fun _ => ?_))
      | exact ih0 _ _ _
      | exact ih1 _ _ _
      | exact ih2 _ _ _ _
      | exact ih3 _ _ _ _
      | exact ih4 _ _ _ _
      | exact delta_right.mono _ _
      | exact LeO.none _
      | refine LeO.ite ?_ ?_
      | refine LeO.bind ?_ (fun _ => ?_)
    · intro y0 y1 y2
      unfold delta_Turns.l0
      repeat' first
      | (with_reducible exact ih0 _ _ _)
      | (with_reducible exact ih1 _ _ _)
      | (with_reducible exact ih2 _ _ _ _)
      | (with_reducible exact ih3 _ _ _ _)
      | (with_reducible exact ih4 _ _ _ _)
      | (with_reducible exact delta_right.mono _ _)
      | (with_reducible exact LeO.refl _)
      | (with_reducible exact LeO.none _)
      | (with_reducible refine LeO.ite ?_ ?_)
      | (with_reducible refine LeO.bind ?_ (fun _ => ?_))
      | exact ih0 _ _ _
      | exact ih1 _ _ _
      | exact ih2 _ _ _ _
      | exact ih3 _ _ _ _
      | exact ih4 _ _ _ _
      | exact delta_right.mono _ _
      | exact LeO.none _
      | refine LeO.ite ?_ ?_
      | refine LeO.bind ?_ (fun _ => ?_)
    · intro y0 y1 y2 y3
      unfold delta_Turns.j2
      repeat' first
      | (with_reducible exact ih0 _ _ _)
      | (with_reducible exact ih1 _ _ _)
      | (with_reducible exact ih2 _ _ _ _)
      | (with_reducible exact ih3 _ _ _ _)
      | (with_reducible exact ih4 _ _ _ _)
      | (with_reducible exact delta_right.mono _ _)
      | (with_reducible exact LeO.refl _)
      | (with_reducible exact LeO.none _)
      | (with_reducible refine LeO.ite ?_ ?_)
      | (with_reducible refine LeO.bind ?_ (fun _ => ?_))
      | exact ih0 _ _ _
      | exact ih1 _ _ _
      | exact ih2 _ _ _ _
      | exact ih3 _ _ _ _
      | exact ih4 _ _ _ _
      | exact delta_right.mono _ _
      | exact LeO.none _
      | refine LeO.ite ?_ ?_
      | refine LeO.bind ?_ (fun _ => ?_)
    · intro y0 y1 y2 y3
      unfold delta_Turns.j3
      repeat' first
      | (with_reducible exact ih0 _ _ _)
      | (with_reducible exact ih1 _ _ _)
      | (with_reducible exact ih2 _ _ _ _)
      | (with_reducible exact ih3 _ _ _ _)
      | (with_reducible exact ih4 _ _ _ _)
      | (with_reducible exact delta_right.mono _ _)
      | (with_reducible exact LeO.refl _)
      | (with_reducible exact LeO.none _)
      | (with_reducible refine LeO.ite ?_ ?_)
      | (with_reducible refine LeO.bind ?_ (fun _ => ?_))
      | exact ih0 _ _ _
      | exact ih1 _ _ _
      | exact ih2 _ _ _ _
      | exact ih3 _ _ _ _
      | exact ih4 _ _ _ _
      | exact delta_right.mono _ _
      | exact LeO.none _
      | refine LeO.ite ?_ ?_
      | refine LeO.bind ?_ (fun _ => ?_)
    · intro y0 y1 y2 y3
      unfold delta_Turns.j4
      repeat' first
      | (with_reducible exact ih0 _ _ _)
      | (with_reducible exact ih1 _ _ _)
      | (with_reducible exact ih2 _ _ _ _)
      | (with_reducible exact ih3 _ _ _ _)
      | (with_reducible exact ih4 _ _ _ _)
      | (with_reducible exact delta_right.mono _ _)
      | (with_reducible exact LeO.refl _)
      | (with_reducible exact LeO.none _)
      | (with_reducible refine LeO.ite ?_ ?_)
      | (with_reducible refine LeO.bind ?_ (fun _ => ?_))
      | exact ih0 _ _ _
      | exact ih1 _ _ _
      | exact ih2 _ _ _ _
      | exact ih3 _ _ _ _
      | exact ih4 _ _ _ _
      | exact delta_right.mono _ _
      | exact LeO.none _
      | refine LeO.ite ?_ ?_
      | refine LeO.bind ?_ (fun _ => ?_)
theorem delta_Turns.mono : ∀ a0 a1 k, LeO (delta_Turns.f k a0 a1) (delta_Turns.f (k + 1) a0 a1) := by
  intro a0 a1 k
  obtain ⟨ih0, ih1, ih2, ih3, ih4⟩ := delta_Turns.mono_l k
  unfold delta_Turns.f
  repeat' first
      | (with_reducible exact ih0 _ _ _)
      | (with_reducible exact ih1 _ _ _)
      | (with_reducible exact ih2 _ _ _ _)
      | (with_reducible exact ih3 _ _ _ _)
      | (with_reducible exact ih4 _ _ _ _)
      | (with_reducible exact delta_right.mono _ _)
      | (with_reducible exact LeO.refl _)
      | (with_reducible exact LeO.none _)
      | (with_reducible refine LeO.ite ?_ ?_)
      | (with_reducible refine LeO.bind ?_ (fun _ => ?_))
      | exact ih0 _ _ _
      | exact ih1 _ _ _
      | exact ih2 _ _ _ _
      | exact ih3 _ _ _ _
      | exact ih4 _ _ _ _
      | exact delta_right.mono _ _
      | exact LeO.none _
      | refine LeO.ite ?_ ?_
      | refine LeO.bind ?_ (fun _ => ?_)
def delta_Turns.T6 : Bool × List (List Nat × List Nat) := (true, [([], []), ([0], [0]), ([1], [1]), ([2], [2]), ([], []), ([4], [4]), ([5], [5]), ([6], [6]), ([3, 7], [3, 7]), ([8, 8, 0, 1, 2, 3, 4, 5, 6, 7, 8], [8])])
def delta_Turns.B6 : List Nat := [0, 1, 3, 7, 0, 16, 48, 112, 255, 511]
theorem delta_Turns.tab6 : rtab .any (opsOf Try.f9 6) = delta_Turns.T6 := by kernel_rfl
theorem delta_Turns.bits6 : waitsOk delta_Turns.T6.2 delta_Turns.B6 = true := by kernel_rfl
def delta_Turns.T12 : Bool × List (List Nat × List Nat) := (true, [([], []), ([], []), ([1], [1]), ([2], [2]), ([3], [3]), ([], []), ([5], [5]), ([6], [6]), ([7], [7]), ([4, 8], [4, 8]), ([9], [9]), ([0, 10, 9], [0, 10]), ([11, 11, 0, 1, 2, 3, 4, 5, 6, 7, 8, 9, 10, 11], [0, 11])])
def delta_Turns.B12 : List Nat := [0, 0, 2, 6, 14, 0, 32, 96, 224, 510, 1022, 2047, 4095]
theorem delta_Turns.tab12 : rtab .any (opsOf Try.f9 12) = delta_Turns.T12 := by kernel_rfl
theorem delta_Turns.bits12 : waitsOk delta_Turns.T12.2 delta_Turns.B12 = true := by kernel_rfl
def delta_Turns.T15 : Bool × List (List Nat × List Nat) := (true, [([], []), ([], []), ([1], [1]), ([2], [2]), ([3], [3]), ([], []), ([5], [5]), ([6], [6]), ([7], [7]), ([4, 8], [4, 8]), ([9], [9]), ([0, 10, 9], [0, 10]), ([11, 11, 0, 1, 2, 3, 4, 5, 6, 7, 8, 9, 10, 11], [0, 11])])
def delta_Turns.B15 : List Nat := [0, 0, 2, 6, 14, 0, 32, 96, 224, 510, 1022, 2047, 4095]
theorem delta_Turns.tab15 : rtab .any (opsOf Try.f9 15) = delta_Turns.T15 := by kernel_rfl
theorem delta_Turns.bits15 : waitsOk delta_Turns.T15.2 delta_Turns.B15 = true := by kernel_rfl
def delta_Turns.T16 : Bool × List (List Nat × List Nat) := (true, [([], []), ([0], [0]), ([1], [1]), ([2], [2]), ([], []), ([4], [4]), ([5], [5]), ([6], [6]), ([3, 7], [3, 7]), ([8], [8]), ([9, 8], [9])])
def delta_Turns.B16 : List Nat := [0, 1, 3, 7, 0, 16, 48, 112, 255, 511, 1023]
theorem delta_Turns.tab16 : rtab .any (opsOf Try.f9 16) = delta_Turns.T16 := by kernel_rfl
theorem delta_Turns.bits16 : waitsOk delta_Turns.T16.2 delta_Turns.B16 = true := by kernel_rfl
def delta_Turns.T17 : Bool × List (List Nat × List Nat) := (true, [([], []), ([], []), ([1], [1]), ([2], [2]), ([3], [3]), ([], []), ([5], [5]), ([6], [6]), ([7], [7]), ([], []), ([9], [9]), ([10], [10]), ([11], [11]), ([4, 8, 12], [4, 8, 12]), ([13], [13]), ([0, 14, 13], [0, 14]), ([15, 15, 0, 1, 2, 3, 4, 5, 6, 7, 8, 9, 10, 11, 12, 13, 14, 15], [0, 15])])
def delta_Turns.B17 : List Nat := [0, 0, 2, 6, 14, 0, 32, 96, 224, 0, 512, 1536, 3584, 8190, 16382, 32767, 65535]
theorem delta_Turns.tab17 : rtab .any (opsOf Try.f9 17) = delta_Turns.T17 := by kernel_rfl
theorem delta_Turns.bits17 : waitsOk delta_Turns.T17.2 delta_Turns.B17 = true := by kernel_rfl
set_option maxHeartbeats 8000000 in
set_option maxRecDepth 100000 in
theorem delta_Turns.calls (k : Nat) (P0_ : Nat → Prop) (A0 : Option Addr) (c0 : Nat) (l0 : List (S37)) (P1_ : Nat → Prop) (A1 : Option Addr) (c1 : Nat) (l1 : List (S37)) (r : List (S43)) (w : World) (hs0 : Kd.V k37 37 w w.heap.size (fun k_ => P0_ k_) (.slice A0 l0.length c0) l0) (hs1 : Kd.V k37 37 w w.heap.size (fun k_ => P1_ k_) (.slice A1 l1.length c1) l1) (h : delta_Turns.f k l0 l1 = some r) :
    Calls Try.prog 9 #[.slice A0 l0.length c0, .slice A1 l1.length c1] w fun e w' => ∃ v0_ : Value, e = .returned (v0_) ∧ Kd.S k43 43 w' w.heap.size (fun k_ => (w.heap.size ≤ k_)) v0_ r ∧ Below w.heap.size w w' := by
  have HO0 := Aside0.mk (show Kd.V k37 37 w w.heap.size (fun k_ => ((P0_ k_ ∨ P1_ k_) ∨ w.heap.size ≤ k_)) (.slice A0 l0.length c0) l0 from Kd.V_mono hs0 (fun k_ hk => .inl (.inl hk)))
  have HO1 := Aside0.mk (show Kd.V k37 37 w w.heap.size (fun k_ => ((P0_ k_ ∨ P1_ k_) ∨ w.heap.size ≤ k_)) (.slice A1 l1.length c1) l1 from Kd.V_mono hs1 (fun k_ hk => .inl (.inr hk)))
  have HB := Aside0.mk (Below.refl w.heap.size w)
  have H : ((delta_right.f k l0).bind fun t260 => (if t260 = true then ((delta_right.f k l1).bind fun t261 => (delta_Turns.j0 k l0 l1 (!t261))) else (delta_Turns.j0 k l0 l1 true))) = some r := h
  clear h
  have HC3 := Aside0.mk H
  clear H
  go_enter Try.func9, Try.ntmps9
  go_upto_region 1 with (fail)
  (try (go_step3; go_upto_region 1 with (fail)))
  go_cut [14] (fun v14 wc => ∃ (kq : Nat) (x14_2 : Bool), v14 = .bool x14_2 ∧ Aside0 (delta_Turns.j0 kq l0 l1 x14_2 = some r) ∧ Aside0 (kq ≤ k) ∧ Aside0 (Kd.V k37 37 wc w.heap.size (fun k_ => ((P0_ k_ ∨ P1_ k_) ∨ w.heap.size ≤ k_)) (.slice A0 l0.length c0) l0) ∧ Aside0 (Kd.V k37 37 wc w.heap.size (fun k_ => ((P0_ k_ ∨ P1_ k_) ∨ w.heap.size ≤ k_)) (.slice A1 l1.length c1) l1) ∧ Aside0 (Below w.heap.size w wc))
  case first =>
    have H := HC3.out
    clear HC3
    replace H := Option.bind_eq_some_iff.mp H
    obtain ⟨t260, A40, H⟩ := H
    replace H : (if t260 = true then ((delta_right.f k l1).bind fun t261 => (delta_Turns.j0 k l0 l1 (!t261))) else (delta_Turns.j0 k l0 l1 true)) = some r := H
    have A4 := Aside0.mk A40
    clear A40
    by_cases c5 : t260 = true
    · subst c5
      have H1 : ((delta_right.f k l1).bind fun t261 => (delta_Turns.j0 k l0 l1 (!t261))) = some r := by rw [if_pos rfl] at H; exact H
      clear H
      have H := H1
      clear H1
      replace H := Option.bind_eq_some_iff.mp H
      obtain ⟨t261, A60, H⟩ := H
      replace H : (delta_Turns.j0 k l0 l1 (!t261)) = some r := H
      have A6 := Aside0.mk A60
      clear A60
      have H' := Aside0.mk H
      clear H
      go_wp2_with (first | ((with_reducible refine gate_callee (f := 24) rfl ?_); refine goesL_ (some 8) rfl rfl Try.func24 (by kernel_rfl) rfl #[.slice A0 l0.length c0] rfl (by (try simp only [List.map_toArray, List.map_cons, List.map_nil]); first | done | rfl | (simp only [List.length_drop, List.length_take]; rfl)) ?_; (with_reducible refine (delta_right.calls k _ _ l0 true _ ?side1 ?side2 A4.out).mono ?_); (case side1 => repeat (first | exact (Kd.V_reads' HO0.out).2.2 | (with_reducible refine Kd.C_alloc ?_ _) | (with_reducible refine Kd.C_drewN ?_ _) | (with_reducible refine Kd.C_drew ?_))); (case side2 => exact (Kd.V_reads' HO0.out).2.1); rintro e w7 ⟨rfl, hb⟩; refine ⟨_, rfl, ?_⟩; have n0_ := Aside0.mk (Kd.V_below (by (with_reducible repeat (first | apply Kd.V_alloc | apply Kd.V_drewN | apply Kd.V_drew)); exact HO0.out) hb); have n1_ := Aside0.mk (Kd.V_below (by (with_reducible repeat (first | apply Kd.V_alloc | apply Kd.V_drewN | apply Kd.V_drew)); exact HO1.out) hb); have n2_ := Aside0.mk (below_step Sh.B hb); clear HO0; clear HO1; clear HB; have HO0 := n0_; have HO1 := n1_; have HB := n2_; clear n0_ n1_ n2_; (try clear hb); (try clear hb2); (try clear hk); (try clear hi)) | (go_at_call 24; (with_reducible refine (delta_right.calls k _ _ l1 t261 _ ?side1 ?side2 A6.out).mono ?_); (case side1 => repeat (first | exact (Kd.V_reads' HO1.out).2.2 | (with_reducible refine Kd.C_alloc ?_ _) | (with_reducible refine Kd.C_drewN ?_ _) | (with_reducible refine Kd.C_drew ?_))); (case side2 => exact (Kd.V_reads' HO1.out).2.1); rintro e w8 ⟨rfl, hb⟩; have n0_ := Aside0.mk (Kd.V_below (by (with_reducible repeat (first | apply Kd.V_alloc | apply Kd.V_drewN | apply Kd.V_drew)); exact HO0.out) hb); have n1_ := Aside0.mk (Kd.V_below (by (with_reducible repeat (first | apply Kd.V_alloc | apply Kd.V_drewN | apply Kd.V_drew)); exact HO1.out) hb); have n2_ := Aside0.mk (below_step Sh.B hb); clear HO0; clear HO1; clear HB; have HO0 := n0_; have HO1 := n1_; have HB := n2_; clear n0_ n1_ n2_; (try clear hb); (try clear hb2); (try clear hk); (try clear hi)))
      go_meet
      case rel => exact ⟨_, (!t261), (by first | rfl | (simp; done) | (simp [*]; done)), H', ⟨by first | omega | exact Nat.le_refl _⟩, ⟨by (with_reducible repeat (first | apply Kd.V_alloc | apply Kd.V_drewN | apply Kd.V_drew)); exact HO0.out⟩, ⟨by (with_reducible repeat (first | apply Kd.V_alloc | apply Kd.V_drewN | apply Kd.V_drew)); exact HO1.out⟩, ⟨Sh.B⟩⟩
    · replace c5 := Bool.eq_false_iff.mpr c5
      subst c5
      have H1 : (delta_Turns.j0 k l0 l1 true) = some r := by rw [if_neg (show ¬ (false = true) by decide)] at H; exact H
      clear H
      have H := H1
      clear H1
      have H' := Aside0.mk H
      clear H
      go_wp2_with (first | ((with_reducible refine gate_callee (f := 24) rfl ?_); refine goesL_ (some 8) rfl rfl Try.func24 (by kernel_rfl) rfl #[.slice A0 l0.length c0] rfl (by (try simp only [List.map_toArray, List.map_cons, List.map_nil]); first | done | rfl | (simp only [List.length_drop, List.length_take]; rfl)) ?_; (with_reducible refine (delta_right.calls k _ _ l0 false _ ?side1 ?side2 A4.out).mono ?_); (case side1 => repeat (first | exact (Kd.V_reads' HO0.out).2.2 | (with_reducible refine Kd.C_alloc ?_ _) | (with_reducible refine Kd.C_drewN ?_ _) | (with_reducible refine Kd.C_drew ?_))); (case side2 => exact (Kd.V_reads' HO0.out).2.1); rintro e w9 ⟨rfl, hb⟩; refine ⟨_, rfl, ?_⟩; have n0_ := Aside0.mk (Kd.V_below (by (with_reducible repeat (first | apply Kd.V_alloc | apply Kd.V_drewN | apply Kd.V_drew)); exact HO0.out) hb); have n1_ := Aside0.mk (Kd.V_below (by (with_reducible repeat (first | apply Kd.V_alloc | apply Kd.V_drewN | apply Kd.V_drew)); exact HO1.out) hb); have n2_ := Aside0.mk (below_step Sh.B hb); clear HO0; clear HO1; clear HB; have HO0 := n0_; have HO1 := n1_; have HB := n2_; clear n0_ n1_ n2_; (try clear hb); (try clear hb2); (try clear hk); (try clear hi)))
      go_meet
      case rel => exact ⟨_, (true), (by first | rfl | (simp; done) | (simp [*]; done)), H', ⟨by first | omega | exact Nat.le_refl _⟩, ⟨by (with_reducible repeat (first | apply Kd.V_alloc | apply Kd.V_drewN | apply Kd.V_drew)); exact HO0.out⟩, ⟨by (with_reducible repeat (first | apply Kd.V_alloc | apply Kd.V_drewN | apply Kd.V_drew)); exact HO1.out⟩, ⟨Sh.B⟩⟩
  case rest =>
    clear HC3
    try clear c1
    try clear c2
    try clear p2
    try clear c5
    try clear c9
    obtain ⟨kq, x14_2, rfl, HA, HJ2, HO_0, HO_1, HB⟩ := hcut
    cases kq with
    | zero => exact absurd HA.out (by simp [delta_Turns.j0])
    | succ kj2 =>
      have H := HA.out
      clear HA
      simp only [delta_Turns.j0] at H
      by_cases c10 : x14_2 = true
      · subst c10
        have H1 : (some ([] : List (S43))) = some r := by rw [if_pos rfl] at H; exact H
        clear H
        have H := H1
        clear H1
        obtain rfl := Option.some.inj H
        go_wp2
        go_ret
        exact ⟨(.slice none 0 0), by first | rfl | (simp [errW_none, errW_some] <;> rfl) | (simp [*, errW_none, errW_some] <;> rfl), by first | exact Kd.S_nil _ _ _ _ _ | exact Kd.N_nil _ _ _ _ _ | exact Kd.V_nil _ _ _ _ _ | exact Kd.Q_nil _ _ _ _ _ | exact Kd.R_nil _ _ _ _ _, Sh.B⟩
      · replace c10 := Bool.eq_false_iff.mpr c10
        subst c10
        have H1 : (delta_Turns.l0 kj2 l0 l1 ([] : List (S43))) = some r := by rw [if_neg (show ¬ (false = true) by decide)] at H; exact H
        clear H
        have H := H1
        clear H1
        have H' := Aside0.mk H
        clear H
        go_wp2
        (try (go_step3; go_wp2))
        go_loopg [0, 1, 5] kj2 (fun kq v0 v1 v5 w' => ∃ (x0_2 : List (S37)) (x1_2 : List (S37)) (x5_2 : List (S43)), Aside0 (delta_Turns.l0 kq x0_2 x1_2 x5_2 = some r) ∧ Aside0 (kq ≤ kj2) ∧ Aside0 (Kd.V k37 37 w' w.heap.size (fun k_ => ((P0_ k_ ∨ P1_ k_) ∨ w.heap.size ≤ k_) ∧ some k_ ≠ (v5 : Value).ownBlock) v0 x0_2) ∧ Aside0 (Kd.V k37 37 w' w.heap.size (fun k_ => ((P0_ k_ ∨ P1_ k_) ∨ w.heap.size ≤ k_) ∧ some k_ ≠ (v5 : Value).ownBlock) v1 x1_2) ∧ Aside0 (Kd.S k43 43 w' w.heap.size (fun k_ => (w.heap.size ≤ k_)) v5 x5_2) ∧ Aside0 (Below w.heap.size w w'))
        case atStart => exact ⟨(l0), (l1), (([] : List (S43))), H', ⟨Nat.le_refl _⟩, ⟨by (with_reducible repeat (first | apply Kd.V_alloc | apply Kd.V_drewN | apply Kd.V_drew)); exact Kd.V_mono HO_0.out (fun _ hk => ⟨hk, (by simp [Value.ownBlock])⟩)⟩, ⟨by (with_reducible repeat (first | apply Kd.V_alloc | apply Kd.V_drewN | apply Kd.V_drew)); exact Kd.V_mono HO_1.out (fun _ hk => ⟨hk, (by simp [Value.ownBlock])⟩)⟩, ⟨by first | exact Kd.S_nil _ _ _ _ _ | exact Kd.N_nil _ _ _ _ _ | exact Kd.V_nil _ _ _ _ _ | exact Kd.Q_nil _ _ _ _ _ | exact Kd.R_nil _ _ _ _ _⟩, ⟨Sh.B⟩⟩
        case round =>
          clear H'
          try clear c1
          try clear c2
          try clear p2
          try clear c5
          try clear c9
          try clear c10
          try clear p2
          obtain ⟨x0_2, x1_2, x5_2, HA, HK2, HO_0, HO_1, HO_5, HB⟩ := hrel
          cases gk with
          | zero => exact absurd HA.out (by simp [delta_Turns.l0])
          | succ k2 =>
            have H := HA.out
            clear HA
            simp only [delta_Turns.l0] at H
            have HC11 := Aside0.mk H
            clear H
            go_upto_region 4 with (fail)
            (try (go_step3; go_upto_region 4 with (fail)))
            go_cut [22] (fun v22 wc => ∃ (kq : Nat) (x22_10 : Bool), v22 = .bool x22_10 ∧ Aside0 (delta_Turns.j2 kq x0_2 x1_2 x5_2 x22_10 = some r) ∧ Aside0 (kq ≤ k2) ∧ Aside0 (Kd.V k37 37 wc w.heap.size (fun k_ => ((P0_ k_ ∨ P1_ k_) ∨ w.heap.size ≤ k_) ∧ some k_ ≠ (u5 : Value).ownBlock) u0 x0_2) ∧ Aside0 (Kd.V k37 37 wc w.heap.size (fun k_ => ((P0_ k_ ∨ P1_ k_) ∨ w.heap.size ≤ k_) ∧ some k_ ≠ (u5 : Value).ownBlock) u1 x1_2) ∧ Aside0 (Kd.S k43 43 wc w.heap.size (fun k_ => (w.heap.size ≤ k_)) u5 x5_2) ∧ Aside0 (Below w.heap.size w wc))
            case first =>
              have H := HC11.out
              clear HC11
              by_cases c12 : (x0_2.length : Int) > 0
              · rw [if_pos c12] at H
                have c12b0 : decide (0 < (x0_2.length : Int)) = true := decide_eq_true c12
                have c12b1 : decide (0 < x0_2.length) = true := decide_eq_true (by omega)
                clear c12
                (first | rw [c12b0] | (simp only [i64_w, i32_w]; rw [c12b0]) | skip)
                have H' := Aside0.mk H
                clear H
                obtain ⟨Ao13, co13, eo13⟩ := Kd.V_slice HO_0.out
                subst eo13
                go_wp2
                go_meet
                case rel => exact ⟨_, (true), (by first | rfl | (simp; done) | (simp [*]; done)), H', ⟨by have := HJ2.out; have := HK2.out; first | omega | exact Nat.le_refl _⟩, ⟨by (with_reducible repeat (first | apply Kd.V_alloc | apply Kd.V_drewN | apply Kd.V_drew)); exact HO_0.out⟩, ⟨by (with_reducible repeat (first | apply Kd.V_alloc | apply Kd.V_drewN | apply Kd.V_drew)); exact HO_1.out⟩, ⟨by (with_reducible repeat (first | apply Kd.S_alloc | apply Kd.S_drewN | apply Kd.S_drew)); exact HO_5.out⟩, ⟨Sh.B⟩⟩
              · rw [if_neg c12] at H
                have c12b0 : decide (0 < (x0_2.length : Int)) = false := decide_eq_false c12
                have c12b1 : decide (0 < x0_2.length) = false := decide_eq_false (by omega)
                clear c12
                (first | rw [c12b0] | (simp only [i64_w, i32_w]; rw [c12b0]) | skip)
                have H' := Aside0.mk H
                clear H
                obtain ⟨Ao14, co14, eo14⟩ := Kd.V_slice HO_0.out
                subst eo14
                obtain ⟨Ao15, co15, eo15⟩ := Kd.V_slice HO_1.out
                subst eo15
                go_wp2
                go_meet
                case rel => exact ⟨_, (decide ((x1_2.length : Int) > 0)), (by first | rfl | (simp; done) | (simp [*]; done)), H', ⟨by have := HJ2.out; have := HK2.out; first | omega | exact Nat.le_refl _⟩, ⟨by (with_reducible repeat (first | apply Kd.V_alloc | apply Kd.V_drewN | apply Kd.V_drew)); exact HO_0.out⟩, ⟨by (with_reducible repeat (first | apply Kd.V_alloc | apply Kd.V_drewN | apply Kd.V_drew)); exact HO_1.out⟩, ⟨by (with_reducible repeat (first | apply Kd.S_alloc | apply Kd.S_drewN | apply Kd.S_drew)); exact HO_5.out⟩, ⟨Sh.B⟩⟩
            case rest =>
              clear HC11
              try clear c1
              try clear c2
              try clear p2
              try clear c5
              try clear c9
              try clear c10
              try clear c12
              try clear c12b0
              try clear c12b1
              try clear p2
              obtain ⟨kq, x22_10, rfl, HA, HJ10, HO_0, HO_1, HO_5, HB⟩ := hcut
              cases kq with
              | zero => exact absurd HA.out (by simp [delta_Turns.j2])
              | succ kj10 =>
                have H := HA.out
                clear HA
                simp only [delta_Turns.j2] at H
                by_cases c16 : x22_10 = true
                · subst c16
                  have H1 : (if (x0_2.length : Int) = 0 then (delta_Turns.j3 kj10 x0_2 x1_2 x5_2 1) else (if (x1_2.length : Int) = 0 then (delta_Turns.j3 kj10 x0_2 x1_2 x5_2 (-1)) else (if 0 < (x0_2.length : Int) then (if 0 < (x1_2.length : Int) then ((bytes_Compare.f ((rd_T37 x0_2 0).f0) ((rd_T37 x1_2 0).f0)).bind fun t264 => (delta_Turns.j3 kj10 x0_2 x1_2 x5_2 t264)) else (none)) else (none)))) = some r := by rw [if_pos rfl] at H; exact H
                  clear H
                  have H := H1
                  clear H1
                  have HC17 := Aside0.mk H
                  clear H
                  go_upto_block 2 with (fail)
                  go_cut [6] (fun v6 wc => ∃ (kq : Nat) (x6_16 : Int), v6 = .int .i64 x6_16 ∧ Aside0 (delta_Turns.j3 kq x0_2 x1_2 x5_2 x6_16 = some r) ∧ Aside0 (kq ≤ kj10) ∧ Aside0 (Kd.V k37 37 wc w.heap.size (fun k_ => ((P0_ k_ ∨ P1_ k_) ∨ w.heap.size ≤ k_) ∧ some k_ ≠ (u5 : Value).ownBlock) u0 x0_2) ∧ Aside0 (Kd.V k37 37 wc w.heap.size (fun k_ => ((P0_ k_ ∨ P1_ k_) ∨ w.heap.size ≤ k_) ∧ some k_ ≠ (u5 : Value).ownBlock) u1 x1_2) ∧ Aside0 (Kd.S k43 43 wc w.heap.size (fun k_ => (w.heap.size ≤ k_)) u5 x5_2) ∧ Aside0 (Below w.heap.size w wc))
                  case first =>
                    have H := HC17.out
                    clear HC17
                    by_cases c18 : (x0_2.length : Int) = 0
                    · rw [if_pos c18] at H
                      have c18b0 : ((x0_2.length : Int) == 0) = true := beq_iff_eq.mpr c18
                      have c18b1 : ((x0_2.length : Int) != 0) = false := bne_eq_false_iff_eq.mpr c18
                      clear c18
                      (first | rw [c18b0] | (simp only [i64_w, i32_w]; rw [c18b0]) | skip)
                      have H' := Aside0.mk H
                      clear H
                      obtain ⟨Ao19, co19, eo19⟩ := Kd.V_slice HO_0.out
                      subst eo19
                      go_wp2
                      go_meet
                      case rel => exact ⟨_, (1), (by first | rfl | (simp; done) | (simp [*]; done)), H', ⟨by have := HJ2.out; have := HK2.out; have := HJ10.out; first | omega | exact Nat.le_refl _⟩, ⟨by (with_reducible repeat (first | apply Kd.V_alloc | apply Kd.V_drewN | apply Kd.V_drew)); exact HO_0.out⟩, ⟨by (with_reducible repeat (first | apply Kd.V_alloc | apply Kd.V_drewN | apply Kd.V_drew)); exact HO_1.out⟩, ⟨by (with_reducible repeat (first | apply Kd.S_alloc | apply Kd.S_drewN | apply Kd.S_drew)); exact HO_5.out⟩, ⟨Sh.B⟩⟩
                    · rw [if_neg c18] at H
                      have c18b0 : ((x0_2.length : Int) == 0) = false := beq_eq_false_iff_ne.mpr c18
                      have c18b1 : ((x0_2.length : Int) != 0) = true := bne_iff_ne.mpr c18
                      have c18b2 : ¬ (x0_2 = []) := fun h_ => c18 (by rw [h_]; rfl)
                      (first | rw [c18b0] | (simp only [i64_w, i32_w]; rw [c18b0]) | skip)
                      by_cases c20 : (x1_2.length : Int) = 0
                      · rw [if_pos c20] at H
                        have c20b0 : ((x1_2.length : Int) == 0) = true := beq_iff_eq.mpr c20
                        have c20b1 : ((x1_2.length : Int) != 0) = false := bne_eq_false_iff_eq.mpr c20
                        clear c20
                        have H' := Aside0.mk H
                        clear H
                        obtain ⟨Ao21, co21, eo21⟩ := Kd.V_slice HO_0.out
                        subst eo21
                        obtain ⟨Ao22, co22, eo22⟩ := Kd.V_slice HO_1.out
                        subst eo22
                        go_wp2
                        go_meet
                        case rel => exact ⟨_, ((-1)), (by first | rfl | (simp; done) | (simp [*]; done)), H', ⟨by have := HJ2.out; have := HK2.out; have := HJ10.out; first | omega | exact Nat.le_refl _⟩, ⟨by (with_reducible repeat (first | apply Kd.V_alloc | apply Kd.V_drewN | apply Kd.V_drew)); exact HO_0.out⟩, ⟨by (with_reducible repeat (first | apply Kd.V_alloc | apply Kd.V_drewN | apply Kd.V_drew)); exact HO_1.out⟩, ⟨by (with_reducible repeat (first | apply Kd.S_alloc | apply Kd.S_drewN | apply Kd.S_drew)); exact HO_5.out⟩, ⟨Sh.B⟩⟩
                      · rw [if_neg c20] at H
                        have c20b0 : ((x1_2.length : Int) == 0) = false := beq_eq_false_iff_ne.mpr c20
                        have c20b1 : ((x1_2.length : Int) != 0) = true := bne_iff_ne.mpr c20
                        have c20b2 : ¬ (x1_2 = []) := fun h_ => c20 (by rw [h_]; rfl)
                        by_cases c23 : 0 < (x0_2.length : Int)
                        · rw [if_pos c23] at H
                          have c23b0 : decide (0 < (x0_2.length : Int)) = true := decide_eq_true c23
                          have c23b1 : decide (0 < x0_2.length) = true := decide_eq_true (by omega)
                          clear c23
                          by_cases c24 : 0 < (x1_2.length : Int)
                          · rw [if_pos c24] at H
                            have c24b0 : decide (0 < (x1_2.length : Int)) = true := decide_eq_true c24
                            have c24b1 : decide (0 < x1_2.length) = true := decide_eq_true (by omega)
                            clear c24
                            replace H := Option.bind_eq_some_iff.mp H
                            obtain ⟨t264, A250, H⟩ := H
                            replace H : (delta_Turns.j3 kj10 x0_2 x1_2 x5_2 t264) = some r := H
                            have A25 := Aside0.mk A250
                            clear A250
                            have H' := Aside0.mk H
                            clear H
                            obtain ⟨Ao26, co26, eo26⟩ := Kd.V_slice HO_0.out
                            subst eo26
                            obtain ⟨Ao27, co27, eo27⟩ := Kd.V_slice HO_1.out
                            subst eo27
                            try go_wp2
                            have n0_ := Aside0.mk (Kd.V_drew HO_0.out)
                            have n1_ := Aside0.mk (Kd.V_drew HO_1.out)
                            have n2_ := Aside0.mk (Kd.S_drew HO_5.out)
                            have n3_ := Aside0.mk (below_drew1 HB.out)
                            clear HO_0
                            clear HO_1
                            clear HO_5
                            clear HB
                            have HO_0 := n0_
                            have HO_1 := n1_
                            have HO_5 := n2_
                            have HB := n3_
                            clear n0_ n1_ n2_ n3_
                            have p262 : 0 ≤ (0 : Int) := (by omega)
                            have q262 : 0 < (x0_2.length : Int) := of_decide_eq_true Sh.A
                            obtain ⟨ad262, A262_0, c262_0, A262_1, c262_1, e262, hx262_0, hx262_1, hl262_0, hi262_0, hl262_1, hi262_1⟩ := at_T37 (Kd.V_reads' HO_0.out).2.2 0 p262 q262
                            cases e262
                            obtain ⟨ce262, hce262, hMe262, hcc262⟩ := Kd.V_get HO_0.out z37 0 p262 (by first | exact q262 | exact of_decide_eq_true Sh.A | (have e_ := (Kd.V_reads' HO_0.out).1; omega))
                            obtain ⟨ua262_0, uc262_0, ua262_1, uc262_1, rfl, ul262_0, ge262_0, ul262_1, ge262_1⟩ := k37_openF hMe262
                            have hv262_0 := hcc262 0 _ rfl
                            rw [Nat.add_zero] at hv262_0
                            replace hv262_0 := Option.some.inj (hv262_0.symm.trans hx262_0)
                            injection hv262_0 with hva_ hvn_ hvc_
                            rw [hva_] at ge262_0
                            rw [hvc_] at ul262_0
                            have HL262_0 := Aside0.mk (show Kd.V (Kd.int .u8) 5 _ w.heap.size _ _ ((rd_T37 x0_2 0).f0) from Kd.V_mk ul262_0 ge262_0)
                            clear hva_ hvn_ hvc_ ge262_0 ul262_0
                            have hv262_1 := hcc262 1 _ rfl
                            rw [add_field _ _ 1 (by omega)] at hv262_1
                            replace hv262_1 := Option.some.inj (hv262_1.symm.trans hx262_1)
                            injection hv262_1 with hva_ hvn_ hvc_
                            rw [hva_] at ge262_1
                            rw [hvc_] at ul262_1
                            have HL262_1 := Aside0.mk (show Kd.V (Kd.int .u8) 5 _ w.heap.size _ _ ((rd_T37 x0_2 0).f1) from Kd.V_mk ul262_1 ge262_1)
                            clear hva_ hvn_ hvc_ ge262_1 ul262_1
                            clear hcc262 hce262
                            have qi262 : (0 < x0_2.length) = True := eq_true (by omega)
                            (try rw [show ((0 : Int)).toNat = 0 from rfl] at hx262_0)
                            (try rw [show 0 * 2 = 0 from rfl] at hx262_0)
                            (try rw [Addr.add_zero'] at hx262_0)
                            (try rw [show ((0 : Int)).toNat = 0 from rfl] at hx262_1)
                            (try rw [show 0 * 2 = 0 from rfl] at hx262_1)
                            (try rw [Addr.add_zero'] at hx262_1)
                            have HR262_0 := Aside0.mk hi262_0
                            have HC262_0 := Aside0.mk hl262_0
                            clear hi262_0 hl262_0
                            have HR262_1 := Aside0.mk hi262_1
                            have HC262_1 := Aside0.mk hl262_1
                            clear hi262_1 hl262_1
                            replace p262 := eq_true p262
                            replace q262 := eq_true q262
                            have p263 : 0 ≤ (0 : Int) := (by omega)
                            have q263 : 0 < (x1_2.length : Int) := of_decide_eq_true Sh.A
                            obtain ⟨ad263, A263_0, c263_0, A263_1, c263_1, e263, hx263_0, hx263_1, hl263_0, hi263_0, hl263_1, hi263_1⟩ := at_T37 (Kd.V_reads' HO_1.out).2.2 0 p263 q263
                            cases e263
                            obtain ⟨ce263, hce263, hMe263, hcc263⟩ := Kd.V_get HO_1.out z37 0 p263 (by first | exact q263 | exact of_decide_eq_true Sh.A | (have e_ := (Kd.V_reads' HO_1.out).1; omega))
                            obtain ⟨ua263_0, uc263_0, ua263_1, uc263_1, rfl, ul263_0, ge263_0, ul263_1, ge263_1⟩ := k37_openF hMe263
                            have hv263_0 := hcc263 0 _ rfl
                            rw [Nat.add_zero] at hv263_0
                            replace hv263_0 := Option.some.inj (hv263_0.symm.trans hx263_0)
                            injection hv263_0 with hva_ hvn_ hvc_
                            rw [hva_] at ge263_0
                            rw [hvc_] at ul263_0
                            have HL263_0 := Aside0.mk (show Kd.V (Kd.int .u8) 5 _ w.heap.size _ _ ((rd_T37 x1_2 0).f0) from Kd.V_mk ul263_0 ge263_0)
                            clear hva_ hvn_ hvc_ ge263_0 ul263_0
                            have hv263_1 := hcc263 1 _ rfl
                            rw [add_field _ _ 1 (by omega)] at hv263_1
                            replace hv263_1 := Option.some.inj (hv263_1.symm.trans hx263_1)
                            injection hv263_1 with hva_ hvn_ hvc_
                            rw [hva_] at ge263_1
                            rw [hvc_] at ul263_1
                            have HL263_1 := Aside0.mk (show Kd.V (Kd.int .u8) 5 _ w.heap.size _ _ ((rd_T37 x1_2 0).f1) from Kd.V_mk ul263_1 ge263_1)
                            clear hva_ hvn_ hvc_ ge263_1 ul263_1
                            clear hcc263 hce263
                            have qi263 : (0 < x1_2.length) = True := eq_true (by omega)
                            (try rw [show ((0 : Int)).toNat = 0 from rfl] at hx263_0)
                            (try rw [show 0 * 2 = 0 from rfl] at hx263_0)
                            (try rw [Addr.add_zero'] at hx263_0)
                            (try rw [show ((0 : Int)).toNat = 0 from rfl] at hx263_1)
                            (try rw [show 0 * 2 = 0 from rfl] at hx263_1)
                            (try rw [Addr.add_zero'] at hx263_1)
                            have HR263_0 := Aside0.mk hi263_0
                            have HC263_0 := Aside0.mk hl263_0
                            clear hi263_0 hl263_0
                            have HR263_1 := Aside0.mk hi263_1
                            have HC263_1 := Aside0.mk hl263_1
                            clear hi263_1 hl263_1
                            replace p263 := eq_true p263
                            replace q263 := eq_true q263
                            refine start_ (n := 10) (S := fun w' => w'.cell? ad262 = some (.slice A262_0 ((rd_T37 x0_2 0).f0).length c262_0) ∧ w'.cell? ⟨ad262.block, ad262.off + 1, none⟩ = some (.slice A262_1 ((rd_T37 x0_2 0).f1).length c262_1) ∧ w'.cell? ad263 = some (.slice A263_0 ((rd_T37 x1_2 0).f0).length c263_0) ∧ w'.cell? ⟨ad263.block, ad263.off + 1, none⟩ = some (.slice A263_1 ((rd_T37 x1_2 0).f1).length c263_1)) (ds := []) #[false, false, false, false, false, false, false, false, false, false] (by kernel_rfl) rfl rfl ⟨hx262_0, hx262_1, hx263_0, hx263_1⟩ (fun hHeld => ?_); refine with_tabW delta_Turns.tab6 delta_Turns.bits6 (fun HT_ HW_ => ?_)
                            generalize wc.drew = w28 at HO_0 HO_1 HO_5 HB HL262_0 HL262_1 HL263_0 HL263_1 HR262_0 HR262_1 HR263_0 HR263_1 hx262_0 hx262_1 hx263_0 hx263_1 hHeld ⊢
                            refine pure_ (i := 0) (N := some 23) (v := ?_) (a' := ?_) #[true, false, false, false, false, false, false, false, false, false] rfl rfl (any_of HT_.out (by kernel_rfl)) (fun _ _ _ h => h) (Or.inl ⟨by rfl, ?_⟩) ?_ ?_
                            rotate_left
                            · intro w'
                              go_simp
                              with_reducible rfl
                            rotate_left
                            · simp only [Act.put, List.setIfInBounds_toArray, List.set_cons_zero, List.set_cons_succ, i64_w, i32_w]
                              rfl
                            refine pure_ (i := 1) (N := some 24) (v := ?_) (a' := ?_) #[true, true, false, false, false, false, false, false, false, false] rfl rfl (any_of HT_.out (by kernel_rfl)) (fun _ _ _ h => h) (Or.inl ⟨by rfl, ?_⟩) ?_ ?_
                            rotate_left
                            · intro w'
                              go_simp
                              with_reducible rfl
                            rotate_left
                            · simp only [Act.put, List.setIfInBounds_toArray, List.set_cons_zero, List.set_cons_succ, i64_w, i32_w]
                              rfl
                            refine pure_ (i := 2) (N := some 25) (v := ?_) (a' := ?_) #[true, true, true, false, false, false, false, false, false, false] rfl rfl (any_of HT_.out (by kernel_rfl)) (fun _ _ _ h => h) (Or.inl ⟨by rfl, ?_⟩) ?_ ?_
                            rotate_left
                            · intro w'
                              go_simp
                              with_reducible rfl
                            rotate_left
                            · simp only [Act.put, List.setIfInBounds_toArray, List.set_cons_zero, List.set_cons_succ, i64_w, i32_w]
                              rfl
                            refine pure_ (i := 4) (N := some 27) (v := ?_) (a' := ?_) #[true, true, true, false, true, false, false, false, false, false] rfl rfl (any_of HT_.out (by kernel_rfl)) (fun _ _ _ h => h) (Or.inl ⟨by rfl, ?_⟩) ?_ ?_
                            rotate_left
                            · intro w'
                              go_simp
                              with_reducible rfl
                            rotate_left
                            · simp only [Act.put, List.setIfInBounds_toArray, List.set_cons_zero, List.set_cons_succ, i64_w, i32_w]
                              rfl
                            refine pure_ (i := 5) (N := some 28) (v := ?_) (a' := ?_) #[true, true, true, false, true, true, false, false, false, false] rfl rfl (any_of HT_.out (by kernel_rfl)) (fun _ _ _ h => h) (Or.inl ⟨by rfl, ?_⟩) ?_ ?_
                            rotate_left
                            · intro w'
                              go_simp
                              with_reducible rfl
                            rotate_left
                            · simp only [Act.put, List.setIfInBounds_toArray, List.set_cons_zero, List.set_cons_succ, i64_w, i32_w]
                              rfl
                            refine pure_ (i := 6) (N := some 29) (v := ?_) (a' := ?_) #[true, true, true, false, true, true, true, false, false, false] rfl rfl (any_of HT_.out (by kernel_rfl)) (fun _ _ _ h => h) (Or.inl ⟨by rfl, ?_⟩) ?_ ?_
                            rotate_left
                            · intro w'
                              go_simp
                              with_reducible rfl
                            rotate_left
                            · simp only [Act.put, List.setIfInBounds_toArray, List.set_cons_zero, List.set_cons_succ, i64_w, i32_w]
                              rfl
                            refine take_ (i := 3) (N := some 26) (v := ?_) (a' := ?_) #[true, true, true, true, true, true, true, false, false, false] rfl rfl (take_ofW HT_.out HW_.out (by kernel_rfl)) (fun _ _ _ h => h) (Or.inl ⟨by rfl, ?_⟩) hHeld ?_ ?_
                            rotate_left
                            · rintro w' ⟨s0, s1, s2, s3⟩
                              go_simp
                              with_reducible rfl
                            rotate_left
                            · simp only [Act.put, List.setIfInBounds_toArray, List.set_cons_zero, List.set_cons_succ, i64_w, i32_w]
                              rfl
                            refine take_ (i := 7) (N := some 30) (v := ?_) (a' := ?_) #[true, true, true, true, true, true, true, true, false, false] rfl rfl (take_ofW HT_.out HW_.out (by kernel_rfl)) (fun _ _ _ h => h) (Or.inl ⟨by rfl, ?_⟩) hHeld ?_ ?_
                            rotate_left
                            · rintro w' ⟨s0, s1, s2, s3⟩
                              go_simp
                              with_reducible rfl
                            rotate_left
                            · simp only [Act.put, List.setIfInBounds_toArray, List.set_cons_zero, List.set_cons_succ, i64_w, i32_w]
                              rfl
                            refine one_ (i := 8) (N := some 31) #[true, true, true, true, true, true, true, true, true, false] rfl rfl (one_of HT_.out (by kernel_rfl)) (by decide) (fun K hK => ?_)
                            refine goes_ Try.func25 (by kernel_rfl) rfl #[.slice A262_0 ((rd_T37 x0_2 0).f0).length c262_0, .slice A263_0 ((rd_T37 x1_2 0).f0).length c263_0] (by rfl) rfl rfl (by (try simp only [List.map_toArray, List.map_cons, List.map_nil]); first | done | rfl | (simp only [List.length_drop, List.length_take]; rfl)) ?_
                            with_reducible refine (bytes_Compare.calls _ _ ((rd_T37 x0_2 0).f0) _ _ ((rd_T37 x1_2 0).f0) t264 _ ?side1 ?side2 ?side3 ?side4 A25.out).mono ?_
                            (case side1 => repeat (first | exact (by repeat (first | (with_reducible exact HR262_0.out) | (with_reducible refine Kd.C_alloc ?_ _) | (with_reducible refine Kd.C_drewN ?_ _) | (with_reducible refine Kd.C_drew ?_) | exact HR262_0.out)) | (with_reducible refine Kd.C_alloc ?_ _) | (with_reducible refine Kd.C_drewN ?_ _) | (with_reducible refine Kd.C_drew ?_)))
                            (case side2 => exact HC262_0.out)
                            (case side3 => repeat (first | exact (by repeat (first | (with_reducible exact HR263_0.out) | (with_reducible refine Kd.C_alloc ?_ _) | (with_reducible refine Kd.C_drewN ?_ _) | (with_reducible refine Kd.C_drew ?_) | exact HR263_0.out)) | (with_reducible refine Kd.C_alloc ?_ _) | (with_reducible refine Kd.C_drewN ?_ _) | (with_reducible refine Kd.C_drew ?_)))
                            (case side4 => exact HC263_0.out)
                            rintro e w' ⟨rfl, ⟨nd, rfl⟩⟩
                            refine ⟨_, rfl, ?_⟩
                            refine hK.out _ _ ⟨hHeld.1, hHeld.2.1, hHeld.2.2.1, hHeld.2.2.2⟩ (fun hHeld => ?_)
                            clear hK K
                            refine norm_ (a' := ?_) ?_ ?_
                            rotate_left
                            · show Act.put _ (some 31) _ = _
                              simp only [Act.put, List.setIfInBounds_toArray, List.set_cons_zero, List.set_cons_succ, i64_w, i32_w]
                              rfl
                            refine pure_ (i := 9) (N := some 6) (v := ?_) (a' := ?_) #[true, true, true, true, true, true, true, true, true, true] rfl rfl (any_of HT_.out (by kernel_rfl)) (fun _ _ _ h => h) (Or.inl ⟨by rfl, ?_⟩) ?_ ?_
                            rotate_left
                            · intro w'
                              go_simp
                              with_reducible rfl
                            rotate_left
                            · simp only [Act.put, List.setIfInBounds_toArray, List.set_cons_zero, List.set_cons_succ, i64_w, i32_w]
                              rfl
                            refine done_ (done_of HT_.out (by kernel_rfl)) ?_
                            try go_wp2
                            go_meet
                            case rel => exact ⟨_, (t264), (by first | rfl | (simp; done) | (simp [*]; done)), H', ⟨by have := HJ2.out; have := HK2.out; have := HJ10.out; first | omega | exact Nat.le_refl _⟩, ⟨by (with_reducible repeat (first | apply Kd.V_alloc | apply Kd.V_drewN | apply Kd.V_drew)); exact HO_0.out⟩, ⟨by (with_reducible repeat (first | apply Kd.V_alloc | apply Kd.V_drewN | apply Kd.V_drew)); exact HO_1.out⟩, ⟨by (with_reducible repeat (first | apply Kd.S_alloc | apply Kd.S_drewN | apply Kd.S_drew)); exact HO_5.out⟩, ⟨Sh.B⟩⟩
                          · rw [if_neg c24] at H
                            exact absurd H (by simp)
                        · rw [if_neg c23] at H
                          exact absurd H (by simp)
                  case rest =>
                    clear HC17
                    try clear c1
                    try clear c2
                    try clear p2
                    try clear q2
                    try clear hx2
                    try clear qi2
                    try clear c5
                    try clear c9
                    try clear c10
                    try clear c12
                    try clear c12b0
                    try clear c12b1
                    try clear c16
                    try clear c18
                    try clear c18b0
                    try clear c18b1
                    try clear c18b2
                    try clear c20
                    try clear c20b0
                    try clear c20b1
                    try clear c20b2
                    try clear c23
                    try clear c23b0
                    try clear c23b1
                    try clear c24
                    try clear c24b0
                    try clear c24b1
                    try clear c25
                    try clear c26
                    try clear p26
                    try clear q26
                    try clear hx26
                    try clear qi26
                    try clear hx262_0
                    try clear hx262_1
                    try clear hx263_0
                    try clear hx263_1
                    try clear p2
                    try clear p262
                    try clear p263
                    try clear q262
                    try clear q263
                    obtain ⟨kq, x6_16, rfl, HA, HJ16, HO_0, HO_1, HO_5, HB⟩ := hcut
                    cases kq with
                    | zero => exact absurd HA.out (by simp [delta_Turns.j3])
                    | succ kj16 =>
                      have H := HA.out
                      clear HA
                      simp only [delta_Turns.j3] at H
                      have HC29 := Aside0.mk H
                      clear H
                      go_upto_block 3 with (fail)
                      go_cut [0, 5] (fun v0 v5 wc => ∃ (kq : Nat) (x0_28 : List (S37)) (x5_28 : List (S43)), Aside0 (delta_Turns.j4 kq x0_28 x1_2 x5_28 x6_16 = some r) ∧ Aside0 (kq ≤ kj16) ∧ Aside0 (Kd.V k37 37 wc w.heap.size (fun k_ => ((P0_ k_ ∨ P1_ k_) ∨ w.heap.size ≤ k_) ∧ some k_ ≠ (v5 : Value).ownBlock) v0 x0_28) ∧ Aside0 (Kd.V k37 37 wc w.heap.size (fun k_ => ((P0_ k_ ∨ P1_ k_) ∨ w.heap.size ≤ k_) ∧ some k_ ≠ (v5 : Value).ownBlock) u1 x1_2) ∧ Aside0 (Kd.S k43 43 wc w.heap.size (fun k_ => (w.heap.size ≤ k_)) v5 x5_28) ∧ Aside0 (Below w.heap.size w wc))
                      case first =>
                        have H := HC29.out
                        clear HC29
                        by_cases c30 : x6_16 < 0
                        · rw [if_pos c30] at H
                          have c30b0 : decide (x6_16 < 0) = true := decide_eq_true c30
                          clear c30
                          (first | rw [c30b0] | (simp only [i64_w, i32_w]; rw [c30b0]) | skip)
                          by_cases c31 : 0 < (x0_2.length : Int)
                          · rw [if_pos c31] at H
                            have c31b0 : decide (0 < (x0_2.length : Int)) = true := decide_eq_true c31
                            have c31b1 : decide (0 < x0_2.length) = true := decide_eq_true (by omega)
                            clear c31
                            replace H := Option.bind_eq_some_iff.mp H
                            obtain ⟨⟨t267, t270, t273⟩, A320, H⟩ := H
                            replace H : (if x5_2.length < 1954687338268 then (if 1 ≤ (x0_2.length : Int) then (delta_Turns.l0 kj16 (x0_2.drop 1) x1_2 (x5_2 ++ [(⟨t267, t270, t273⟩ : S43)])) else (none)) else (none)) = some r := H
                            have A32 := Aside0.mk A320
                            clear A320
                            by_cases c33 : x5_2.length < 1954687338268
                            · rw [if_pos c33] at H
                              have LMc33 := Aside0.mk c33
                              clear c33
                              obtain ⟨y276, hy276⟩ : ∃ y_ : List (S43), y_ = (x5_2 ++ [(⟨t267, t270, t273⟩ : S43)]) := ⟨_, rfl⟩
                              replace H : (if 1 ≤ (x0_2.length : Int) then (delta_Turns.l0 kj16 (x0_2.drop 1) x1_2 y276) else (none)) = some r := by first | (rw [hy276]; with_reducible exact H) | (have H2_ := (Option.bind_some _ _).symm.trans H; rw [hy276]; with_reducible exact H2_) | (have H2_ := (Option.bind_some _ _).symm.trans H; with_reducible exact H2_) | with_reducible exact H | (rw [hy276]; exact H) | exact H
                              have Ny276 := Aside0.mk hy276
                              clear hy276
                              by_cases c34 : 1 ≤ (x0_2.length : Int)
                              · rw [if_pos c34] at H
                                have c34b0 := eq_true c34
                                have c34b1 : decide (1 ≤ (x0_2.length : Int)) = true := decide_eq_true c34
                                clear c34
                                obtain ⟨y279, hy279⟩ : ∃ y_ : List (S37), y_ = (x0_2.drop 1) := ⟨_, rfl⟩
                                replace H : (delta_Turns.l0 kj16 y279 x1_2 y276) = some r := by first | (rw [hy279]; with_reducible exact H) | (have H2_ := (Option.bind_some _ _).symm.trans H; rw [hy279]; with_reducible exact H2_) | (have H2_ := (Option.bind_some _ _).symm.trans H; with_reducible exact H2_) | with_reducible exact H | (rw [hy279]; exact H) | exact H
                                have Ny279 := Aside0.mk hy279
                                clear hy279
                                have H' := Aside0.mk H
                                clear H
                                try go_wp2
                                have n0_ := Aside0.mk (Kd.V_drew HO_0.out)
                                have n1_ := Aside0.mk (Kd.V_drew HO_1.out)
                                have n2_ := Aside0.mk (Kd.S_drew HO_5.out)
                                have n3_ := Aside0.mk (below_drew1 HB.out)
                                clear HO_0
                                clear HO_1
                                clear HO_5
                                clear HB
                                have HO_0 := n0_
                                have HO_1 := n1_
                                have HO_5 := n2_
                                have HB := n3_
                                clear n0_ n1_ n2_ n3_
                                obtain ⟨Ao36, co36, eo36⟩ := Kd.V_slice HO_0.out
                                (first | subst eo36 | (injection eo36 with f1_ f2_ f3_; have f4_ := f1_.symm; have f5_ := f3_.symm; clear f1_ f2_ f3_; subst f4_; subst f5_))
                                have p265 : 0 ≤ (0 : Int) := (by omega)
                                have q265 : 0 < (x0_2.length : Int) := of_decide_eq_true Sh.A
                                obtain ⟨ad265, A265_0, c265_0, A265_1, c265_1, e265, hx265_0, hx265_1, hl265_0, hi265_0, hl265_1, hi265_1⟩ := at_T37 (Kd.V_reads' HO_0.out).2.2 0 p265 q265
                                cases e265
                                obtain ⟨ce265, hce265, hMe265, hcc265⟩ := Kd.V_get HO_0.out z37 0 p265 (by first | exact q265 | exact of_decide_eq_true Sh.A | (have e_ := (Kd.V_reads' HO_0.out).1; omega))
                                obtain ⟨ua265_0, uc265_0, ua265_1, uc265_1, rfl, ul265_0, ge265_0, ul265_1, ge265_1⟩ := k37_openF hMe265
                                have hv265_0 := hcc265 0 _ rfl
                                rw [Nat.add_zero] at hv265_0
                                replace hv265_0 := Option.some.inj (hv265_0.symm.trans hx265_0)
                                injection hv265_0 with hva_ hvn_ hvc_
                                rw [hva_] at ge265_0
                                rw [hvc_] at ul265_0
                                have HL265_0 := Aside0.mk (show Kd.V (Kd.int .u8) 5 _ w.heap.size _ _ ((rd_T37 x0_2 0).f0) from Kd.V_mk ul265_0 ge265_0)
                                clear hva_ hvn_ hvc_ ge265_0 ul265_0
                                have hv265_1 := hcc265 1 _ rfl
                                rw [add_field _ _ 1 (by omega)] at hv265_1
                                replace hv265_1 := Option.some.inj (hv265_1.symm.trans hx265_1)
                                injection hv265_1 with hva_ hvn_ hvc_
                                rw [hva_] at ge265_1
                                rw [hvc_] at ul265_1
                                have HL265_1 := Aside0.mk (show Kd.V (Kd.int .u8) 5 _ w.heap.size _ _ ((rd_T37 x0_2 0).f1) from Kd.V_mk ul265_1 ge265_1)
                                clear hva_ hvn_ hvc_ ge265_1 ul265_1
                                clear hcc265 hce265
                                have qi265 : (0 < x0_2.length) = True := eq_true (by omega)
                                (try rw [show ((0 : Int)).toNat = 0 from rfl] at hx265_0)
                                (try rw [show 0 * 2 = 0 from rfl] at hx265_0)
                                (try rw [Addr.add_zero'] at hx265_0)
                                (try rw [show ((0 : Int)).toNat = 0 from rfl] at hx265_1)
                                (try rw [show 0 * 2 = 0 from rfl] at hx265_1)
                                (try rw [Addr.add_zero'] at hx265_1)
                                have HR265_0 := Aside0.mk hi265_0
                                have HC265_0 := Aside0.mk hl265_0
                                clear hi265_0 hl265_0
                                have HR265_1 := Aside0.mk hi265_1
                                have HC265_1 := Aside0.mk hl265_1
                                clear hi265_1 hl265_1
                                replace p265 := eq_true p265
                                replace q265 := eq_true q265
                                have p266 : 0 ≤ (0 : Int) := (by omega)
                                have q266 : 0 < (x0_2.length : Int) := of_decide_eq_true Sh.A
                                obtain ⟨ad266, A266_0, c266_0, A266_1, c266_1, e266, hx266_0, hx266_1, hl266_0, hi266_0, hl266_1, hi266_1⟩ := at_T37 (Kd.V_reads' HO_0.out).2.2 0 p266 q266
                                obtain rfl : ad265 = ad266 := (by injection e266)
                                obtain ⟨ce266, hce266, hMe266, hcc266⟩ := Kd.V_get HO_0.out z37 0 p266 (by first | exact q266 | exact of_decide_eq_true Sh.A | (have e_ := (Kd.V_reads' HO_0.out).1; omega))
                                obtain ⟨ua266_0, uc266_0, ua266_1, uc266_1, rfl, ul266_0, ge266_0, ul266_1, ge266_1⟩ := k37_openF hMe266
                                have hv266_0 := hcc266 0 _ rfl
                                rw [Nat.add_zero] at hv266_0
                                replace hv266_0 := Option.some.inj (hv266_0.symm.trans hx266_0)
                                injection hv266_0 with hva_ hvn_ hvc_
                                rw [hva_] at ge266_0
                                rw [hvc_] at ul266_0
                                have HL266_0 := Aside0.mk (show Kd.V (Kd.int .u8) 5 _ w.heap.size _ _ ((rd_T37 x0_2 0).f0) from Kd.V_mk ul266_0 ge266_0)
                                clear hva_ hvn_ hvc_ ge266_0 ul266_0
                                have hv266_1 := hcc266 1 _ rfl
                                rw [add_field _ _ 1 (by omega)] at hv266_1
                                replace hv266_1 := Option.some.inj (hv266_1.symm.trans hx266_1)
                                injection hv266_1 with hva_ hvn_ hvc_
                                rw [hva_] at ge266_1
                                rw [hvc_] at ul266_1
                                have HL266_1 := Aside0.mk (show Kd.V (Kd.int .u8) 5 _ w.heap.size _ _ ((rd_T37 x0_2 0).f1) from Kd.V_mk ul266_1 ge266_1)
                                clear hva_ hvn_ hvc_ ge266_1 ul266_1
                                clear hcc266 hce266
                                have qi266 : (0 < x0_2.length) = True := eq_true (by omega)
                                (try rw [show ((0 : Int)).toNat = 0 from rfl] at hx266_0)
                                (try rw [show 0 * 2 = 0 from rfl] at hx266_0)
                                (try rw [Addr.add_zero'] at hx266_0)
                                (try rw [show ((0 : Int)).toNat = 0 from rfl] at hx266_1)
                                (try rw [show 0 * 2 = 0 from rfl] at hx266_1)
                                (try rw [Addr.add_zero'] at hx266_1)
                                have HR266_0 := Aside0.mk hi266_0
                                have HC266_0 := Aside0.mk hl266_0
                                clear hi266_0 hl266_0
                                have HR266_1 := Aside0.mk hi266_1
                                have HC266_1 := Aside0.mk hl266_1
                                clear hi266_1 hl266_1
                                replace p266 := eq_true p266
                                replace q266 := eq_true q266
                                have ea_ := Option.some.inj (hx265_0.symm.trans hx266_0)
                                injection ea_ with ea_ en_ ec_
                                subst ea_
                                subst ec_
                                clear en_
                                have ea_ := Option.some.inj (hx265_1.symm.trans hx266_1)
                                injection ea_ with ea_ en_ ec_
                                subst ea_
                                subst ec_
                                clear en_
                                refine start_ (n := 13) (S := fun w' => w'.cell? ad265 = some (.slice A265_0 ((rd_T37 x0_2 0).f0).length c265_0) ∧ w'.cell? ⟨ad265.block, ad265.off + 1, none⟩ = some (.slice A265_1 ((rd_T37 x0_2 0).f1).length c265_1) ∧ w'.cell? ad265 = some (.slice A265_0 ((rd_T37 x0_2 0).f0).length c265_0) ∧ w'.cell? ⟨ad265.block, ad265.off + 1, none⟩ = some (.slice A265_1 ((rd_T37 x0_2 0).f1).length c265_1)) (ds := [10, 11]) #[false, false, false, false, false, false, false, false, false, false, false, false, false] (by kernel_rfl) rfl rfl ⟨hx265_0, hx265_1, hx266_0, hx266_1⟩ (fun hHeld => ?_); refine with_tabW delta_Turns.tab12 delta_Turns.bits12 (fun HT_ HW_ => ?_)
                                generalize wc.drew = w35 at HO_0 HO_1 HO_5 HB HL265_0 HL265_1 HL266_0 HL266_1 HR265_0 HR265_1 HR266_0 HR266_1 hx265_0 hx265_1 hx266_0 hx266_1 hHeld ⊢
                                refine pure_ (i := 0) (N := some 43) (v := ?_) (a' := ?_) #[true, false, false, false, false, false, false, false, false, false, false, false, false] rfl rfl (any_of HT_.out (by kernel_rfl)) (fun _ _ _ h => h) (Or.inl ⟨by rfl, ?_⟩) ?_ ?_
                                rotate_left
                                · intro w'
                                  go_simp
                                  with_reducible rfl
                                rotate_left
                                · simp only [Act.put, List.setIfInBounds_toArray, List.set_cons_zero, List.set_cons_succ, i64_w, i32_w]
                                  rfl
                                refine pure_ (i := 1) (N := some 44) (v := ?_) (a' := ?_) #[true, true, false, false, false, false, false, false, false, false, false, false, false] rfl rfl (any_of HT_.out (by kernel_rfl)) (fun _ _ _ h => h) (Or.inl ⟨by rfl, ?_⟩) ?_ ?_
                                rotate_left
                                · intro w'
                                  go_simp
                                  with_reducible rfl
                                rotate_left
                                · simp only [Act.put, List.setIfInBounds_toArray, List.set_cons_zero, List.set_cons_succ, i64_w, i32_w]
                                  rfl
                                refine pure_ (i := 2) (N := some 45) (v := ?_) (a' := ?_) #[true, true, true, false, false, false, false, false, false, false, false, false, false] rfl rfl (any_of HT_.out (by kernel_rfl)) (fun _ _ _ h => h) (Or.inl ⟨by rfl, ?_⟩) ?_ ?_
                                rotate_left
                                · intro w'
                                  go_simp
                                  with_reducible rfl
                                rotate_left
                                · simp only [Act.put, List.setIfInBounds_toArray, List.set_cons_zero, List.set_cons_succ, i64_w, i32_w]
                                  rfl
                                refine pure_ (i := 3) (N := some 46) (v := ?_) (a' := ?_) #[true, true, true, true, false, false, false, false, false, false, false, false, false] rfl rfl (any_of HT_.out (by kernel_rfl)) (fun _ _ _ h => h) (Or.inl ⟨by rfl, ?_⟩) ?_ ?_
                                rotate_left
                                · intro w'
                                  go_simp
                                  with_reducible rfl
                                rotate_left
                                · simp only [Act.put, List.setIfInBounds_toArray, List.set_cons_zero, List.set_cons_succ, i64_w, i32_w]
                                  rfl
                                refine pure_ (i := 5) (N := some 48) (v := ?_) (a' := ?_) #[true, true, true, true, false, true, false, false, false, false, false, false, false] rfl rfl (any_of HT_.out (by kernel_rfl)) (fun _ _ _ h => h) (Or.inl ⟨by rfl, ?_⟩) ?_ ?_
                                rotate_left
                                · intro w'
                                  go_simp
                                  with_reducible rfl
                                rotate_left
                                · simp only [Act.put, List.setIfInBounds_toArray, List.set_cons_zero, List.set_cons_succ, i64_w, i32_w]
                                  rfl
                                refine pure_ (i := 6) (N := some 49) (v := ?_) (a' := ?_) #[true, true, true, true, false, true, true, false, false, false, false, false, false] rfl rfl (any_of HT_.out (by kernel_rfl)) (fun _ _ _ h => h) (Or.inl ⟨by rfl, ?_⟩) ?_ ?_
                                rotate_left
                                · intro w'
                                  go_simp
                                  with_reducible rfl
                                rotate_left
                                · simp only [Act.put, List.setIfInBounds_toArray, List.set_cons_zero, List.set_cons_succ, i64_w, i32_w]
                                  rfl
                                refine pure_ (i := 7) (N := some 50) (v := ?_) (a' := ?_) #[true, true, true, true, false, true, true, true, false, false, false, false, false] rfl rfl (any_of HT_.out (by kernel_rfl)) (fun _ _ _ h => h) (Or.inl ⟨by rfl, ?_⟩) ?_ ?_
                                rotate_left
                                · intro w'
                                  go_simp
                                  with_reducible rfl
                                rotate_left
                                · simp only [Act.put, List.setIfInBounds_toArray, List.set_cons_zero, List.set_cons_succ, i64_w, i32_w]
                                  rfl
                                refine take_ (i := 4) (N := some 47) (v := ?_) (a' := ?_) #[true, true, true, true, true, true, true, true, false, false, false, false, false] rfl rfl (take_ofW HT_.out HW_.out (by kernel_rfl)) (fun _ _ _ h => h) (Or.inl ⟨by rfl, ?_⟩) hHeld ?_ ?_
                                rotate_left
                                · rintro w' ⟨s0, s1, s2, s3⟩
                                  go_simp
                                  with_reducible rfl
                                rotate_left
                                · simp only [Act.put, List.setIfInBounds_toArray, List.set_cons_zero, List.set_cons_succ, i64_w, i32_w]
                                  rfl
                                refine take_ (i := 8) (N := some 51) (v := ?_) (a' := ?_) #[true, true, true, true, true, true, true, true, true, false, false, false, false] rfl rfl (take_ofW HT_.out HW_.out (by kernel_rfl)) (fun _ _ _ h => h) (Or.inl ⟨by rfl, ?_⟩) hHeld ?_ ?_
                                rotate_left
                                · rintro w' ⟨s0, s1, s2, s3⟩
                                  go_simp
                                  with_reducible rfl
                                rotate_left
                                · simp only [Act.put, List.setIfInBounds_toArray, List.set_cons_zero, List.set_cons_succ, i64_w, i32_w]
                                  rfl
                                refine one_ (i := 9) (N := some 52) #[true, true, true, true, true, true, true, true, true, true, false, false, false] rfl rfl (one_of HT_.out (by kernel_rfl)) (by decide) (fun K hK => ?_)
                                refine goes_ Try.func26 (by kernel_rfl) rfl #[.slice A265_0 ((rd_T37 x0_2 0).f0).length c265_0, .slice A265_1 ((rd_T37 x0_2 0).f1).length c265_1, .slice none 0 0] (by rfl) rfl rfl (by (try simp only [List.map_toArray, List.map_cons, List.map_nil]); first | done | rfl | (simp only [List.length_drop, List.length_take]; rfl)) ?_
                                refine (delta_turn.calls _ _ ((rd_T37 x0_2 0).f0) _ _ ((rd_T37 x0_2 0).f1) _ _ ([] : List Int) t267 t270 t273 _ ?side1 ?side2 ?side3 ?side4 ?side5 ?side6 A32.out).mono ?_
                                (case side1 => repeat (first | exact (by repeat (first | (with_reducible exact HR265_0.out) | (with_reducible refine Kd.C_alloc ?_ _) | (with_reducible refine Kd.C_drewN ?_ _) | (with_reducible refine Kd.C_drew ?_) | exact HR265_0.out)) | (with_reducible refine Kd.C_alloc ?_ _) | (with_reducible refine Kd.C_drewN ?_ _) | (with_reducible refine Kd.C_drew ?_)))
                                (case side2 => exact HC265_0.out)
                                (case side3 => repeat (first | exact (by repeat (first | (with_reducible exact HR266_1.out) | (with_reducible refine Kd.C_alloc ?_ _) | (with_reducible refine Kd.C_drewN ?_ _) | (with_reducible refine Kd.C_drew ?_) | exact HR266_1.out)) | (with_reducible refine Kd.C_alloc ?_ _) | (with_reducible refine Kd.C_drewN ?_ _) | (with_reducible refine Kd.C_drew ?_)))
                                (case side4 => exact HC266_1.out)
                                (case side5 => exact Kd.C_nil _ _)
                                (case side6 => exact Nat.le_refl _)
                                rintro e w37 ⟨v268, v271, v274, rfl, ho0, ho1, ho2, hb⟩
                                have HS0_ := (hb.cell (World.block_lt_of_cell? _ _ (hHeld.1))).trans (hHeld.1)
                                have HS1_ := (hb.cell (World.block_lt_of_cell? _ _ (hHeld.2.1))).trans (hHeld.2.1)
                                have HS2_ := (hb.cell (World.block_lt_of_cell? _ _ (hHeld.2.2.1))).trans (hHeld.2.2.1)
                                have HS3_ := (hb.cell (World.block_lt_of_cell? _ _ (hHeld.2.2.2))).trans (hHeld.2.2.2)
                                refine ⟨_, rfl, ?_⟩
                                have n0_ := Aside0.mk (Kd.V_mono (Kd.V_told (Kd.V_told (Kd.V_told (Kd.V_old (by (with_reducible repeat (first | apply Kd.V_alloc | apply Kd.V_drewN | apply Kd.V_drew)); exact HO_0.out) hb) (Kd.R_base ho0)) (Kd.R_base ho1)) (Kd.R_base ho2)) (fun _ h_ => h_.1))
                                have n1_ := Aside0.mk (Kd.V_mono (Kd.V_told (Kd.V_told (Kd.V_told (Kd.V_old (by (with_reducible repeat (first | apply Kd.V_alloc | apply Kd.V_drewN | apply Kd.V_drew)); exact HO_1.out) hb) (Kd.R_base ho0)) (Kd.R_base ho1)) (Kd.R_base ho2)) (fun _ h_ => h_.1))
                                have n2_ := Aside0.mk (Kd.S_mono (Kd.S_told (Kd.S_told (Kd.S_told (Kd.S_old (by (with_reducible repeat (first | apply Kd.S_alloc | apply Kd.S_drewN | apply Kd.S_drew)); exact HO_5.out) hb) (Kd.R_base ho0)) (Kd.R_base ho1)) (Kd.R_base ho2)) (fun _ h_ => h_.1))
                                have n3_ := Aside0.mk (Kd.V_mono (Kd.V_told (Kd.V_told (Kd.V_told (Kd.V_old (by (with_reducible repeat (first | apply Kd.V_alloc | apply Kd.V_drewN | apply Kd.V_drew)); exact HL265_0.out) hb) (Kd.R_base ho0)) (Kd.R_base ho1)) (Kd.R_base ho2)) (fun _ h_ => h_.1))
                                have n4_ := Aside0.mk (Kd.V_mono (Kd.V_told (Kd.V_told (Kd.V_told (Kd.V_old (by (with_reducible repeat (first | apply Kd.V_alloc | apply Kd.V_drewN | apply Kd.V_drew)); exact HL265_1.out) hb) (Kd.R_base ho0)) (Kd.R_base ho1)) (Kd.R_base ho2)) (fun _ h_ => h_.1))
                                have n5_ := Aside0.mk (Kd.V_mono (Kd.V_told (Kd.V_told (Kd.V_told (Kd.V_old (by (with_reducible repeat (first | apply Kd.V_alloc | apply Kd.V_drewN | apply Kd.V_drew)); exact HL266_0.out) hb) (Kd.R_base ho0)) (Kd.R_base ho1)) (Kd.R_base ho2)) (fun _ h_ => h_.1))
                                have n6_ := Aside0.mk (Kd.V_mono (Kd.V_told (Kd.V_told (Kd.V_told (Kd.V_old (by (with_reducible repeat (first | apply Kd.V_alloc | apply Kd.V_drewN | apply Kd.V_drew)); exact HL266_1.out) hb) (Kd.R_base ho0)) (Kd.R_base ho1)) (Kd.R_base ho2)) (fun _ h_ => h_.1))
                                have n7_ := Aside0.mk (Kd.R_lower (Kd.R_newM (M := fun k_ => (w.heap.size ≤ k_)) ho0 (below_size Sh.B) (fun k_ h_ => h_)) (below_size Sh.B))
                                have n8_ := Aside0.mk (Kd.R_lower (Kd.R_newM (M := fun k_ => (w.heap.size ≤ k_)) ho1 (below_size Sh.B) (fun k_ h_ => h_)) (below_size Sh.B))
                                have n9_ := Aside0.mk (Kd.R_lower (Kd.R_newM (M := fun k_ => (w.heap.size ≤ k_)) ho2 (below_size Sh.B) (fun k_ h_ => h_)) (below_size Sh.B))
                                have n10_ := Aside0.mk (Kd.C_below (by repeat (first | (with_reducible exact HR265_0.out) | (with_reducible refine Kd.C_alloc ?_ _) | (with_reducible refine Kd.C_drewN ?_ _) | (with_reducible refine Kd.C_drew ?_) | exact HR265_0.out)) hb)
                                have n11_ := Aside0.mk (Kd.C_below (by repeat (first | (with_reducible exact HR265_1.out) | (with_reducible refine Kd.C_alloc ?_ _) | (with_reducible refine Kd.C_drewN ?_ _) | (with_reducible refine Kd.C_drew ?_) | exact HR265_1.out)) hb)
                                have n12_ := Aside0.mk (Kd.C_below (by repeat (first | (with_reducible exact HR266_0.out) | (with_reducible refine Kd.C_alloc ?_ _) | (with_reducible refine Kd.C_drewN ?_ _) | (with_reducible refine Kd.C_drew ?_) | exact HR266_0.out)) hb)
                                have n13_ := Aside0.mk (Kd.C_below (by repeat (first | (with_reducible exact HR266_1.out) | (with_reducible refine Kd.C_alloc ?_ _) | (with_reducible refine Kd.C_drewN ?_ _) | (with_reducible refine Kd.C_drew ?_) | exact HR266_1.out)) hb)
                                have n14_ := Aside0.mk (below_step Sh.B hb)
                                clear HO_0
                                clear HO_1
                                clear HO_5
                                clear HL265_0
                                clear HL265_1
                                clear HL266_0
                                clear HL266_1
                                clear HR265_0
                                clear HR265_1
                                clear HR266_0
                                clear HR266_1
                                clear HB
                                have HO_0 := n0_
                                have HO_1 := n1_
                                have HO_5 := n2_
                                have HL265_0 := n3_
                                have HL265_1 := n4_
                                have HL266_0 := n5_
                                have HL266_1 := n6_
                                have HO269 := n7_
                                have HO272 := n8_
                                have HO275 := n9_
                                have HR265_0 := n10_
                                have HR265_1 := n11_
                                have HR266_0 := n12_
                                have HR266_1 := n13_
                                have HB := n14_
                                clear n0_ n1_ n2_ n3_ n4_ n5_ n6_ n7_ n8_ n9_ n10_ n11_ n12_ n13_ n14_
                                (try clear hb)
                                (try clear hb2)
                                (try clear hk)
                                (try clear hi)
                                (try clear ho0)
                                (try clear ho1)
                                (try clear ho2)
                                obtain ⟨Ao39, co39, eo39⟩ := Kd.R_slice HO269.out
                                (first | subst eo39 | (injection eo39 with f1_ f2_ f3_; have f4_ := f1_.symm; have f5_ := f3_.symm; clear f1_ f2_ f3_; subst f4_; subst f5_))
                                obtain ⟨Ao40, co40, eo40⟩ := Kd.R_slice HO272.out
                                (first | subst eo40 | (injection eo40 with f1_ f2_ f3_; have f4_ := f1_.symm; have f5_ := f3_.symm; clear f1_ f2_ f3_; subst f4_; subst f5_))
                                obtain ⟨Ao41, co41, eo41⟩ := Kd.R_slice HO275.out
                                (first | subst eo41 | (injection eo41 with f1_ f2_ f3_; have f4_ := f1_.symm; have f5_ := f3_.symm; clear f1_ f2_ f3_; subst f4_; subst f5_))
                                refine hK.out _ _ ⟨HS0_, HS1_, HS2_, HS3_⟩ (fun hHeld => ?_)
                                clear hK K
                                refine norm_ (a' := ?_) ?_ ?_
                                rotate_left
                                · show Act.put _ (some 52) _ = _
                                  simp only [Act.put, List.setIfInBounds_toArray, List.set_cons_zero, List.set_cons_succ, i64_w, i32_w]
                                  rfl
                                refine last_ (i := 10) (N := some 53) #[true, true, true, true, true, true, true, true, true, true, true, false, false] rfl rfl (one_of HT_.out (by kernel_rfl)) (by decide) (fun K hK => ?_)
                                refine value_ (w1 := ?_) (v := ?_) (by rfl) rfl ?_ ?_
                                rotate_left 2
                                · go_simp
                                  constructor
                                  · rfl
                                  · rfl
                                refine hK.out _ _ ?_
                                clear hK K
                                refine norm_ (a' := ?_) ?_ ?_
                                rotate_left
                                · show Act.put _ (some 53) _ = _
                                  simp only [Act.put, List.setIfInBounds_toArray, List.set_cons_zero, List.set_cons_succ, i64_w, i32_w]
                                  rfl
                                refine last_ (i := 11) (N := some 54) #[true, true, true, true, true, true, true, true, true, true, true, true, false] rfl rfl (one_of HT_.out (by kernel_rfl)) (by decide) (fun K hK => ?_)
                                refine Kd.S_append_step k43 (w0 := w) w.heap.size (by rfl) (.tmp 43) (.tmp 53) 26 43 (.agg #[(.slice none 0 0), (.slice none 0 0), (.slice none 0 0)]) 72 rfl Try.underlying26 info43 rfl (by decide) (by omega) u5 x5_2 (⟨t267, t270, t273⟩ : S43) [.slice Ao39 t267.length co39, .slice Ao40 t270.length co40, .slice Ao41 t273.length co41] (fun k_ => (w.heap.size ≤ k_)) (fun k_ => some k_ = (.slice Ao39 t267.length co39 : Value).ownBlock ∨ some k_ = (.slice Ao40 t270.length co40 : Value).ownBlock ∨ some k_ = (.slice Ao41 t273.length co41 : Value).ownBlock) rfl rfl ?aP (fun k_ hk_ => hk_.elim (fun h_ => ((Kd.R_mono (ok' := fun k_ => ((fun k_ => (w.heap.size ≤ k_))) k_ ∧ some k_ ≠ (u5 : Value).ownBlock) (Kd.R_apart' (HO269.out) (Kd.S_typed HO_5.out) (by decide)) (fun k_ hk => ⟨hk.1.1, hk.2⟩))).1 k_ h_.symm) (fun h_ => h_.elim (fun h_ => ((Kd.R_mono (ok' := fun k_ => ((fun k_ => (w.heap.size ≤ k_))) k_ ∧ some k_ ≠ (u5 : Value).ownBlock) (Kd.R_apart' (HO272.out) (Kd.S_typed HO_5.out) (by decide)) (fun k_ hk => ⟨hk.1.1, hk.2⟩))).1 k_ h_.symm) (fun h_ => ((Kd.R_mono (ok' := fun k_ => ((fun k_ => (w.heap.size ≤ k_))) k_ ∧ some k_ ≠ (u5 : Value).ownBlock) (Kd.R_apart' (HO275.out) (Kd.S_typed HO_5.out) (by decide)) (fun k_ hk => ⟨hk.1.1, hk.2⟩))).1 k_ h_.symm))) ?aF ?aO ?aB ?aS ?aL ?_
                                (case aP => exact k43_mkM _ _ _ (⟨t267, t270, t273⟩ : S43) (Kd.R_mono (Kd.R_tight rfl (Kd.R_mono (ok' := fun k_ => ((fun k_ => (w.heap.size ≤ k_))) k_ ∧ some k_ ≠ (u5 : Value).ownBlock) (Kd.R_apart' (HO269.out) (Kd.S_typed HO_5.out) (by decide)) (fun k_ hk => ⟨hk.1.1, hk.2⟩))) (fun _ h_ => Or.inl h_)) (Kd.R_mono (Kd.R_tight rfl (Kd.R_mono (ok' := fun k_ => ((fun k_ => (w.heap.size ≤ k_))) k_ ∧ some k_ ≠ (u5 : Value).ownBlock) (Kd.R_apart' (HO272.out) (Kd.S_typed HO_5.out) (by decide)) (fun k_ hk => ⟨hk.1.1, hk.2⟩))) (fun _ h_ => Or.inr (Or.inl h_))) (Kd.R_mono (Kd.R_tight rfl (Kd.R_mono (ok' := fun k_ => ((fun k_ => (w.heap.size ≤ k_))) k_ ∧ some k_ ≠ (u5 : Value).ownBlock) (Kd.R_apart' (HO275.out) (Kd.S_typed HO_5.out) (by decide)) (fun k_ hk => ⟨hk.1.1, hk.2⟩))) (fun _ h_ => Or.inr (Or.inr (h_)))))
                                (case aB => exact Sh.B)
                                (case aF => exact (fun k_ hk => (Nat.le_trans (below_size Sh.B) hk)))
                                (case aO => exact (by (with_reducible repeat (first | apply Kd.S_alloc | apply Kd.S_drewN | apply Kd.S_drew)); exact Kd.S_mono HO_5.out (fun k_ hk => ⟨hk.1.1.1, fun e_ => e_.elim (fun h_ => hk.1.1.2 h_) (fun h_ => h_.elim (fun h_ => hk.1.2 h_) (fun h_ => hk.2 h_))⟩)))
                                (case aS => exact (below_size Sh.B))
                                (case aL => have := LMc33.out; omega)
                                intro v277 w38 ho hb hg hat
                                rw [← Ny276.out] at ho
                                have n0_ := Aside0.mk (Kd.V_afterv (ok := (fun k_ => ((P0_ k_ ∨ P1_ k_) ∨ w.heap.size ≤ k_) ∧ some k_ ≠ (.slice Ao39 t267.length co39 : Value).ownBlock ∧ some k_ ≠ (.slice Ao40 t270.length co40 : Value).ownBlock ∧ some k_ ≠ (.slice Ao41 t273.length co41 : Value).ownBlock)) (by (with_reducible repeat (first | apply Kd.V_alloc | apply Kd.V_drewN | apply Kd.V_drew)); exact Kd.V_mono HO_0.out (fun _ hk => ⟨⟨hk.1.1.1.1, ⟨hk.1.1.2, ⟨hk.1.2, hk.2⟩⟩⟩, hk.1.1.1.2⟩)) hg hat)
                                have n1_ := Aside0.mk (Kd.V_afterv (ok := (fun k_ => ((P0_ k_ ∨ P1_ k_) ∨ w.heap.size ≤ k_) ∧ some k_ ≠ (.slice Ao39 t267.length co39 : Value).ownBlock ∧ some k_ ≠ (.slice Ao40 t270.length co40 : Value).ownBlock ∧ some k_ ≠ (.slice Ao41 t273.length co41 : Value).ownBlock)) (by (with_reducible repeat (first | apply Kd.V_alloc | apply Kd.V_drewN | apply Kd.V_drew)); exact Kd.V_mono HO_1.out (fun _ hk => ⟨⟨hk.1.1.1.1, ⟨hk.1.1.2, ⟨hk.1.2, hk.2⟩⟩⟩, hk.1.1.1.2⟩)) hg hat)
                                have n2_ := Aside0.mk (Kd.V_afterv (ok := (fun k_ => ((P0_ k_ ∨ P1_ k_) ∨ w.heap.size ≤ k_) ∧ some k_ ≠ (.slice Ao39 t267.length co39 : Value).ownBlock ∧ some k_ ≠ (.slice Ao40 t270.length co40 : Value).ownBlock ∧ some k_ ≠ (.slice Ao41 t273.length co41 : Value).ownBlock)) (by (with_reducible repeat (first | apply Kd.V_alloc | apply Kd.V_drewN | apply Kd.V_drew)); exact Kd.V_mono HL265_0.out (fun _ hk => ⟨⟨hk.1.1.1.1, ⟨hk.1.1.2, ⟨hk.1.2, hk.2⟩⟩⟩, hk.1.1.1.2⟩)) hg hat)
                                have n3_ := Aside0.mk (Kd.V_afterv (ok := (fun k_ => ((P0_ k_ ∨ P1_ k_) ∨ w.heap.size ≤ k_) ∧ some k_ ≠ (.slice Ao39 t267.length co39 : Value).ownBlock ∧ some k_ ≠ (.slice Ao40 t270.length co40 : Value).ownBlock ∧ some k_ ≠ (.slice Ao41 t273.length co41 : Value).ownBlock)) (by (with_reducible repeat (first | apply Kd.V_alloc | apply Kd.V_drewN | apply Kd.V_drew)); exact Kd.V_mono HL265_1.out (fun _ hk => ⟨⟨hk.1.1.1.1, ⟨hk.1.1.2, ⟨hk.1.2, hk.2⟩⟩⟩, hk.1.1.1.2⟩)) hg hat)
                                have n4_ := Aside0.mk (Kd.V_afterv (ok := (fun k_ => ((P0_ k_ ∨ P1_ k_) ∨ w.heap.size ≤ k_) ∧ some k_ ≠ (.slice Ao39 t267.length co39 : Value).ownBlock ∧ some k_ ≠ (.slice Ao40 t270.length co40 : Value).ownBlock ∧ some k_ ≠ (.slice Ao41 t273.length co41 : Value).ownBlock)) (by (with_reducible repeat (first | apply Kd.V_alloc | apply Kd.V_drewN | apply Kd.V_drew)); exact Kd.V_mono HL266_0.out (fun _ hk => ⟨⟨hk.1.1.1.1, ⟨hk.1.1.2, ⟨hk.1.2, hk.2⟩⟩⟩, hk.1.1.1.2⟩)) hg hat)
                                have n5_ := Aside0.mk (Kd.V_afterv (ok := (fun k_ => ((P0_ k_ ∨ P1_ k_) ∨ w.heap.size ≤ k_) ∧ some k_ ≠ (.slice Ao39 t267.length co39 : Value).ownBlock ∧ some k_ ≠ (.slice Ao40 t270.length co40 : Value).ownBlock ∧ some k_ ≠ (.slice Ao41 t273.length co41 : Value).ownBlock)) (by (with_reducible repeat (first | apply Kd.V_alloc | apply Kd.V_drewN | apply Kd.V_drew)); exact Kd.V_mono HL266_1.out (fun _ hk => ⟨⟨hk.1.1.1.1, ⟨hk.1.1.2, ⟨hk.1.2, hk.2⟩⟩⟩, hk.1.1.1.2⟩)) hg hat)
                                have n6_ := Aside0.mk (hb)
                                have n7_ := Aside0.mk (ho)
                                clear HO_0
                                clear HO_1
                                clear HL265_0
                                clear HL265_1
                                clear HL266_0
                                clear HL266_1
                                clear HB
                                clear HO_5
                                clear HO269
                                clear HO272
                                clear HO275
                                have HO_0 := n0_
                                have HO_1 := n1_
                                have HL265_0 := n2_
                                have HL265_1 := n3_
                                have HL266_0 := n4_
                                have HL266_1 := n5_
                                have HB := n6_
                                have HO278 := n7_
                                clear n0_ n1_ n2_ n3_ n4_ n5_ n6_ n7_
                                clear ho hb hg hat
                                refine hK.out _ _ ?_
                                clear hK K
                                refine norm_ (a' := ?_) ?_ ?_
                                rotate_left
                                · show Act.put _ (some 54) _ = _
                                  simp only [Act.put, List.setIfInBounds_toArray, List.set_cons_zero, List.set_cons_succ, i64_w, i32_w]
                                  rfl
                                refine pure_ (i := 12) (N := some 5) (v := ?_) (a' := ?_) #[true, true, true, true, true, true, true, true, true, true, true, true, true] rfl rfl (any_of HT_.out (by kernel_rfl)) (fun _ _ _ h => h) (Or.inl ⟨by rfl, ?_⟩) ?_ ?_
                                rotate_left
                                · intro w'
                                  go_simp
                                  with_reducible rfl
                                rotate_left
                                · simp only [Act.put, List.setIfInBounds_toArray, List.set_cons_zero, List.set_cons_succ, i64_w, i32_w]
                                  rfl
                                refine done_ (done_of HT_.out (by kernel_rfl)) ?_
                                have q42 : (1 : Int) ≤ ((x0_2.length : Int) : Int) := of_decide_eq_true Sh.A
                                obtain ⟨i042, hi042, _, hsz42, _⟩ := info_parts info37
                                have hroom42 : x0_2.length ≤ co36 := (Kd.V_reads' HO_0.out).2.1
                                have hC42 : Kd.F k37 _ _ (some ad265) x0_2.length x0_2 := (Kd.V_at (base := w.heap.size) HO_0.out).2.2
                                have hcut42 := cut_from (P := Try.prog) 22 37 .i64 Try.underlying22 hi042 2 hsz42 (some ad265) x0_2.length co36 1 (by omega) q42
                                have hr42 := Kd.F_cut (m := (1 : Int).toNat) (c := co36) hC42 (by omega) hroom42
                                obtain ⟨A42, hA42⟩ : ∃ A1, A1 = (if co36 = (1 : Int).toNat then (some ad265) else ((some ad265) : Option Addr).map (·.add ((1 : Int).toNat * 2))) := ⟨_, rfl⟩
                                obtain ⟨c42, hc42⟩ : ∃ c1, c1 = co36 - (1 : Int).toNat := ⟨_, rfl⟩
                                have hy42 : y279.length = x0_2.length - (1 : Int).toNat := (by rw [Ny279.out, List.length_drop] <;> omega)
                                rw [show (x0_2).drop (1 : Int).toNat = y279 from Ny279.out.symm] at hr42
                                replace hr42 : Kd.F k37 _ _ A42 y279.length y279 := (by rw [hA42]; exact hr42)
                                rw [← hy42, ← hA42, ← hc42] at hcut42
                                have HO283 := Aside0.mk (show Kd.V k37 37 _ w.heap.size _ (.slice A42 y279.length c42) y279 from Kd.V_mk (by rw [hy42, hc42]; exact Nat.sub_le_sub_right hroom42 _) hr42)
                                have HC283 := Aside0.mk (show y279.length ≤ c42 from by rw [hy42, hc42]; exact Nat.sub_le_sub_right hroom42 _)
                                clear hr42 hC42 hroom42 hi042 hsz42 hc42
                                have KY42 := Aside0.mk hy42
                                have KA42 := Aside0.mk hA42
                                clear hy42 hA42
                                replace q42 := eq_true q42
                                try go_wp2
                                go_roundg kj16
                                case measure => have := HJ2.out; have := HK2.out; have := HJ10.out; have := HJ16.out; omega
                                case rel => exact ⟨(y279), (x1_2), (y276), H', ⟨by have := HJ2.out; have := HK2.out; have := HJ10.out; have := HJ16.out; omega⟩, ⟨by (with_reducible repeat (first | apply Kd.V_alloc | apply Kd.V_drewN | apply Kd.V_drew)); exact Kd.V_mono HO283.out (fun _ hk => ⟨hk.1.1, hk.2⟩)⟩, ⟨by (with_reducible repeat (first | apply Kd.V_alloc | apply Kd.V_drewN | apply Kd.V_drew)); exact Kd.V_mono HO_1.out (fun _ hk => ⟨hk.1.1, hk.2⟩)⟩, ⟨by (with_reducible repeat (first | apply Kd.S_alloc | apply Kd.S_drewN | apply Kd.S_drew)); exact HO278.out⟩, ⟨Sh.B⟩⟩
                              · rw [if_neg c34] at H
                                exact absurd H (by simp)
                            · rw [if_neg c33] at H
                              exact absurd H (by simp)
                          · rw [if_neg c31] at H
                            exact absurd H (by simp)
                        · rw [if_neg c30] at H
                          have c30b0 : decide (x6_16 < 0) = false := decide_eq_false c30
                          clear c30
                          (first | rw [c30b0] | (simp only [i64_w, i32_w]; rw [c30b0]) | skip)
                          by_cases c43 : x6_16 > 0
                          · rw [if_pos c43] at H
                            have c43b0 : decide (0 < x6_16) = true := decide_eq_true c43
                            clear c43
                            by_cases c44 : 0 < (x1_2.length : Int)
                            · rw [if_pos c44] at H
                              have c44b0 : decide (0 < (x1_2.length : Int)) = true := decide_eq_true c44
                              have c44b1 : decide (0 < x1_2.length) = true := decide_eq_true (by omega)
                              clear c44
                              replace H := Option.bind_eq_some_iff.mp H
                              obtain ⟨⟨t286, t289, t292⟩, A450, H⟩ := H
                              replace H : (if x5_2.length < 1954687338268 then (delta_Turns.j4 kj16 x0_2 x1_2 (x5_2 ++ [(⟨t286, t289, t292⟩ : S43)]) x6_16) else (none)) = some r := H
                              have A45 := Aside0.mk A450
                              clear A450
                              by_cases c46 : x5_2.length < 1954687338268
                              · rw [if_pos c46] at H
                                have LMc46 := Aside0.mk c46
                                clear c46
                                obtain ⟨y295, hy295⟩ : ∃ y_ : List (S43), y_ = (x5_2 ++ [(⟨t286, t289, t292⟩ : S43)]) := ⟨_, rfl⟩
                                replace H : (delta_Turns.j4 kj16 x0_2 x1_2 y295 x6_16) = some r := by first | (rw [hy295]; with_reducible exact H) | (have H2_ := (Option.bind_some _ _).symm.trans H; rw [hy295]; with_reducible exact H2_) | (have H2_ := (Option.bind_some _ _).symm.trans H; with_reducible exact H2_) | with_reducible exact H | (rw [hy295]; exact H) | exact H
                                have Ny295 := Aside0.mk hy295
                                clear hy295
                                have H' := Aside0.mk H
                                clear H
                                try go_wp2
                                have n0_ := Aside0.mk (Kd.V_drew HO_0.out)
                                have n1_ := Aside0.mk (Kd.V_drew HO_1.out)
                                have n2_ := Aside0.mk (Kd.S_drew HO_5.out)
                                have n3_ := Aside0.mk (below_drew1 HB.out)
                                clear HO_0
                                clear HO_1
                                clear HO_5
                                clear HB
                                have HO_0 := n0_
                                have HO_1 := n1_
                                have HO_5 := n2_
                                have HB := n3_
                                clear n0_ n1_ n2_ n3_
                                obtain ⟨Ao48, co48, eo48⟩ := Kd.V_slice HO_1.out
                                (first | subst eo48 | (injection eo48 with f1_ f2_ f3_; have f4_ := f1_.symm; have f5_ := f3_.symm; clear f1_ f2_ f3_; subst f4_; subst f5_))
                                have p284 : 0 ≤ (0 : Int) := (by omega)
                                have q284 : 0 < (x1_2.length : Int) := of_decide_eq_true Sh.A
                                obtain ⟨ad284, A284_0, c284_0, A284_1, c284_1, e284, hx284_0, hx284_1, hl284_0, hi284_0, hl284_1, hi284_1⟩ := at_T37 (Kd.V_reads' HO_1.out).2.2 0 p284 q284
                                cases e284
                                obtain ⟨ce284, hce284, hMe284, hcc284⟩ := Kd.V_get HO_1.out z37 0 p284 (by first | exact q284 | exact of_decide_eq_true Sh.A | (have e_ := (Kd.V_reads' HO_1.out).1; omega))
                                obtain ⟨ua284_0, uc284_0, ua284_1, uc284_1, rfl, ul284_0, ge284_0, ul284_1, ge284_1⟩ := k37_openF hMe284
                                have hv284_0 := hcc284 0 _ rfl
                                rw [Nat.add_zero] at hv284_0
                                replace hv284_0 := Option.some.inj (hv284_0.symm.trans hx284_0)
                                injection hv284_0 with hva_ hvn_ hvc_
                                rw [hva_] at ge284_0
                                rw [hvc_] at ul284_0
                                have HL284_0 := Aside0.mk (show Kd.V (Kd.int .u8) 5 _ w.heap.size _ _ ((rd_T37 x1_2 0).f0) from Kd.V_mk ul284_0 ge284_0)
                                clear hva_ hvn_ hvc_ ge284_0 ul284_0
                                have hv284_1 := hcc284 1 _ rfl
                                rw [add_field _ _ 1 (by omega)] at hv284_1
                                replace hv284_1 := Option.some.inj (hv284_1.symm.trans hx284_1)
                                injection hv284_1 with hva_ hvn_ hvc_
                                rw [hva_] at ge284_1
                                rw [hvc_] at ul284_1
                                have HL284_1 := Aside0.mk (show Kd.V (Kd.int .u8) 5 _ w.heap.size _ _ ((rd_T37 x1_2 0).f1) from Kd.V_mk ul284_1 ge284_1)
                                clear hva_ hvn_ hvc_ ge284_1 ul284_1
                                clear hcc284 hce284
                                have qi284 : (0 < x1_2.length) = True := eq_true (by omega)
                                (try rw [show ((0 : Int)).toNat = 0 from rfl] at hx284_0)
                                (try rw [show 0 * 2 = 0 from rfl] at hx284_0)
                                (try rw [Addr.add_zero'] at hx284_0)
                                (try rw [show ((0 : Int)).toNat = 0 from rfl] at hx284_1)
                                (try rw [show 0 * 2 = 0 from rfl] at hx284_1)
                                (try rw [Addr.add_zero'] at hx284_1)
                                have HR284_0 := Aside0.mk hi284_0
                                have HC284_0 := Aside0.mk hl284_0
                                clear hi284_0 hl284_0
                                have HR284_1 := Aside0.mk hi284_1
                                have HC284_1 := Aside0.mk hl284_1
                                clear hi284_1 hl284_1
                                replace p284 := eq_true p284
                                replace q284 := eq_true q284
                                have p285 : 0 ≤ (0 : Int) := (by omega)
                                have q285 : 0 < (x1_2.length : Int) := of_decide_eq_true Sh.A
                                obtain ⟨ad285, A285_0, c285_0, A285_1, c285_1, e285, hx285_0, hx285_1, hl285_0, hi285_0, hl285_1, hi285_1⟩ := at_T37 (Kd.V_reads' HO_1.out).2.2 0 p285 q285
                                obtain rfl : ad284 = ad285 := (by injection e285)
                                obtain ⟨ce285, hce285, hMe285, hcc285⟩ := Kd.V_get HO_1.out z37 0 p285 (by first | exact q285 | exact of_decide_eq_true Sh.A | (have e_ := (Kd.V_reads' HO_1.out).1; omega))
                                obtain ⟨ua285_0, uc285_0, ua285_1, uc285_1, rfl, ul285_0, ge285_0, ul285_1, ge285_1⟩ := k37_openF hMe285
                                have hv285_0 := hcc285 0 _ rfl
                                rw [Nat.add_zero] at hv285_0
                                replace hv285_0 := Option.some.inj (hv285_0.symm.trans hx285_0)
                                injection hv285_0 with hva_ hvn_ hvc_
                                rw [hva_] at ge285_0
                                rw [hvc_] at ul285_0
                                have HL285_0 := Aside0.mk (show Kd.V (Kd.int .u8) 5 _ w.heap.size _ _ ((rd_T37 x1_2 0).f0) from Kd.V_mk ul285_0 ge285_0)
                                clear hva_ hvn_ hvc_ ge285_0 ul285_0
                                have hv285_1 := hcc285 1 _ rfl
                                rw [add_field _ _ 1 (by omega)] at hv285_1
                                replace hv285_1 := Option.some.inj (hv285_1.symm.trans hx285_1)
                                injection hv285_1 with hva_ hvn_ hvc_
                                rw [hva_] at ge285_1
                                rw [hvc_] at ul285_1
                                have HL285_1 := Aside0.mk (show Kd.V (Kd.int .u8) 5 _ w.heap.size _ _ ((rd_T37 x1_2 0).f1) from Kd.V_mk ul285_1 ge285_1)
                                clear hva_ hvn_ hvc_ ge285_1 ul285_1
                                clear hcc285 hce285
                                have qi285 : (0 < x1_2.length) = True := eq_true (by omega)
                                (try rw [show ((0 : Int)).toNat = 0 from rfl] at hx285_0)
                                (try rw [show 0 * 2 = 0 from rfl] at hx285_0)
                                (try rw [Addr.add_zero'] at hx285_0)
                                (try rw [show ((0 : Int)).toNat = 0 from rfl] at hx285_1)
                                (try rw [show 0 * 2 = 0 from rfl] at hx285_1)
                                (try rw [Addr.add_zero'] at hx285_1)
                                have HR285_0 := Aside0.mk hi285_0
                                have HC285_0 := Aside0.mk hl285_0
                                clear hi285_0 hl285_0
                                have HR285_1 := Aside0.mk hi285_1
                                have HC285_1 := Aside0.mk hl285_1
                                clear hi285_1 hl285_1
                                replace p285 := eq_true p285
                                replace q285 := eq_true q285
                                have ea_ := Option.some.inj (hx284_0.symm.trans hx285_0)
                                injection ea_ with ea_ en_ ec_
                                subst ea_
                                subst ec_
                                clear en_
                                have ea_ := Option.some.inj (hx284_1.symm.trans hx285_1)
                                injection ea_ with ea_ en_ ec_
                                subst ea_
                                subst ec_
                                clear en_
                                refine start_ (n := 13) (S := fun w' => w'.cell? ad284 = some (.slice A284_0 ((rd_T37 x1_2 0).f0).length c284_0) ∧ w'.cell? ⟨ad284.block, ad284.off + 1, none⟩ = some (.slice A284_1 ((rd_T37 x1_2 0).f1).length c284_1) ∧ w'.cell? ad284 = some (.slice A284_0 ((rd_T37 x1_2 0).f0).length c284_0) ∧ w'.cell? ⟨ad284.block, ad284.off + 1, none⟩ = some (.slice A284_1 ((rd_T37 x1_2 0).f1).length c284_1)) (ds := [10, 11]) #[false, false, false, false, false, false, false, false, false, false, false, false, false] (by kernel_rfl) rfl rfl ⟨hx284_0, hx284_1, hx285_0, hx285_1⟩ (fun hHeld => ?_); refine with_tabW delta_Turns.tab15 delta_Turns.bits15 (fun HT_ HW_ => ?_)
                                generalize wc.drew = w47 at HO_0 HO_1 HO_5 HB HL284_0 HL284_1 HL285_0 HL285_1 HR284_0 HR284_1 HR285_0 HR285_1 hx284_0 hx284_1 hx285_0 hx285_1 hHeld ⊢
                                refine pure_ (i := 0) (N := some 60) (v := ?_) (a' := ?_) #[true, false, false, false, false, false, false, false, false, false, false, false, false] rfl rfl (any_of HT_.out (by kernel_rfl)) (fun _ _ _ h => h) (Or.inl ⟨by rfl, ?_⟩) ?_ ?_
                                rotate_left
                                · intro w'
                                  go_simp
                                  with_reducible rfl
                                rotate_left
                                · simp only [Act.put, List.setIfInBounds_toArray, List.set_cons_zero, List.set_cons_succ, i64_w, i32_w]
                                  rfl
                                refine pure_ (i := 1) (N := some 61) (v := ?_) (a' := ?_) #[true, true, false, false, false, false, false, false, false, false, false, false, false] rfl rfl (any_of HT_.out (by kernel_rfl)) (fun _ _ _ h => h) (Or.inl ⟨by rfl, ?_⟩) ?_ ?_
                                rotate_left
                                · intro w'
                                  go_simp
                                  with_reducible rfl
                                rotate_left
                                · simp only [Act.put, List.setIfInBounds_toArray, List.set_cons_zero, List.set_cons_succ, i64_w, i32_w]
                                  rfl
                                refine pure_ (i := 2) (N := some 62) (v := ?_) (a' := ?_) #[true, true, true, false, false, false, false, false, false, false, false, false, false] rfl rfl (any_of HT_.out (by kernel_rfl)) (fun _ _ _ h => h) (Or.inl ⟨by rfl, ?_⟩) ?_ ?_
                                rotate_left
                                · intro w'
                                  go_simp
                                  with_reducible rfl
                                rotate_left
                                · simp only [Act.put, List.setIfInBounds_toArray, List.set_cons_zero, List.set_cons_succ, i64_w, i32_w]
                                  rfl
                                refine pure_ (i := 3) (N := some 63) (v := ?_) (a' := ?_) #[true, true, true, true, false, false, false, false, false, false, false, false, false] rfl rfl (any_of HT_.out (by kernel_rfl)) (fun _ _ _ h => h) (Or.inl ⟨by rfl, ?_⟩) ?_ ?_
                                rotate_left
                                · intro w'
                                  go_simp
                                  with_reducible rfl
                                rotate_left
                                · simp only [Act.put, List.setIfInBounds_toArray, List.set_cons_zero, List.set_cons_succ, i64_w, i32_w]
                                  rfl
                                refine pure_ (i := 5) (N := some 65) (v := ?_) (a' := ?_) #[true, true, true, true, false, true, false, false, false, false, false, false, false] rfl rfl (any_of HT_.out (by kernel_rfl)) (fun _ _ _ h => h) (Or.inl ⟨by rfl, ?_⟩) ?_ ?_
                                rotate_left
                                · intro w'
                                  go_simp
                                  with_reducible rfl
                                rotate_left
                                · simp only [Act.put, List.setIfInBounds_toArray, List.set_cons_zero, List.set_cons_succ, i64_w, i32_w]
                                  rfl
                                refine pure_ (i := 6) (N := some 66) (v := ?_) (a' := ?_) #[true, true, true, true, false, true, true, false, false, false, false, false, false] rfl rfl (any_of HT_.out (by kernel_rfl)) (fun _ _ _ h => h) (Or.inl ⟨by rfl, ?_⟩) ?_ ?_
                                rotate_left
                                · intro w'
                                  go_simp
                                  with_reducible rfl
                                rotate_left
                                · simp only [Act.put, List.setIfInBounds_toArray, List.set_cons_zero, List.set_cons_succ, i64_w, i32_w]
                                  rfl
                                refine pure_ (i := 7) (N := some 67) (v := ?_) (a' := ?_) #[true, true, true, true, false, true, true, true, false, false, false, false, false] rfl rfl (any_of HT_.out (by kernel_rfl)) (fun _ _ _ h => h) (Or.inl ⟨by rfl, ?_⟩) ?_ ?_
                                rotate_left
                                · intro w'
                                  go_simp
                                  with_reducible rfl
                                rotate_left
                                · simp only [Act.put, List.setIfInBounds_toArray, List.set_cons_zero, List.set_cons_succ, i64_w, i32_w]
                                  rfl
                                refine take_ (i := 4) (N := some 64) (v := ?_) (a' := ?_) #[true, true, true, true, true, true, true, true, false, false, false, false, false] rfl rfl (take_ofW HT_.out HW_.out (by kernel_rfl)) (fun _ _ _ h => h) (Or.inl ⟨by rfl, ?_⟩) hHeld ?_ ?_
                                rotate_left
                                · rintro w' ⟨s0, s1, s2, s3⟩
                                  go_simp
                                  with_reducible rfl
                                rotate_left
                                · simp only [Act.put, List.setIfInBounds_toArray, List.set_cons_zero, List.set_cons_succ, i64_w, i32_w]
                                  rfl
                                refine take_ (i := 8) (N := some 68) (v := ?_) (a' := ?_) #[true, true, true, true, true, true, true, true, true, false, false, false, false] rfl rfl (take_ofW HT_.out HW_.out (by kernel_rfl)) (fun _ _ _ h => h) (Or.inl ⟨by rfl, ?_⟩) hHeld ?_ ?_
                                rotate_left
                                · rintro w' ⟨s0, s1, s2, s3⟩
                                  go_simp
                                  with_reducible rfl
                                rotate_left
                                · simp only [Act.put, List.setIfInBounds_toArray, List.set_cons_zero, List.set_cons_succ, i64_w, i32_w]
                                  rfl
                                refine one_ (i := 9) (N := some 69) #[true, true, true, true, true, true, true, true, true, true, false, false, false] rfl rfl (one_of HT_.out (by kernel_rfl)) (by decide) (fun K hK => ?_)
                                refine goes_ Try.func26 (by kernel_rfl) rfl #[.slice A284_0 ((rd_T37 x1_2 0).f0).length c284_0, .slice none 0 0, .slice A284_1 ((rd_T37 x1_2 0).f1).length c284_1] (by rfl) rfl rfl (by (try simp only [List.map_toArray, List.map_cons, List.map_nil]); first | done | rfl | (simp only [List.length_drop, List.length_take]; rfl)) ?_
                                refine (delta_turn.calls _ _ ((rd_T37 x1_2 0).f0) _ _ ([] : List Int) _ _ ((rd_T37 x1_2 0).f1) t286 t289 t292 _ ?side1 ?side2 ?side3 ?side4 ?side5 ?side6 A45.out).mono ?_
                                (case side1 => repeat (first | exact (by repeat (first | (with_reducible exact HR284_0.out) | (with_reducible refine Kd.C_alloc ?_ _) | (with_reducible refine Kd.C_drewN ?_ _) | (with_reducible refine Kd.C_drew ?_) | exact HR284_0.out)) | (with_reducible refine Kd.C_alloc ?_ _) | (with_reducible refine Kd.C_drewN ?_ _) | (with_reducible refine Kd.C_drew ?_)))
                                (case side2 => exact HC284_0.out)
                                (case side3 => exact Kd.C_nil _ _)
                                (case side4 => exact Nat.le_refl _)
                                (case side5 => repeat (first | exact (by repeat (first | (with_reducible exact HR285_1.out) | (with_reducible refine Kd.C_alloc ?_ _) | (with_reducible refine Kd.C_drewN ?_ _) | (with_reducible refine Kd.C_drew ?_) | exact HR285_1.out)) | (with_reducible refine Kd.C_alloc ?_ _) | (with_reducible refine Kd.C_drewN ?_ _) | (with_reducible refine Kd.C_drew ?_)))
                                (case side6 => exact HC285_1.out)
                                rintro e w49 ⟨v287, v290, v293, rfl, ho0, ho1, ho2, hb⟩
                                have HS0_ := (hb.cell (World.block_lt_of_cell? _ _ (hHeld.1))).trans (hHeld.1)
                                have HS1_ := (hb.cell (World.block_lt_of_cell? _ _ (hHeld.2.1))).trans (hHeld.2.1)
                                have HS2_ := (hb.cell (World.block_lt_of_cell? _ _ (hHeld.2.2.1))).trans (hHeld.2.2.1)
                                have HS3_ := (hb.cell (World.block_lt_of_cell? _ _ (hHeld.2.2.2))).trans (hHeld.2.2.2)
                                refine ⟨_, rfl, ?_⟩
                                have n0_ := Aside0.mk (Kd.V_mono (Kd.V_told (Kd.V_told (Kd.V_told (Kd.V_old (by (with_reducible repeat (first | apply Kd.V_alloc | apply Kd.V_drewN | apply Kd.V_drew)); exact HO_0.out) hb) (Kd.R_base ho0)) (Kd.R_base ho1)) (Kd.R_base ho2)) (fun _ h_ => h_.1))
                                have n1_ := Aside0.mk (Kd.V_mono (Kd.V_told (Kd.V_told (Kd.V_told (Kd.V_old (by (with_reducible repeat (first | apply Kd.V_alloc | apply Kd.V_drewN | apply Kd.V_drew)); exact HO_1.out) hb) (Kd.R_base ho0)) (Kd.R_base ho1)) (Kd.R_base ho2)) (fun _ h_ => h_.1))
                                have n2_ := Aside0.mk (Kd.S_mono (Kd.S_told (Kd.S_told (Kd.S_told (Kd.S_old (by (with_reducible repeat (first | apply Kd.S_alloc | apply Kd.S_drewN | apply Kd.S_drew)); exact HO_5.out) hb) (Kd.R_base ho0)) (Kd.R_base ho1)) (Kd.R_base ho2)) (fun _ h_ => h_.1))
                                have n3_ := Aside0.mk (Kd.V_mono (Kd.V_told (Kd.V_told (Kd.V_told (Kd.V_old (by (with_reducible repeat (first | apply Kd.V_alloc | apply Kd.V_drewN | apply Kd.V_drew)); exact HL284_0.out) hb) (Kd.R_base ho0)) (Kd.R_base ho1)) (Kd.R_base ho2)) (fun _ h_ => h_.1))
                                have n4_ := Aside0.mk (Kd.V_mono (Kd.V_told (Kd.V_told (Kd.V_told (Kd.V_old (by (with_reducible repeat (first | apply Kd.V_alloc | apply Kd.V_drewN | apply Kd.V_drew)); exact HL284_1.out) hb) (Kd.R_base ho0)) (Kd.R_base ho1)) (Kd.R_base ho2)) (fun _ h_ => h_.1))
                                have n5_ := Aside0.mk (Kd.V_mono (Kd.V_told (Kd.V_told (Kd.V_told (Kd.V_old (by (with_reducible repeat (first | apply Kd.V_alloc | apply Kd.V_drewN | apply Kd.V_drew)); exact HL285_0.out) hb) (Kd.R_base ho0)) (Kd.R_base ho1)) (Kd.R_base ho2)) (fun _ h_ => h_.1))
                                have n6_ := Aside0.mk (Kd.V_mono (Kd.V_told (Kd.V_told (Kd.V_told (Kd.V_old (by (with_reducible repeat (first | apply Kd.V_alloc | apply Kd.V_drewN | apply Kd.V_drew)); exact HL285_1.out) hb) (Kd.R_base ho0)) (Kd.R_base ho1)) (Kd.R_base ho2)) (fun _ h_ => h_.1))
                                have n7_ := Aside0.mk (Kd.R_lower (Kd.R_newM (M := fun k_ => (w.heap.size ≤ k_)) ho0 (below_size Sh.B) (fun k_ h_ => h_)) (below_size Sh.B))
                                have n8_ := Aside0.mk (Kd.R_lower (Kd.R_newM (M := fun k_ => (w.heap.size ≤ k_)) ho1 (below_size Sh.B) (fun k_ h_ => h_)) (below_size Sh.B))
                                have n9_ := Aside0.mk (Kd.R_lower (Kd.R_newM (M := fun k_ => (w.heap.size ≤ k_)) ho2 (below_size Sh.B) (fun k_ h_ => h_)) (below_size Sh.B))
                                have n10_ := Aside0.mk (Kd.C_below (by repeat (first | (with_reducible exact HR284_0.out) | (with_reducible refine Kd.C_alloc ?_ _) | (with_reducible refine Kd.C_drewN ?_ _) | (with_reducible refine Kd.C_drew ?_) | exact HR284_0.out)) hb)
                                have n11_ := Aside0.mk (Kd.C_below (by repeat (first | (with_reducible exact HR284_1.out) | (with_reducible refine Kd.C_alloc ?_ _) | (with_reducible refine Kd.C_drewN ?_ _) | (with_reducible refine Kd.C_drew ?_) | exact HR284_1.out)) hb)
                                have n12_ := Aside0.mk (Kd.C_below (by repeat (first | (with_reducible exact HR285_0.out) | (with_reducible refine Kd.C_alloc ?_ _) | (with_reducible refine Kd.C_drewN ?_ _) | (with_reducible refine Kd.C_drew ?_) | exact HR285_0.out)) hb)
                                have n13_ := Aside0.mk (Kd.C_below (by repeat (first | (with_reducible exact HR285_1.out) | (with_reducible refine Kd.C_alloc ?_ _) | (with_reducible refine Kd.C_drewN ?_ _) | (with_reducible refine Kd.C_drew ?_) | exact HR285_1.out)) hb)
                                have n14_ := Aside0.mk (below_step Sh.B hb)
                                clear HO_0
                                clear HO_1
                                clear HO_5
                                clear HL284_0
                                clear HL284_1
                                clear HL285_0
                                clear HL285_1
                                clear HR284_0
                                clear HR284_1
                                clear HR285_0
                                clear HR285_1
                                clear HB
                                have HO_0 := n0_
                                have HO_1 := n1_
                                have HO_5 := n2_
                                have HL284_0 := n3_
                                have HL284_1 := n4_
                                have HL285_0 := n5_
                                have HL285_1 := n6_
                                have HO288 := n7_
                                have HO291 := n8_
                                have HO294 := n9_
                                have HR284_0 := n10_
                                have HR284_1 := n11_
                                have HR285_0 := n12_
                                have HR285_1 := n13_
                                have HB := n14_
                                clear n0_ n1_ n2_ n3_ n4_ n5_ n6_ n7_ n8_ n9_ n10_ n11_ n12_ n13_ n14_
                                (try clear hb)
                                (try clear hb2)
                                (try clear hk)
                                (try clear hi)
                                (try clear ho0)
                                (try clear ho1)
                                (try clear ho2)
                                obtain ⟨Ao51, co51, eo51⟩ := Kd.R_slice HO288.out
                                (first | subst eo51 | (injection eo51 with f1_ f2_ f3_; have f4_ := f1_.symm; have f5_ := f3_.symm; clear f1_ f2_ f3_; subst f4_; subst f5_))
                                obtain ⟨Ao52, co52, eo52⟩ := Kd.R_slice HO291.out
                                (first | subst eo52 | (injection eo52 with f1_ f2_ f3_; have f4_ := f1_.symm; have f5_ := f3_.symm; clear f1_ f2_ f3_; subst f4_; subst f5_))
                                obtain ⟨Ao53, co53, eo53⟩ := Kd.R_slice HO294.out
                                (first | subst eo53 | (injection eo53 with f1_ f2_ f3_; have f4_ := f1_.symm; have f5_ := f3_.symm; clear f1_ f2_ f3_; subst f4_; subst f5_))
                                refine hK.out _ _ ⟨HS0_, HS1_, HS2_, HS3_⟩ (fun hHeld => ?_)
                                clear hK K
                                refine norm_ (a' := ?_) ?_ ?_
                                rotate_left
                                · show Act.put _ (some 69) _ = _
                                  simp only [Act.put, List.setIfInBounds_toArray, List.set_cons_zero, List.set_cons_succ, i64_w, i32_w]
                                  rfl
                                refine last_ (i := 10) (N := some 70) #[true, true, true, true, true, true, true, true, true, true, true, false, false] rfl rfl (one_of HT_.out (by kernel_rfl)) (by decide) (fun K hK => ?_)
                                refine value_ (w1 := ?_) (v := ?_) (by rfl) rfl ?_ ?_
                                rotate_left 2
                                · go_simp
                                  constructor
                                  · rfl
                                  · rfl
                                refine hK.out _ _ ?_
                                clear hK K
                                refine norm_ (a' := ?_) ?_ ?_
                                rotate_left
                                · show Act.put _ (some 70) _ = _
                                  simp only [Act.put, List.setIfInBounds_toArray, List.set_cons_zero, List.set_cons_succ, i64_w, i32_w]
                                  rfl
                                refine last_ (i := 11) (N := some 71) #[true, true, true, true, true, true, true, true, true, true, true, true, false] rfl rfl (one_of HT_.out (by kernel_rfl)) (by decide) (fun K hK => ?_)
                                refine Kd.S_append_step k43 (w0 := w) w.heap.size (by rfl) (.tmp 60) (.tmp 70) 26 43 (.agg #[(.slice none 0 0), (.slice none 0 0), (.slice none 0 0)]) 72 rfl Try.underlying26 info43 rfl (by decide) (by omega) u5 x5_2 (⟨t286, t289, t292⟩ : S43) [.slice Ao51 t286.length co51, .slice Ao52 t289.length co52, .slice Ao53 t292.length co53] (fun k_ => (w.heap.size ≤ k_)) (fun k_ => some k_ = (.slice Ao51 t286.length co51 : Value).ownBlock ∨ some k_ = (.slice Ao52 t289.length co52 : Value).ownBlock ∨ some k_ = (.slice Ao53 t292.length co53 : Value).ownBlock) rfl rfl ?aP (fun k_ hk_ => hk_.elim (fun h_ => ((Kd.R_mono (ok' := fun k_ => ((fun k_ => (w.heap.size ≤ k_))) k_ ∧ some k_ ≠ (u5 : Value).ownBlock) (Kd.R_apart' (HO288.out) (Kd.S_typed HO_5.out) (by decide)) (fun k_ hk => ⟨hk.1.1, hk.2⟩))).1 k_ h_.symm) (fun h_ => h_.elim (fun h_ => ((Kd.R_mono (ok' := fun k_ => ((fun k_ => (w.heap.size ≤ k_))) k_ ∧ some k_ ≠ (u5 : Value).ownBlock) (Kd.R_apart' (HO291.out) (Kd.S_typed HO_5.out) (by decide)) (fun k_ hk => ⟨hk.1.1, hk.2⟩))).1 k_ h_.symm) (fun h_ => ((Kd.R_mono (ok' := fun k_ => ((fun k_ => (w.heap.size ≤ k_))) k_ ∧ some k_ ≠ (u5 : Value).ownBlock) (Kd.R_apart' (HO294.out) (Kd.S_typed HO_5.out) (by decide)) (fun k_ hk => ⟨hk.1.1, hk.2⟩))).1 k_ h_.symm))) ?aF ?aO ?aB ?aS ?aL ?_
                                (case aP => exact k43_mkM _ _ _ (⟨t286, t289, t292⟩ : S43) (Kd.R_mono (Kd.R_tight rfl (Kd.R_mono (ok' := fun k_ => ((fun k_ => (w.heap.size ≤ k_))) k_ ∧ some k_ ≠ (u5 : Value).ownBlock) (Kd.R_apart' (HO288.out) (Kd.S_typed HO_5.out) (by decide)) (fun k_ hk => ⟨hk.1.1, hk.2⟩))) (fun _ h_ => Or.inl h_)) (Kd.R_mono (Kd.R_tight rfl (Kd.R_mono (ok' := fun k_ => ((fun k_ => (w.heap.size ≤ k_))) k_ ∧ some k_ ≠ (u5 : Value).ownBlock) (Kd.R_apart' (HO291.out) (Kd.S_typed HO_5.out) (by decide)) (fun k_ hk => ⟨hk.1.1, hk.2⟩))) (fun _ h_ => Or.inr (Or.inl h_))) (Kd.R_mono (Kd.R_tight rfl (Kd.R_mono (ok' := fun k_ => ((fun k_ => (w.heap.size ≤ k_))) k_ ∧ some k_ ≠ (u5 : Value).ownBlock) (Kd.R_apart' (HO294.out) (Kd.S_typed HO_5.out) (by decide)) (fun k_ hk => ⟨hk.1.1, hk.2⟩))) (fun _ h_ => Or.inr (Or.inr (h_)))))
                                (case aB => exact Sh.B)
                                (case aF => exact (fun k_ hk => (Nat.le_trans (below_size Sh.B) hk)))
                                (case aO => exact (by (with_reducible repeat (first | apply Kd.S_alloc | apply Kd.S_drewN | apply Kd.S_drew)); exact Kd.S_mono HO_5.out (fun k_ hk => ⟨hk.1.1.1, fun e_ => e_.elim (fun h_ => hk.1.1.2 h_) (fun h_ => h_.elim (fun h_ => hk.1.2 h_) (fun h_ => hk.2 h_))⟩)))
                                (case aS => exact (below_size Sh.B))
                                (case aL => have := LMc46.out; omega)
                                intro v296 w50 ho hb hg hat
                                rw [← Ny295.out] at ho
                                have n0_ := Aside0.mk (Kd.V_afterv (ok := (fun k_ => ((P0_ k_ ∨ P1_ k_) ∨ w.heap.size ≤ k_) ∧ some k_ ≠ (.slice Ao51 t286.length co51 : Value).ownBlock ∧ some k_ ≠ (.slice Ao52 t289.length co52 : Value).ownBlock ∧ some k_ ≠ (.slice Ao53 t292.length co53 : Value).ownBlock)) (by (with_reducible repeat (first | apply Kd.V_alloc | apply Kd.V_drewN | apply Kd.V_drew)); exact Kd.V_mono HO_0.out (fun _ hk => ⟨⟨hk.1.1.1.1, ⟨hk.1.1.2, ⟨hk.1.2, hk.2⟩⟩⟩, hk.1.1.1.2⟩)) hg hat)
                                have n1_ := Aside0.mk (Kd.V_afterv (ok := (fun k_ => ((P0_ k_ ∨ P1_ k_) ∨ w.heap.size ≤ k_) ∧ some k_ ≠ (.slice Ao51 t286.length co51 : Value).ownBlock ∧ some k_ ≠ (.slice Ao52 t289.length co52 : Value).ownBlock ∧ some k_ ≠ (.slice Ao53 t292.length co53 : Value).ownBlock)) (by (with_reducible repeat (first | apply Kd.V_alloc | apply Kd.V_drewN | apply Kd.V_drew)); exact Kd.V_mono HO_1.out (fun _ hk => ⟨⟨hk.1.1.1.1, ⟨hk.1.1.2, ⟨hk.1.2, hk.2⟩⟩⟩, hk.1.1.1.2⟩)) hg hat)
                                have n2_ := Aside0.mk (Kd.V_afterv (ok := (fun k_ => ((P0_ k_ ∨ P1_ k_) ∨ w.heap.size ≤ k_) ∧ some k_ ≠ (.slice Ao51 t286.length co51 : Value).ownBlock ∧ some k_ ≠ (.slice Ao52 t289.length co52 : Value).ownBlock ∧ some k_ ≠ (.slice Ao53 t292.length co53 : Value).ownBlock)) (by (with_reducible repeat (first | apply Kd.V_alloc | apply Kd.V_drewN | apply Kd.V_drew)); exact Kd.V_mono HL284_0.out (fun _ hk => ⟨⟨hk.1.1.1.1, ⟨hk.1.1.2, ⟨hk.1.2, hk.2⟩⟩⟩, hk.1.1.1.2⟩)) hg hat)
                                have n3_ := Aside0.mk (Kd.V_afterv (ok := (fun k_ => ((P0_ k_ ∨ P1_ k_) ∨ w.heap.size ≤ k_) ∧ some k_ ≠ (.slice Ao51 t286.length co51 : Value).ownBlock ∧ some k_ ≠ (.slice Ao52 t289.length co52 : Value).ownBlock ∧ some k_ ≠ (.slice Ao53 t292.length co53 : Value).ownBlock)) (by (with_reducible repeat (first | apply Kd.V_alloc | apply Kd.V_drewN | apply Kd.V_drew)); exact Kd.V_mono HL284_1.out (fun _ hk => ⟨⟨hk.1.1.1.1, ⟨hk.1.1.2, ⟨hk.1.2, hk.2⟩⟩⟩, hk.1.1.1.2⟩)) hg hat)
                                have n4_ := Aside0.mk (Kd.V_afterv (ok := (fun k_ => ((P0_ k_ ∨ P1_ k_) ∨ w.heap.size ≤ k_) ∧ some k_ ≠ (.slice Ao51 t286.length co51 : Value).ownBlock ∧ some k_ ≠ (.slice Ao52 t289.length co52 : Value).ownBlock ∧ some k_ ≠ (.slice Ao53 t292.length co53 : Value).ownBlock)) (by (with_reducible repeat (first | apply Kd.V_alloc | apply Kd.V_drewN | apply Kd.V_drew)); exact Kd.V_mono HL285_0.out (fun _ hk => ⟨⟨hk.1.1.1.1, ⟨hk.1.1.2, ⟨hk.1.2, hk.2⟩⟩⟩, hk.1.1.1.2⟩)) hg hat)
                                have n5_ := Aside0.mk (Kd.V_afterv (ok := (fun k_ => ((P0_ k_ ∨ P1_ k_) ∨ w.heap.size ≤ k_) ∧ some k_ ≠ (.slice Ao51 t286.length co51 : Value).ownBlock ∧ some k_ ≠ (.slice Ao52 t289.length co52 : Value).ownBlock ∧ some k_ ≠ (.slice Ao53 t292.length co53 : Value).ownBlock)) (by (with_reducible repeat (first | apply Kd.V_alloc | apply Kd.V_drewN | apply Kd.V_drew)); exact Kd.V_mono HL285_1.out (fun _ hk => ⟨⟨hk.1.1.1.1, ⟨hk.1.1.2, ⟨hk.1.2, hk.2⟩⟩⟩, hk.1.1.1.2⟩)) hg hat)
                                have n6_ := Aside0.mk (hb)
                                have n7_ := Aside0.mk (ho)
                                clear HO_0
                                clear HO_1
                                clear HL284_0
                                clear HL284_1
                                clear HL285_0
                                clear HL285_1
                                clear HB
                                clear HO_5
                                clear HO288
                                clear HO291
                                clear HO294
                                have HO_0 := n0_
                                have HO_1 := n1_
                                have HL284_0 := n2_
                                have HL284_1 := n3_
                                have HL285_0 := n4_
                                have HL285_1 := n5_
                                have HB := n6_
                                have HO297 := n7_
                                clear n0_ n1_ n2_ n3_ n4_ n5_ n6_ n7_
                                clear ho hb hg hat
                                refine hK.out _ _ ?_
                                clear hK K
                                refine norm_ (a' := ?_) ?_ ?_
                                rotate_left
                                · show Act.put _ (some 71) _ = _
                                  simp only [Act.put, List.setIfInBounds_toArray, List.set_cons_zero, List.set_cons_succ, i64_w, i32_w]
                                  rfl
                                refine pure_ (i := 12) (N := some 5) (v := ?_) (a' := ?_) #[true, true, true, true, true, true, true, true, true, true, true, true, true] rfl rfl (any_of HT_.out (by kernel_rfl)) (fun _ _ _ h => h) (Or.inl ⟨by rfl, ?_⟩) ?_ ?_
                                rotate_left
                                · intro w'
                                  go_simp
                                  with_reducible rfl
                                rotate_left
                                · simp only [Act.put, List.setIfInBounds_toArray, List.set_cons_zero, List.set_cons_succ, i64_w, i32_w]
                                  rfl
                                refine done_ (done_of HT_.out (by kernel_rfl)) ?_
                                try go_wp2
                                go_meet
                                case rel => exact ⟨_, (x0_2), (y295), H', ⟨by have := HJ2.out; have := HK2.out; have := HJ10.out; have := HJ16.out; first | omega | exact Nat.le_refl _⟩, ⟨by (with_reducible repeat (first | apply Kd.V_alloc | apply Kd.V_drewN | apply Kd.V_drew)); exact Kd.V_mono HO_0.out (fun _ hk => ⟨hk.1.1, hk.2⟩)⟩, ⟨by (with_reducible repeat (first | apply Kd.V_alloc | apply Kd.V_drewN | apply Kd.V_drew)); exact Kd.V_mono HO_1.out (fun _ hk => ⟨hk.1.1, hk.2⟩)⟩, ⟨by (with_reducible repeat (first | apply Kd.S_alloc | apply Kd.S_drewN | apply Kd.S_drew)); exact HO297.out⟩, ⟨Sh.B⟩⟩
                              · rw [if_neg c46] at H
                                exact absurd H (by simp)
                            · rw [if_neg c44] at H
                              exact absurd H (by simp)
                          · rw [if_neg c43] at H
                            have c43b0 : decide (0 < x6_16) = false := decide_eq_false c43
                            clear c43
                            by_cases c54 : 0 < (x0_2.length : Int)
                            · rw [if_pos c54] at H
                              have c54b0 : decide (0 < (x0_2.length : Int)) = true := decide_eq_true c54
                              have c54b1 : decide (0 < x0_2.length) = true := decide_eq_true (by omega)
                              clear c54
                              by_cases c55 : 0 < (x1_2.length : Int)
                              · rw [if_pos c55] at H
                                have c55b0 : decide (0 < (x1_2.length : Int)) = true := decide_eq_true c55
                                have c55b1 : decide (0 < x1_2.length) = true := decide_eq_true (by omega)
                                clear c55
                                replace H := Option.bind_eq_some_iff.mp H
                                obtain ⟨t300, A560, H⟩ := H
                                replace H : (if t300 = true then (delta_Turns.j4 kj16 x0_2 x1_2 x5_2 x6_16) else ((delta_turn.f ((rd_T37 x0_2 0).f0) ((rd_T37 x0_2 0).f1) ((rd_T37 x1_2 0).f1)).bind fun bt304 => (if x5_2.length < 1954687338268 then (delta_Turns.j4 kj16 x0_2 x1_2 (x5_2 ++ [(⟨bt304.1, bt304.2.1, bt304.2.2⟩ : S43)]) x6_16) else (none)))) = some r := H
                                have A56 := Aside0.mk A560
                                clear A560
                                by_cases c57 : t300 = true
                                · subst c57
                                  have H1 : (delta_Turns.j4 kj16 x0_2 x1_2 x5_2 x6_16) = some r := by rw [if_pos rfl] at H; exact H
                                  clear H
                                  have H := H1
                                  clear H1
                                  have H' := Aside0.mk H
                                  clear H
                                  try go_wp2
                                  have n0_ := Aside0.mk (Kd.V_drew HO_0.out)
                                  have n1_ := Aside0.mk (Kd.V_drew HO_1.out)
                                  have n2_ := Aside0.mk (Kd.S_drew HO_5.out)
                                  have n3_ := Aside0.mk (below_drew1 HB.out)
                                  clear HO_0
                                  clear HO_1
                                  clear HO_5
                                  clear HB
                                  have HO_0 := n0_
                                  have HO_1 := n1_
                                  have HO_5 := n2_
                                  have HB := n3_
                                  clear n0_ n1_ n2_ n3_
                                  obtain ⟨Ao59, co59, eo59⟩ := Kd.V_slice HO_0.out
                                  (first | subst eo59 | (injection eo59 with f1_ f2_ f3_; have f4_ := f1_.symm; have f5_ := f3_.symm; clear f1_ f2_ f3_; subst f4_; subst f5_))
                                  have p298 : 0 ≤ (0 : Int) := (by omega)
                                  have q298 : 0 < (x0_2.length : Int) := of_decide_eq_true Sh.A
                                  obtain ⟨ad298, A298_0, c298_0, A298_1, c298_1, e298, hx298_0, hx298_1, hl298_0, hi298_0, hl298_1, hi298_1⟩ := at_T37 (Kd.V_reads' HO_0.out).2.2 0 p298 q298
                                  cases e298
                                  obtain ⟨ce298, hce298, hMe298, hcc298⟩ := Kd.V_get HO_0.out z37 0 p298 (by first | exact q298 | exact of_decide_eq_true Sh.A | (have e_ := (Kd.V_reads' HO_0.out).1; omega))
                                  obtain ⟨ua298_0, uc298_0, ua298_1, uc298_1, rfl, ul298_0, ge298_0, ul298_1, ge298_1⟩ := k37_openF hMe298
                                  have hv298_0 := hcc298 0 _ rfl
                                  rw [Nat.add_zero] at hv298_0
                                  replace hv298_0 := Option.some.inj (hv298_0.symm.trans hx298_0)
                                  injection hv298_0 with hva_ hvn_ hvc_
                                  rw [hva_] at ge298_0
                                  rw [hvc_] at ul298_0
                                  have HL298_0 := Aside0.mk (show Kd.V (Kd.int .u8) 5 _ w.heap.size _ _ ((rd_T37 x0_2 0).f0) from Kd.V_mk ul298_0 ge298_0)
                                  clear hva_ hvn_ hvc_ ge298_0 ul298_0
                                  have hv298_1 := hcc298 1 _ rfl
                                  rw [add_field _ _ 1 (by omega)] at hv298_1
                                  replace hv298_1 := Option.some.inj (hv298_1.symm.trans hx298_1)
                                  injection hv298_1 with hva_ hvn_ hvc_
                                  rw [hva_] at ge298_1
                                  rw [hvc_] at ul298_1
                                  have HL298_1 := Aside0.mk (show Kd.V (Kd.int .u8) 5 _ w.heap.size _ _ ((rd_T37 x0_2 0).f1) from Kd.V_mk ul298_1 ge298_1)
                                  clear hva_ hvn_ hvc_ ge298_1 ul298_1
                                  clear hcc298 hce298
                                  have qi298 : (0 < x0_2.length) = True := eq_true (by omega)
                                  (try rw [show ((0 : Int)).toNat = 0 from rfl] at hx298_0)
                                  (try rw [show 0 * 2 = 0 from rfl] at hx298_0)
                                  (try rw [Addr.add_zero'] at hx298_0)
                                  (try rw [show ((0 : Int)).toNat = 0 from rfl] at hx298_1)
                                  (try rw [show 0 * 2 = 0 from rfl] at hx298_1)
                                  (try rw [Addr.add_zero'] at hx298_1)
                                  have HR298_0 := Aside0.mk hi298_0
                                  have HC298_0 := Aside0.mk hl298_0
                                  clear hi298_0 hl298_0
                                  have HR298_1 := Aside0.mk hi298_1
                                  have HC298_1 := Aside0.mk hl298_1
                                  clear hi298_1 hl298_1
                                  replace p298 := eq_true p298
                                  replace q298 := eq_true q298
                                  obtain ⟨Ao60, co60, eo60⟩ := Kd.V_slice HO_1.out
                                  (first | subst eo60 | (injection eo60 with f1_ f2_ f3_; have f4_ := f1_.symm; have f5_ := f3_.symm; clear f1_ f2_ f3_; subst f4_; subst f5_))
                                  have p299 : 0 ≤ (0 : Int) := (by omega)
                                  have q299 : 0 < (x1_2.length : Int) := of_decide_eq_true Sh.A
                                  obtain ⟨ad299, A299_0, c299_0, A299_1, c299_1, e299, hx299_0, hx299_1, hl299_0, hi299_0, hl299_1, hi299_1⟩ := at_T37 (Kd.V_reads' HO_1.out).2.2 0 p299 q299
                                  cases e299
                                  obtain ⟨ce299, hce299, hMe299, hcc299⟩ := Kd.V_get HO_1.out z37 0 p299 (by first | exact q299 | exact of_decide_eq_true Sh.A | (have e_ := (Kd.V_reads' HO_1.out).1; omega))
                                  obtain ⟨ua299_0, uc299_0, ua299_1, uc299_1, rfl, ul299_0, ge299_0, ul299_1, ge299_1⟩ := k37_openF hMe299
                                  have hv299_0 := hcc299 0 _ rfl
                                  rw [Nat.add_zero] at hv299_0
                                  replace hv299_0 := Option.some.inj (hv299_0.symm.trans hx299_0)
                                  injection hv299_0 with hva_ hvn_ hvc_
                                  rw [hva_] at ge299_0
                                  rw [hvc_] at ul299_0
                                  have HL299_0 := Aside0.mk (show Kd.V (Kd.int .u8) 5 _ w.heap.size _ _ ((rd_T37 x1_2 0).f0) from Kd.V_mk ul299_0 ge299_0)
                                  clear hva_ hvn_ hvc_ ge299_0 ul299_0
                                  have hv299_1 := hcc299 1 _ rfl
                                  rw [add_field _ _ 1 (by omega)] at hv299_1
                                  replace hv299_1 := Option.some.inj (hv299_1.symm.trans hx299_1)
                                  injection hv299_1 with hva_ hvn_ hvc_
                                  rw [hva_] at ge299_1
                                  rw [hvc_] at ul299_1
                                  have HL299_1 := Aside0.mk (show Kd.V (Kd.int .u8) 5 _ w.heap.size _ _ ((rd_T37 x1_2 0).f1) from Kd.V_mk ul299_1 ge299_1)
                                  clear hva_ hvn_ hvc_ ge299_1 ul299_1
                                  clear hcc299 hce299
                                  have qi299 : (0 < x1_2.length) = True := eq_true (by omega)
                                  (try rw [show ((0 : Int)).toNat = 0 from rfl] at hx299_0)
                                  (try rw [show 0 * 2 = 0 from rfl] at hx299_0)
                                  (try rw [Addr.add_zero'] at hx299_0)
                                  (try rw [show ((0 : Int)).toNat = 0 from rfl] at hx299_1)
                                  (try rw [show 0 * 2 = 0 from rfl] at hx299_1)
                                  (try rw [Addr.add_zero'] at hx299_1)
                                  have HR299_0 := Aside0.mk hi299_0
                                  have HC299_0 := Aside0.mk hl299_0
                                  clear hi299_0 hl299_0
                                  have HR299_1 := Aside0.mk hi299_1
                                  have HC299_1 := Aside0.mk hl299_1
                                  clear hi299_1 hl299_1
                                  replace p299 := eq_true p299
                                  replace q299 := eq_true q299
                                  refine start_ (n := 11) (S := fun w' => w'.cell? ad298 = some (.slice A298_0 ((rd_T37 x0_2 0).f0).length c298_0) ∧ w'.cell? ⟨ad298.block, ad298.off + 1, none⟩ = some (.slice A298_1 ((rd_T37 x0_2 0).f1).length c298_1) ∧ w'.cell? ad299 = some (.slice A299_0 ((rd_T37 x1_2 0).f0).length c299_0) ∧ w'.cell? ⟨ad299.block, ad299.off + 1, none⟩ = some (.slice A299_1 ((rd_T37 x1_2 0).f1).length c299_1)) (ds := []) #[false, false, false, false, false, false, false, false, false, false, false] (by kernel_rfl) rfl rfl ⟨hx298_0, hx298_1, hx299_0, hx299_1⟩ (fun hHeld => ?_); refine with_tabW delta_Turns.tab16 delta_Turns.bits16 (fun HT_ HW_ => ?_)
                                  generalize wc.drew = w58 at HO_0 HO_1 HO_5 HB HL298_0 HL298_1 HL299_0 HL299_1 HR298_0 HR298_1 HR299_0 HR299_1 hx298_0 hx298_1 hx299_0 hx299_1 hHeld ⊢
                                  refine pure_ (i := 0) (N := some 73) (v := ?_) (a' := ?_) #[true, false, false, false, false, false, false, false, false, false, false] rfl rfl (any_of HT_.out (by kernel_rfl)) (fun _ _ _ h => h) (Or.inl ⟨by rfl, ?_⟩) ?_ ?_
                                  rotate_left
                                  · intro w'
                                    go_simp
                                    with_reducible rfl
                                  rotate_left
                                  · simp only [Act.put, List.setIfInBounds_toArray, List.set_cons_zero, List.set_cons_succ, i64_w, i32_w]
                                    rfl
                                  refine pure_ (i := 1) (N := some 74) (v := ?_) (a' := ?_) #[true, true, false, false, false, false, false, false, false, false, false] rfl rfl (any_of HT_.out (by kernel_rfl)) (fun _ _ _ h => h) (Or.inl ⟨by rfl, ?_⟩) ?_ ?_
                                  rotate_left
                                  · intro w'
                                    go_simp
                                    with_reducible rfl
                                  rotate_left
                                  · simp only [Act.put, List.setIfInBounds_toArray, List.set_cons_zero, List.set_cons_succ, i64_w, i32_w]
                                    rfl
                                  refine pure_ (i := 2) (N := some 75) (v := ?_) (a' := ?_) #[true, true, true, false, false, false, false, false, false, false, false] rfl rfl (any_of HT_.out (by kernel_rfl)) (fun _ _ _ h => h) (Or.inl ⟨by rfl, ?_⟩) ?_ ?_
                                  rotate_left
                                  · intro w'
                                    go_simp
                                    with_reducible rfl
                                  rotate_left
                                  · simp only [Act.put, List.setIfInBounds_toArray, List.set_cons_zero, List.set_cons_succ, i64_w, i32_w]
                                    rfl
                                  refine pure_ (i := 4) (N := some 77) (v := ?_) (a' := ?_) #[true, true, true, false, true, false, false, false, false, false, false] rfl rfl (any_of HT_.out (by kernel_rfl)) (fun _ _ _ h => h) (Or.inl ⟨by rfl, ?_⟩) ?_ ?_
                                  rotate_left
                                  · intro w'
                                    go_simp
                                    with_reducible rfl
                                  rotate_left
                                  · simp only [Act.put, List.setIfInBounds_toArray, List.set_cons_zero, List.set_cons_succ, i64_w, i32_w]
                                    rfl
                                  refine pure_ (i := 5) (N := some 78) (v := ?_) (a' := ?_) #[true, true, true, false, true, true, false, false, false, false, false] rfl rfl (any_of HT_.out (by kernel_rfl)) (fun _ _ _ h => h) (Or.inl ⟨by rfl, ?_⟩) ?_ ?_
                                  rotate_left
                                  · intro w'
                                    go_simp
                                    with_reducible rfl
                                  rotate_left
                                  · simp only [Act.put, List.setIfInBounds_toArray, List.set_cons_zero, List.set_cons_succ, i64_w, i32_w]
                                    rfl
                                  refine pure_ (i := 6) (N := some 79) (v := ?_) (a' := ?_) #[true, true, true, false, true, true, true, false, false, false, false] rfl rfl (any_of HT_.out (by kernel_rfl)) (fun _ _ _ h => h) (Or.inl ⟨by rfl, ?_⟩) ?_ ?_
                                  rotate_left
                                  · intro w'
                                    go_simp
                                    with_reducible rfl
                                  rotate_left
                                  · simp only [Act.put, List.setIfInBounds_toArray, List.set_cons_zero, List.set_cons_succ, i64_w, i32_w]
                                    rfl
                                  refine take_ (i := 3) (N := some 76) (v := ?_) (a' := ?_) #[true, true, true, true, true, true, true, false, false, false, false] rfl rfl (take_ofW HT_.out HW_.out (by kernel_rfl)) (fun _ _ _ h => h) (Or.inl ⟨by rfl, ?_⟩) hHeld ?_ ?_
                                  rotate_left
                                  · rintro w' ⟨s0, s1, s2, s3⟩
                                    go_simp
                                    with_reducible rfl
                                  rotate_left
                                  · simp only [Act.put, List.setIfInBounds_toArray, List.set_cons_zero, List.set_cons_succ, i64_w, i32_w]
                                    rfl
                                  refine take_ (i := 7) (N := some 80) (v := ?_) (a' := ?_) #[true, true, true, true, true, true, true, true, false, false, false] rfl rfl (take_ofW HT_.out HW_.out (by kernel_rfl)) (fun _ _ _ h => h) (Or.inl ⟨by rfl, ?_⟩) hHeld ?_ ?_
                                  rotate_left
                                  · rintro w' ⟨s0, s1, s2, s3⟩
                                    go_simp
                                    with_reducible rfl
                                  rotate_left
                                  · simp only [Act.put, List.setIfInBounds_toArray, List.set_cons_zero, List.set_cons_succ, i64_w, i32_w]
                                    rfl
                                  refine one_ (i := 8) (N := some 81) #[true, true, true, true, true, true, true, true, true, false, false] rfl rfl (one_of HT_.out (by kernel_rfl)) (by decide) (fun K hK => ?_)
                                  refine goes_ Try.func27 (by kernel_rfl) rfl #[.slice A298_1 ((rd_T37 x0_2 0).f1).length c298_1, .slice A299_1 ((rd_T37 x1_2 0).f1).length c299_1] (by rfl) rfl rfl (by (try simp only [List.map_toArray, List.map_cons, List.map_nil]); first | done | rfl | (simp only [List.length_drop, List.length_take]; rfl)) ?_
                                  with_reducible refine (bytes_Equal.calls _ _ ((rd_T37 x0_2 0).f1) _ _ ((rd_T37 x1_2 0).f1) true _ ?side1 ?side2 ?side3 ?side4 A56.out).mono ?_
                                  (case side1 => repeat (first | exact (by repeat (first | (with_reducible exact HR298_1.out) | (with_reducible refine Kd.C_alloc ?_ _) | (with_reducible refine Kd.C_drewN ?_ _) | (with_reducible refine Kd.C_drew ?_) | exact HR298_1.out)) | (with_reducible refine Kd.C_alloc ?_ _) | (with_reducible refine Kd.C_drewN ?_ _) | (with_reducible refine Kd.C_drew ?_)))
                                  (case side2 => exact HC298_1.out)
                                  (case side3 => repeat (first | exact (by repeat (first | (with_reducible exact HR299_1.out) | (with_reducible refine Kd.C_alloc ?_ _) | (with_reducible refine Kd.C_drewN ?_ _) | (with_reducible refine Kd.C_drew ?_) | exact HR299_1.out)) | (with_reducible refine Kd.C_alloc ?_ _) | (with_reducible refine Kd.C_drewN ?_ _) | (with_reducible refine Kd.C_drew ?_)))
                                  (case side4 => exact HC299_1.out)
                                  rintro e w' ⟨rfl, ⟨nd, rfl⟩⟩
                                  refine ⟨_, rfl, ?_⟩
                                  refine hK.out _ _ ⟨hHeld.1, hHeld.2.1, hHeld.2.2.1, hHeld.2.2.2⟩ (fun hHeld => ?_)
                                  clear hK K
                                  refine norm_ (a' := ?_) ?_ ?_
                                  rotate_left
                                  · show Act.put _ (some 81) _ = _
                                    simp only [Act.put, List.setIfInBounds_toArray, List.set_cons_zero, List.set_cons_succ, i64_w, i32_w]
                                    rfl
                                  refine pure_ (i := 9) (N := some 82) (v := ?_) (a' := ?_) #[true, true, true, true, true, true, true, true, true, true, false] rfl rfl (any_of HT_.out (by kernel_rfl)) (fun _ _ _ h => h) (Or.inl ⟨by rfl, ?_⟩) ?_ ?_
                                  rotate_left
                                  · intro w'
                                    go_simp
                                    with_reducible rfl
                                  rotate_left
                                  · simp only [Act.put, List.setIfInBounds_toArray, List.set_cons_zero, List.set_cons_succ, i64_w, i32_w]
                                    rfl
                                  refine pure_ (i := 10) (N := some 72) (v := ?_) (a' := ?_) #[true, true, true, true, true, true, true, true, true, true, true] rfl rfl (any_of HT_.out (by kernel_rfl)) (fun _ _ _ h => h) (Or.inl ⟨by rfl, ?_⟩) ?_ ?_
                                  rotate_left
                                  · intro w'
                                    go_simp
                                    with_reducible rfl
                                  rotate_left
                                  · simp only [Act.put, List.setIfInBounds_toArray, List.set_cons_zero, List.set_cons_succ, i64_w, i32_w]
                                    rfl
                                  refine done_ (done_of HT_.out (by kernel_rfl)) ?_
                                  try go_wp2
                                  go_meet
                                  case rel => exact ⟨_, (x0_2), (x5_2), H', ⟨by have := HJ2.out; have := HK2.out; have := HJ10.out; have := HJ16.out; first | omega | exact Nat.le_refl _⟩, ⟨by (with_reducible repeat (first | apply Kd.V_alloc | apply Kd.V_drewN | apply Kd.V_drew)); exact HO_0.out⟩, ⟨by (with_reducible repeat (first | apply Kd.V_alloc | apply Kd.V_drewN | apply Kd.V_drew)); exact HO_1.out⟩, ⟨by (with_reducible repeat (first | apply Kd.S_alloc | apply Kd.S_drewN | apply Kd.S_drew)); exact HO_5.out⟩, ⟨Sh.B⟩⟩
                                · replace c57 := Bool.eq_false_iff.mpr c57
                                  subst c57
                                  have H1 : ((delta_turn.f ((rd_T37 x0_2 0).f0) ((rd_T37 x0_2 0).f1) ((rd_T37 x1_2 0).f1)).bind fun bt304 => (if x5_2.length < 1954687338268 then (delta_Turns.j4 kj16 x0_2 x1_2 (x5_2 ++ [(⟨bt304.1, bt304.2.1, bt304.2.2⟩ : S43)]) x6_16) else (none))) = some r := by rw [if_neg (show ¬ (false = true) by decide)] at H; exact H
                                  clear H
                                  have H := H1
                                  clear H1
                                  replace H := Option.bind_eq_some_iff.mp H
                                  obtain ⟨⟨t304, t307, t310⟩, A610, H⟩ := H
                                  replace H : (if x5_2.length < 1954687338268 then (delta_Turns.j4 kj16 x0_2 x1_2 (x5_2 ++ [(⟨t304, t307, t310⟩ : S43)]) x6_16) else (none)) = some r := H
                                  have A61 := Aside0.mk A610
                                  clear A610
                                  by_cases c62 : x5_2.length < 1954687338268
                                  · rw [if_pos c62] at H
                                    have LMc62 := Aside0.mk c62
                                    clear c62
                                    obtain ⟨y313, hy313⟩ : ∃ y_ : List (S43), y_ = (x5_2 ++ [(⟨t304, t307, t310⟩ : S43)]) := ⟨_, rfl⟩
                                    replace H : (delta_Turns.j4 kj16 x0_2 x1_2 y313 x6_16) = some r := by first | (rw [hy313]; with_reducible exact H) | (have H2_ := (Option.bind_some _ _).symm.trans H; rw [hy313]; with_reducible exact H2_) | (have H2_ := (Option.bind_some _ _).symm.trans H; with_reducible exact H2_) | with_reducible exact H | (rw [hy313]; exact H) | exact H
                                    have Ny313 := Aside0.mk hy313
                                    clear hy313
                                    have H' := Aside0.mk H
                                    clear H
                                    try go_wp2
                                    have n0_ := Aside0.mk (Kd.V_drew HO_0.out)
                                    have n1_ := Aside0.mk (Kd.V_drew HO_1.out)
                                    have n2_ := Aside0.mk (Kd.S_drew HO_5.out)
                                    have n3_ := Aside0.mk (below_drew1 HB.out)
                                    clear HO_0
                                    clear HO_1
                                    clear HO_5
                                    clear HB
                                    have HO_0 := n0_
                                    have HO_1 := n1_
                                    have HO_5 := n2_
                                    have HB := n3_
                                    clear n0_ n1_ n2_ n3_
                                    obtain ⟨Ao64, co64, eo64⟩ := Kd.V_slice HO_0.out
                                    (first | subst eo64 | (injection eo64 with f1_ f2_ f3_; have f4_ := f1_.symm; have f5_ := f3_.symm; clear f1_ f2_ f3_; subst f4_; subst f5_))
                                    have p298 : 0 ≤ (0 : Int) := (by omega)
                                    have q298 : 0 < (x0_2.length : Int) := of_decide_eq_true Sh.A
                                    obtain ⟨ad298, A298_0, c298_0, A298_1, c298_1, e298, hx298_0, hx298_1, hl298_0, hi298_0, hl298_1, hi298_1⟩ := at_T37 (Kd.V_reads' HO_0.out).2.2 0 p298 q298
                                    cases e298
                                    obtain ⟨ce298, hce298, hMe298, hcc298⟩ := Kd.V_get HO_0.out z37 0 p298 (by first | exact q298 | exact of_decide_eq_true Sh.A | (have e_ := (Kd.V_reads' HO_0.out).1; omega))
                                    obtain ⟨ua298_0, uc298_0, ua298_1, uc298_1, rfl, ul298_0, ge298_0, ul298_1, ge298_1⟩ := k37_openF hMe298
                                    have hv298_0 := hcc298 0 _ rfl
                                    rw [Nat.add_zero] at hv298_0
                                    replace hv298_0 := Option.some.inj (hv298_0.symm.trans hx298_0)
                                    injection hv298_0 with hva_ hvn_ hvc_
                                    rw [hva_] at ge298_0
                                    rw [hvc_] at ul298_0
                                    have HL298_0 := Aside0.mk (show Kd.V (Kd.int .u8) 5 _ w.heap.size _ _ ((rd_T37 x0_2 0).f0) from Kd.V_mk ul298_0 ge298_0)
                                    clear hva_ hvn_ hvc_ ge298_0 ul298_0
                                    have hv298_1 := hcc298 1 _ rfl
                                    rw [add_field _ _ 1 (by omega)] at hv298_1
                                    replace hv298_1 := Option.some.inj (hv298_1.symm.trans hx298_1)
                                    injection hv298_1 with hva_ hvn_ hvc_
                                    rw [hva_] at ge298_1
                                    rw [hvc_] at ul298_1
                                    have HL298_1 := Aside0.mk (show Kd.V (Kd.int .u8) 5 _ w.heap.size _ _ ((rd_T37 x0_2 0).f1) from Kd.V_mk ul298_1 ge298_1)
                                    clear hva_ hvn_ hvc_ ge298_1 ul298_1
                                    clear hcc298 hce298
                                    have qi298 : (0 < x0_2.length) = True := eq_true (by omega)
                                    (try rw [show ((0 : Int)).toNat = 0 from rfl] at hx298_0)
                                    (try rw [show 0 * 2 = 0 from rfl] at hx298_0)
                                    (try rw [Addr.add_zero'] at hx298_0)
                                    (try rw [show ((0 : Int)).toNat = 0 from rfl] at hx298_1)
                                    (try rw [show 0 * 2 = 0 from rfl] at hx298_1)
                                    (try rw [Addr.add_zero'] at hx298_1)
                                    have HR298_0 := Aside0.mk hi298_0
                                    have HC298_0 := Aside0.mk hl298_0
                                    clear hi298_0 hl298_0
                                    have HR298_1 := Aside0.mk hi298_1
                                    have HC298_1 := Aside0.mk hl298_1
                                    clear hi298_1 hl298_1
                                    replace p298 := eq_true p298
                                    replace q298 := eq_true q298
                                    obtain ⟨Ao65, co65, eo65⟩ := Kd.V_slice HO_1.out
                                    (first | subst eo65 | (injection eo65 with f1_ f2_ f3_; have f4_ := f1_.symm; have f5_ := f3_.symm; clear f1_ f2_ f3_; subst f4_; subst f5_))
                                    have p299 : 0 ≤ (0 : Int) := (by omega)
                                    have q299 : 0 < (x1_2.length : Int) := of_decide_eq_true Sh.A
                                    obtain ⟨ad299, A299_0, c299_0, A299_1, c299_1, e299, hx299_0, hx299_1, hl299_0, hi299_0, hl299_1, hi299_1⟩ := at_T37 (Kd.V_reads' HO_1.out).2.2 0 p299 q299
                                    cases e299
                                    obtain ⟨ce299, hce299, hMe299, hcc299⟩ := Kd.V_get HO_1.out z37 0 p299 (by first | exact q299 | exact of_decide_eq_true Sh.A | (have e_ := (Kd.V_reads' HO_1.out).1; omega))
                                    obtain ⟨ua299_0, uc299_0, ua299_1, uc299_1, rfl, ul299_0, ge299_0, ul299_1, ge299_1⟩ := k37_openF hMe299
                                    have hv299_0 := hcc299 0 _ rfl
                                    rw [Nat.add_zero] at hv299_0
                                    replace hv299_0 := Option.some.inj (hv299_0.symm.trans hx299_0)
                                    injection hv299_0 with hva_ hvn_ hvc_
                                    rw [hva_] at ge299_0
                                    rw [hvc_] at ul299_0
                                    have HL299_0 := Aside0.mk (show Kd.V (Kd.int .u8) 5 _ w.heap.size _ _ ((rd_T37 x1_2 0).f0) from Kd.V_mk ul299_0 ge299_0)
                                    clear hva_ hvn_ hvc_ ge299_0 ul299_0
                                    have hv299_1 := hcc299 1 _ rfl
                                    rw [add_field _ _ 1 (by omega)] at hv299_1
                                    replace hv299_1 := Option.some.inj (hv299_1.symm.trans hx299_1)
                                    injection hv299_1 with hva_ hvn_ hvc_
                                    rw [hva_] at ge299_1
                                    rw [hvc_] at ul299_1
                                    have HL299_1 := Aside0.mk (show Kd.V (Kd.int .u8) 5 _ w.heap.size _ _ ((rd_T37 x1_2 0).f1) from Kd.V_mk ul299_1 ge299_1)
                                    clear hva_ hvn_ hvc_ ge299_1 ul299_1
                                    clear hcc299 hce299
                                    have qi299 : (0 < x1_2.length) = True := eq_true (by omega)
                                    (try rw [show ((0 : Int)).toNat = 0 from rfl] at hx299_0)
                                    (try rw [show 0 * 2 = 0 from rfl] at hx299_0)
                                    (try rw [Addr.add_zero'] at hx299_0)
                                    (try rw [show ((0 : Int)).toNat = 0 from rfl] at hx299_1)
                                    (try rw [show 0 * 2 = 0 from rfl] at hx299_1)
                                    (try rw [Addr.add_zero'] at hx299_1)
                                    have HR299_0 := Aside0.mk hi299_0
                                    have HC299_0 := Aside0.mk hl299_0
                                    clear hi299_0 hl299_0
                                    have HR299_1 := Aside0.mk hi299_1
                                    have HC299_1 := Aside0.mk hl299_1
                                    clear hi299_1 hl299_1
                                    replace p299 := eq_true p299
                                    replace q299 := eq_true q299
                                    refine start_ (n := 11) (S := fun w' => w'.cell? ad298 = some (.slice A298_0 ((rd_T37 x0_2 0).f0).length c298_0) ∧ w'.cell? ⟨ad298.block, ad298.off + 1, none⟩ = some (.slice A298_1 ((rd_T37 x0_2 0).f1).length c298_1) ∧ w'.cell? ad299 = some (.slice A299_0 ((rd_T37 x1_2 0).f0).length c299_0) ∧ w'.cell? ⟨ad299.block, ad299.off + 1, none⟩ = some (.slice A299_1 ((rd_T37 x1_2 0).f1).length c299_1)) (ds := []) #[false, false, false, false, false, false, false, false, false, false, false] (by kernel_rfl) rfl rfl ⟨hx298_0, hx298_1, hx299_0, hx299_1⟩ (fun hHeld => ?_); refine with_tabW delta_Turns.tab16 delta_Turns.bits16 (fun HT_ HW_ => ?_)
                                    generalize wc.drew = w63 at HO_0 HO_1 HO_5 HB HL298_0 HL298_1 HL299_0 HL299_1 HR298_0 HR298_1 HR299_0 HR299_1 hx298_0 hx298_1 hx299_0 hx299_1 hHeld ⊢
                                    refine pure_ (i := 0) (N := some 73) (v := ?_) (a' := ?_) #[true, false, false, false, false, false, false, false, false, false, false] rfl rfl (any_of HT_.out (by kernel_rfl)) (fun _ _ _ h => h) (Or.inl ⟨by rfl, ?_⟩) ?_ ?_
                                    rotate_left
                                    · intro w'
                                      go_simp
                                      with_reducible rfl
                                    rotate_left
                                    · simp only [Act.put, List.setIfInBounds_toArray, List.set_cons_zero, List.set_cons_succ, i64_w, i32_w]
                                      rfl
                                    refine pure_ (i := 1) (N := some 74) (v := ?_) (a' := ?_) #[true, true, false, false, false, false, false, false, false, false, false] rfl rfl (any_of HT_.out (by kernel_rfl)) (fun _ _ _ h => h) (Or.inl ⟨by rfl, ?_⟩) ?_ ?_
                                    rotate_left
                                    · intro w'
                                      go_simp
                                      with_reducible rfl
                                    rotate_left
                                    · simp only [Act.put, List.setIfInBounds_toArray, List.set_cons_zero, List.set_cons_succ, i64_w, i32_w]
                                      rfl
                                    refine pure_ (i := 2) (N := some 75) (v := ?_) (a' := ?_) #[true, true, true, false, false, false, false, false, false, false, false] rfl rfl (any_of HT_.out (by kernel_rfl)) (fun _ _ _ h => h) (Or.inl ⟨by rfl, ?_⟩) ?_ ?_
                                    rotate_left
                                    · intro w'
                                      go_simp
                                      with_reducible rfl
                                    rotate_left
                                    · simp only [Act.put, List.setIfInBounds_toArray, List.set_cons_zero, List.set_cons_succ, i64_w, i32_w]
                                      rfl
                                    refine pure_ (i := 4) (N := some 77) (v := ?_) (a' := ?_) #[true, true, true, false, true, false, false, false, false, false, false] rfl rfl (any_of HT_.out (by kernel_rfl)) (fun _ _ _ h => h) (Or.inl ⟨by rfl, ?_⟩) ?_ ?_
                                    rotate_left
                                    · intro w'
                                      go_simp
                                      with_reducible rfl
                                    rotate_left
                                    · simp only [Act.put, List.setIfInBounds_toArray, List.set_cons_zero, List.set_cons_succ, i64_w, i32_w]
                                      rfl
                                    refine pure_ (i := 5) (N := some 78) (v := ?_) (a' := ?_) #[true, true, true, false, true, true, false, false, false, false, false] rfl rfl (any_of HT_.out (by kernel_rfl)) (fun _ _ _ h => h) (Or.inl ⟨by rfl, ?_⟩) ?_ ?_
                                    rotate_left
                                    · intro w'
                                      go_simp
                                      with_reducible rfl
                                    rotate_left
                                    · simp only [Act.put, List.setIfInBounds_toArray, List.set_cons_zero, List.set_cons_succ, i64_w, i32_w]
                                      rfl
                                    refine pure_ (i := 6) (N := some 79) (v := ?_) (a' := ?_) #[true, true, true, false, true, true, true, false, false, false, false] rfl rfl (any_of HT_.out (by kernel_rfl)) (fun _ _ _ h => h) (Or.inl ⟨by rfl, ?_⟩) ?_ ?_
                                    rotate_left
                                    · intro w'
                                      go_simp
                                      with_reducible rfl
                                    rotate_left
                                    · simp only [Act.put, List.setIfInBounds_toArray, List.set_cons_zero, List.set_cons_succ, i64_w, i32_w]
                                      rfl
                                    refine take_ (i := 3) (N := some 76) (v := ?_) (a' := ?_) #[true, true, true, true, true, true, true, false, false, false, false] rfl rfl (take_ofW HT_.out HW_.out (by kernel_rfl)) (fun _ _ _ h => h) (Or.inl ⟨by rfl, ?_⟩) hHeld ?_ ?_
                                    rotate_left
                                    · rintro w' ⟨s0, s1, s2, s3⟩
                                      go_simp
                                      with_reducible rfl
                                    rotate_left
                                    · simp only [Act.put, List.setIfInBounds_toArray, List.set_cons_zero, List.set_cons_succ, i64_w, i32_w]
                                      rfl
                                    refine take_ (i := 7) (N := some 80) (v := ?_) (a' := ?_) #[true, true, true, true, true, true, true, true, false, false, false] rfl rfl (take_ofW HT_.out HW_.out (by kernel_rfl)) (fun _ _ _ h => h) (Or.inl ⟨by rfl, ?_⟩) hHeld ?_ ?_
                                    rotate_left
                                    · rintro w' ⟨s0, s1, s2, s3⟩
                                      go_simp
                                      with_reducible rfl
                                    rotate_left
                                    · simp only [Act.put, List.setIfInBounds_toArray, List.set_cons_zero, List.set_cons_succ, i64_w, i32_w]
                                      rfl
                                    refine one_ (i := 8) (N := some 81) #[true, true, true, true, true, true, true, true, true, false, false] rfl rfl (one_of HT_.out (by kernel_rfl)) (by decide) (fun K hK => ?_)
                                    refine goes_ Try.func27 (by kernel_rfl) rfl #[.slice A298_1 ((rd_T37 x0_2 0).f1).length c298_1, .slice A299_1 ((rd_T37 x1_2 0).f1).length c299_1] (by rfl) rfl rfl (by (try simp only [List.map_toArray, List.map_cons, List.map_nil]); first | done | rfl | (simp only [List.length_drop, List.length_take]; rfl)) ?_
                                    with_reducible refine (bytes_Equal.calls _ _ ((rd_T37 x0_2 0).f1) _ _ ((rd_T37 x1_2 0).f1) false _ ?side1 ?side2 ?side3 ?side4 A56.out).mono ?_
                                    (case side1 => repeat (first | exact (by repeat (first | (with_reducible exact HR298_1.out) | (with_reducible refine Kd.C_alloc ?_ _) | (with_reducible refine Kd.C_drewN ?_ _) | (with_reducible refine Kd.C_drew ?_) | exact HR298_1.out)) | (with_reducible refine Kd.C_alloc ?_ _) | (with_reducible refine Kd.C_drewN ?_ _) | (with_reducible refine Kd.C_drew ?_)))
                                    (case side2 => exact HC298_1.out)
                                    (case side3 => repeat (first | exact (by repeat (first | (with_reducible exact HR299_1.out) | (with_reducible refine Kd.C_alloc ?_ _) | (with_reducible refine Kd.C_drewN ?_ _) | (with_reducible refine Kd.C_drew ?_) | exact HR299_1.out)) | (with_reducible refine Kd.C_alloc ?_ _) | (with_reducible refine Kd.C_drewN ?_ _) | (with_reducible refine Kd.C_drew ?_)))
                                    (case side4 => exact HC299_1.out)
                                    rintro e w' ⟨rfl, ⟨nd, rfl⟩⟩
                                    refine ⟨_, rfl, ?_⟩
                                    refine hK.out _ _ ⟨hHeld.1, hHeld.2.1, hHeld.2.2.1, hHeld.2.2.2⟩ (fun hHeld => ?_)
                                    clear hK K
                                    refine norm_ (a' := ?_) ?_ ?_
                                    rotate_left
                                    · show Act.put _ (some 81) _ = _
                                      simp only [Act.put, List.setIfInBounds_toArray, List.set_cons_zero, List.set_cons_succ, i64_w, i32_w]
                                      rfl
                                    refine pure_ (i := 9) (N := some 82) (v := ?_) (a' := ?_) #[true, true, true, true, true, true, true, true, true, true, false] rfl rfl (any_of HT_.out (by kernel_rfl)) (fun _ _ _ h => h) (Or.inl ⟨by rfl, ?_⟩) ?_ ?_
                                    rotate_left
                                    · intro w'
                                      go_simp
                                      with_reducible rfl
                                    rotate_left
                                    · simp only [Act.put, List.setIfInBounds_toArray, List.set_cons_zero, List.set_cons_succ, i64_w, i32_w]
                                      rfl
                                    refine pure_ (i := 10) (N := some 72) (v := ?_) (a' := ?_) #[true, true, true, true, true, true, true, true, true, true, true] rfl rfl (any_of HT_.out (by kernel_rfl)) (fun _ _ _ h => h) (Or.inl ⟨by rfl, ?_⟩) ?_ ?_
                                    rotate_left
                                    · intro w'
                                      go_simp
                                      with_reducible rfl
                                    rotate_left
                                    · simp only [Act.put, List.setIfInBounds_toArray, List.set_cons_zero, List.set_cons_succ, i64_w, i32_w]
                                      rfl
                                    refine done_ (done_of HT_.out (by kernel_rfl)) ?_
                                    try go_wp2
                                    (try (rw [drewN_self w63]; generalize hq_ : World.drewN w63 _ = w63; have n0_ : Aside0 (Kd.V (Kd.int .u8) 5 w63 w.heap.size (fun k_ => ((P0_ k_ ∨ P1_ k_) ∨ w.heap.size ≤ k_) ∧ some k_ ≠ (u5 : Value).ownBlock) (.slice A298_0 ((rd_T37 x0_2 0).f0).length c298_0) ((rd_T37 x0_2 0).f0)) := ⟨by rw [← hq_]; exact (by (with_reducible repeat (first | apply Kd.V_alloc | apply Kd.V_drewN | apply Kd.V_drew)); exact HL298_0.out)⟩; have n1_ : Aside0 (Kd.V (Kd.int .u8) 5 w63 w.heap.size (fun k_ => ((P0_ k_ ∨ P1_ k_) ∨ w.heap.size ≤ k_) ∧ some k_ ≠ (u5 : Value).ownBlock) (.slice A298_1 ((rd_T37 x0_2 0).f1).length c298_1) ((rd_T37 x0_2 0).f1)) := ⟨by rw [← hq_]; exact (by (with_reducible repeat (first | apply Kd.V_alloc | apply Kd.V_drewN | apply Kd.V_drew)); exact HL298_1.out)⟩; have n2_ : Aside0 (Kd.V (Kd.int .u8) 5 w63 w.heap.size (fun k_ => ((P0_ k_ ∨ P1_ k_) ∨ w.heap.size ≤ k_) ∧ some k_ ≠ (u5 : Value).ownBlock) (.slice A299_0 ((rd_T37 x1_2 0).f0).length c299_0) ((rd_T37 x1_2 0).f0)) := ⟨by rw [← hq_]; exact (by (with_reducible repeat (first | apply Kd.V_alloc | apply Kd.V_drewN | apply Kd.V_drew)); exact HL299_0.out)⟩; have n3_ : Aside0 (Kd.V (Kd.int .u8) 5 w63 w.heap.size (fun k_ => ((P0_ k_ ∨ P1_ k_) ∨ w.heap.size ≤ k_) ∧ some k_ ≠ (u5 : Value).ownBlock) (.slice A299_1 ((rd_T37 x1_2 0).f1).length c299_1) ((rd_T37 x1_2 0).f1)) := ⟨by rw [← hq_]; exact (by (with_reducible repeat (first | apply Kd.V_alloc | apply Kd.V_drewN | apply Kd.V_drew)); exact HL299_1.out)⟩; have n4_ : Aside0 (Kd.V k37 37 w63 w.heap.size (fun k_ => ((P0_ k_ ∨ P1_ k_) ∨ w.heap.size ≤ k_) ∧ some k_ ≠ (u5 : Value).ownBlock) (.slice (some ad298) x0_2.length co64) x0_2) := ⟨by rw [← hq_]; exact (by (with_reducible repeat (first | apply Kd.V_alloc | apply Kd.V_drewN | apply Kd.V_drew)); exact HO_0.out)⟩; have n5_ : Aside0 (Kd.V k37 37 w63 w.heap.size (fun k_ => ((P0_ k_ ∨ P1_ k_) ∨ w.heap.size ≤ k_) ∧ some k_ ≠ (u5 : Value).ownBlock) (.slice (some ad299) x1_2.length co65) x1_2) := ⟨by rw [← hq_]; exact (by (with_reducible repeat (first | apply Kd.V_alloc | apply Kd.V_drewN | apply Kd.V_drew)); exact HO_1.out)⟩; have n6_ : Aside0 (Kd.S k43 43 w63 w.heap.size (fun k_ => (w.heap.size ≤ k_)) u5 x5_2) := ⟨by rw [← hq_]; exact (by (with_reducible repeat (first | apply Kd.S_alloc | apply Kd.S_drewN | apply Kd.S_drew)); exact HO_5.out)⟩; have n7_ : Aside0 (Below w.heap.size w w63) := ⟨by rw [← hq_]; exact Sh.B⟩; have n8_ : Aside0 (Kd.C (Kd.int .u8) w63 A298_0 ((rd_T37 x0_2 0).f0).length ((rd_T37 x0_2 0).f0)) := ⟨by rw [← hq_]; exact (by repeat (first | (with_reducible exact HR298_0.out) | (with_reducible refine Kd.C_alloc ?_ _) | (with_reducible refine Kd.C_drewN ?_ _) | (with_reducible refine Kd.C_drew ?_) | exact HR298_0.out))⟩; have n9_ : Aside0 (Kd.C (Kd.int .u8) w63 A298_1 ((rd_T37 x0_2 0).f1).length ((rd_T37 x0_2 0).f1)) := ⟨by rw [← hq_]; exact (by repeat (first | (with_reducible exact HR298_1.out) | (with_reducible refine Kd.C_alloc ?_ _) | (with_reducible refine Kd.C_drewN ?_ _) | (with_reducible refine Kd.C_drew ?_) | exact HR298_1.out))⟩; have n10_ : Aside0 (Kd.C (Kd.int .u8) w63 A299_0 ((rd_T37 x1_2 0).f0).length ((rd_T37 x1_2 0).f0)) := ⟨by rw [← hq_]; exact (by repeat (first | (with_reducible exact HR299_0.out) | (with_reducible refine Kd.C_alloc ?_ _) | (with_reducible refine Kd.C_drewN ?_ _) | (with_reducible refine Kd.C_drew ?_) | exact HR299_0.out))⟩; have n11_ : Aside0 (Kd.C (Kd.int .u8) w63 A299_1 ((rd_T37 x1_2 0).f1).length ((rd_T37 x1_2 0).f1)) := ⟨by rw [← hq_]; exact (by repeat (first | (with_reducible exact HR299_1.out) | (with_reducible refine Kd.C_alloc ?_ _) | (with_reducible refine Kd.C_drewN ?_ _) | (with_reducible refine Kd.C_drew ?_) | exact HR299_1.out))⟩; clear HL298_0 HL298_1 HL299_0 HL299_1 HO_0 HO_1 HO_5 HB HR298_0 HR298_1 HR299_0 HR299_1 hq_; have HL298_0 := n0_; have HL298_1 := n1_; have HL299_0 := n2_; have HL299_1 := n3_; have HO_0 := n4_; have HO_1 := n5_; have HO_5 := n6_; have HB := n7_; have HR298_0 := n8_; have HR298_1 := n9_; have HR299_0 := n10_; have HR299_1 := n11_; clear n0_ n1_ n2_ n3_ n4_ n5_ n6_ n7_ n8_ n9_ n10_ n11_))
                                    have n0_ := Aside0.mk (Kd.V_drew HO_0.out)
                                    have n1_ := Aside0.mk (Kd.V_drew HO_1.out)
                                    have n2_ := Aside0.mk (Kd.S_drew HO_5.out)
                                    have n3_ := Aside0.mk (Kd.V_drew HL298_0.out)
                                    have n4_ := Aside0.mk (Kd.V_drew HL298_1.out)
                                    have n5_ := Aside0.mk (Kd.V_drew HL299_0.out)
                                    have n6_ := Aside0.mk (Kd.V_drew HL299_1.out)
                                    have n7_ := Aside0.mk (Kd.C_drew HR298_0.out)
                                    have n8_ := Aside0.mk (Kd.C_drew HR298_1.out)
                                    have n9_ := Aside0.mk (Kd.C_drew HR299_0.out)
                                    have n10_ := Aside0.mk (Kd.C_drew HR299_1.out)
                                    have n11_ := Aside0.mk (below_drew1 HB.out)
                                    clear HO_0
                                    clear HO_1
                                    clear HO_5
                                    clear HL298_0
                                    clear HL298_1
                                    clear HL299_0
                                    clear HL299_1
                                    clear HR298_0
                                    clear HR298_1
                                    clear HR299_0
                                    clear HR299_1
                                    clear HB
                                    have HO_0 := n0_
                                    have HO_1 := n1_
                                    have HO_5 := n2_
                                    have HL298_0 := n3_
                                    have HL298_1 := n4_
                                    have HL299_0 := n5_
                                    have HL299_1 := n6_
                                    have HR298_0 := n7_
                                    have HR298_1 := n8_
                                    have HR299_0 := n9_
                                    have HR299_1 := n10_
                                    have HB := n11_
                                    clear n0_ n1_ n2_ n3_ n4_ n5_ n6_ n7_ n8_ n9_ n10_ n11_
                                    have p301 : 0 ≤ (0 : Int) := (by omega)
                                    have q301 : 0 < (x0_2.length : Int) := of_decide_eq_true Sh.A
                                    obtain ⟨ad301, A301_0, c301_0, A301_1, c301_1, e301, hx301_0, hx301_1, hl301_0, hi301_0, hl301_1, hi301_1⟩ := at_T37 (Kd.V_reads' HO_0.out).2.2 0 p301 q301
                                    obtain rfl : ad298 = ad301 := (by injection e301)
                                    obtain ⟨ce301, hce301, hMe301, hcc301⟩ := Kd.V_get HO_0.out z37 0 p301 (by first | exact q301 | exact of_decide_eq_true Sh.A | (have e_ := (Kd.V_reads' HO_0.out).1; omega))
                                    obtain ⟨ua301_0, uc301_0, ua301_1, uc301_1, rfl, ul301_0, ge301_0, ul301_1, ge301_1⟩ := k37_openF hMe301
                                    have hv301_0 := hcc301 0 _ rfl
                                    rw [Nat.add_zero] at hv301_0
                                    replace hv301_0 := Option.some.inj (hv301_0.symm.trans hx301_0)
                                    injection hv301_0 with hva_ hvn_ hvc_
                                    rw [hva_] at ge301_0
                                    rw [hvc_] at ul301_0
                                    have HL301_0 := Aside0.mk (show Kd.V (Kd.int .u8) 5 _ w.heap.size _ _ ((rd_T37 x0_2 0).f0) from Kd.V_mk ul301_0 ge301_0)
                                    clear hva_ hvn_ hvc_ ge301_0 ul301_0
                                    have hv301_1 := hcc301 1 _ rfl
                                    rw [add_field _ _ 1 (by omega)] at hv301_1
                                    replace hv301_1 := Option.some.inj (hv301_1.symm.trans hx301_1)
                                    injection hv301_1 with hva_ hvn_ hvc_
                                    rw [hva_] at ge301_1
                                    rw [hvc_] at ul301_1
                                    have HL301_1 := Aside0.mk (show Kd.V (Kd.int .u8) 5 _ w.heap.size _ _ ((rd_T37 x0_2 0).f1) from Kd.V_mk ul301_1 ge301_1)
                                    clear hva_ hvn_ hvc_ ge301_1 ul301_1
                                    clear hcc301 hce301
                                    have qi301 : (0 < x0_2.length) = True := eq_true (by omega)
                                    (try rw [show ((0 : Int)).toNat = 0 from rfl] at hx301_0)
                                    (try rw [show 0 * 2 = 0 from rfl] at hx301_0)
                                    (try rw [Addr.add_zero'] at hx301_0)
                                    (try rw [show ((0 : Int)).toNat = 0 from rfl] at hx301_1)
                                    (try rw [show 0 * 2 = 0 from rfl] at hx301_1)
                                    (try rw [Addr.add_zero'] at hx301_1)
                                    have HR301_0 := Aside0.mk hi301_0
                                    have HC301_0 := Aside0.mk hl301_0
                                    clear hi301_0 hl301_0
                                    have HR301_1 := Aside0.mk hi301_1
                                    have HC301_1 := Aside0.mk hl301_1
                                    clear hi301_1 hl301_1
                                    replace p301 := eq_true p301
                                    replace q301 := eq_true q301
                                    have p302 : 0 ≤ (0 : Int) := (by omega)
                                    have q302 : 0 < (x0_2.length : Int) := of_decide_eq_true Sh.A
                                    obtain ⟨ad302, A302_0, c302_0, A302_1, c302_1, e302, hx302_0, hx302_1, hl302_0, hi302_0, hl302_1, hi302_1⟩ := at_T37 (Kd.V_reads' HO_0.out).2.2 0 p302 q302
                                    obtain rfl : ad298 = ad302 := (by injection e302)
                                    obtain ⟨ce302, hce302, hMe302, hcc302⟩ := Kd.V_get HO_0.out z37 0 p302 (by first | exact q302 | exact of_decide_eq_true Sh.A | (have e_ := (Kd.V_reads' HO_0.out).1; omega))
                                    obtain ⟨ua302_0, uc302_0, ua302_1, uc302_1, rfl, ul302_0, ge302_0, ul302_1, ge302_1⟩ := k37_openF hMe302
                                    have hv302_0 := hcc302 0 _ rfl
                                    rw [Nat.add_zero] at hv302_0
                                    replace hv302_0 := Option.some.inj (hv302_0.symm.trans hx302_0)
                                    injection hv302_0 with hva_ hvn_ hvc_
                                    rw [hva_] at ge302_0
                                    rw [hvc_] at ul302_0
                                    have HL302_0 := Aside0.mk (show Kd.V (Kd.int .u8) 5 _ w.heap.size _ _ ((rd_T37 x0_2 0).f0) from Kd.V_mk ul302_0 ge302_0)
                                    clear hva_ hvn_ hvc_ ge302_0 ul302_0
                                    have hv302_1 := hcc302 1 _ rfl
                                    rw [add_field _ _ 1 (by omega)] at hv302_1
                                    replace hv302_1 := Option.some.inj (hv302_1.symm.trans hx302_1)
                                    injection hv302_1 with hva_ hvn_ hvc_
                                    rw [hva_] at ge302_1
                                    rw [hvc_] at ul302_1
                                    have HL302_1 := Aside0.mk (show Kd.V (Kd.int .u8) 5 _ w.heap.size _ _ ((rd_T37 x0_2 0).f1) from Kd.V_mk ul302_1 ge302_1)
                                    clear hva_ hvn_ hvc_ ge302_1 ul302_1
                                    clear hcc302 hce302
                                    have qi302 : (0 < x0_2.length) = True := eq_true (by omega)
                                    (try rw [show ((0 : Int)).toNat = 0 from rfl] at hx302_0)
                                    (try rw [show 0 * 2 = 0 from rfl] at hx302_0)
                                    (try rw [Addr.add_zero'] at hx302_0)
                                    (try rw [show ((0 : Int)).toNat = 0 from rfl] at hx302_1)
                                    (try rw [show 0 * 2 = 0 from rfl] at hx302_1)
                                    (try rw [Addr.add_zero'] at hx302_1)
                                    have HR302_0 := Aside0.mk hi302_0
                                    have HC302_0 := Aside0.mk hl302_0
                                    clear hi302_0 hl302_0
                                    have HR302_1 := Aside0.mk hi302_1
                                    have HC302_1 := Aside0.mk hl302_1
                                    clear hi302_1 hl302_1
                                    replace p302 := eq_true p302
                                    replace q302 := eq_true q302
                                    have ea_ := Option.some.inj (hx301_0.symm.trans hx302_0)
                                    injection ea_ with ea_ en_ ec_
                                    subst ea_
                                    subst ec_
                                    clear en_
                                    have ea_ := Option.some.inj (hx301_1.symm.trans hx302_1)
                                    injection ea_ with ea_ en_ ec_
                                    subst ea_
                                    subst ec_
                                    clear en_
                                    have p303 : 0 ≤ (0 : Int) := (by omega)
                                    have q303 : 0 < (x1_2.length : Int) := of_decide_eq_true Sh.A
                                    obtain ⟨ad303, A303_0, c303_0, A303_1, c303_1, e303, hx303_0, hx303_1, hl303_0, hi303_0, hl303_1, hi303_1⟩ := at_T37 (Kd.V_reads' HO_1.out).2.2 0 p303 q303
                                    obtain rfl : ad299 = ad303 := (by injection e303)
                                    obtain ⟨ce303, hce303, hMe303, hcc303⟩ := Kd.V_get HO_1.out z37 0 p303 (by first | exact q303 | exact of_decide_eq_true Sh.A | (have e_ := (Kd.V_reads' HO_1.out).1; omega))
                                    obtain ⟨ua303_0, uc303_0, ua303_1, uc303_1, rfl, ul303_0, ge303_0, ul303_1, ge303_1⟩ := k37_openF hMe303
                                    have hv303_0 := hcc303 0 _ rfl
                                    rw [Nat.add_zero] at hv303_0
                                    replace hv303_0 := Option.some.inj (hv303_0.symm.trans hx303_0)
                                    injection hv303_0 with hva_ hvn_ hvc_
                                    rw [hva_] at ge303_0
                                    rw [hvc_] at ul303_0
                                    have HL303_0 := Aside0.mk (show Kd.V (Kd.int .u8) 5 _ w.heap.size _ _ ((rd_T37 x1_2 0).f0) from Kd.V_mk ul303_0 ge303_0)
                                    clear hva_ hvn_ hvc_ ge303_0 ul303_0
                                    have hv303_1 := hcc303 1 _ rfl
                                    rw [add_field _ _ 1 (by omega)] at hv303_1
                                    replace hv303_1 := Option.some.inj (hv303_1.symm.trans hx303_1)
                                    injection hv303_1 with hva_ hvn_ hvc_
                                    rw [hva_] at ge303_1
                                    rw [hvc_] at ul303_1
                                    have HL303_1 := Aside0.mk (show Kd.V (Kd.int .u8) 5 _ w.heap.size _ _ ((rd_T37 x1_2 0).f1) from Kd.V_mk ul303_1 ge303_1)
                                    clear hva_ hvn_ hvc_ ge303_1 ul303_1
                                    clear hcc303 hce303
                                    have qi303 : (0 < x1_2.length) = True := eq_true (by omega)
                                    (try rw [show ((0 : Int)).toNat = 0 from rfl] at hx303_0)
                                    (try rw [show 0 * 2 = 0 from rfl] at hx303_0)
                                    (try rw [Addr.add_zero'] at hx303_0)
                                    (try rw [show ((0 : Int)).toNat = 0 from rfl] at hx303_1)
                                    (try rw [show 0 * 2 = 0 from rfl] at hx303_1)
                                    (try rw [Addr.add_zero'] at hx303_1)
                                    have HR303_0 := Aside0.mk hi303_0
                                    have HC303_0 := Aside0.mk hl303_0
                                    clear hi303_0 hl303_0
                                    have HR303_1 := Aside0.mk hi303_1
                                    have HC303_1 := Aside0.mk hl303_1
                                    clear hi303_1 hl303_1
                                    replace p303 := eq_true p303
                                    replace q303 := eq_true q303
                                    refine start_ (n := 17) (S := fun w' => w'.cell? ad298 = some (.slice A301_0 ((rd_T37 x0_2 0).f0).length c301_0) ∧ w'.cell? ⟨ad298.block, ad298.off + 1, none⟩ = some (.slice A301_1 ((rd_T37 x0_2 0).f1).length c301_1) ∧ w'.cell? ad298 = some (.slice A301_0 ((rd_T37 x0_2 0).f0).length c301_0) ∧ w'.cell? ⟨ad298.block, ad298.off + 1, none⟩ = some (.slice A301_1 ((rd_T37 x0_2 0).f1).length c301_1) ∧ w'.cell? ad299 = some (.slice A303_0 ((rd_T37 x1_2 0).f0).length c303_0) ∧ w'.cell? ⟨ad299.block, ad299.off + 1, none⟩ = some (.slice A303_1 ((rd_T37 x1_2 0).f1).length c303_1)) (ds := [14, 15]) #[false, false, false, false, false, false, false, false, false, false, false, false, false, false, false, false, false] (by kernel_rfl) rfl rfl ⟨hx301_0, hx301_1, hx302_0, hx302_1, hx303_0, hx303_1⟩ (fun hHeld => ?_); refine with_tabW delta_Turns.tab17 delta_Turns.bits17 (fun HT_ HW_ => ?_)
                                    generalize w63.drew = w66 at HO_0 HO_1 HO_5 HL298_0 HL298_1 HL299_0 HL299_1 HR298_0 HR298_1 HR299_0 HR299_1 HB HL301_0 HL301_1 HL302_0 HL302_1 HL303_0 HL303_1 HR301_0 HR301_1 HR302_0 HR302_1 HR303_0 HR303_1 hx301_0 hx301_1 hx302_0 hx302_1 hx303_0 hx303_1 hHeld ⊢
                                    refine pure_ (i := 0) (N := some 83) (v := ?_) (a' := ?_) #[true, false, false, false, false, false, false, false, false, false, false, false, false, false, false, false, false] rfl rfl (any_of HT_.out (by kernel_rfl)) (fun _ _ _ h => h) (Or.inl ⟨by rfl, ?_⟩) ?_ ?_
                                    rotate_left
                                    · intro w'
                                      go_simp
                                      with_reducible rfl
                                    rotate_left
                                    · simp only [Act.put, List.setIfInBounds_toArray, List.set_cons_zero, List.set_cons_succ, i64_w, i32_w]
                                      rfl
                                    refine pure_ (i := 1) (N := some 84) (v := ?_) (a' := ?_) #[true, true, false, false, false, false, false, false, false, false, false, false, false, false, false, false, false] rfl rfl (any_of HT_.out (by kernel_rfl)) (fun _ _ _ h => h) (Or.inl ⟨by rfl, ?_⟩) ?_ ?_
                                    rotate_left
                                    · intro w'
                                      go_simp
                                      with_reducible rfl
                                    rotate_left
                                    · simp only [Act.put, List.setIfInBounds_toArray, List.set_cons_zero, List.set_cons_succ, i64_w, i32_w]
                                      rfl
                                    refine pure_ (i := 2) (N := some 85) (v := ?_) (a' := ?_) #[true, true, true, false, false, false, false, false, false, false, false, false, false, false, false, false, false] rfl rfl (any_of HT_.out (by kernel_rfl)) (fun _ _ _ h => h) (Or.inl ⟨by rfl, ?_⟩) ?_ ?_
                                    rotate_left
                                    · intro w'
                                      go_simp
                                      with_reducible rfl
                                    rotate_left
                                    · simp only [Act.put, List.setIfInBounds_toArray, List.set_cons_zero, List.set_cons_succ, i64_w, i32_w]
                                      rfl
                                    refine pure_ (i := 3) (N := some 86) (v := ?_) (a' := ?_) #[true, true, true, true, false, false, false, false, false, false, false, false, false, false, false, false, false] rfl rfl (any_of HT_.out (by kernel_rfl)) (fun _ _ _ h => h) (Or.inl ⟨by rfl, ?_⟩) ?_ ?_
                                    rotate_left
                                    · intro w'
                                      go_simp
                                      with_reducible rfl
                                    rotate_left
                                    · simp only [Act.put, List.setIfInBounds_toArray, List.set_cons_zero, List.set_cons_succ, i64_w, i32_w]
                                      rfl
                                    refine pure_ (i := 5) (N := some 88) (v := ?_) (a' := ?_) #[true, true, true, true, false, true, false, false, false, false, false, false, false, false, false, false, false] rfl rfl (any_of HT_.out (by kernel_rfl)) (fun _ _ _ h => h) (Or.inl ⟨by rfl, ?_⟩) ?_ ?_
                                    rotate_left
                                    · intro w'
                                      go_simp
                                      with_reducible rfl
                                    rotate_left
                                    · simp only [Act.put, List.setIfInBounds_toArray, List.set_cons_zero, List.set_cons_succ, i64_w, i32_w]
                                      rfl
                                    refine pure_ (i := 6) (N := some 89) (v := ?_) (a' := ?_) #[true, true, true, true, false, true, true, false, false, false, false, false, false, false, false, false, false] rfl rfl (any_of HT_.out (by kernel_rfl)) (fun _ _ _ h => h) (Or.inl ⟨by rfl, ?_⟩) ?_ ?_
                                    rotate_left
                                    · intro w'
                                      go_simp
                                      with_reducible rfl
                                    rotate_left
                                    · simp only [Act.put, List.setIfInBounds_toArray, List.set_cons_zero, List.set_cons_succ, i64_w, i32_w]
                                      rfl
                                    refine pure_ (i := 7) (N := some 90) (v := ?_) (a' := ?_) #[true, true, true, true, false, true, true, true, false, false, false, false, false, false, false, false, false] rfl rfl (any_of HT_.out (by kernel_rfl)) (fun _ _ _ h => h) (Or.inl ⟨by rfl, ?_⟩) ?_ ?_
                                    rotate_left
                                    · intro w'
                                      go_simp
                                      with_reducible rfl
                                    rotate_left
                                    · simp only [Act.put, List.setIfInBounds_toArray, List.set_cons_zero, List.set_cons_succ, i64_w, i32_w]
                                      rfl
                                    refine pure_ (i := 9) (N := some 92) (v := ?_) (a' := ?_) #[true, true, true, true, false, true, true, true, false, true, false, false, false, false, false, false, false] rfl rfl (any_of HT_.out (by kernel_rfl)) (fun _ _ _ h => h) (Or.inl ⟨by rfl, ?_⟩) ?_ ?_
                                    rotate_left
                                    · intro w'
                                      go_simp
                                      with_reducible rfl
                                    rotate_left
                                    · simp only [Act.put, List.setIfInBounds_toArray, List.set_cons_zero, List.set_cons_succ, i64_w, i32_w]
                                      rfl
                                    refine pure_ (i := 10) (N := some 93) (v := ?_) (a' := ?_) #[true, true, true, true, false, true, true, true, false, true, true, false, false, false, false, false, false] rfl rfl (any_of HT_.out (by kernel_rfl)) (fun _ _ _ h => h) (Or.inl ⟨by rfl, ?_⟩) ?_ ?_
                                    rotate_left
                                    · intro w'
                                      go_simp
                                      with_reducible rfl
                                    rotate_left
                                    · simp only [Act.put, List.setIfInBounds_toArray, List.set_cons_zero, List.set_cons_succ, i64_w, i32_w]
                                      rfl
                                    refine pure_ (i := 11) (N := some 94) (v := ?_) (a' := ?_) #[true, true, true, true, false, true, true, true, false, true, true, true, false, false, false, false, false] rfl rfl (any_of HT_.out (by kernel_rfl)) (fun _ _ _ h => h) (Or.inl ⟨by rfl, ?_⟩) ?_ ?_
                                    rotate_left
                                    · intro w'
                                      go_simp
                                      with_reducible rfl
                                    rotate_left
                                    · simp only [Act.put, List.setIfInBounds_toArray, List.set_cons_zero, List.set_cons_succ, i64_w, i32_w]
                                      rfl
                                    refine take_ (i := 4) (N := some 87) (v := ?_) (a' := ?_) #[true, true, true, true, true, true, true, true, false, true, true, true, false, false, false, false, false] rfl rfl (take_ofW HT_.out HW_.out (by kernel_rfl)) (fun _ _ _ h => h) (Or.inl ⟨by rfl, ?_⟩) hHeld ?_ ?_
                                    rotate_left
                                    · rintro w' ⟨s0, s1, s2, s3, s4, s5⟩
                                      go_simp
                                      with_reducible rfl
                                    rotate_left
                                    · simp only [Act.put, List.setIfInBounds_toArray, List.set_cons_zero, List.set_cons_succ, i64_w, i32_w]
                                      rfl
                                    refine take_ (i := 8) (N := some 91) (v := ?_) (a' := ?_) #[true, true, true, true, true, true, true, true, true, true, true, true, false, false, false, false, false] rfl rfl (take_ofW HT_.out HW_.out (by kernel_rfl)) (fun _ _ _ h => h) (Or.inl ⟨by rfl, ?_⟩) hHeld ?_ ?_
                                    rotate_left
                                    · rintro w' ⟨s0, s1, s2, s3, s4, s5⟩
                                      go_simp
                                      with_reducible rfl
                                    rotate_left
                                    · simp only [Act.put, List.setIfInBounds_toArray, List.set_cons_zero, List.set_cons_succ, i64_w, i32_w]
                                      rfl
                                    refine take_ (i := 12) (N := some 95) (v := ?_) (a' := ?_) #[true, true, true, true, true, true, true, true, true, true, true, true, true, false, false, false, false] rfl rfl (take_ofW HT_.out HW_.out (by kernel_rfl)) (fun _ _ _ h => h) (Or.inl ⟨by rfl, ?_⟩) hHeld ?_ ?_
                                    rotate_left
                                    · rintro w' ⟨s0, s1, s2, s3, s4, s5⟩
                                      go_simp
                                      with_reducible rfl
                                    rotate_left
                                    · simp only [Act.put, List.setIfInBounds_toArray, List.set_cons_zero, List.set_cons_succ, i64_w, i32_w]
                                      rfl
                                    refine one_ (i := 13) (N := some 96) #[true, true, true, true, true, true, true, true, true, true, true, true, true, true, false, false, false] rfl rfl (one_of HT_.out (by kernel_rfl)) (by decide) (fun K hK => ?_)
                                    refine goes_ Try.func26 (by kernel_rfl) rfl #[.slice A301_0 ((rd_T37 x0_2 0).f0).length c301_0, .slice A301_1 ((rd_T37 x0_2 0).f1).length c301_1, .slice A303_1 ((rd_T37 x1_2 0).f1).length c303_1] (by rfl) rfl rfl (by (try simp only [List.map_toArray, List.map_cons, List.map_nil]); first | done | rfl | (simp only [List.length_drop, List.length_take]; rfl)) ?_
                                    with_reducible refine (delta_turn.calls _ _ ((rd_T37 x0_2 0).f0) _ _ ((rd_T37 x0_2 0).f1) _ _ ((rd_T37 x1_2 0).f1) t304 t307 t310 _ ?side1 ?side2 ?side3 ?side4 ?side5 ?side6 A61.out).mono ?_
                                    (case side1 => repeat (first | exact (by repeat (first | (with_reducible exact HR301_0.out) | (with_reducible refine Kd.C_alloc ?_ _) | (with_reducible refine Kd.C_drewN ?_ _) | (with_reducible refine Kd.C_drew ?_) | exact HR301_0.out)) | (with_reducible refine Kd.C_alloc ?_ _) | (with_reducible refine Kd.C_drewN ?_ _) | (with_reducible refine Kd.C_drew ?_)))
                                    (case side2 => exact HC301_0.out)
                                    (case side3 => repeat (first | exact (by repeat (first | (with_reducible exact HR302_1.out) | (with_reducible refine Kd.C_alloc ?_ _) | (with_reducible refine Kd.C_drewN ?_ _) | (with_reducible refine Kd.C_drew ?_) | exact HR302_1.out)) | (with_reducible refine Kd.C_alloc ?_ _) | (with_reducible refine Kd.C_drewN ?_ _) | (with_reducible refine Kd.C_drew ?_)))
                                    (case side4 => exact HC302_1.out)
                                    (case side5 => repeat (first | exact (by repeat (first | (with_reducible exact HR303_1.out) | (with_reducible refine Kd.C_alloc ?_ _) | (with_reducible refine Kd.C_drewN ?_ _) | (with_reducible refine Kd.C_drew ?_) | exact HR303_1.out)) | (with_reducible refine Kd.C_alloc ?_ _) | (with_reducible refine Kd.C_drewN ?_ _) | (with_reducible refine Kd.C_drew ?_)))
                                    (case side6 => exact HC303_1.out)
                                    rintro e w67 ⟨v305, v308, v311, rfl, ho0, ho1, ho2, hb⟩
                                    have HS0_ := (hb.cell (World.block_lt_of_cell? _ _ (hHeld.1))).trans (hHeld.1)
                                    have HS1_ := (hb.cell (World.block_lt_of_cell? _ _ (hHeld.2.1))).trans (hHeld.2.1)
                                    have HS2_ := (hb.cell (World.block_lt_of_cell? _ _ (hHeld.2.2.1))).trans (hHeld.2.2.1)
                                    have HS3_ := (hb.cell (World.block_lt_of_cell? _ _ (hHeld.2.2.2.1))).trans (hHeld.2.2.2.1)
                                    have HS4_ := (hb.cell (World.block_lt_of_cell? _ _ (hHeld.2.2.2.2.1))).trans (hHeld.2.2.2.2.1)
                                    have HS5_ := (hb.cell (World.block_lt_of_cell? _ _ (hHeld.2.2.2.2.2))).trans (hHeld.2.2.2.2.2)
                                    refine ⟨_, rfl, ?_⟩
                                    have n0_ := Aside0.mk (Kd.V_mono (Kd.V_told (Kd.V_told (Kd.V_told (Kd.V_old (by (with_reducible repeat (first | apply Kd.V_alloc | apply Kd.V_drewN | apply Kd.V_drew)); exact HO_0.out) hb) (Kd.R_base ho0)) (Kd.R_base ho1)) (Kd.R_base ho2)) (fun _ h_ => h_.1))
                                    have n1_ := Aside0.mk (Kd.V_mono (Kd.V_told (Kd.V_told (Kd.V_told (Kd.V_old (by (with_reducible repeat (first | apply Kd.V_alloc | apply Kd.V_drewN | apply Kd.V_drew)); exact HO_1.out) hb) (Kd.R_base ho0)) (Kd.R_base ho1)) (Kd.R_base ho2)) (fun _ h_ => h_.1))
                                    have n2_ := Aside0.mk (Kd.S_mono (Kd.S_told (Kd.S_told (Kd.S_told (Kd.S_old (by (with_reducible repeat (first | apply Kd.S_alloc | apply Kd.S_drewN | apply Kd.S_drew)); exact HO_5.out) hb) (Kd.R_base ho0)) (Kd.R_base ho1)) (Kd.R_base ho2)) (fun _ h_ => h_.1))
                                    have n3_ := Aside0.mk (Kd.V_mono (Kd.V_told (Kd.V_told (Kd.V_told (Kd.V_old (by (with_reducible repeat (first | apply Kd.V_alloc | apply Kd.V_drewN | apply Kd.V_drew)); exact HL298_0.out) hb) (Kd.R_base ho0)) (Kd.R_base ho1)) (Kd.R_base ho2)) (fun _ h_ => h_.1))
                                    have n4_ := Aside0.mk (Kd.V_mono (Kd.V_told (Kd.V_told (Kd.V_told (Kd.V_old (by (with_reducible repeat (first | apply Kd.V_alloc | apply Kd.V_drewN | apply Kd.V_drew)); exact HL298_1.out) hb) (Kd.R_base ho0)) (Kd.R_base ho1)) (Kd.R_base ho2)) (fun _ h_ => h_.1))
                                    have n5_ := Aside0.mk (Kd.V_mono (Kd.V_told (Kd.V_told (Kd.V_told (Kd.V_old (by (with_reducible repeat (first | apply Kd.V_alloc | apply Kd.V_drewN | apply Kd.V_drew)); exact HL299_0.out) hb) (Kd.R_base ho0)) (Kd.R_base ho1)) (Kd.R_base ho2)) (fun _ h_ => h_.1))
                                    have n6_ := Aside0.mk (Kd.V_mono (Kd.V_told (Kd.V_told (Kd.V_told (Kd.V_old (by (with_reducible repeat (first | apply Kd.V_alloc | apply Kd.V_drewN | apply Kd.V_drew)); exact HL299_1.out) hb) (Kd.R_base ho0)) (Kd.R_base ho1)) (Kd.R_base ho2)) (fun _ h_ => h_.1))
                                    have n7_ := Aside0.mk (Kd.V_mono (Kd.V_told (Kd.V_told (Kd.V_told (Kd.V_old (by (with_reducible repeat (first | apply Kd.V_alloc | apply Kd.V_drewN | apply Kd.V_drew)); exact HL301_0.out) hb) (Kd.R_base ho0)) (Kd.R_base ho1)) (Kd.R_base ho2)) (fun _ h_ => h_.1))
                                    have n8_ := Aside0.mk (Kd.V_mono (Kd.V_told (Kd.V_told (Kd.V_told (Kd.V_old (by (with_reducible repeat (first | apply Kd.V_alloc | apply Kd.V_drewN | apply Kd.V_drew)); exact HL301_1.out) hb) (Kd.R_base ho0)) (Kd.R_base ho1)) (Kd.R_base ho2)) (fun _ h_ => h_.1))
                                    have n9_ := Aside0.mk (Kd.V_mono (Kd.V_told (Kd.V_told (Kd.V_told (Kd.V_old (by (with_reducible repeat (first | apply Kd.V_alloc | apply Kd.V_drewN | apply Kd.V_drew)); exact HL302_0.out) hb) (Kd.R_base ho0)) (Kd.R_base ho1)) (Kd.R_base ho2)) (fun _ h_ => h_.1))
                                    have n10_ := Aside0.mk (Kd.V_mono (Kd.V_told (Kd.V_told (Kd.V_told (Kd.V_old (by (with_reducible repeat (first | apply Kd.V_alloc | apply Kd.V_drewN | apply Kd.V_drew)); exact HL302_1.out) hb) (Kd.R_base ho0)) (Kd.R_base ho1)) (Kd.R_base ho2)) (fun _ h_ => h_.1))
                                    have n11_ := Aside0.mk (Kd.V_mono (Kd.V_told (Kd.V_told (Kd.V_told (Kd.V_old (by (with_reducible repeat (first | apply Kd.V_alloc | apply Kd.V_drewN | apply Kd.V_drew)); exact HL303_0.out) hb) (Kd.R_base ho0)) (Kd.R_base ho1)) (Kd.R_base ho2)) (fun _ h_ => h_.1))
                                    have n12_ := Aside0.mk (Kd.V_mono (Kd.V_told (Kd.V_told (Kd.V_told (Kd.V_old (by (with_reducible repeat (first | apply Kd.V_alloc | apply Kd.V_drewN | apply Kd.V_drew)); exact HL303_1.out) hb) (Kd.R_base ho0)) (Kd.R_base ho1)) (Kd.R_base ho2)) (fun _ h_ => h_.1))
                                    have n13_ := Aside0.mk (Kd.R_lower (Kd.R_newM (M := fun k_ => (w.heap.size ≤ k_)) ho0 (below_size Sh.B) (fun k_ h_ => h_)) (below_size Sh.B))
                                    have n14_ := Aside0.mk (Kd.R_lower (Kd.R_newM (M := fun k_ => (w.heap.size ≤ k_)) ho1 (below_size Sh.B) (fun k_ h_ => h_)) (below_size Sh.B))
                                    have n15_ := Aside0.mk (Kd.R_lower (Kd.R_newM (M := fun k_ => (w.heap.size ≤ k_)) ho2 (below_size Sh.B) (fun k_ h_ => h_)) (below_size Sh.B))
                                    have n16_ := Aside0.mk (Kd.C_below (by repeat (first | (with_reducible exact HR298_0.out) | (with_reducible refine Kd.C_alloc ?_ _) | (with_reducible refine Kd.C_drewN ?_ _) | (with_reducible refine Kd.C_drew ?_) | exact HR298_0.out)) hb)
                                    have n17_ := Aside0.mk (Kd.C_below (by repeat (first | (with_reducible exact HR298_1.out) | (with_reducible refine Kd.C_alloc ?_ _) | (with_reducible refine Kd.C_drewN ?_ _) | (with_reducible refine Kd.C_drew ?_) | exact HR298_1.out)) hb)
                                    have n18_ := Aside0.mk (Kd.C_below (by repeat (first | (with_reducible exact HR299_0.out) | (with_reducible refine Kd.C_alloc ?_ _) | (with_reducible refine Kd.C_drewN ?_ _) | (with_reducible refine Kd.C_drew ?_) | exact HR299_0.out)) hb)
                                    have n19_ := Aside0.mk (Kd.C_below (by repeat (first | (with_reducible exact HR299_1.out) | (with_reducible refine Kd.C_alloc ?_ _) | (with_reducible refine Kd.C_drewN ?_ _) | (with_reducible refine Kd.C_drew ?_) | exact HR299_1.out)) hb)
                                    have n20_ := Aside0.mk (Kd.C_below (by repeat (first | (with_reducible exact HR301_0.out) | (with_reducible refine Kd.C_alloc ?_ _) | (with_reducible refine Kd.C_drewN ?_ _) | (with_reducible refine Kd.C_drew ?_) | exact HR301_0.out)) hb)
                                    have n21_ := Aside0.mk (Kd.C_below (by repeat (first | (with_reducible exact HR301_1.out) | (with_reducible refine Kd.C_alloc ?_ _) | (with_reducible refine Kd.C_drewN ?_ _) | (with_reducible refine Kd.C_drew ?_) | exact HR301_1.out)) hb)
                                    have n22_ := Aside0.mk (Kd.C_below (by repeat (first | (with_reducible exact HR302_0.out) | (with_reducible refine Kd.C_alloc ?_ _) | (with_reducible refine Kd.C_drewN ?_ _) | (with_reducible refine Kd.C_drew ?_) | exact HR302_0.out)) hb)
                                    have n23_ := Aside0.mk (Kd.C_below (by repeat (first | (with_reducible exact HR302_1.out) | (with_reducible refine Kd.C_alloc ?_ _) | (with_reducible refine Kd.C_drewN ?_ _) | (with_reducible refine Kd.C_drew ?_) | exact HR302_1.out)) hb)
                                    have n24_ := Aside0.mk (Kd.C_below (by repeat (first | (with_reducible exact HR303_0.out) | (with_reducible refine Kd.C_alloc ?_ _) | (with_reducible refine Kd.C_drewN ?_ _) | (with_reducible refine Kd.C_drew ?_) | exact HR303_0.out)) hb)
                                    have n25_ := Aside0.mk (Kd.C_below (by repeat (first | (with_reducible exact HR303_1.out) | (with_reducible refine Kd.C_alloc ?_ _) | (with_reducible refine Kd.C_drewN ?_ _) | (with_reducible refine Kd.C_drew ?_) | exact HR303_1.out)) hb)
                                    have n26_ := Aside0.mk (below_step Sh.B hb)
                                    clear HO_0
                                    clear HO_1
                                    clear HO_5
                                    clear HL298_0
                                    clear HL298_1
                                    clear HL299_0
                                    clear HL299_1
                                    clear HL301_0
                                    clear HL301_1
                                    clear HL302_0
                                    clear HL302_1
                                    clear HL303_0
                                    clear HL303_1
                                    clear HR298_0
                                    clear HR298_1
                                    clear HR299_0
                                    clear HR299_1
                                    clear HR301_0
                                    clear HR301_1
                                    clear HR302_0
                                    clear HR302_1
                                    clear HR303_0
                                    clear HR303_1
                                    clear HB
                                    have HO_0 := n0_
                                    have HO_1 := n1_
                                    have HO_5 := n2_
                                    have HL298_0 := n3_
                                    have HL298_1 := n4_
                                    have HL299_0 := n5_
                                    have HL299_1 := n6_
                                    have HL301_0 := n7_
                                    have HL301_1 := n8_
                                    have HL302_0 := n9_
                                    have HL302_1 := n10_
                                    have HL303_0 := n11_
                                    have HL303_1 := n12_
                                    have HO306 := n13_
                                    have HO309 := n14_
                                    have HO312 := n15_
                                    have HR298_0 := n16_
                                    have HR298_1 := n17_
                                    have HR299_0 := n18_
                                    have HR299_1 := n19_
                                    have HR301_0 := n20_
                                    have HR301_1 := n21_
                                    have HR302_0 := n22_
                                    have HR302_1 := n23_
                                    have HR303_0 := n24_
                                    have HR303_1 := n25_
                                    have HB := n26_
                                    clear n0_ n1_ n2_ n3_ n4_ n5_ n6_ n7_ n8_ n9_ n10_ n11_ n12_ n13_ n14_ n15_ n16_ n17_ n18_ n19_ n20_ n21_ n22_ n23_ n24_ n25_ n26_
                                    (try clear hb)
                                    (try clear hb2)
                                    (try clear hk)
                                    (try clear hi)
                                    (try clear ho0)
                                    (try clear ho1)
                                    (try clear ho2)
                                    obtain ⟨Ao69, co69, eo69⟩ := Kd.R_slice HO306.out
                                    (first | subst eo69 | (injection eo69 with f1_ f2_ f3_; have f4_ := f1_.symm; have f5_ := f3_.symm; clear f1_ f2_ f3_; subst f4_; subst f5_))
                                    obtain ⟨Ao70, co70, eo70⟩ := Kd.R_slice HO309.out
                                    (first | subst eo70 | (injection eo70 with f1_ f2_ f3_; have f4_ := f1_.symm; have f5_ := f3_.symm; clear f1_ f2_ f3_; subst f4_; subst f5_))
                                    obtain ⟨Ao71, co71, eo71⟩ := Kd.R_slice HO312.out
                                    (first | subst eo71 | (injection eo71 with f1_ f2_ f3_; have f4_ := f1_.symm; have f5_ := f3_.symm; clear f1_ f2_ f3_; subst f4_; subst f5_))
                                    refine hK.out _ _ ⟨HS0_, HS1_, HS2_, HS3_, HS4_, HS5_⟩ (fun hHeld => ?_)
                                    clear hK K
                                    refine norm_ (a' := ?_) ?_ ?_
                                    rotate_left
                                    · show Act.put _ (some 96) _ = _
                                      simp only [Act.put, List.setIfInBounds_toArray, List.set_cons_zero, List.set_cons_succ, i64_w, i32_w]
                                      rfl
                                    refine last_ (i := 14) (N := some 97) #[true, true, true, true, true, true, true, true, true, true, true, true, true, true, true, false, false] rfl rfl (one_of HT_.out (by kernel_rfl)) (by decide) (fun K hK => ?_)
                                    refine value_ (w1 := ?_) (v := ?_) (by rfl) rfl ?_ ?_
                                    rotate_left 2
                                    · go_simp
                                      constructor
                                      · rfl
                                      · rfl
                                    refine hK.out _ _ ?_
                                    clear hK K
                                    refine norm_ (a' := ?_) ?_ ?_
                                    rotate_left
                                    · show Act.put _ (some 97) _ = _
                                      simp only [Act.put, List.setIfInBounds_toArray, List.set_cons_zero, List.set_cons_succ, i64_w, i32_w]
                                      rfl
                                    refine last_ (i := 15) (N := some 98) #[true, true, true, true, true, true, true, true, true, true, true, true, true, true, true, true, false] rfl rfl (one_of HT_.out (by kernel_rfl)) (by decide) (fun K hK => ?_)
                                    refine Kd.S_append_step k43 (w0 := w) w.heap.size (by rfl) (.tmp 83) (.tmp 97) 26 43 (.agg #[(.slice none 0 0), (.slice none 0 0), (.slice none 0 0)]) 72 rfl Try.underlying26 info43 rfl (by decide) (by omega) u5 x5_2 (⟨t304, t307, t310⟩ : S43) [.slice Ao69 t304.length co69, .slice Ao70 t307.length co70, .slice Ao71 t310.length co71] (fun k_ => (w.heap.size ≤ k_)) (fun k_ => some k_ = (.slice Ao69 t304.length co69 : Value).ownBlock ∨ some k_ = (.slice Ao70 t307.length co70 : Value).ownBlock ∨ some k_ = (.slice Ao71 t310.length co71 : Value).ownBlock) rfl rfl ?aP (fun k_ hk_ => hk_.elim (fun h_ => ((Kd.R_mono (ok' := fun k_ => ((fun k_ => (w.heap.size ≤ k_))) k_ ∧ some k_ ≠ (u5 : Value).ownBlock) (Kd.R_apart' (HO306.out) (Kd.S_typed HO_5.out) (by decide)) (fun k_ hk => ⟨hk.1.1, hk.2⟩))).1 k_ h_.symm) (fun h_ => h_.elim (fun h_ => ((Kd.R_mono (ok' := fun k_ => ((fun k_ => (w.heap.size ≤ k_))) k_ ∧ some k_ ≠ (u5 : Value).ownBlock) (Kd.R_apart' (HO309.out) (Kd.S_typed HO_5.out) (by decide)) (fun k_ hk => ⟨hk.1.1, hk.2⟩))).1 k_ h_.symm) (fun h_ => ((Kd.R_mono (ok' := fun k_ => ((fun k_ => (w.heap.size ≤ k_))) k_ ∧ some k_ ≠ (u5 : Value).ownBlock) (Kd.R_apart' (HO312.out) (Kd.S_typed HO_5.out) (by decide)) (fun k_ hk => ⟨hk.1.1, hk.2⟩))).1 k_ h_.symm))) ?aF ?aO ?aB ?aS ?aL ?_
                                    (case aP => exact k43_mkM _ _ _ (⟨t304, t307, t310⟩ : S43) (Kd.R_mono (Kd.R_tight rfl (Kd.R_mono (ok' := fun k_ => ((fun k_ => (w.heap.size ≤ k_))) k_ ∧ some k_ ≠ (u5 : Value).ownBlock) (Kd.R_apart' (HO306.out) (Kd.S_typed HO_5.out) (by decide)) (fun k_ hk => ⟨hk.1.1, hk.2⟩))) (fun _ h_ => Or.inl h_)) (Kd.R_mono (Kd.R_tight rfl (Kd.R_mono (ok' := fun k_ => ((fun k_ => (w.heap.size ≤ k_))) k_ ∧ some k_ ≠ (u5 : Value).ownBlock) (Kd.R_apart' (HO309.out) (Kd.S_typed HO_5.out) (by decide)) (fun k_ hk => ⟨hk.1.1, hk.2⟩))) (fun _ h_ => Or.inr (Or.inl h_))) (Kd.R_mono (Kd.R_tight rfl (Kd.R_mono (ok' := fun k_ => ((fun k_ => (w.heap.size ≤ k_))) k_ ∧ some k_ ≠ (u5 : Value).ownBlock) (Kd.R_apart' (HO312.out) (Kd.S_typed HO_5.out) (by decide)) (fun k_ hk => ⟨hk.1.1, hk.2⟩))) (fun _ h_ => Or.inr (Or.inr (h_)))))
                                    (case aB => exact Sh.B)
                                    (case aF => exact (fun k_ hk => (Nat.le_trans (below_size Sh.B) hk)))
                                    (case aO => exact (by (with_reducible repeat (first | apply Kd.S_alloc | apply Kd.S_drewN | apply Kd.S_drew)); exact Kd.S_mono HO_5.out (fun k_ hk => ⟨hk.1.1.1, fun e_ => e_.elim (fun h_ => hk.1.1.2 h_) (fun h_ => h_.elim (fun h_ => hk.1.2 h_) (fun h_ => hk.2 h_))⟩)))
                                    (case aS => exact (below_size Sh.B))
                                    (case aL => have := LMc62.out; omega)
                                    intro v314 w68 ho hb hg hat
                                    rw [← Ny313.out] at ho
                                    have n0_ := Aside0.mk (Kd.V_afterv (ok := (fun k_ => ((P0_ k_ ∨ P1_ k_) ∨ w.heap.size ≤ k_) ∧ some k_ ≠ (.slice Ao69 t304.length co69 : Value).ownBlock ∧ some k_ ≠ (.slice Ao70 t307.length co70 : Value).ownBlock ∧ some k_ ≠ (.slice Ao71 t310.length co71 : Value).ownBlock)) (by (with_reducible repeat (first | apply Kd.V_alloc | apply Kd.V_drewN | apply Kd.V_drew)); exact Kd.V_mono HO_0.out (fun _ hk => ⟨⟨hk.1.1.1.1, ⟨hk.1.1.2, ⟨hk.1.2, hk.2⟩⟩⟩, hk.1.1.1.2⟩)) hg hat)
                                    have n1_ := Aside0.mk (Kd.V_afterv (ok := (fun k_ => ((P0_ k_ ∨ P1_ k_) ∨ w.heap.size ≤ k_) ∧ some k_ ≠ (.slice Ao69 t304.length co69 : Value).ownBlock ∧ some k_ ≠ (.slice Ao70 t307.length co70 : Value).ownBlock ∧ some k_ ≠ (.slice Ao71 t310.length co71 : Value).ownBlock)) (by (with_reducible repeat (first | apply Kd.V_alloc | apply Kd.V_drewN | apply Kd.V_drew)); exact Kd.V_mono HO_1.out (fun _ hk => ⟨⟨hk.1.1.1.1, ⟨hk.1.1.2, ⟨hk.1.2, hk.2⟩⟩⟩, hk.1.1.1.2⟩)) hg hat)
                                    have n2_ := Aside0.mk (Kd.V_afterv (ok := (fun k_ => ((P0_ k_ ∨ P1_ k_) ∨ w.heap.size ≤ k_) ∧ some k_ ≠ (.slice Ao69 t304.length co69 : Value).ownBlock ∧ some k_ ≠ (.slice Ao70 t307.length co70 : Value).ownBlock ∧ some k_ ≠ (.slice Ao71 t310.length co71 : Value).ownBlock)) (by (with_reducible repeat (first | apply Kd.V_alloc | apply Kd.V_drewN | apply Kd.V_drew)); exact Kd.V_mono HL298_0.out (fun _ hk => ⟨⟨hk.1.1.1.1, ⟨hk.1.1.2, ⟨hk.1.2, hk.2⟩⟩⟩, hk.1.1.1.2⟩)) hg hat)
                                    have n3_ := Aside0.mk (Kd.V_afterv (ok := (fun k_ => ((P0_ k_ ∨ P1_ k_) ∨ w.heap.size ≤ k_) ∧ some k_ ≠ (.slice Ao69 t304.length co69 : Value).ownBlock ∧ some k_ ≠ (.slice Ao70 t307.length co70 : Value).ownBlock ∧ some k_ ≠ (.slice Ao71 t310.length co71 : Value).ownBlock)) (by (with_reducible repeat (first | apply Kd.V_alloc | apply Kd.V_drewN | apply Kd.V_drew)); exact Kd.V_mono HL298_1.out (fun _ hk => ⟨⟨hk.1.1.1.1, ⟨hk.1.1.2, ⟨hk.1.2, hk.2⟩⟩⟩, hk.1.1.1.2⟩)) hg hat)
                                    have n4_ := Aside0.mk (Kd.V_afterv (ok := (fun k_ => ((P0_ k_ ∨ P1_ k_) ∨ w.heap.size ≤ k_) ∧ some k_ ≠ (.slice Ao69 t304.length co69 : Value).ownBlock ∧ some k_ ≠ (.slice Ao70 t307.length co70 : Value).ownBlock ∧ some k_ ≠ (.slice Ao71 t310.length co71 : Value).ownBlock)) (by (with_reducible repeat (first | apply Kd.V_alloc | apply Kd.V_drewN | apply Kd.V_drew)); exact Kd.V_mono HL299_0.out (fun _ hk => ⟨⟨hk.1.1.1.1, ⟨hk.1.1.2, ⟨hk.1.2, hk.2⟩⟩⟩, hk.1.1.1.2⟩)) hg hat)
                                    have n5_ := Aside0.mk (Kd.V_afterv (ok := (fun k_ => ((P0_ k_ ∨ P1_ k_) ∨ w.heap.size ≤ k_) ∧ some k_ ≠ (.slice Ao69 t304.length co69 : Value).ownBlock ∧ some k_ ≠ (.slice Ao70 t307.length co70 : Value).ownBlock ∧ some k_ ≠ (.slice Ao71 t310.length co71 : Value).ownBlock)) (by (with_reducible repeat (first | apply Kd.V_alloc | apply Kd.V_drewN | apply Kd.V_drew)); exact Kd.V_mono HL299_1.out (fun _ hk => ⟨⟨hk.1.1.1.1, ⟨hk.1.1.2, ⟨hk.1.2, hk.2⟩⟩⟩, hk.1.1.1.2⟩)) hg hat)
                                    have n6_ := Aside0.mk (Kd.V_afterv (ok := (fun k_ => ((P0_ k_ ∨ P1_ k_) ∨ w.heap.size ≤ k_) ∧ some k_ ≠ (.slice Ao69 t304.length co69 : Value).ownBlock ∧ some k_ ≠ (.slice Ao70 t307.length co70 : Value).ownBlock ∧ some k_ ≠ (.slice Ao71 t310.length co71 : Value).ownBlock)) (by (with_reducible repeat (first | apply Kd.V_alloc | apply Kd.V_drewN | apply Kd.V_drew)); exact Kd.V_mono HL301_0.out (fun _ hk => ⟨⟨hk.1.1.1.1, ⟨hk.1.1.2, ⟨hk.1.2, hk.2⟩⟩⟩, hk.1.1.1.2⟩)) hg hat)
                                    have n7_ := Aside0.mk (Kd.V_afterv (ok := (fun k_ => ((P0_ k_ ∨ P1_ k_) ∨ w.heap.size ≤ k_) ∧ some k_ ≠ (.slice Ao69 t304.length co69 : Value).ownBlock ∧ some k_ ≠ (.slice Ao70 t307.length co70 : Value).ownBlock ∧ some k_ ≠ (.slice Ao71 t310.length co71 : Value).ownBlock)) (by (with_reducible repeat (first | apply Kd.V_alloc | apply Kd.V_drewN | apply Kd.V_drew)); exact Kd.V_mono HL301_1.out (fun _ hk => ⟨⟨hk.1.1.1.1, ⟨hk.1.1.2, ⟨hk.1.2, hk.2⟩⟩⟩, hk.1.1.1.2⟩)) hg hat)
                                    have n8_ := Aside0.mk (Kd.V_afterv (ok := (fun k_ => ((P0_ k_ ∨ P1_ k_) ∨ w.heap.size ≤ k_) ∧ some k_ ≠ (.slice Ao69 t304.length co69 : Value).ownBlock ∧ some k_ ≠ (.slice Ao70 t307.length co70 : Value).ownBlock ∧ some k_ ≠ (.slice Ao71 t310.length co71 : Value).ownBlock)) (by (with_reducible repeat (first | apply Kd.V_alloc | apply Kd.V_drewN | apply Kd.V_drew)); exact Kd.V_mono HL302_0.out (fun _ hk => ⟨⟨hk.1.1.1.1, ⟨hk.1.1.2, ⟨hk.1.2, hk.2⟩⟩⟩, hk.1.1.1.2⟩)) hg hat)
                                    have n9_ := Aside0.mk (Kd.V_afterv (ok := (fun k_ => ((P0_ k_ ∨ P1_ k_) ∨ w.heap.size ≤ k_) ∧ some k_ ≠ (.slice Ao69 t304.length co69 : Value).ownBlock ∧ some k_ ≠ (.slice Ao70 t307.length co70 : Value).ownBlock ∧ some k_ ≠ (.slice Ao71 t310.length co71 : Value).ownBlock)) (by (with_reducible repeat (first | apply Kd.V_alloc | apply Kd.V_drewN | apply Kd.V_drew)); exact Kd.V_mono HL302_1.out (fun _ hk => ⟨⟨hk.1.1.1.1, ⟨hk.1.1.2, ⟨hk.1.2, hk.2⟩⟩⟩, hk.1.1.1.2⟩)) hg hat)
                                    have n10_ := Aside0.mk (Kd.V_afterv (ok := (fun k_ => ((P0_ k_ ∨ P1_ k_) ∨ w.heap.size ≤ k_) ∧ some k_ ≠ (.slice Ao69 t304.length co69 : Value).ownBlock ∧ some k_ ≠ (.slice Ao70 t307.length co70 : Value).ownBlock ∧ some k_ ≠ (.slice Ao71 t310.length co71 : Value).ownBlock)) (by (with_reducible repeat (first | apply Kd.V_alloc | apply Kd.V_drewN | apply Kd.V_drew)); exact Kd.V_mono HL303_0.out (fun _ hk => ⟨⟨hk.1.1.1.1, ⟨hk.1.1.2, ⟨hk.1.2, hk.2⟩⟩⟩, hk.1.1.1.2⟩)) hg hat)
                                    have n11_ := Aside0.mk (Kd.V_afterv (ok := (fun k_ => ((P0_ k_ ∨ P1_ k_) ∨ w.heap.size ≤ k_) ∧ some k_ ≠ (.slice Ao69 t304.length co69 : Value).ownBlock ∧ some k_ ≠ (.slice Ao70 t307.length co70 : Value).ownBlock ∧ some k_ ≠ (.slice Ao71 t310.length co71 : Value).ownBlock)) (by (with_reducible repeat (first | apply Kd.V_alloc | apply Kd.V_drewN | apply Kd.V_drew)); exact Kd.V_mono HL303_1.out (fun _ hk => ⟨⟨hk.1.1.1.1, ⟨hk.1.1.2, ⟨hk.1.2, hk.2⟩⟩⟩, hk.1.1.1.2⟩)) hg hat)
                                    have n12_ := Aside0.mk (hb)
                                    have n13_ := Aside0.mk (ho)
                                    clear HO_0
                                    clear HO_1
                                    clear HL298_0
                                    clear HL298_1
                                    clear HL299_0
                                    clear HL299_1
                                    clear HL301_0
                                    clear HL301_1
                                    clear HL302_0
                                    clear HL302_1
                                    clear HL303_0
                                    clear HL303_1
                                    clear HB
                                    clear HO_5
                                    clear HO306
                                    clear HO309
                                    clear HO312
                                    have HO_0 := n0_
                                    have HO_1 := n1_
                                    have HL298_0 := n2_
                                    have HL298_1 := n3_
                                    have HL299_0 := n4_
                                    have HL299_1 := n5_
                                    have HL301_0 := n6_
                                    have HL301_1 := n7_
                                    have HL302_0 := n8_
                                    have HL302_1 := n9_
                                    have HL303_0 := n10_
                                    have HL303_1 := n11_
                                    have HB := n12_
                                    have HO315 := n13_
                                    clear n0_ n1_ n2_ n3_ n4_ n5_ n6_ n7_ n8_ n9_ n10_ n11_ n12_ n13_
                                    clear ho hb hg hat
                                    refine hK.out _ _ ?_
                                    clear hK K
                                    refine norm_ (a' := ?_) ?_ ?_
                                    rotate_left
                                    · show Act.put _ (some 98) _ = _
                                      simp only [Act.put, List.setIfInBounds_toArray, List.set_cons_zero, List.set_cons_succ, i64_w, i32_w]
                                      rfl
                                    refine pure_ (i := 16) (N := some 5) (v := ?_) (a' := ?_) #[true, true, true, true, true, true, true, true, true, true, true, true, true, true, true, true, true] rfl rfl (any_of HT_.out (by kernel_rfl)) (fun _ _ _ h => h) (Or.inl ⟨by rfl, ?_⟩) ?_ ?_
                                    rotate_left
                                    · intro w'
                                      go_simp
                                      with_reducible rfl
                                    rotate_left
                                    · simp only [Act.put, List.setIfInBounds_toArray, List.set_cons_zero, List.set_cons_succ, i64_w, i32_w]
                                      rfl
                                    refine done_ (done_of HT_.out (by kernel_rfl)) ?_
                                    try go_wp2
                                    go_meet
                                    case rel => exact ⟨_, (x0_2), (y313), H', ⟨by have := HJ2.out; have := HK2.out; have := HJ10.out; have := HJ16.out; first | omega | exact Nat.le_refl _⟩, ⟨by (with_reducible repeat (first | apply Kd.V_alloc | apply Kd.V_drewN | apply Kd.V_drew)); exact Kd.V_mono HO_0.out (fun _ hk => ⟨hk.1.1, hk.2⟩)⟩, ⟨by (with_reducible repeat (first | apply Kd.V_alloc | apply Kd.V_drewN | apply Kd.V_drew)); exact Kd.V_mono HO_1.out (fun _ hk => ⟨hk.1.1, hk.2⟩)⟩, ⟨by (with_reducible repeat (first | apply Kd.S_alloc | apply Kd.S_drewN | apply Kd.S_drew)); exact HO315.out⟩, ⟨Sh.B⟩⟩
                                  · rw [if_neg c62] at H
                                    exact absurd H (by simp)
                              · rw [if_neg c55] at H
                                exact absurd H (by simp)
                            · rw [if_neg c54] at H
                              exact absurd H (by simp)
                      case rest =>
                        clear HC29
                        try clear c2
                        try clear p2
                        try clear q2
                        try clear hx2
                        try clear qi2
                        try clear c3
                        try clear p3
                        try clear q3
                        try clear hx3
                        try clear qi3
                        try clear c5
                        try clear c6
                        try clear c26
                        try clear c27
                        try clear c29
                        try clear p29
                        try clear q29
                        try clear hx29
                        try clear qi29
                        try clear c30
                        try clear p30
                        try clear q30
                        try clear hx30
                        try clear qi30
                        try clear c54
                        try clear c55
                        try clear c62
                        try clear hx298_0
                        try clear hx298_1
                        try clear hx299_0
                        try clear hx299_1
                        try clear hx301_0
                        try clear hx301_1
                        try clear hx302_0
                        try clear hx302_1
                        try clear hx303_0
                        try clear hx303_1
                        try clear p299
                        try clear p301
                        try clear p302
                        try clear p303
                        try clear q299
                        try clear q301
                        try clear q302
                        try clear q303
                        obtain ⟨kq, x0_28, x5_28, HA, HJ28, HO_0, HO_1, HO_5, HB⟩ := hcut
                        cases kq with
                        | zero => exact absurd HA.out (by simp [delta_Turns.j4])
                        | succ kj28 =>
                          have H := HA.out
                          clear HA
                          simp only [delta_Turns.j4] at H
                          by_cases c72 : 1 ≤ (x1_2.length : Int)
                          · rw [if_pos c72] at H
                            have c72b0 := eq_true c72
                            have c72b1 : decide (1 ≤ (x1_2.length : Int)) = true := decide_eq_true c72
                            clear c72
                            obtain ⟨y316, hy316⟩ : ∃ y_ : List (S37), y_ = (x1_2.drop 1) := ⟨_, rfl⟩
                            replace H : (if x6_16 = 0 then (if 1 ≤ (x0_28.length : Int) then (delta_Turns.l0 kj28 (x0_28.drop 1) y316 x5_28) else (none)) else (delta_Turns.l0 kj28 x0_28 y316 x5_28)) = some r := by first | (rw [hy316]; with_reducible exact H) | (have H2_ := (Option.bind_some _ _).symm.trans H; rw [hy316]; with_reducible exact H2_) | (have H2_ := (Option.bind_some _ _).symm.trans H; with_reducible exact H2_) | with_reducible exact H | (rw [hy316]; exact H) | exact H
                            have Ny316 := Aside0.mk hy316
                            clear hy316
                            by_cases c73 : x6_16 = 0
                            · rw [if_pos c73] at H
                              have c73b0 : (x6_16 == 0) = true := beq_iff_eq.mpr c73
                              have c73b1 : (x6_16 != 0) = false := bne_eq_false_iff_eq.mpr c73
                              clear c73
                              by_cases c74 : 1 ≤ (x0_28.length : Int)
                              · rw [if_pos c74] at H
                                have c74b0 := eq_true c74
                                have c74b1 : decide (1 ≤ (x0_28.length : Int)) = true := decide_eq_true c74
                                clear c74
                                obtain ⟨y321, hy321⟩ : ∃ y_ : List (S37), y_ = (x0_28.drop 1) := ⟨_, rfl⟩
                                replace H : (delta_Turns.l0 kj28 y321 y316 x5_28) = some r := by first | (rw [hy321]; with_reducible exact H) | (have H2_ := (Option.bind_some _ _).symm.trans H; rw [hy321]; with_reducible exact H2_) | (have H2_ := (Option.bind_some _ _).symm.trans H; with_reducible exact H2_) | with_reducible exact H | (rw [hy321]; exact H) | exact H
                                have Ny321 := Aside0.mk hy321
                                clear hy321
                                have H' := Aside0.mk H
                                clear H
                                obtain ⟨Ao76, co76, eo76⟩ := Kd.V_slice HO_1.out
                                subst eo76
                                have q75 : (1 : Int) ≤ ((x1_2.length : Int) : Int) := of_decide_eq_true Sh.A
                                obtain ⟨i075, hi075, _, hsz75, _⟩ := info_parts info37
                                have hroom75 : x1_2.length ≤ co76 := (Kd.V_reads' HO_1.out).2.1
                                have hC75 : Kd.F k37 _ _ Ao76 x1_2.length x1_2 := (Kd.V_at (base := w.heap.size) HO_1.out).2.2
                                have hcut75 := cut_from (P := Try.prog) 22 37 .i64 Try.underlying22 hi075 2 hsz75 Ao76 x1_2.length co76 1 (by omega) q75
                                have hr75 := Kd.F_cut (m := (1 : Int).toNat) (c := co76) hC75 (by omega) hroom75
                                obtain ⟨A75, hA75⟩ : ∃ A1, A1 = (if co76 = (1 : Int).toNat then Ao76 else (Ao76 : Option Addr).map (·.add ((1 : Int).toNat * 2))) := ⟨_, rfl⟩
                                obtain ⟨c75, hc75⟩ : ∃ c1, c1 = co76 - (1 : Int).toNat := ⟨_, rfl⟩
                                have hy75 : y316.length = x1_2.length - (1 : Int).toNat := (by rw [Ny316.out, List.length_drop] <;> omega)
                                rw [show (x1_2).drop (1 : Int).toNat = y316 from Ny316.out.symm] at hr75
                                replace hr75 : Kd.F k37 _ _ A75 y316.length y316 := (by rw [hA75]; exact hr75)
                                rw [← hy75, ← hA75, ← hc75] at hcut75
                                have HO320 := Aside0.mk (show Kd.V k37 37 _ w.heap.size _ (.slice A75 y316.length c75) y316 from Kd.V_mk (by rw [hy75, hc75]; exact Nat.sub_le_sub_right hroom75 _) hr75)
                                have HC320 := Aside0.mk (show y316.length ≤ c75 from by rw [hy75, hc75]; exact Nat.sub_le_sub_right hroom75 _)
                                clear hr75 hC75 hroom75 hi075 hsz75 hc75
                                have KY75 := Aside0.mk hy75
                                have KA75 := Aside0.mk hA75
                                clear hy75 hA75
                                replace q75 := eq_true q75
                                obtain ⟨Ao78, co78, eo78⟩ := Kd.V_slice HO_0.out
                                subst eo78
                                have q77 : (1 : Int) ≤ ((x0_28.length : Int) : Int) := of_decide_eq_true Sh.A
                                obtain ⟨i077, hi077, _, hsz77, _⟩ := info_parts info37
                                have hroom77 : x0_28.length ≤ co78 := (Kd.V_reads' HO_0.out).2.1
                                have hC77 : Kd.F k37 _ _ Ao78 x0_28.length x0_28 := (Kd.V_at (base := w.heap.size) HO_0.out).2.2
                                have hcut77 := cut_from (P := Try.prog) 22 37 .i64 Try.underlying22 hi077 2 hsz77 Ao78 x0_28.length co78 1 (by omega) q77
                                have hr77 := Kd.F_cut (m := (1 : Int).toNat) (c := co78) hC77 (by omega) hroom77
                                obtain ⟨A77, hA77⟩ : ∃ A1, A1 = (if co78 = (1 : Int).toNat then Ao78 else (Ao78 : Option Addr).map (·.add ((1 : Int).toNat * 2))) := ⟨_, rfl⟩
                                obtain ⟨c77, hc77⟩ : ∃ c1, c1 = co78 - (1 : Int).toNat := ⟨_, rfl⟩
                                have hy77 : y321.length = x0_28.length - (1 : Int).toNat := (by rw [Ny321.out, List.length_drop] <;> omega)
                                rw [show (x0_28).drop (1 : Int).toNat = y321 from Ny321.out.symm] at hr77
                                replace hr77 : Kd.F k37 _ _ A77 y321.length y321 := (by rw [hA77]; exact hr77)
                                rw [← hy77, ← hA77, ← hc77] at hcut77
                                have HO325 := Aside0.mk (show Kd.V k37 37 _ w.heap.size _ (.slice A77 y321.length c77) y321 from Kd.V_mk (by rw [hy77, hc77]; exact Nat.sub_le_sub_right hroom77 _) hr77)
                                have HC325 := Aside0.mk (show y321.length ≤ c77 from by rw [hy77, hc77]; exact Nat.sub_le_sub_right hroom77 _)
                                clear hr77 hC77 hroom77 hi077 hsz77 hc77
                                have KY77 := Aside0.mk hy77
                                have KA77 := Aside0.mk hA77
                                clear hy77 hA77
                                replace q77 := eq_true q77
                                go_wp2
                                go_roundg kj28
                                case measure => have := HJ2.out; have := HK2.out; have := HJ10.out; have := HJ16.out; have := HJ28.out; omega
                                case rel => exact ⟨(y321), (y316), (x5_28), H', ⟨by have := HJ2.out; have := HK2.out; have := HJ10.out; have := HJ16.out; have := HJ28.out; omega⟩, ⟨by (with_reducible repeat (first | apply Kd.V_alloc | apply Kd.V_drewN | apply Kd.V_drew)); exact HO325.out⟩, ⟨by (with_reducible repeat (first | apply Kd.V_alloc | apply Kd.V_drewN | apply Kd.V_drew)); exact HO320.out⟩, ⟨by (with_reducible repeat (first | apply Kd.S_alloc | apply Kd.S_drewN | apply Kd.S_drew)); exact HO_5.out⟩, ⟨Sh.B⟩⟩
                              · rw [if_neg c74] at H
                                exact absurd H (by simp)
                            · rw [if_neg c73] at H
                              have c73b0 : (x6_16 == 0) = false := beq_eq_false_iff_ne.mpr c73
                              have c73b1 : (x6_16 != 0) = true := bne_iff_ne.mpr c73
                              have H' := Aside0.mk H
                              clear H
                              obtain ⟨Ao80, co80, eo80⟩ := Kd.V_slice HO_1.out
                              subst eo80
                              have q79 : (1 : Int) ≤ ((x1_2.length : Int) : Int) := of_decide_eq_true Sh.A
                              obtain ⟨i079, hi079, _, hsz79, _⟩ := info_parts info37
                              have hroom79 : x1_2.length ≤ co80 := (Kd.V_reads' HO_1.out).2.1
                              have hC79 : Kd.F k37 _ _ Ao80 x1_2.length x1_2 := (Kd.V_at (base := w.heap.size) HO_1.out).2.2
                              have hcut79 := cut_from (P := Try.prog) 22 37 .i64 Try.underlying22 hi079 2 hsz79 Ao80 x1_2.length co80 1 (by omega) q79
                              have hr79 := Kd.F_cut (m := (1 : Int).toNat) (c := co80) hC79 (by omega) hroom79
                              obtain ⟨A79, hA79⟩ : ∃ A1, A1 = (if co80 = (1 : Int).toNat then Ao80 else (Ao80 : Option Addr).map (·.add ((1 : Int).toNat * 2))) := ⟨_, rfl⟩
                              obtain ⟨c79, hc79⟩ : ∃ c1, c1 = co80 - (1 : Int).toNat := ⟨_, rfl⟩
                              have hy79 : y316.length = x1_2.length - (1 : Int).toNat := (by rw [Ny316.out, List.length_drop] <;> omega)
                              rw [show (x1_2).drop (1 : Int).toNat = y316 from Ny316.out.symm] at hr79
                              replace hr79 : Kd.F k37 _ _ A79 y316.length y316 := (by rw [hA79]; exact hr79)
                              rw [← hy79, ← hA79, ← hc79] at hcut79
                              have HO320 := Aside0.mk (show Kd.V k37 37 _ w.heap.size _ (.slice A79 y316.length c79) y316 from Kd.V_mk (by rw [hy79, hc79]; exact Nat.sub_le_sub_right hroom79 _) hr79)
                              have HC320 := Aside0.mk (show y316.length ≤ c79 from by rw [hy79, hc79]; exact Nat.sub_le_sub_right hroom79 _)
                              clear hr79 hC79 hroom79 hi079 hsz79 hc79
                              have KY79 := Aside0.mk hy79
                              have KA79 := Aside0.mk hA79
                              clear hy79 hA79
                              replace q79 := eq_true q79
                              go_wp2
                              go_roundg kj28
                              case measure => have := HJ2.out; have := HK2.out; have := HJ10.out; have := HJ16.out; have := HJ28.out; omega
                              case rel => exact ⟨(x0_28), (y316), (x5_28), H', ⟨by have := HJ2.out; have := HK2.out; have := HJ10.out; have := HJ16.out; have := HJ28.out; omega⟩, ⟨by (with_reducible repeat (first | apply Kd.V_alloc | apply Kd.V_drewN | apply Kd.V_drew)); exact HO_0.out⟩, ⟨by (with_reducible repeat (first | apply Kd.V_alloc | apply Kd.V_drewN | apply Kd.V_drew)); exact HO320.out⟩, ⟨by (with_reducible repeat (first | apply Kd.S_alloc | apply Kd.S_drewN | apply Kd.S_drew)); exact HO_5.out⟩, ⟨Sh.B⟩⟩
                          · rw [if_neg c72] at H
                            exact absurd H (by simp)
                · replace c16 := Bool.eq_false_iff.mpr c16
                  subst c16
                  have H1 : (some x5_2) = some r := by rw [if_neg (show ¬ (false = true) by decide)] at H; exact H
                  clear H
                  have H := H1
                  clear H1
                  obtain rfl := Option.some.inj H
                  go_wp2
                  go_ret
                  exact ⟨_, by first | rfl | (simp [errW_none, errW_some] <;> rfl) | (simp [*, errW_none, errW_some] <;> rfl), by (with_reducible repeat (first | apply Kd.S_alloc | apply Kd.S_drewN | apply Kd.S_drew)); exact HO_5.out, Sh.B⟩

end Go.Proofs.Ytkplejkkafcipaa.PA
