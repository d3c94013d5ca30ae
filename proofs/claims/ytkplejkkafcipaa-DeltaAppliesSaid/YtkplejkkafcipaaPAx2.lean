-- Printed by a program of this session (wip/tools: the kit's printer with functions that are given by hand). Not trusted: Lean checks it.
import Derived.Test.YtkplejkkafcipaaPAx0
import Derived.Test.YtkplejkkafcipaaPAx1
namespace Go.Proofs.Ytkplejkkafcipaa.PA
open Go.RowKit Go.Proofs.YtkplejkkafcipaaW.PrintWords Go.Proofs.YtkplejkkafcipaaW.PrintLast Go.Proofs.YtkplejkkafcipaaW.PrintMore
attribute [local go_sem] max2_int min2_int max_two min_two max_three min_three max_four min_four   -- for this text's walks alone
set_option linter.unusedVariables false
set_option linter.unusedSimpArgs false

/-! ### storemankit_SameTurns: function 8 -/
def storemankit_SameTurns.l0 : Nat → List (S43) → List (S43) → Int → Option (Bool)
  | 0, _, _, _ => none
  | k + 1, x0, x1, x5 => if x5 < (x0.length : Int) then (if 0 ≤ x5 then (if x5 < (x1.length : Int) then ((storemankit_SameTurn.f k ((rd_T43 x0 x5).f0) ((rd_T43 x0 x5).f1) ((rd_T43 x0 x5).f2) ((rd_T43 x1 x5).f0) ((rd_T43 x1 x5).f1) ((rd_T43 x1 x5).f2)).bind fun t142 => (if t142 = true then (storemankit_SameTurns.l0 k x0 x1 (wrap64 (x5 + 1))) else (some false))) else (none)) else (none)) else (some true)
def storemankit_SameTurns.f (k : Nat) (l0 : List (S43)) (l1 : List (S43)) : Option (Bool) := if (l0.length : Int) = (l1.length : Int) then (storemankit_SameTurns.l0 k l0 l1 0) else (some false)
theorem storemankit_SameTurns.mono_l : ∀ k, (∀ y0 y1 y2, LeO (storemankit_SameTurns.l0 k y0 y1 y2) (storemankit_SameTurns.l0 (k + 1) y0 y1 y2))
  | 0 => fun _ _ _ r h => by simp [storemankit_SameTurns.l0] at h
  | k + 1 => by
    have ih0 := storemankit_SameTurns.mono_l k
    · intro y0 y1 y2
      unfold storemankit_SameTurns.l0
      repeat' first
      | (with_reducible exact ih0 _ _ _)
      | (with_reducible exact storemankit_SameTurn.mono _ _ _ _ _ _ _)
      | (with_reducible exact LeO.refl _)
      | (with_reducible exact LeO.none _)
      | (with_reducible refine LeO.ite ?_ ?_)
      | (with_reducible refine LeO.bind ?_ (fun _ => ?_))
      | exact ih0 _ _ _
      | exact storemankit_SameTurn.mono _ _ _ _ _ _ _
      | exact LeO.none _
      | refine LeO.ite ?_ ?_
      | refine LeO.bind ?_ (fun _ => ?_)
theorem storemankit_SameTurns.mono : ∀ a0 a1 k, LeO (storemankit_SameTurns.f k a0 a1) (storemankit_SameTurns.f (k + 1) a0 a1) := by
  intro a0 a1 k
  have ih0 := storemankit_SameTurns.mono_l k
  unfold storemankit_SameTurns.f
  repeat' first
      | (with_reducible exact ih0 _ _ _)
      | (with_reducible exact storemankit_SameTurn.mono _ _ _ _ _ _ _)
      | (with_reducible exact LeO.refl _)
      | (with_reducible exact LeO.none _)
      | (with_reducible refine LeO.ite ?_ ?_)
      | (with_reducible refine LeO.bind ?_ (fun _ => ?_))
      | exact ih0 _ _ _
      | exact storemankit_SameTurn.mono _ _ _ _ _ _ _
      | exact LeO.none _
      | refine LeO.ite ?_ ?_
      | refine LeO.bind ?_ (fun _ => ?_)
def storemankit_SameTurns.T6 : Bool × List (List Nat × List Nat) := (true, [([], []), ([], []), ([0, 1], [0, 1]), ([2], [2]), ([], []), ([], []), ([4, 5], [4, 5]), ([6], [6]), ([3, 7], [3, 7]), ([8], [8])])
def storemankit_SameTurns.B6 : List Nat := [0, 0, 3, 7, 0, 0, 48, 112, 255, 511]
theorem storemankit_SameTurns.tab6 : rtab .any (opsOf Try.f8 6) = storemankit_SameTurns.T6 := by kernel_rfl
theorem storemankit_SameTurns.bits6 : waitsOk storemankit_SameTurns.T6.2 storemankit_SameTurns.B6 = true := by kernel_rfl
set_option maxHeartbeats 8000000 in
set_option maxRecDepth 100000 in
theorem storemankit_SameTurns.calls (k : Nat) (A0 : Option Addr) (c0 : Nat) (l0 : List (S43)) (A1 : Option Addr) (c1 : Nat) (l1 : List (S43)) (r : Bool) (w : World) (hr0 : Kd.C k43 w A0 l0.length l0) (hc0 : l0.length ≤ c0) (hr1 : Kd.C k43 w A1 l1.length l1) (hc1 : l1.length ≤ c1) (h : storemankit_SameTurns.f k l0 l1 = some r) (hr_ : r = true := by first | rfl | exact Aside0.out (by assumption)) :
    Calls Try.prog 8 #[.slice A0 l0.length c0, .slice A1 l1.length c1] w fun e w' => e = .returned (.bool r) ∧ Below w.heap.size w w' := by
 (have HRT := Aside0.mk hr_); (clear hr_); (have hu43 := Try.underlying43); (have HR0 := Aside0.mk hr0); (have HC0 := Aside0.mk hc0); (clear hr0 hc0); (have HR1 := Aside0.mk hr1); (have HC1 := Aside0.mk hc1); (clear hr1 hc1); (have HB := Aside0.mk (Below.refl w.heap.size w)); (have H : (if (l0.length : Int) = (l1.length : Int) then (storemankit_SameTurns.l0 k l0 l1 0) else (some false)) = some r := h); (clear h); (by_cases c3 : (l0.length : Int) = (l1.length : Int))
 ·
  (rw [if_pos c3] at H); (have c3b0 : ((l0.length : Int) == (l1.length : Int)) = true := beq_iff_eq.mpr c3); (have c3b1 : ((l0.length : Int) != (l1.length : Int)) = false := bne_eq_false_iff_eq.mpr c3); (have c3b2 : (l0.length == l1.length) = true := by first | simpa using c3 | (simp at c3 ⊢; omega)); (clear c3); (have H' := Aside0.mk H); (clear H); (go_enter Try.func8, Try.ntmps8); (go_wp2); (go_loopg [5] k (fun kq v5 w' => ∃ (x5_1 : Int), v5 = .int .i64 x5_1 ∧ Aside0 (storemankit_SameTurns.l0 kq l0 l1 x5_1 = some r) ∧ Aside0 (kq ≤ k) ∧ Aside0 (Below w.heap.size w w'))); (case atStart => exact ⟨(0), (by first | rfl | (simp; done) | (simp [*]; done)), H', ⟨Nat.le_refl _⟩, ⟨Sh.B⟩⟩)
  case round =>
   (clear H'); (try clear c1); (try clear p2); (try clear c3); (try clear c3b0); (try clear c3b1); (try clear c3b2); (obtain ⟨x5_1, rfl, HA, HK1, HB⟩ := hrel)
   cases gk with
   | zero => exact absurd HA.out (by simp [storemankit_SameTurns.l0])
   | succ k1 =>
    (have H := HA.out); (clear HA); (simp only [storemankit_SameTurns.l0] at H); (by_cases c4 : x5_1 < (l0.length : Int))
    ·
     (rw [if_pos c4] at H); (have c4b0 : decide (x5_1 < (l0.length : Int)) = true := decide_eq_true c4); (clear c4); (by_cases c5 : 0 ≤ x5_1)
     ·
      (rw [if_pos c5] at H); (have c5b0 : decide (0 ≤ x5_1) = true := decide_eq_true c5); (clear c5); (by_cases c6 : x5_1 < (l1.length : Int))
      ·
       (rw [if_pos c6] at H); (have c6b0 : decide (x5_1 < (l1.length : Int)) = true := decide_eq_true c6); (clear c6); (replace H := Option.bind_eq_some_iff.mp H); (obtain ⟨t142, A70, H⟩ := H); (replace H : (if t142 = true then (storemankit_SameTurns.l0 k1 l0 l1 (wrap64 (x5_1 + 1))) else (some false)) = some r := H); (have A7 := Aside0.mk A70); (clear A70); (by_cases c8 : t142 = true)
       ·
        (subst c8); (have H1 : (storemankit_SameTurns.l0 k1 l0 l1 (wrap64 (x5_1 + 1))) = some r := by rw [if_pos rfl] at H; exact H); (clear H); (have H := H1); (clear H1); (have H' := Aside0.mk H); (clear H); (try go_wp2); (have n0_ := Aside0.mk (below_drew1 HB.out)); (clear HB); (have HB := n0_); (clear n0_); (have p140 : 0 ≤ (x5_1 : Int) := of_decide_eq_true Sh.A); (have q140 : x5_1 < (l0.length : Int) := of_decide_eq_true Sh.A); (obtain ⟨ad140, A140_0, c140_0, A140_1, c140_1, A140_2, c140_2, e140, hx140_0, hx140_1, hx140_2, hl140_0, hi140_0, hl140_1, hi140_1, hl140_2, hi140_2⟩ := at_T43 HR0.out x5_1 p140 q140); (have hw140_2 := hx140_2); (have hw140_1 := hx140_1); (have hw140_0 := hx140_0); (cases e140); (replace hx140_0 := (HB.out.cell (World.block_lt_of_cell? w _ hx140_0)).trans hx140_0); (replace hx140_1 := (HB.out.cell (World.block_lt_of_cell? w _ hx140_1)).trans hx140_1); (replace hx140_2 := (HB.out.cell (World.block_lt_of_cell? w _ hx140_2)).trans hx140_2); (have HR140_0 := Aside0.mk hi140_0); (have HC140_0 := Aside0.mk hl140_0); (clear hi140_0 hl140_0); (have HR140_1 := Aside0.mk hi140_1); (have HC140_1 := Aside0.mk hl140_1); (clear hi140_1 hl140_1); (have HR140_2 := Aside0.mk hi140_2); (have HC140_2 := Aside0.mk hl140_2); (clear hi140_2 hl140_2); (replace p140 := eq_true p140); (replace q140 := eq_true q140); (have p141 : 0 ≤ (x5_1 : Int) := of_decide_eq_true Sh.A); (have q141 : x5_1 < (l1.length : Int) := of_decide_eq_true Sh.A); (obtain ⟨ad141, A141_0, c141_0, A141_1, c141_1, A141_2, c141_2, e141, hx141_0, hx141_1, hx141_2, hl141_0, hi141_0, hl141_1, hi141_1, hl141_2, hi141_2⟩ := at_T43 HR1.out x5_1 p141 q141); (have hw141_2 := hx141_2); (have hw141_1 := hx141_1); (have hw141_0 := hx141_0); (cases e141); (replace hx141_0 := (HB.out.cell (World.block_lt_of_cell? w _ hx141_0)).trans hx141_0); (replace hx141_1 := (HB.out.cell (World.block_lt_of_cell? w _ hx141_1)).trans hx141_1); (replace hx141_2 := (HB.out.cell (World.block_lt_of_cell? w _ hx141_2)).trans hx141_2); (have HR141_0 := Aside0.mk hi141_0); (have HC141_0 := Aside0.mk hl141_0); (clear hi141_0 hl141_0); (have HR141_1 := Aside0.mk hi141_1); (have HC141_1 := Aside0.mk hl141_1); (clear hi141_1 hl141_1); (have HR141_2 := Aside0.mk hi141_2); (have HC141_2 := Aside0.mk hl141_2); (clear hi141_2 hl141_2); (replace p141 := eq_true p141); (replace q141 := eq_true q141); (refine start_ (n := 10) (S := fun w' => w'.cell? (ad140.add ((x5_1).toNat * 3)) = some (.slice A140_0 ((rd_T43 l0 x5_1).f0).length c140_0) ∧ w'.cell? ⟨(ad140.add ((x5_1).toNat * 3)).block, (ad140.add ((x5_1).toNat * 3)).off + 1, none⟩ = some (.slice A140_1 ((rd_T43 l0 x5_1).f1).length c140_1) ∧ w'.cell? ⟨(ad140.add ((x5_1).toNat * 3)).block, (ad140.add ((x5_1).toNat * 3)).off + 2, none⟩ = some (.slice A140_2 ((rd_T43 l0 x5_1).f2).length c140_2) ∧ w'.cell? (ad141.add ((x5_1).toNat * 3)) = some (.slice A141_0 ((rd_T43 l1 x5_1).f0).length c141_0) ∧ w'.cell? ⟨(ad141.add ((x5_1).toNat * 3)).block, (ad141.add ((x5_1).toNat * 3)).off + 1, none⟩ = some (.slice A141_1 ((rd_T43 l1 x5_1).f1).length c141_1) ∧ w'.cell? ⟨(ad141.add ((x5_1).toNat * 3)).block, (ad141.add ((x5_1).toNat * 3)).off + 2, none⟩ = some (.slice A141_2 ((rd_T43 l1 x5_1).f2).length c141_2)) (ds := []) (Sh.m 0 10) (by kernel_rfl) rfl rfl ⟨((HB.out.cell (World.block_lt_of_cell? w _ hw140_0)).trans hw140_0), ((HB.out.cell (World.block_lt_of_cell? w _ hw140_1)).trans hw140_1), ((HB.out.cell (World.block_lt_of_cell? w _ hw140_2)).trans hw140_2), ((HB.out.cell (World.block_lt_of_cell? w _ hw141_0)).trans hw141_0), ((HB.out.cell (World.block_lt_of_cell? w _ hw141_1)).trans hw141_1), ((HB.out.cell (World.block_lt_of_cell? w _ hw141_2)).trans hw141_2)⟩ (fun hHeld => ?_); refine with_tabW storemankit_SameTurns.tab6 storemankit_SameTurns.bits6 (fun HT_ HW_ => ?_)); (generalize wr.drew = w9 at HB HR140_0 HR140_1 HR140_2 HR141_0 HR141_1 HR141_2 hx140_0 hx140_1 hx140_2 hx141_0 hx141_1 hx141_2 hHeld ⊢); (refine pure_ (i := 0) (N := some 17) (v := ?_) (a' := ?_) (Sh.m 1 9) rfl rfl (any_of HT_.out (by kernel_rfl)) (fun _ _ _ h => h) (Or.inl ⟨by rfl, ?_⟩) ?_ ?_); (rotate_left)
        · (intro w'); (go_simp); (with_reducible rfl)
        (rotate_left)
        · (simp only [Act.put, List.setIfInBounds_toArray, List.set_cons_zero, List.set_cons_succ, i64_w, i32_w]); (rfl)
        (refine pure_ (i := 1) (N := some 18) (v := ?_) (a' := ?_) (Sh.m 2 8) rfl rfl (any_of HT_.out (by kernel_rfl)) (fun _ _ _ h => h) (Or.inl ⟨by rfl, ?_⟩) ?_ ?_); (rotate_left)
        · (intro w'); (go_simp); (with_reducible rfl)
        (rotate_left)
        · (simp only [Act.put, List.setIfInBounds_toArray, List.set_cons_zero, List.set_cons_succ, i64_w, i32_w]); (rfl)
        (refine pure_ (i := 2) (N := some 19) (v := ?_) (a' := ?_) (Sh.m 3 7) rfl rfl (any_of HT_.out (by kernel_rfl)) (fun _ _ _ h => h) (Or.inl ⟨by rfl, ?_⟩) ?_ ?_); (rotate_left)
        · (intro w'); (go_simp); (with_reducible rfl)
        (rotate_left)
        · (simp only [Act.put, List.setIfInBounds_toArray, List.set_cons_zero, List.set_cons_succ, i64_w, i32_w]); (rfl)
        (refine pure_ (i := 4) (N := some 21) (v := ?_) (a' := ?_) #[true, true, true, false, true, false, false, false, false, false] rfl rfl (any_of HT_.out (by kernel_rfl)) (fun _ _ _ h => h) (Or.inl ⟨by rfl, ?_⟩) ?_ ?_); (rotate_left)
        · (intro w'); (go_simp); (with_reducible rfl)
        (rotate_left)
        · (simp only [Act.put, List.setIfInBounds_toArray, List.set_cons_zero, List.set_cons_succ, i64_w, i32_w]); (rfl)
        (refine pure_ (i := 5) (N := some 22) (v := ?_) (a' := ?_) #[true, true, true, false, true, true, false, false, false, false] rfl rfl (any_of HT_.out (by kernel_rfl)) (fun _ _ _ h => h) (Or.inl ⟨by rfl, ?_⟩) ?_ ?_); (rotate_left)
        · (intro w'); (go_simp); (with_reducible rfl)
        (rotate_left)
        · (simp only [Act.put, List.setIfInBounds_toArray, List.set_cons_zero, List.set_cons_succ, i64_w, i32_w]); (rfl)
        (refine pure_ (i := 6) (N := some 23) (v := ?_) (a' := ?_) #[true, true, true, false, true, true, true, false, false, false] rfl rfl (any_of HT_.out (by kernel_rfl)) (fun _ _ _ h => h) (Or.inl ⟨by rfl, ?_⟩) ?_ ?_); (rotate_left)
        · (intro w'); (go_simp); (with_reducible rfl)
        (rotate_left)
        · (simp only [Act.put, List.setIfInBounds_toArray, List.set_cons_zero, List.set_cons_succ, i64_w, i32_w]); (rfl)
        (refine take_ (i := 3) (N := some 20) (v := ?_) (a' := ?_) (Sh.m 7 3) rfl rfl (take_ofW HT_.out HW_.out (by kernel_rfl)) (fun _ _ _ h => h) (Or.inl ⟨by rfl, ?_⟩) hHeld ?_ ?_); (rotate_left)
        · (rintro w' ⟨s0, s1, s2, s3, s4, s5⟩); (go_simp); (with_reducible rfl)
        (rotate_left)
        · (simp only [Act.put, List.setIfInBounds_toArray, List.set_cons_zero, List.set_cons_succ, i64_w, i32_w]); (rfl)
        (refine take_ (i := 7) (N := some 24) (v := ?_) (a' := ?_) (Sh.m 8 2) rfl rfl (take_ofW HT_.out HW_.out (by kernel_rfl)) (fun _ _ _ h => h) (Or.inl ⟨by rfl, ?_⟩) hHeld ?_ ?_); (rotate_left)
        · (rintro w' ⟨s0, s1, s2, s3, s4, s5⟩); (go_simp); (with_reducible rfl)
        (rotate_left)
        · (simp only [Act.put, List.setIfInBounds_toArray, List.set_cons_zero, List.set_cons_succ, i64_w, i32_w]); (rfl)
        (refine one_ (i := 8) (N := some 25) (Sh.m 9 1) rfl rfl (one_of HT_.out (by kernel_rfl)) (by decide) (fun K hK => ?_)); (refine goes_ Try.func23 (by kernel_rfl) rfl #[.agg #[.slice A140_0 ((rd_T43 l0 x5_1).f0).length c140_0, .slice A140_1 ((rd_T43 l0 x5_1).f1).length c140_1, .slice A140_2 ((rd_T43 l0 x5_1).f2).length c140_2], .agg #[.slice A141_0 ((rd_T43 l1 x5_1).f0).length c141_0, .slice A141_1 ((rd_T43 l1 x5_1).f1).length c141_1, .slice A141_2 ((rd_T43 l1 x5_1).f2).length c141_2]] (by rfl) rfl rfl (by (try simp only [List.map_toArray, List.map_cons, List.map_nil]); first | done | rfl | (simp only [List.length_drop, List.length_take]; rfl)) ?_); (with_reducible refine (storemankit_SameTurn.calls k1 _ _ ((rd_T43 l0 x5_1).f0) _ _ ((rd_T43 l0 x5_1).f1) _ _ ((rd_T43 l0 x5_1).f2) _ _ ((rd_T43 l1 x5_1).f0) _ _ ((rd_T43 l1 x5_1).f1) _ _ ((rd_T43 l1 x5_1).f2) true _ ?side1 ?side2 ?side3 ?side4 ?side5 ?side6 ?side7 ?side8 ?side9 ?side10 ?side11 ?side12 A7.out).mono ?_); ((case side1 => repeat (first | exact (Kd.C_below HR140_0.out HB.out) | (with_reducible refine Kd.C_alloc ?_ _) | (with_reducible refine Kd.C_drewN ?_ _) | (with_reducible refine Kd.C_drew ?_)))); (case side2 => exact HC140_0.out); ((case side3 => repeat (first | exact (Kd.C_below HR140_1.out HB.out) | (with_reducible refine Kd.C_alloc ?_ _) | (with_reducible refine Kd.C_drewN ?_ _) | (with_reducible refine Kd.C_drew ?_)))); (case side4 => exact HC140_1.out); ((case side5 => repeat (first | exact (Kd.C_below HR140_2.out HB.out) | (with_reducible refine Kd.C_alloc ?_ _) | (with_reducible refine Kd.C_drewN ?_ _) | (with_reducible refine Kd.C_drew ?_)))); (case side6 => exact HC140_2.out); ((case side7 => repeat (first | exact (Kd.C_below HR141_0.out HB.out) | (with_reducible refine Kd.C_alloc ?_ _) | (with_reducible refine Kd.C_drewN ?_ _) | (with_reducible refine Kd.C_drew ?_)))); (case side8 => exact HC141_0.out); ((case side9 => repeat (first | exact (Kd.C_below HR141_1.out HB.out) | (with_reducible refine Kd.C_alloc ?_ _) | (with_reducible refine Kd.C_drewN ?_ _) | (with_reducible refine Kd.C_drew ?_)))); (case side10 => exact HC141_1.out); ((case side11 => repeat (first | exact (Kd.C_below HR141_2.out HB.out) | (with_reducible refine Kd.C_alloc ?_ _) | (with_reducible refine Kd.C_drewN ?_ _) | (with_reducible refine Kd.C_drew ?_)))); (case side12 => exact HC141_2.out); (rintro e w10 ⟨rfl, hb⟩); (refine ⟨_, rfl, ?_⟩); (have n0_ := Aside0.mk (below_step Sh.B hb)); (clear HB); (have HB := n0_); (clear n0_); (try clear hb); (try clear hb2); (try clear hk); (try clear hi); (refine hK.out _ _ ⟨((HB.out.cell (World.block_lt_of_cell? w _ hw140_0)).trans hw140_0), ((HB.out.cell (World.block_lt_of_cell? w _ hw140_1)).trans hw140_1), ((HB.out.cell (World.block_lt_of_cell? w _ hw140_2)).trans hw140_2), ((HB.out.cell (World.block_lt_of_cell? w _ hw141_0)).trans hw141_0), ((HB.out.cell (World.block_lt_of_cell? w _ hw141_1)).trans hw141_1), ((HB.out.cell (World.block_lt_of_cell? w _ hw141_2)).trans hw141_2)⟩ (fun hHeld => ?_)); (clear hK K); (refine norm_ (a' := ?_) ?_ ?_); (rotate_left)
        · (show Act.put _ (some 25) _ = _); (simp only [Act.put, List.setIfInBounds_toArray, List.set_cons_zero, List.set_cons_succ, i64_w, i32_w]); (rfl)
        (refine pure_ (i := 9) (N := some 26) (v := ?_) (a' := ?_) (Sh.m 10 0) rfl rfl (any_of HT_.out (by kernel_rfl)) (fun _ _ _ h => h) (Or.inl ⟨by rfl, ?_⟩) ?_ ?_); (rotate_left)
        · (intro w'); (go_simp); (with_reducible rfl)
        (rotate_left)
        · (simp only [Act.put, List.setIfInBounds_toArray, List.set_cons_zero, List.set_cons_succ, i64_w, i32_w]); (rfl)
        (refine done_ (done_of HT_.out (by kernel_rfl)) ?_); (try go_wp2); (go_roundg k1); (case measure => have := HK1.out; omega); (case rel => exact ⟨(wrap64 (x5_1 + 1)), (by first | rfl | (simp; done) | (simp [*]; done)), H', ⟨by have := HK1.out; omega⟩, ⟨Sh.B⟩⟩)
       · (replace c8 := Bool.eq_false_iff.mpr c8); (subst c8); (have H1 : (some false) = some r := by rw [if_neg (show ¬ (false = true) by decide)] at H; exact H); (clear H); (have H := H1); (clear H1); (exact absurd ((Option.some.inj H).trans HRT.out) (by decide))
      · (rw [if_neg c6] at H); (exact absurd H (by simp))
     · (rw [if_neg c5] at H); (exact absurd H (by simp))
    · (rw [if_neg c4] at H); (have c4b0 : decide (x5_1 < (l0.length : Int)) = false := decide_eq_false c4); (clear c4); (obtain rfl := Option.some.inj H); (go_wp2); (go_ret); (exact ⟨by first | rfl | (simp [errW_none, errW_some] <;> rfl) | (simp [*, errW_none, errW_some] <;> rfl), Sh.B⟩)
 · (rw [if_neg c3] at H); (have c3b0 : ((l0.length : Int) == (l1.length : Int)) = false := beq_eq_false_iff_ne.mpr c3); (have c3b1 : ((l0.length : Int) != (l1.length : Int)) = true := bne_iff_ne.mpr c3); (have c3b2 : (l0.length == l1.length) = false := by first | simpa using c3 | (simp at c3 ⊢; omega)); (exact absurd ((Option.some.inj H).trans HRT.out) (by decide))

/-! ### storemanref17_less: function 44 -/
mutual
def storemanref17_less.l0 : Nat → List Int → List Int → Int → Option (Bool)
  | 0, _, _, _ => none
  | k + 1, x0, x1, x5 => if x5 < (x0.length : Int) then (storemanref17_less.j1 k x0 x1 x5 (decide (x5 < (x1.length : Int)))) else (storemanref17_less.j1 k x0 x1 x5 false)
def storemanref17_less.j1 : Nat → List Int → List Int → Int → Bool → Option (Bool)
  | 0, _, _, _, _ => none
  | k + 1, x0, x1, x5, x15 => if x15 = true then (if 0 ≤ x5 then (if x5 < (x0.length : Int) then (if x5 < (x1.length : Int) then (if (rd x0 x5) = (rd x1 x5) then (storemanref17_less.l0 k x0 x1 (wrap64 (x5 + 1))) else (some (decide ((rd x0 x5) < (rd x1 x5))))) else (none)) else (none)) else (none)) else (some (decide ((x0.length : Int) < (x1.length : Int))))
end
def storemanref17_less.f (k : Nat) (l0 : List Int) (l1 : List Int) : Option (Bool) := storemanref17_less.l0 k l0 l1 0
theorem storemanref17_less.mono_l : ∀ k, (∀ y0 y1 y2, LeO (storemanref17_less.l0 k y0 y1 y2) (storemanref17_less.l0 (k + 1) y0 y1 y2)) ∧ (∀ y0 y1 y2 y3, LeO (storemanref17_less.j1 k y0 y1 y2 y3) (storemanref17_less.j1 (k + 1) y0 y1 y2 y3))
  | 0 => ⟨fun _ _ _ r h => by simp [storemanref17_less.l0] at h, fun _ _ _ _ r h => by simp [storemanref17_less.j1] at h⟩
  | k + 1 => by
    obtain ⟨ih0, ih1⟩ := storemanref17_less.mono_l k
    refine ⟨?_, ?_⟩
    · intro y0 y1 y2
      unfold storemanref17_less.l0
      repeat' first
      | (with_reducible exact ih0 _ _ _)
      | (with_reducible exact ih1 _ _ _ _)
      | (with_reducible exact LeO.refl _)
      | (with_reducible exact LeO.none _)
      | (with_reducible refine LeO.ite ?_ ?_)
      | (with_reducible refine LeO.bind ?_ (fun _ => ?_))
      | exact ih0 _ _ _
      | exact ih1 _ _ _ _
      | exact LeO.none _
      | refine LeO.ite ?_ ?_
      | refine LeO.bind ?_ (fun _ => ?_)
    · intro y0 y1 y2 y3
      unfold storemanref17_less.j1
      repeat' first
      | (with_reducible exact ih0 _ _ _)
      | (with_reducible exact ih1 _ _ _ _)
      | (with_reducible exact LeO.refl _)
      | (with_reducible exact LeO.none _)
      | (with_reducible refine LeO.ite ?_ ?_)
      | (with_reducible refine LeO.bind ?_ (fun _ => ?_))
      | exact ih0 _ _ _
      | exact ih1 _ _ _ _
      | exact LeO.none _
      | refine LeO.ite ?_ ?_
      | refine LeO.bind ?_ (fun _ => ?_)
theorem storemanref17_less.mono : ∀ a0 a1 k, LeO (storemanref17_less.f k a0 a1) (storemanref17_less.f (k + 1) a0 a1) := by
  intro a0 a1 k
  obtain ⟨ih0, ih1⟩ := storemanref17_less.mono_l k
  unfold storemanref17_less.f
  repeat' first
      | (with_reducible exact ih0 _ _ _)
      | (with_reducible exact ih1 _ _ _ _)
      | (with_reducible exact LeO.refl _)
      | (with_reducible exact LeO.none _)
      | (with_reducible refine LeO.ite ?_ ?_)
      | (with_reducible refine LeO.bind ?_ (fun _ => ?_))
      | exact ih0 _ _ _
      | exact ih1 _ _ _ _
      | exact LeO.none _
      | refine LeO.ite ?_ ?_
      | refine LeO.bind ?_ (fun _ => ?_)
set_option maxHeartbeats 8000000 in
set_option maxRecDepth 100000 in
theorem storemanref17_less.calls (k : Nat) (A0 : Option Addr) (c0 : Nat) (l0 : List Int) (A1 : Option Addr) (c1 : Nat) (l1 : List Int) (r : Bool) (w : World) (hr0 : Kd.C (Kd.int .u8) w A0 l0.length l0) (hc0 : l0.length ≤ c0) (hr1 : Kd.C (Kd.int .u8) w A1 l1.length l1) (hc1 : l1.length ≤ c1) (h : storemanref17_less.f k l0 l1 = some r) :
    Calls Try.prog 44 #[.slice A0 l0.length c0, .slice A1 l1.length c1] w fun e w' => e = .returned (.bool r) ∧ Drawn0 w w' := by
 (have HR0 := Aside0.mk hr0); (have HC0 := Aside0.mk hc0); (clear hr0 hc0); (have HR1 := Aside0.mk hr1); (have HC1 := Aside0.mk hc1); (clear hr1 hc1); (have H : (storemanref17_less.l0 k l0 l1 0) = some r := h); (clear h); (have H' := Aside0.mk H); (clear H); (go_enter Try.func44, Try.ntmps44); (go_wp2); (repeat (go_quiet (fail); try go_wp2)); (go_loopg [5] k (fun kq v5 w' => ∃ (x5_1 : Int), v5 = .int .i64 x5_1 ∧ Aside0 (storemanref17_less.l0 kq l0 l1 x5_1 = some r) ∧ Aside0 (kq ≤ k) ∧ Drawn0 w w')); (case atStart => exact ⟨(0), (by first | rfl | (simp; done) | (simp [*]; done)), H', ⟨Nat.le_refl _⟩, by repeat (first | exact Drawn0.refl _ | apply Drawn0.step)⟩)
 case round =>
  (clear H'); (try clear c1); (try clear p2); (obtain ⟨x5_1, rfl, HA, HK1, ⟨m1, rfl⟩⟩ := hrel)
  cases gk with
  | zero => exact absurd HA.out (by simp [storemanref17_less.l0])
  | succ k1 =>
   (have H := HA.out); (clear HA); (simp only [storemanref17_less.l0] at H); (have HC3 := Aside0.mk H); (clear H); (go_upto_region 2 with (fail)); (repeat (go_quiet (fail); go_upto_region 2 with (fail))); (go_cut [15] (fun v15 wc => ∃ (kq : Nat) (x15_2 : Bool), v15 = .bool x15_2 ∧ Aside0 (storemanref17_less.j1 kq l0 l1 x5_1 x15_2 = some r) ∧ Aside0 (kq ≤ k1) ∧ Drawn0 w wc))
   case first =>
    (have H := HC3.out); (clear HC3); (by_cases c4 : x5_1 < (l0.length : Int))
    · (rw [if_pos c4] at H); (have c4b0 : decide (x5_1 < (l0.length : Int)) = true := decide_eq_true c4); (clear c4); ((first | rw [c4b0] | (simp only [i64_w, i32_w]; rw [c4b0]) | skip)); (have H' := Aside0.mk H); (clear H); (go_wp2); (repeat (go_quiet (fail); try go_wp2)); (go_meet); (case rel => exact ⟨_, (decide (x5_1 < (l1.length : Int))), (by first | rfl | (simp; done) | (simp [*]; done)), H', ⟨by have := HK1.out; first | omega | exact Nat.le_refl _⟩, by repeat (first | exact Drawn0.refl _ | apply Drawn0.step)⟩)
    · (rw [if_neg c4] at H); (have c4b0 : decide (x5_1 < (l0.length : Int)) = false := decide_eq_false c4); (clear c4); ((first | rw [c4b0] | (simp only [i64_w, i32_w]; rw [c4b0]) | skip)); (have H' := Aside0.mk H); (clear H); (go_wp2); (repeat (go_quiet (fail); try go_wp2)); (go_meet); (case rel => exact ⟨_, (false), (by first | rfl | (simp; done) | (simp [*]; done)), H', ⟨by have := HK1.out; first | omega | exact Nat.le_refl _⟩, by repeat (first | exact Drawn0.refl _ | apply Drawn0.step)⟩)
   case rest =>
    (clear HC3); (try clear c1); (try clear p2); (try clear c4); (try clear c4b0); (try clear p2); (obtain ⟨kq, x15_2, rfl, HA, HJ2, ⟨mc2, rfl⟩⟩ := hcut)
    cases kq with
    | zero => exact absurd HA.out (by simp [storemanref17_less.j1])
    | succ kj2 =>
     (have H := HA.out); (clear HA); (simp only [storemanref17_less.j1] at H); (by_cases c5 : x15_2 = true)
     ·
      (subst c5); (have H1 : (if 0 ≤ x5_1 then (if x5_1 < (l0.length : Int) then (if x5_1 < (l1.length : Int) then (if (rd l0 x5_1) = (rd l1 x5_1) then (storemanref17_less.l0 kj2 l0 l1 (wrap64 (x5_1 + 1))) else (some (decide ((rd l0 x5_1) < (rd l1 x5_1))))) else (none)) else (none)) else (none)) = some r := by rw [if_pos rfl] at H; exact H); (clear H); (have H := H1); (clear H1); (by_cases c6 : 0 ≤ x5_1)
      ·
       (rw [if_pos c6] at H); (have c6b0 : decide (0 ≤ x5_1) = true := decide_eq_true c6); (clear c6); (by_cases c7 : x5_1 < (l0.length : Int))
       ·
        (rw [if_pos c7] at H); (have c7b0 : decide (x5_1 < (l0.length : Int)) = true := decide_eq_true c7); (clear c7); (by_cases c8 : x5_1 < (l1.length : Int))
        ·
         (rw [if_pos c8] at H); (have c8b0 : decide (x5_1 < (l1.length : Int)) = true := decide_eq_true c8); (clear c8); (by_cases c9 : (rd l0 x5_1) = (rd l1 x5_1))
         · (rw [if_pos c9] at H); (have c9b0 : ((rd l0 x5_1) == (rd l1 x5_1)) = true := beq_iff_eq.mpr c9); (have c9b1 : ((rd l0 x5_1) != (rd l1 x5_1)) = false := bne_eq_false_iff_eq.mpr c9); (clear c9); (have H' := Aside0.mk H); (clear H); (have p143 : 0 ≤ (x5_1 : Int) := of_decide_eq_true Sh.A); (have q143 : x5_1 < (l0.length : Int) := of_decide_eq_true Sh.A); (obtain ⟨ad143, e143, hx143_0⟩ := Kd.at_int HR0.out x5_1 p143 q143); (cases e143); (replace p143 := eq_true p143); (replace q143 := eq_true q143); (have p144 : 0 ≤ (x5_1 : Int) := of_decide_eq_true Sh.A); (have q144 : x5_1 < (l1.length : Int) := of_decide_eq_true Sh.A); (obtain ⟨ad144, e144, hx144_0⟩ := Kd.at_int HR1.out x5_1 p144 q144); (cases e144); (replace p144 := eq_true p144); (replace q144 := eq_true q144); (go_wp2); (repeat (go_quiet (fail); try go_wp2)); (go_roundg kj2); (case measure => have := HK1.out; have := HJ2.out; omega); (case rel => exact ⟨(wrap64 (x5_1 + 1)), (by first | rfl | (simp; done) | (simp [*]; done)), H', ⟨by have := HK1.out; have := HJ2.out; omega⟩, by repeat (first | exact Drawn0.refl _ | apply Drawn0.step)⟩)
         · (rw [if_neg c9] at H); (have c9b0 : ((rd l0 x5_1) == (rd l1 x5_1)) = false := beq_eq_false_iff_ne.mpr c9); (have c9b1 : ((rd l0 x5_1) != (rd l1 x5_1)) = true := bne_iff_ne.mpr c9); (obtain rfl := Option.some.inj H); (have p143 : 0 ≤ (x5_1 : Int) := of_decide_eq_true Sh.A); (have q143 : x5_1 < (l0.length : Int) := of_decide_eq_true Sh.A); (obtain ⟨ad143, e143, hx143_0⟩ := Kd.at_int HR0.out x5_1 p143 q143); (cases e143); (replace p143 := eq_true p143); (replace q143 := eq_true q143); (have p144 : 0 ≤ (x5_1 : Int) := of_decide_eq_true Sh.A); (have q144 : x5_1 < (l1.length : Int) := of_decide_eq_true Sh.A); (obtain ⟨ad144, e144, hx144_0⟩ := Kd.at_int HR1.out x5_1 p144 q144); (cases e144); (replace p144 := eq_true p144); (replace q144 := eq_true q144); (have p145 : 0 ≤ (x5_1 : Int) := of_decide_eq_true Sh.A); (have q145 : x5_1 < (l0.length : Int) := of_decide_eq_true Sh.A); (obtain ⟨ad145, e145, hx145_0⟩ := Kd.at_int HR0.out x5_1 p145 q145); (obtain rfl : ad143 = ad145 := (by injection e145)); (replace p145 := eq_true p145); (replace q145 := eq_true q145); (have p146 : 0 ≤ (x5_1 : Int) := of_decide_eq_true Sh.A); (have q146 : x5_1 < (l1.length : Int) := of_decide_eq_true Sh.A); (obtain ⟨ad146, e146, hx146_0⟩ := Kd.at_int HR1.out x5_1 p146 q146); (obtain rfl : ad144 = ad146 := (by injection e146)); (replace p146 := eq_true p146); (replace q146 := eq_true q146); (go_wp2); (repeat (go_quiet (fail); try go_wp2)); (go_ret); (exact ⟨by first | rfl | (simp; done) | (simp [*]; done), by repeat (first | exact Drawn0.refl _ | apply Drawn0.step)⟩)
        · (rw [if_neg c8] at H); (exact absurd H (by simp))
       · (rw [if_neg c7] at H); (exact absurd H (by simp))
      · (rw [if_neg c6] at H); (exact absurd H (by simp))
     · (replace c5 := Bool.eq_false_iff.mpr c5); (subst c5); (have H1 : (some (decide ((l0.length : Int) < (l1.length : Int)))) = some r := by rw [if_neg (show ¬ (false = true) by decide)] at H; exact H); (clear H); (have H := H1); (clear H1); (obtain rfl := Option.some.inj H); (go_wp2); (repeat (go_quiet (fail); try go_wp2)); (go_ret); (exact ⟨by first | rfl | (simp; done) | (simp [*]; done), by repeat (first | exact Drawn0.refl _ | apply Drawn0.step)⟩)

end Go.Proofs.Ytkplejkkafcipaa.PA
