/-
The law DeltaApplies: for every input it returns true and its arguments read as before: the given row, out of the walk DeltaApplies_goes. No condition.
-/
import Derived.Test.YtkplejkkafcipaaLentS
import Derived.Test.YtkplejkkafcipaaPAx13
import Derived.Test.YtkplejkkafcipaaBack
import Derived.Test.YtkplejkkafcipaaRef
import Derived.Test.YtkplejkkafcipaaAwake
import Derived.Test.YtkplejkkafcipaaPAx8
import Derived.Test.YtkplejkkafcipaaPAx9
import Derived.Test.YtkplejkkafcipaaPAx14
import Derived.Test.YtkplejkkafcipaaRows
import Derived.Test.YtkplejkkafcipaaOpen
import Derived.WalkKit
import Derived.ProofKit
import Derived.OpenShut
import Derived.ShutString
import Derived.ChangeOld
import Derived.Below
import Derived.SizedLaws
import Derived.WideShapes
import Derived.KernelRfl
namespace Go.Proofs.Ytkplejkkafcipaa.PA
open Go.RowKit Go.Proofs.YtkplejkkafcipaaW.PrintWords Go.Proofs.YtkplejkkafcipaaW.PrintLast Go.Proofs.YtkplejkkafcipaaW.PrintMore
set_option linter.unusedVariables false
set_option linter.unusedSimpArgs false

theorem sameTurns_l0 (l : List S43) (hl : l.length ≤ 1000000) (hs : shortT l) : ∀ n i, i + n = l.length → ∃ K, ∀ k, K ≤ k → storemankit_SameTurns.l0 k l l (i : Int) = some true := by
  intro n
  induction n with
  | zero =>
    intro i hi
    refine ⟨1, fun k hk => ?_⟩
    obtain ⟨k, rfl⟩ : ∃ j, k = j + 1 := ⟨k - 1, by omega⟩
    simp only [storemankit_SameTurns.l0]
    rw [if_neg (by omega)]
  | succ n ih =>
    intro i hi
    have hx := hs _ (List.getElem_mem (show i < l.length by omega))
    obtain ⟨K0, h0⟩ := sameTurn_ev l[i].f0 l[i].f1 l[i].f2 (by omega) (by omega) (by omega)
    obtain ⟨K1, h1⟩ := ih (i + 1) (by omega)
    refine ⟨K0 + K1 + 1, fun k hk => ?_⟩
    obtain ⟨k, rfl⟩ : ∃ j, k = j + 1 := ⟨k - 1, by omega⟩
    have e0 : storemankit_SameTurn.f k l[i].f0 l[i].f1 l[i].f2 l[i].f0 l[i].f1 l[i].f2 = some true := h0 k (by omega)
    simp only [storemankit_SameTurns.l0]
    rw [if_pos (by omega), if_pos (by omega), if_pos (by omega), rd43 l i (by omega), e0, Option.bind_some, if_pos rfl, wrapI (by omega) (by omega)]
    exact h1 k (by omega)
theorem sameTurns_ev (l : List S43) (hl : l.length ≤ 1000000) (hs : shortT l) : ∃ K, ∀ k, K ≤ k → storemankit_SameTurns.f k l l = some true := by
  obtain ⟨K, h⟩ := sameTurns_l0 l hl hs l.length 0 (by omega)
  refine ⟨K, fun k hk => ?_⟩
  unfold storemankit_SameTurns.f
  rw [if_pos rfl]
  exact h k hk
theorem keptRows_l0 (l : List S37) (hl : l.length ≤ 1000) : ∀ n i, i + n = l.length + 12 → ∃ K, ∀ k, K ≤ k → storemankit_KeptRows.l0 k l (l ++ marks37) (i : Int) = some true := by
  intro n
  induction n with
  | zero =>
    intro i hi
    refine ⟨1, fun k hk => ?_⟩
    obtain ⟨k, rfl⟩ : ∃ j, k = j + 1 := ⟨k - 1, by omega⟩
    simp only [storemankit_KeptRows.l0]
    rw [if_neg (by rw [List.length_append, marks37_len]; omega)]
  | succ n ih =>
    intro i hi
    obtain ⟨K, h⟩ := ih (i + 1) (by omega)
    by_cases hlt : i < l.length
    · refine ⟨K + 2, fun k hk => ?_⟩
      obtain ⟨k, rfl⟩ : ∃ j, k = j + 2 := ⟨k - 2, by omega⟩
      have e1 : rd_T37 (l ++ marks37) (i : Int) = l[i] := by simp only [rd_T37, Int.toNat_natCast, List.getD_eq_getElem?_getD, List.getElem?_append_left hlt]; simp [hlt]
      simp only [storemankit_KeptRows.l0]
      rw [if_pos (by rw [List.length_append, marks37_len]; omega), if_pos (by omega), if_pos (by omega), e1, rd37 l i hlt]
      unfold storemankit_KeptRow.f
      rw [if_pos ⟨rfl, rfl⟩, Option.bind_some, if_pos rfl, if_neg (by omega)]
      simp only [storemankit_KeptRows.j1]
      rw [if_neg (by simp), wrapI (by omega) (by omega)]
      exact h k (by omega)
    · obtain ⟨K0, h0⟩ := sameRow_ev [mkB (i - l.length)] [] (by simp) (by simp)
      refine ⟨K + K0 + 2, fun k hk => ?_⟩
      obtain ⟨k, rfl⟩ : ∃ j, k = j + 2 := ⟨k - 2, by omega⟩
      have e1 : rd_T37 (l ++ marks37) (i : Int) = ⟨[mkB (i - l.length)], []⟩ := by
        have h2 : i - l.length < 12 := by omega
        have h3 : marks37[i - l.length]? = some (mk37 (i - l.length)) := by
          unfold marks37
          rw [List.getElem?_map, List.getElem?_range h2, Option.map_some]
        simp only [rd_T37, Int.toNat_natCast, List.getD_eq_getElem?_getD]
        rw [List.getElem?_append_right (by omega), h3, Option.getD_some]
        rfl
      have e0 : storemankit_SameRow.f (k + 1) [mkB (i - l.length)] [] [mkB (i - l.length)] [] = some true := h0 _ (by omega)
      have e2 : storemankit_markRow.f 1 ((i - l.length : Nat) : Int) = some ([mkB (i - l.length)], []) := rfl
      simp only [storemankit_KeptRows.l0]
      rw [if_pos (by rw [List.length_append, marks37_len]; omega), if_neg (by omega), if_pos (by omega), if_pos (by omega), wrapI (x := (i : Int) - l.length) (by omega) (by omega), show (i : Int) - (l.length : Int) = ((i - l.length : Nat) : Int) by omega, e2, Option.bind_some, e1, e0, Option.bind_some]
      simp only [storemankit_KeptRows.j1]
      rw [if_neg (by simp), wrapI (by omega) (by omega)]
      exact h k (by omega)
theorem keptRows_ev (l : List S37) (hl : l.length ≤ 1000) : ∃ K, ∀ k, K ≤ k → storemankit_KeptRows.f k l (l ++ marks37) l = some true := by
  obtain ⟨K, h⟩ := keptRows_l0 l hl (l.length + 12) 0 (by omega)
  refine ⟨K, fun k hk => ?_⟩
  unfold storemankit_KeptRows.f
  rw [if_pos rfl, if_pos (by rw [wrapI (by omega) (by omega), List.length_append, marks37_len]; omega)]
  exact h k hk
end Go.Proofs.Ytkplejkkafcipaa.PA
namespace Go.Proofs.Ytkplejkkafcipaa.PA
open Go.RowKit Go.Proofs.YtkplejkkafcipaaW.PrintWords Go.Proofs.YtkplejkkafcipaaW.PrintLast Go.Proofs.YtkplejkkafcipaaW.PrintMore
set_option linter.unusedVariables false
set_option linter.unusedSimpArgs false

/-- Rows that came out, or none. -/
def outR : Option (List S37) → List S37 × Bool
  | some L => (L, true)
  | none => ([], false)
theorem rapply_l0 (t : List S43) (ht : t.length ≤ 10000) (st : shortT t) : ∀ n i, i + n = t.length → ∀ L : List S37, L.length + n ≤ 100000 → Sorted L → short L → ∃ K, ∀ k, K ≤ k → storemanref17_Apply.l0 k t L (i : Int) = some (outR (goR L (t.drop i))) := by
  intro n
  induction n with
  | zero =>
    intro i hi L hL so sh
    refine ⟨1, fun k hk => ?_⟩
    obtain ⟨k, rfl⟩ : ∃ j, k = j + 1 := ⟨k - 1, by omega⟩
    simp only [storemanref17_Apply.l0]
    rw [if_neg (by omega), List.drop_eq_nil_of_le (by omega)]
    rfl
  | succ n ih =>
    intro i hi L hL so sh
    have hlt : i < t.length := by omega
    have hx := st _ (List.getElem_mem hlt)
    rw [List.drop_eq_getElem_cons hlt]
    by_cases h0 : t[i].f0 = []
    · refine ⟨1, fun k hk => ?_⟩
      obtain ⟨k, rfl⟩ : ∃ j, k = j + 1 := ⟨k - 1, by omega⟩
      simp only [storemanref17_Apply.l0]
      rw [if_pos (by omega), if_pos (by omega), rd43 t i hlt, if_pos (by rw [h0]; rfl)]
      simp only [goR, stepR]
      rw [if_pos (.inl h0)]
      rfl
    · obtain ⟨K0, g0⟩ := get_ev L t[i].f0 (by omega) sh (by omega)
      have l0 := short_getR sh t[i].f0
      by_cases e : getR L t[i].f0 = t[i].f1
      · obtain ⟨K1, g1⟩ := put_ev L t[i].f0 t[i].f2 (by omega) so sh (by omega)
        have hpl := putR_len L t[i].f0 t[i].f2
        obtain ⟨K, h⟩ := ih (i + 1) (by omega) (putR L t[i].f0 t[i].f2) (by omega) (sorted_putR so _ _) (short_putR sh hx.1 hx.2.2)
        refine ⟨K + K0 + K1 + 2 * (getR L t[i].f0).length + 2 * t[i].f1.length + 4, fun k hk => ?_⟩
        obtain ⟨k, rfl⟩ : ∃ j, k = j + 1 := ⟨k - 1, by omega⟩
        simp only [storemanref17_Apply.l0]
        rw [if_pos (by omega), if_pos (by omega), rd43 t i hlt, if_neg (ne_len.1 h0), g0 k (by omega), Option.bind_some, same_f _ _ (by omega) (by omega) k (by omega), Option.bind_some, if_pos (decide_eq_true e), g1 k (by omega), Option.bind_some, wrapI (by omega) (by omega)]
        simp only [goR, stepR]
        rw [if_neg (by rintro (q | q); exact h0 q; exact q e)]
        exact h k (by omega)
      · refine ⟨K0 + 2 * (getR L t[i].f0).length + 2 * t[i].f1.length + 4, fun k hk => ?_⟩
        obtain ⟨k, rfl⟩ : ∃ j, k = j + 1 := ⟨k - 1, by omega⟩
        simp only [storemanref17_Apply.l0]
        rw [if_pos (by omega), if_pos (by omega), rd43 t i hlt, if_neg (ne_len.1 h0), g0 k (by omega), Option.bind_some, same_f _ _ (by omega) (by omega) k (by omega), Option.bind_some, if_neg (by simpa using e)]
        simp only [goR, stepR]
        rw [if_pos (.inr e)]
        rfl
theorem rapply_ev (l : List S37) (t : List S43) (sl : short l) (st : shortT t) (hl : l.length ≤ 10000) (ht : t.length ≤ 10000) : ∃ K, ∀ k, K ≤ k → storemanref17_Apply.f k l t = some (applyR l t) := by
  obtain ⟨u, ⟨K0, h0⟩, hu⟩ := rright_ev l (by omega) sl
  by_cases hr : Right l
  · obtain ⟨K1, h1⟩ := rapply_l0 t ht st t.length 0 (by omega) l (by omega) hr.2 sl
    refine ⟨K0 + K1, fun k hk => ?_⟩
    unfold storemanref17_Apply.f
    rw [h0 k (by omega), Option.bind_some, hu.2 hr, if_pos rfl, Option.bind_some, List.nil_append, if_pos (by simp <;> omega)]
    refine (h1 k (by omega)).trans ?_
    rw [List.drop_zero]
    cases e : goR l t with
    | none => rw [applyR_none hr e]; rfl
    | some L => rw [applyR_some hr e]; rfl
  · refine ⟨K0, fun k hk => ?_⟩
    have : u = false := by rw [← Bool.not_eq_true]; exact fun h => hr (hu.1 h)
    unfold storemanref17_Apply.f
    rw [h0 k (by omega), Option.bind_some, this, if_neg (by simp), applyR_not hr]
theorem rback_l0 (t : List S43) (hl : t.length ≤ 1000000) : ∀ (i k : Nat) (acc : List S43), i ≤ t.length → i < k → acc.length + i ≤ 1000000000 → storemanref17_Back.l0 k t acc ((i : Int) - 1) = some (acc ++ backR (t.take i)) := by
  intro i
  induction i with
  | zero =>
    intro k acc _ hk _
    obtain ⟨k, rfl⟩ : ∃ j, k = j + 1 := ⟨k - 1, by omega⟩
    simp only [storemanref17_Back.l0]
    rw [if_neg (by omega)]
    simp [backR]
  | succ i ih =>
    intro k acc hi hk hacc
    obtain ⟨k, rfl⟩ : ∃ j, k = j + 1 := ⟨k - 1, by omega⟩
    rw [show ((i + 1 : Nat) : Int) - 1 = (i : Int) by omega]
    simp only [storemanref17_Back.l0]
    rw [if_pos (by omega), if_pos (by omega), if_pos (by omega), rd43 t i (by omega), if_pos (by omega), wrapI (by omega) (by omega), ih k _ (by omega) (by omega) (by simp <;> omega), backR_succ t i (by omega), List.append_assoc]
    rfl
theorem rback_ev (t : List S43) (hl : t.length ≤ 1000000) : ∃ K, ∀ k, K ≤ k → storemanref17_Back.f k t = some (backR t) :=
  ⟨t.length + 1, fun k hk => by
    unfold storemanref17_Back.f
    rw [wrapI (by omega) (by omega), rback_l0 t hl t.length k [] (Nat.le_refl _) (by omega) (by simp <;> omega), List.take_length]
    rfl⟩
theorem keptTurns_l0 (l : List S43) (hl : l.length ≤ 1000) : ∀ n i, i + n = l.length + 12 → ∃ K, ∀ k, K ≤ k → storemankit_KeptTurns.l0 k l (l ++ marks43) (i : Int) = some true := by
  intro n
  induction n with
  | zero =>
    intro i hi
    refine ⟨1, fun k hk => ?_⟩
    obtain ⟨k, rfl⟩ : ∃ j, k = j + 1 := ⟨k - 1, by omega⟩
    simp only [storemankit_KeptTurns.l0]
    rw [if_neg (by rw [List.length_append, marks43_len]; omega)]
  | succ n ih =>
    intro i hi
    obtain ⟨K, h⟩ := ih (i + 1) (by omega)
    by_cases hlt : i < l.length
    · refine ⟨K + 2, fun k hk => ?_⟩
      obtain ⟨k, rfl⟩ : ∃ j, k = j + 2 := ⟨k - 2, by omega⟩
      have e1 : rd_T43 (l ++ marks43) (i : Int) = l[i] := by simp only [rd_T43, Int.toNat_natCast, List.getD_eq_getElem?_getD, List.getElem?_append_left hlt]; simp [hlt]
      simp only [storemankit_KeptTurns.l0]
      rw [if_pos (by rw [List.length_append, marks43_len]; omega), if_pos (by omega), if_pos (by omega), e1, rd43 l i hlt]
      unfold storemankit_KeptTurn.f
      rw [if_pos ⟨rfl, rfl, rfl⟩, Option.bind_some, if_pos rfl, if_neg (by omega)]
      simp only [storemankit_KeptTurns.j1]
      rw [if_neg (by simp), wrapI (by omega) (by omega)]
      exact h k (by omega)
    · obtain ⟨K0, h0⟩ := sameTurn_ev [mkB (i - l.length)] [] [] (by simp) (by simp) (by simp)
      refine ⟨K + K0 + 2, fun k hk => ?_⟩
      obtain ⟨k, rfl⟩ : ∃ j, k = j + 2 := ⟨k - 2, by omega⟩
      have e1 : rd_T43 (l ++ marks43) (i : Int) = ⟨[mkB (i - l.length)], [], []⟩ := by
        have h2 : i - l.length < 12 := by omega
        have h3 : marks43[i - l.length]? = some (mk43 (i - l.length)) := by
          unfold marks43
          rw [List.getElem?_map, List.getElem?_range h2, Option.map_some]
        simp only [rd_T43, Int.toNat_natCast, List.getD_eq_getElem?_getD]
        rw [List.getElem?_append_right (by omega), h3, Option.getD_some]
        rfl
      have e0 : storemankit_SameTurn.f (k + 1) [mkB (i - l.length)] [] [] [mkB (i - l.length)] [] [] = some true := h0 _ (by omega)
      have e2 : storemankit_markTurn.f 1 ((i - l.length : Nat) : Int) = some ([mkB (i - l.length)], [], []) := rfl
      simp only [storemankit_KeptTurns.l0]
      rw [if_pos (by rw [List.length_append, marks43_len]; omega), if_neg (by omega), if_pos (by omega), if_pos (by omega), wrapI (x := (i : Int) - l.length) (by omega) (by omega), show (i : Int) - (l.length : Int) = ((i - l.length : Nat) : Int) by omega, e2, Option.bind_some, e1, e0, Option.bind_some]
      simp only [storemankit_KeptTurns.j1]
      rw [if_neg (by simp), wrapI (by omega) (by omega)]
      exact h k (by omega)
theorem keptTurns_ev (l : List S43) (hl : l.length ≤ 1000) : ∃ K, ∀ k, K ≤ k → storemankit_KeptTurns.f k l (l ++ marks43) l = some true := by
  obtain ⟨K, h⟩ := keptTurns_l0 l hl (l.length + 12) 0 (by omega)
  refine ⟨K, fun k hk => ?_⟩
  unfold storemankit_KeptTurns.f
  rw [if_pos rfl, if_pos (by rw [wrapI (by omega) (by omega), List.length_append, marks43_len]; omega)]
  exact h k hk
theorem applyR_len (l : List S37) (t : List S43) : (applyR l t).1.length ≤ l.length + t.length := by
  by_cases hr : Right l
  · cases e : goR l t with
    | none => rw [applyR_none hr e]; simp
    | some L => rw [applyR_some hr e]; exact goR_len e
  · rw [applyR_not hr]; simp
theorem applyR_short {l : List S37} {t : List S43} (sl : short l) (st : shortT t) : short (applyR l t).1 := by
  by_cases hr : Right l
  · cases e : goR l t with
    | none => rw [applyR_none hr e]; intro x hx; cases hx
    | some L =>
      rw [applyR_some hr e]
      intro q hq
      rcases goR_sub e hq with h | ⟨x, hx, h⟩
      · exact sl q h
      · rw [h]; exact ⟨(st x hx).1, (st x hx).2.2⟩
  · rw [applyR_not hr]; intro x hx; cases hx
theorem good_turns {t : List S43} (hg0 : List.length t * 72 ≤ 140737488351232 ∧ ∀ x ∈ t, (List.length x.f0 * 1 ≤ 140737488351232 ∧ ∀ y ∈ x.f0, (Lit.int .u8 y).wf = true) ∧ (List.length x.f1 * 1 ≤ 140737488351232 ∧ ∀ y ∈ x.f1, (Lit.int .u8 y).wf = true) ∧ (List.length x.f2 * 1 ≤ 140737488351232 ∧ ∀ y ∈ x.f2, (Lit.int .u8 y).wf = true)) : wfT t ∧ shortT t ∧ (∀ x ∈ t, x.f0.length ≤ 140737488351232 ∧ x.f1.length ≤ 140737488351232 ∧ x.f2.length ≤ 140737488351232) :=
  ⟨fun r hr => ⟨wf_u8 (hg0.2 r hr).1.2, wf_u8 (hg0.2 r hr).2.1.2, wf_u8 (hg0.2 r hr).2.2.2⟩, fun r hr => ⟨by have := (hg0.2 r hr).1.1; omega, by have := (hg0.2 r hr).2.1.1; omega, by have := (hg0.2 r hr).2.2.1; omega⟩, fun r hr => ⟨by have := (hg0.2 r hr).1.1; omega, by have := (hg0.2 r hr).2.1.1; omega, by have := (hg0.2 r hr).2.2.1; omega⟩⟩
end Go.Proofs.Ytkplejkkafcipaa.PA
namespace Go.Proofs.Ytkplejkkafcipaa.PA
open Go.RowKit Go.Proofs.YtkplejkkafcipaaW.PrintWords Go.Proofs.YtkplejkkafcipaaW.PrintLast Go.Proofs.YtkplejkkafcipaaW.PrintMore
set_option linter.unusedVariables false
set_option linter.unusedSimpArgs false
theorem good_max {l : List S37} (hg0 : List.length l * 48 ≤ 140737488351232 ∧ ∀ x ∈ l, (List.length x.f0 * 1 ≤ 140737488351232 ∧ ∀ y ∈ x.f0, (Lit.int .u8 y).wf = true) ∧ (List.length x.f1 * 1 ≤ 140737488351232 ∧ ∀ y ∈ x.f1, (Lit.int .u8 y).wf = true)) : ∀ x ∈ l, x.f0.length ≤ 140737488351232 ∧ x.f1.length ≤ 140737488351232 := fun r hr => ⟨by have := (hg0.2 r hr).1.1; omega, by have := (hg0.2 r hr).2.1; omega⟩
theorem lent_le {l : List S37} {c : Nat} (h : (l ++ marks37).length ≤ c) : l.length ≤ c := by rw [List.length_append] at h; omega
theorem lent_le43 {l : List S43} {c : Nat} (h : (l ++ marks43).length ≤ c) : l.length ≤ c := by rw [List.length_append] at h; omega
structure Lent37 (W : World) (A : Option Addr) (l : List S37) : Prop where
  mk ::
  full : Kd.C k37 W A (l ++ marks37).length (l ++ marks37)
  lent : LentAt37 W A (l ++ marks37) l.length
theorem Lent37.C {W : World} {A : Option Addr} {l : List S37} (h : Lent37 W A l) : Kd.C k37 W A l.length l := by
  have := Kd.C_take (m := l.length) h.full (by simp)
  rwa [List.take_left' rfl] at this
theorem Lent37.below {W W1 : World} {A : Option Addr} {l : List S37} (h : Lent37 W A l) (hb : Below W.heap.size W W1) : Lent37 W1 A l := by
  refine ⟨Kd.C_below h.full hb, ?_⟩
  intro i ad A0 c0 A1 c1 e h0 h1 x0 x1
  obtain ⟨ad', B0, d0, B1, d1, e', y0, y1, _⟩ := at_T37 h.full i h0 (by rw [List.length_append]; omega)
  cases e.symm.trans e'
  have z0 := (hb.cell (World.block_lt_of_cell? W _ y0)).trans y0
  have z1 := (hb.cell (World.block_lt_of_cell? W _ y1)).trans y1
  have g0 := Option.some.inj (z0.symm.trans x0)
  injection g0 with a0 _ b0
  have g1 := Option.some.inj (z1.symm.trans x1)
  injection g1 with a1 _ b1
  subst a0 b0 a1 b1
  have := h.lent i ad B0 d0 B1 d1 e h0 h1 y0 y1
  exact ⟨this.1.below hb, this.2.below hb⟩
structure Lent43 (W : World) (A : Option Addr) (l : List S43) : Prop where
  mk ::
  full : Kd.C k43 W A (l ++ marks43).length (l ++ marks43)
  lent : LentAt43 W A (l ++ marks43) l.length
theorem Lent43.C {W : World} {A : Option Addr} {l : List S43} (h : Lent43 W A l) : Kd.C k43 W A l.length l := by
  have := Kd.C_take (m := l.length) h.full (by simp)
  rwa [List.take_left' rfl] at this
theorem Lent43.below {W W1 : World} {A : Option Addr} {l : List S43} (h : Lent43 W A l) (hb : Below W.heap.size W W1) : Lent43 W1 A l := by
  refine ⟨Kd.C_below h.full hb, ?_⟩
  intro i ad A0 c0 A1 c1 A2 c2 e h0 h1 x0 x1 x2
  obtain ⟨ad', B0, d0, B1, d1, B2, d2, e', y0, y1, y2, _⟩ := at_T43 h.full i h0 (by rw [List.length_append]; omega)
  cases e.symm.trans e'
  have z0 := (hb.cell (World.block_lt_of_cell? W _ y0)).trans y0
  have z1 := (hb.cell (World.block_lt_of_cell? W _ y1)).trans y1
  have z2 := (hb.cell (World.block_lt_of_cell? W _ y2)).trans y2
  have g0 := Option.some.inj (z0.symm.trans x0)
  injection g0 with a0 _ b0
  have g1 := Option.some.inj (z1.symm.trans x1)
  injection g1 with a1 _ b1
  have g2 := Option.some.inj (z2.symm.trans x2)
  injection g2 with a2 _ b2
  subst a0 b0 a1 b1 a2 b2
  have := h.lent i ad B0 d0 B1 d1 B2 d2 e h0 h1 y0 y1 y2
  exact ⟨this.1.below hb, this.2.1.below hb, this.2.2.below hb⟩
set_option maxHeartbeats 8000000 in
set_option maxRecDepth 100000 in
theorem DeltaApplies_goes (A0 : Option Addr) (l : List S37) (c0 : Nat) (A1 : Option Addr) (t : List S43) (c1 : Nat) (w : World) (hr0 : Kd.C k37 w A0 l.length l) (hc0 : l.length ≤ c0) (hg0 : List.length l * 48 ≤ 140737488351232 ∧ ∀ x ∈ l, (List.length x.f0 * 1 ≤ 140737488351232 ∧ ∀ y ∈ x.f0, (Lit.int .u8 y).wf = true) ∧ (List.length x.f1 * 1 ≤ 140737488351232 ∧ ∀ y ∈ x.f1, (Lit.int .u8 y).wf = true)) (hr1 : Kd.C k43 w A1 t.length t) (hc1 : t.length ≤ c1) (hg1 : List.length t * 72 ≤ 140737488351232 ∧ ∀ x ∈ t, (List.length x.f0 * 1 ≤ 140737488351232 ∧ ∀ y ∈ x.f0, (Lit.int .u8 y).wf = true) ∧ (List.length x.f1 * 1 ≤ 140737488351232 ∧ ∀ y ∈ x.f1, (Lit.int .u8 y).wf = true) ∧ (List.length x.f2 * 1 ≤ 140737488351232 ∧ ∀ y ∈ x.f2, (Lit.int .u8 y).wf = true)) :
    Calls Try.prog 4 #[.slice A0 l.length c0, .slice A1 t.length c1] w fun e W' => e = .returned (.bool true) ∧ Below w.heap.size w W' := by
  have hu37 := Try.underlying37
  have hu43 := Try.underlying43
  obtain ⟨hw0, hs0, hn0⟩ := good_rows hg0
  have hz0 := good_max hg0
  obtain ⟨hw1, hs1, hz1⟩ := good_turns hg1
  have HR0 := Aside0.mk hr0; have HC0 := Aside0.mk hc0; clear hr0 hc0 hg0
  have HR1 := Aside0.mk hr1; have HC1 := Aside0.mk hc1; clear hr1 hc1 hg1
  have HB := Aside0.mk (Below.refl w.heap.size w)
  by_cases hbig : 60 < l.length
  · have h1 : decide ((60 : Int) < (l.length : Int)) = true := decide_eq_true (by omega)
    go_enter Try.func4, Try.ntmps4
    go_wp2_with (first | ((with_reducible refine gate_dst (N := 11) rfl ?_); (with_reducible refine gate_callee (f := 6) rfl ?_); refine goesL_ (some 11) rfl rfl Try.func6 (by kernel_rfl) rfl #[] rfl (by (try simp only [List.map_toArray, List.map_cons, List.map_nil]); first | done | rfl) ?_; (with_reducible refine (awake_calls _).mono ?_); rintro e W1 ⟨rfl, hb⟩; refine ⟨_, rfl, ?_⟩; have HBn := Aside0.mk (below_step HB.out hb); clear HB; have HB := HBn; clear HBn; have nn_ := Aside0.mk (Kd.C_below HR0.out hb); clear HR0; have HR0 := nn_; clear nn_; have nn_ := Aside0.mk (Kd.C_below HR1.out hb); clear HR1; have HR1 := nn_; clear nn_; clear hb))
    go_ret
    exact ⟨rfl, HB.out⟩
  have h1 : decide ((60 : Int) < (l.length : Int)) = false := decide_eq_false (by omega)
  by_cases hbig2 : 80 < t.length
  · have h2 : decide ((80 : Int) < (t.length : Int)) = true := decide_eq_true (by omega)
    go_enter Try.func4, Try.ntmps4
    go_wp2_with (first | ((with_reducible refine gate_dst (N := 11) rfl ?_); (with_reducible refine gate_callee (f := 6) rfl ?_); refine goesL_ (some 11) rfl rfl Try.func6 (by kernel_rfl) rfl #[] rfl (by (try simp only [List.map_toArray, List.map_cons, List.map_nil]); first | done | rfl) ?_; (with_reducible refine (awake_calls _).mono ?_); rintro e W1 ⟨rfl, hb⟩; refine ⟨_, rfl, ?_⟩; have HBn := Aside0.mk (below_step HB.out hb); clear HB; have HB := HBn; clear HBn; have nn_ := Aside0.mk (Kd.C_below HR0.out hb); clear HR0; have HR0 := nn_; clear nn_; have nn_ := Aside0.mk (Kd.C_below HR1.out hb); clear HR1; have HR1 := nn_; clear nn_; clear hb))
    go_ret
    exact ⟨rfl, HB.out⟩
  · have h2 : decide ((80 : Int) < (t.length : Int)) = false := decide_eq_false (by omega)
    obtain ⟨M, b, hMb⟩ : ∃ M b, applyR l t = (M, b) := ⟨_, _, rfl⟩
    obtain ⟨kr, hr⟩ := rapply_ev l t hs0 hs1 (by omega) (by omega)
    obtain ⟨kb, hbk⟩ := dback_ev t (by omega) hs1
    obtain ⟨kd, hbd⟩ := rback_ev t (by omega)
    have HRA := Aside0.mk (show storemanref17_Apply.f kr l t = some (M, b) by rw [hr kr (Nat.le_refl _), hMb])
    have HBK := Aside0.mk (hbk kb (Nat.le_refl _))
    have HBD := Aside0.mk (hbd kd (Nat.le_refl _))
    have hML : M.length ≤ l.length + t.length := by have := applyR_len l t; rw [hMb] at this; exact this
    have hMS : short M := by have := applyR_short hs0 hs1; rw [hMb] at this; exact this
    obtain ⟨ks, hsm⟩ := sameRows_ev M (by omega) hMS
    have HSM := Aside0.mk (hsm ks (Nat.le_refl _))
    obtain ⟨kt, hst⟩ := sameTurns_ev (backR t) (by rw [backR_length]; omega) (back_short hs1)
    have HST := Aside0.mk (hst kt (Nat.le_refl _))
    obtain ⟨k0, q0⟩ := keptRows_ev l (by omega)
    obtain ⟨k1, q1⟩ := keptTurns_ev t (by omega)
    have HK0 := Aside0.mk (q0 k0 (Nat.le_refl _)); have HK1 := Aside0.mk (q1 k1 (Nat.le_refl _))
    have HZ0 := Aside0.mk hz0; have HZ1 := Aside0.mk hz1; have HN0 := Aside0.mk (show l.length ≤ 1000 by omega); have HN1 := Aside0.mk (show t.length ≤ 1000 by omega)
    have HP := Aside0.mk (fun (A : Option Addr) (c : Nat) (A' : Option Addr) (c' : Nat) (W : World) (hx : Kd.C k37 W A l.length l) (hcx : l.length ≤ c) (hy : Kd.C k43 W A' t.length t) (hcy : t.length ≤ c') => apply_calls A c l A' c' t M b W hx hcx hy hcy hw0 hw1 hs0 hs1 (by omega) hMb)
    clear hr hbk hbd hML hMS hsm hst q0 q1 hw0 hw1 hs0 hs1 hz0 hz1 hMb
    go_enter Try.func4, Try.ntmps4
    go_wp2_with (first | ((with_reducible refine gate_dst (N := 11) rfl ?_); (with_reducible refine gate_callee (f := 6) rfl ?_); refine goesL_ (some 11) rfl rfl Try.func6 (by kernel_rfl) rfl #[] rfl (by (try simp only [List.map_toArray, List.map_cons, List.map_nil]); first | done | rfl) ?_; (with_reducible refine (awake_calls _).mono ?_); rintro e W1 ⟨rfl, hb⟩; refine ⟨_, rfl, ?_⟩; have HBn := Aside0.mk (below_step HB.out hb); clear HB; have HB := HBn; clear HBn; have nn_ := Aside0.mk (Kd.C_below HR0.out hb); clear HR0; have HR0 := nn_; clear nn_; have nn_ := Aside0.mk (Kd.C_below HR1.out hb); clear HR1; have HR1 := nn_; clear nn_; clear hb) | ((with_reducible refine gate_dst (N := 22) rfl ?_); (with_reducible refine gate_callee (f := 7) rfl ?_); refine goesL_ (some 22) rfl rfl Try.func7 (by kernel_rfl) rfl #[.slice A0 l.length c0] rfl (by (try simp only [List.map_toArray, List.map_cons, List.map_nil]); first | done | rfl) ?_; (with_reducible refine (storemankit_LentRows.calls A0 c0 l _ HR0.out HC0.out HN0.out HZ0.out).mono ?_); rintro e W2 ⟨Ax, cx, rfl, hC, hle, hLA, hb⟩; refine ⟨_, rfl, ?_⟩; have HBn := Aside0.mk (below_step HB.out hb); clear HB; have HB := HBn; clear HBn; have nn_ := Aside0.mk (Kd.C_below HR0.out hb); clear HR0; have HR0 := nn_; clear nn_; have nn_ := Aside0.mk (Kd.C_below HR1.out hb); clear HR1; have HR1 := nn_; clear nn_; have Hx := Aside0.mk (Lent37.mk hC hLA); have HLx := Aside0.mk hle; clear hC hLA hle; clear hb) | ((with_reducible refine gate_dst (N := 24) rfl ?_); (with_reducible refine gate_callee (f := 12) rfl ?_); refine goesL_ (some 24) rfl rfl Try.func12 (by kernel_rfl) rfl #[.slice A1 t.length c1] rfl (by (try simp only [List.map_toArray, List.map_cons, List.map_nil]); first | done | rfl) ?_; (with_reducible refine (storemankit_LentTurns.calls A1 c1 t _ HR1.out HC1.out HN1.out HZ1.out).mono ?_); rintro e W3 ⟨Ay, cy, rfl, hC, hle, hLA, hb⟩; refine ⟨_, rfl, ?_⟩; have HBn := Aside0.mk (below_step HB.out hb); clear HB; have HB := HBn; clear HBn; have nn_ := Aside0.mk (Kd.C_below HR0.out hb); clear HR0; have HR0 := nn_; clear nn_; have nn_ := Aside0.mk (Kd.C_below HR1.out hb); clear HR1; have HR1 := nn_; clear nn_; have nn_ := Aside0.mk (Lent37.below Hx.out hb); clear Hx; have Hx := nn_; clear nn_; have Hy := Aside0.mk (Lent43.mk hC hLA); have HLy := Aside0.mk hle; clear hC hLA hle; clear hb) | ((with_reducible refine gate_dst (N := 28) rfl ?_); (with_reducible refine gate_callee (f := 13) rfl ?_); refine goesL_ (some 28) rfl rfl Try.func13 (by kernel_rfl) rfl #[.slice Ax l.length cx, .slice Ay t.length cy] rfl (by (try simp only [List.map_toArray, List.map_cons, List.map_nil]); first | done | rfl) ?_; (with_reducible refine (HP.out Ax cx Ay cy _ (Lent37.C Hx.out) (lent_le HLx.out) (Lent43.C Hy.out) (lent_le43 HLy.out)).mono ?_); rintro e W4 ⟨Am, cm, rfl, hle, hC, hb⟩; refine ⟨_, rfl, ?_⟩; have HBn := Aside0.mk (below_step HB.out hb); clear HB; have HB := HBn; clear HBn; have nn_ := Aside0.mk (Kd.C_below HR0.out hb); clear HR0; have HR0 := nn_; clear nn_; have nn_ := Aside0.mk (Kd.C_below HR1.out hb); clear HR1; have HR1 := nn_; clear nn_; have nn_ := Aside0.mk (Lent37.below Hx.out hb); clear Hx; have Hx := nn_; clear nn_; have nn_ := Aside0.mk (Lent43.below Hy.out hb); clear Hy; have Hy := nn_; clear nn_; have Hm := Aside0.mk hC; have HLm := Aside0.mk hle; clear hC hle; clear hb) | ((with_reducible refine gate_dst (N := 34) rfl ?_); (with_reducible refine gate_callee (f := 14) rfl ?_); refine goesL_ (some 34) rfl rfl Try.func14 (by kernel_rfl) rfl #[.slice A0 l.length c0, .slice A1 t.length c1] rfl (by (try simp only [List.map_toArray, List.map_cons, List.map_nil]); first | done | rfl) ?_; (with_reducible refine (storemanref17_Apply.calls kr _ A0 c0 l _ A1 c1 t M b _ (Kd.V_mk HC0.out (Kd.C_F k37_heap HR0.out)) (Kd.V_mk HC1.out (Kd.C_F k43_heap HR1.out)) HRA.out).mono ?_); rintro e W5 ⟨v, rfl, hS, hb⟩; obtain ⟨An, cn, ev, hle, hC⟩ := Kd.N_reads hS; subst ev; refine ⟨_, rfl, ?_⟩; have HBn := Aside0.mk (below_step HB.out hb); clear HB; have HB := HBn; clear HBn; have nn_ := Aside0.mk (Kd.C_below HR0.out hb); clear HR0; have HR0 := nn_; clear nn_; have nn_ := Aside0.mk (Kd.C_below HR1.out hb); clear HR1; have HR1 := nn_; clear nn_; have nn_ := Aside0.mk (Lent37.below Hx.out hb); clear Hx; have Hx := nn_; clear nn_; have nn_ := Aside0.mk (Lent43.below Hy.out hb); clear Hy; have Hy := nn_; clear nn_; have nn_ := Aside0.mk (Kd.C_below Hm.out hb); clear Hm; have Hm := nn_; clear nn_; have Hn := Aside0.mk hC; have HLn := Aside0.mk hle; clear hS hC hle; clear hb) | (go_at_call 15; (with_reducible refine (storemankit_SameRows.calls ks Am cm M An cn M true _ Hm.out HLm.out Hn.out HLn.out HSM.out).mono ?_); rintro e W6 ⟨rfl, hb⟩; have HBn := Aside0.mk (below_step HB.out hb); clear HB; have HB := HBn; clear HBn; have nn_ := Aside0.mk (Kd.C_below HR0.out hb); clear HR0; have HR0 := nn_; clear nn_; have nn_ := Aside0.mk (Kd.C_below HR1.out hb); clear HR1; have HR1 := nn_; clear nn_; have nn_ := Aside0.mk (Lent37.below Hx.out hb); clear Hx; have Hx := nn_; clear nn_; have nn_ := Aside0.mk (Lent43.below Hy.out hb); clear Hy; have Hy := nn_; clear nn_; have nn_ := Aside0.mk (Kd.C_below Hm.out hb); clear Hm; have Hm := nn_; clear nn_; have nn_ := Aside0.mk (Kd.C_below Hn.out hb); clear Hn; have Hn := nn_; clear nn_; clear hb) | (go_at_call 16; (with_reducible refine (delta_Back.calls kb Ay cy t (backR t) _ (Lent43.C Hy.out) (lent_le43 HLy.out) HBK.out).mono ?_); rintro e W7 ⟨v, rfl, hS, hb⟩; obtain ⟨Ap, cp, ev, hle, hC⟩ := Kd.S_reads hS; subst ev; have HBn := Aside0.mk (below_step HB.out hb); clear HB; have HB := HBn; clear HBn; have nn_ := Aside0.mk (Kd.C_below HR0.out hb); clear HR0; have HR0 := nn_; clear nn_; have nn_ := Aside0.mk (Kd.C_below HR1.out hb); clear HR1; have HR1 := nn_; clear nn_; have nn_ := Aside0.mk (Lent37.below Hx.out hb); clear Hx; have Hx := nn_; clear nn_; have nn_ := Aside0.mk (Lent43.below Hy.out hb); clear Hy; have Hy := nn_; clear nn_; have nn_ := Aside0.mk (Kd.C_below Hm.out hb); clear Hm; have Hm := nn_; clear nn_; have nn_ := Aside0.mk (Kd.C_below Hn.out hb); clear Hn; have Hn := nn_; clear nn_; have Hp := Aside0.mk hC; have HLp := Aside0.mk hle; clear hS hC hle; clear hb) | (go_at_call 17; (with_reducible refine (storemanref17_Back.calls kd _ A1 c1 t (backR t) _ (Kd.V_mk HC1.out (Kd.C_F k43_heap HR1.out)) HBD.out).mono ?_); rintro e W8 ⟨v, rfl, hS, hb⟩; obtain ⟨Aq, cq, ev, hle, hC⟩ := Kd.N_reads hS; subst ev; have HBn := Aside0.mk (below_step HB.out hb); clear HB; have HB := HBn; clear HBn; have nn_ := Aside0.mk (Kd.C_below HR0.out hb); clear HR0; have HR0 := nn_; clear nn_; have nn_ := Aside0.mk (Kd.C_below HR1.out hb); clear HR1; have HR1 := nn_; clear nn_; have nn_ := Aside0.mk (Lent37.below Hx.out hb); clear Hx; have Hx := nn_; clear nn_; have nn_ := Aside0.mk (Lent43.below Hy.out hb); clear Hy; have Hy := nn_; clear nn_; have nn_ := Aside0.mk (Kd.C_below Hm.out hb); clear Hm; have Hm := nn_; clear nn_; have nn_ := Aside0.mk (Kd.C_below Hn.out hb); clear Hn; have Hn := nn_; clear nn_; have nn_ := Aside0.mk (Kd.C_below Hp.out hb); clear Hp; have Hp := nn_; clear nn_; have Hq := Aside0.mk hC; have HLq := Aside0.mk hle; clear hS hC hle; clear hb) | (go_at_call 8; (with_reducible refine (storemankit_SameTurns.calls kt Ap cp (backR t) Aq cq (backR t) true _ Hp.out HLp.out Hq.out HLq.out HST.out).mono ?_); rintro e W9 ⟨rfl, hb⟩; have HBn := Aside0.mk (below_step HB.out hb); clear HB; have HB := HBn; clear HBn; have nn_ := Aside0.mk (Kd.C_below HR0.out hb); clear HR0; have HR0 := nn_; clear nn_; have nn_ := Aside0.mk (Kd.C_below HR1.out hb); clear HR1; have HR1 := nn_; clear nn_; have nn_ := Aside0.mk (Lent37.below Hx.out hb); clear Hx; have Hx := nn_; clear nn_; have nn_ := Aside0.mk (Lent43.below Hy.out hb); clear Hy; have Hy := nn_; clear nn_; have nn_ := Aside0.mk (Kd.C_below Hm.out hb); clear Hm; have Hm := nn_; clear nn_; have nn_ := Aside0.mk (Kd.C_below Hn.out hb); clear Hn; have Hn := nn_; clear nn_; have nn_ := Aside0.mk (Kd.C_below Hp.out hb); clear Hp; have Hp := nn_; clear nn_; have nn_ := Aside0.mk (Kd.C_below Hq.out hb); clear Hq; have Hq := nn_; clear nn_; clear hb) | (go_at_call 11; (with_reducible refine (storemankit_KeptRows.calls k0 Ax cx l (l ++ marks37) A0 c0 l true _ (Lent37.full Hx.out) HLx.out (Lent37.lent Hx.out) (Lent37.C Hx.out) (lent_le HLx.out) HR0.out HC0.out HK0.out).mono ?_); rintro e W10 ⟨rfl, hb⟩; have HBn := Aside0.mk (below_step HB.out hb); clear HB; have HB := HBn; clear HBn; have nn_ := Aside0.mk (Kd.C_below HR0.out hb); clear HR0; have HR0 := nn_; clear nn_; have nn_ := Aside0.mk (Kd.C_below HR1.out hb); clear HR1; have HR1 := nn_; clear nn_; have nn_ := Aside0.mk (Lent37.below Hx.out hb); clear Hx; have Hx := nn_; clear nn_; have nn_ := Aside0.mk (Lent43.below Hy.out hb); clear Hy; have Hy := nn_; clear nn_; have nn_ := Aside0.mk (Kd.C_below Hm.out hb); clear Hm; have Hm := nn_; clear nn_; have nn_ := Aside0.mk (Kd.C_below Hn.out hb); clear Hn; have Hn := nn_; clear nn_; have nn_ := Aside0.mk (Kd.C_below Hp.out hb); clear Hp; have Hp := nn_; clear nn_; have nn_ := Aside0.mk (Kd.C_below Hq.out hb); clear Hq; have Hq := nn_; clear nn_; clear hb) | (go_at_call 18; (with_reducible refine (storemankit_KeptTurns.calls k1 Ay cy t (t ++ marks43) A1 c1 t true _ (Lent43.full Hy.out) HLy.out (Lent43.lent Hy.out) (Lent43.C Hy.out) (lent_le43 HLy.out) HR1.out HC1.out HK1.out).mono ?_); rintro e W11 ⟨rfl, hb⟩; have HBn := Aside0.mk (below_step HB.out hb); clear HB; have HB := HBn; clear HBn; have nn_ := Aside0.mk (Kd.C_below HR0.out hb); clear HR0; have HR0 := nn_; clear nn_; have nn_ := Aside0.mk (Kd.C_below HR1.out hb); clear HR1; have HR1 := nn_; clear nn_; have nn_ := Aside0.mk (Lent37.below Hx.out hb); clear Hx; have Hx := nn_; clear nn_; have nn_ := Aside0.mk (Lent43.below Hy.out hb); clear Hy; have Hy := nn_; clear nn_; have nn_ := Aside0.mk (Kd.C_below Hm.out hb); clear Hm; have Hm := nn_; clear nn_; have nn_ := Aside0.mk (Kd.C_below Hn.out hb); clear Hn; have Hn := nn_; clear nn_; have nn_ := Aside0.mk (Kd.C_below Hp.out hb); clear Hp; have Hp := nn_; clear nn_; have nn_ := Aside0.mk (Kd.C_below Hq.out hb); clear Hq; have Hq := nn_; clear nn_; clear hb))
    go_ret
    exact ⟨rfl, HB.out⟩
end Go.Proofs.Ytkplejkkafcipaa.PA
namespace Go.Proofs.Ytkplejkkafcipaa.deltaApplies
open Go.ChangeShapes Go.WideShapes Go.ChangeAt Go.RowKit Go.Proofs.YtkplejkkafcipaaW.PrintWords Go.Proofs.Ytkplejkkafcipaa.Opening Go.Proofs.Ytkplejkkafcipaa.PA
open Go.ChangeMaps (open_string shut_string)
set_option linter.unusedVariables false
theorem own : ownKnob Try.prog.godebug = none := by kernel_rfl
theorem laidOut : laidOutB Try.prog = true := by kernel_rfl
theorem opens5 : Opens Try.prog 5 (Kd.int .u8) (fun n => (Lit.int .u8 n).wf = true) := opens_int Try.underlying5
theorem opens35 : Opens Try.prog 35 (Kd.slice 5 (Kd.int .u8)) (fun xs => xs.length * 1 ≤ 140737488351232 ∧ ∀ x ∈ xs, (fun n => (Lit.int .u8 n).wf = true) x) := opens_slice Try.underlying35 (by kernel_rfl) (B := 1) (by kernel_rfl) opens5
def good37 (x : S37) : Prop := (fun xs => List.length xs * 1 ≤ 140737488351232 ∧ ∀ x ∈ xs, (fun n => (Lit.int .u8 n).wf = true) x) x.f0 ∧ (fun xs => List.length xs * 1 ≤ 140737488351232 ∧ ∀ x ∈ xs, (fun n => (Lit.int .u8 n).wf = true) x) x.f1
theorem opens37 : Opens Try.prog 37 k37 good37 := by
  refine Opens.imp (opens_iso _ (fun a => ⟨⟨a.1, a.2⟩, rfl⟩) (opens_struct Try.underlying37 (by kernel_rfl) (fields_cons _ opens35 (by kernel_rfl) rfl (fields_one opens35 (by kernel_rfl))))) (fun b h => h)
theorem opens22 : Opens Try.prog 22 (Kd.slice 37 k37) (fun xs => xs.length * 48 ≤ 140737488351232 ∧ ∀ x ∈ xs, good37 x) := opens_slice Try.underlying22 (by kernel_rfl) (B := 48) (by kernel_rfl) opens37
def good43 (x : S43) : Prop := (fun xs => List.length xs * 1 ≤ 140737488351232 ∧ ∀ x ∈ xs, (fun n => (Lit.int .u8 n).wf = true) x) x.f0 ∧ (fun xs => List.length xs * 1 ≤ 140737488351232 ∧ ∀ x ∈ xs, (fun n => (Lit.int .u8 n).wf = true) x) x.f1 ∧ (fun xs => List.length xs * 1 ≤ 140737488351232 ∧ ∀ x ∈ xs, (fun n => (Lit.int .u8 n).wf = true) x) x.f2
theorem opens43 : Opens Try.prog 43 k43 good43 := by
  refine Opens.imp (opens_iso _ (fun a => ⟨⟨a.1, a.2.1, a.2.2⟩, rfl⟩) (opens_struct Try.underlying43 (by kernel_rfl) (fields_cons _ opens35 (by kernel_rfl) rfl (fields_cons _ opens35 (by kernel_rfl) rfl (fields_one opens35 (by kernel_rfl)))))) (fun b h => h)
theorem opens26 : Opens Try.prog 26 (Kd.slice 43 k43) (fun xs => xs.length * 72 ≤ 140737488351232 ∧ ∀ x ∈ xs, good43 x) := opens_slice Try.underlying26 (by kernel_rfl) (B := 72) (by kernel_rfl) opens43
set_option maxRecDepth 100000 in
theorem lifted (os : Os) (started : os.Started) (H : Type) (enc : TypeId × Value → H) :
    ReturnsInHanded {} Try.checked os 4 .any (Rows.deltaAppliesSpec.pre6 enc Try.prog Try.f4 Rows.deltaAppliesRow.domain false) (Rows.deltaAppliesSpec.post enc Try.prog Try.f4 false true false false) := by
  refine returnsInHanded_of_change_sized (C := Try.checked) own started (by kernel_rfl) Try.func4
    (ChangeSpec.witness6 (enc := enc) (C := Try.checked) false ⟨#[], #[.slice none 0 0, .slice none 0 0], []⟩ 8 (by kernel_rfl) (by kernel_rfl) (by kernel_rfl) (by kernel_rfl)) ?_
  intro W base args ds gs before hval0 hW hcnd hsz0 _
  have hsz : (DataW.weightsEach Try.prog (Try.f4.params.toList ++ Rows.deltaAppliesSpec.plain.varTypes Try.prog) (ds ++ gs)).all (· ≤ reachBytes) = true := hsz0
  have hval : ∀ (j : Nat) t v, Try.f4.params[j]? = some t → args[j]? = some v → Value.okWide Try.prog W .any base t v := hval0
  have hW' := hW
  obtain ⟨p, q, hA0, hV, rfl, hfz, hnd⟩ := hW
  have hA : DataW.TrodAll enc Try.prog W 0 (fun _ => true) true Try.f4.params.toList args.toList ds p := hA0
  rw [Try.params4] at hA hval hsz
  obtain ⟨v0, vs0, d0, ds0, p0, q0, hargs, rfl, rfl, h0, r0⟩ := trodAll_cons hA
  obtain ⟨v1, vs1, d1, ds1, p1, q1, rfl, rfl, rfl, h1, r1⟩ := trodAll_cons r0
  obtain ⟨rfl, rfl, rfl⟩ := trodAll_nil r1
  obtain rfl : args = #[v0, v1] := by cases args; simp_all
  obtain ⟨rfl, rfl⟩ := trodVars_none hV
  have k0 := h0
  have lt0 : ∀ x ∈ p0, x.block < W.heap.size := by obtain ⟨m, hm⟩ := k0; exact DataW.trod_lt m _ _ _ hm
  have wt0 : (d0.weights Try.prog 22).all (· ≤ reachBytes) = true := weights_of hsz (j := 0) rfl rfl
  obtain ⟨a0, len0, cap0, rfl⟩ := okWide_slice Try.underlying22 (hval 0 22 v0 rfl rfl)
  obtain ⟨x0, rfl, hc0, hr0, hg0⟩ := param_slice opens22 k0 wt0
  have k1 := h1
  have lt1 : ∀ x ∈ p1, x.block < W.heap.size := by obtain ⟨m, hm⟩ := k1; exact DataW.trod_lt m _ _ _ hm
  have wt1 : (d1.weights Try.prog 26).all (· ≤ reachBytes) = true := weights_of hsz (j := 1) rfl rfl
  obtain ⟨a1, len1, cap1, rfl⟩ := okWide_slice Try.underlying26 (hval 1 26 v1 rfl rfl)
  obtain ⟨x1, rfl, hc1, hr1, hg1⟩ := param_slice opens26 k1 wt1
  clear hA0 hval0 hsz0 hsz
  refine (DeltaApplies_goes a0 x0 cap0 a1 x1 cap1 W hr0 hc0 hg0 hr1 hc1 hg1).mono fun e W' ⟨he, bel⟩ => ?_
  subst he
  exact ⟨_, rfl, _, _, _, [], _, [], hW', trodAll_mk1 (shut_bool Try.underlying4 _), (trodAll_cons_mk (Below.trod laidOut (by kernel_rfl) (of_decide_eq_true (by kernel_rfl)) k0 bel lt0) (trodAll_cons_mk (Below.trod laidOut (by kernel_rfl) (of_decide_eq_true (by kernel_rfl)) k1 bel lt1) trodAll_mk0)), rfl, bel.frame _, fun h => by cases h⟩
theorem over : Rows.deltaAppliesRow.holds Try.pinned (OpenSpec.ofChange Rows.deltaAppliesSpec) :=
  OpenClaim.holds_of_wide 4 Try.f4 rfl rfl rfl rfl rfl rfl rfl ⟨rfl, rfl, rfl, rfl, rfl⟩ rfl rfl rfl rfl rfl (by kernel_rfl) Try.func4 (by kernel_rfl)
    (of_decide_eq_true (by kernel_rfl)) (by unfold Func.isWrapper; first | (rw [if_pos (by decide +kernel)]; kernel_rfl) | (rw [if_neg (by decide +kernel)]; exact ⟨rfl, rfl⟩))
    (fun os started H enc _ => lifted os started H enc)
theorem proved : Rows.DeltaAppliesSaid := over
end Go.Proofs.Ytkplejkkafcipaa.deltaApplies
namespace Go.Proofs.Ytkplejkkafcipaa
/-- The row, under a short name, for the claim. -/
theorem deltaApplies_holds : Rows.DeltaAppliesSaid := deltaApplies.proved
end Go.Proofs.Ytkplejkkafcipaa
