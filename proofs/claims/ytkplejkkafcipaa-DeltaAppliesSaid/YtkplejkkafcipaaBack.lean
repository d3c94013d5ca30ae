/-
delta.Back: what it answers; rows that are the same.
-/
import Derived.Test.YtkplejkkafcipaaTurns
import Derived.Test.YtkplejkkafcipaaHKept
import Derived.Test.YtkplejkkafcipaaPAx15
namespace Go.Proofs.Ytkplejkkafcipaa.PA
open Go.RowKit Go.Proofs.YtkplejkkafcipaaW.PrintWords Go.Proofs.YtkplejkkafcipaaW.PrintLast Go.Proofs.YtkplejkkafcipaaW.PrintMore
set_option linter.unusedVariables false
set_option linter.unusedSimpArgs false

def shortT (t : List S43) : Prop := ∀ x ∈ t, x.f0.length < 140737488355328 ∧ x.f1.length < 140737488355328 ∧ x.f2.length < 140737488355328
theorem backR_succ (t : List S43) (i : Nat) (h : i < t.length) : backR (t.take (i + 1)) = ⟨t[i].f0, t[i].f2, t[i].f1⟩ :: backR (t.take i) := by
  unfold backR
  rw [List.take_succ_eq_append_getElem h, List.reverse_append, List.reverse_singleton, List.singleton_append, List.map_cons]
theorem backR_length (t : List S43) : (backR t).length = t.length := by simp [backR]
theorem dback_l0 (t : List S43) (hl : t.length ≤ 1000000) (hs : shortT t) : ∀ (i k : Nat) (acc : List S43), i ≤ t.length → i < k → acc.length + i ≤ 1000000000 → delta_Back.l0 k t acc ((i : Int) - 1) = some (acc ++ backR (t.take i)) := by
  intro i
  induction i with
  | zero =>
    intro k acc _ hk _
    obtain ⟨k, rfl⟩ : ∃ j, k = j + 1 := ⟨k - 1, by omega⟩
    simp only [delta_Back.l0]
    rw [if_neg (by omega)]
    simp [backR]
  | succ i ih =>
    intro k acc hi hk hacc
    obtain ⟨k, rfl⟩ : ∃ j, k = j + 1 := ⟨k - 1, by omega⟩
    have hx := hs _ (List.getElem_mem (show i < t.length by omega))
    rw [show ((i + 1 : Nat) : Int) - 1 = (i : Int) by omega]
    simp only [delta_Back.l0]
    rw [if_pos (by omega), if_pos (by omega), if_pos (by omega), rd43 t i (by omega), turn_f hx.1 hx.2.2 hx.2.1, Option.bind_some, if_pos (by omega), wrapI (by omega) (by omega), ih k _ (by omega) (by omega) (by simp <;> omega), backR_succ t i (by omega), List.append_assoc]
    rfl
theorem dback_ev (t : List S43) (hl : t.length ≤ 1000000) (hs : shortT t) : ∃ K, ∀ k, K ≤ k → delta_Back.f k t = some (backR t) :=
  ⟨t.length + 1, fun k hk => by
    unfold delta_Back.f
    rw [wrapI (by omega) (by omega), dback_l0 t hl hs t.length k [] (Nat.le_refl _) (by omega) (by simp <;> omega), List.take_length]
    rfl⟩
theorem sameRows_l0 (l : List S37) (hl : l.length ≤ 1000000) (hs : short l) : ∀ n i, i + n = l.length → ∃ K, ∀ k, K ≤ k → storemankit_SameRows.l0 k l l (i : Int) = some true := by
  intro n
  induction n with
  | zero =>
    intro i hi
    refine ⟨1, fun k hk => ?_⟩
    obtain ⟨k, rfl⟩ : ∃ j, k = j + 1 := ⟨k - 1, by omega⟩
    simp only [storemankit_SameRows.l0]
    rw [if_neg (by omega)]
  | succ n ih =>
    intro i hi
    have hx := hs _ (List.getElem_mem (show i < l.length by omega))
    obtain ⟨K0, h0⟩ := sameRow_ev l[i].f0 l[i].f1 (by omega) (by omega)
    obtain ⟨K1, h1⟩ := ih (i + 1) (by omega)
    refine ⟨K0 + K1 + 1, fun k hk => ?_⟩
    obtain ⟨k, rfl⟩ : ∃ j, k = j + 1 := ⟨k - 1, by omega⟩
    have e0 : storemankit_SameRow.f k l[i].f0 l[i].f1 l[i].f0 l[i].f1 = some true := h0 k (by omega)
    simp only [storemankit_SameRows.l0]
    rw [if_pos (by omega), if_pos (by omega), if_pos (by omega), rd37 l i (by omega), e0, Option.bind_some, if_pos rfl, wrapI (by omega) (by omega)]
    exact h1 k (by omega)
theorem sameRows_ev (l : List S37) (hl : l.length ≤ 1000000) (hs : short l) : ∃ K, ∀ k, K ≤ k → storemankit_SameRows.f k l l = some true := by
  obtain ⟨K, h⟩ := sameRows_l0 l hl hs l.length 0 (by omega)
  refine ⟨K, fun k hk => ?_⟩
  unfold storemankit_SameRows.f
  rw [if_pos rfl]
  exact h k hk
theorem lawright_ev (l : List S37) (wl : wfL l) (sl : short l) (hn : l.length ≤ 1000000) : ∃ b, (∃ K, ∀ k, K ≤ k → storemanlaw17_right.f k l = some b) ∧ (b = true → Right l) := by
  obtain ⟨K, h⟩ := dturns_ev [] l (fun r h => by cases h) wl (fun r h => by cases h) sl (by simp <;> omega)
  refine ⟨((tellsR [] l).length : Int) == (l.length : Int), ⟨K, fun k hk => ?_⟩, fun hb => ?_⟩
  · unfold storemanlaw17_right.f
    rw [h k hk, Option.bind_some]
  · have e : (tellsR [] l).length = l.length := by have := beq_iff_eq.1 hb; omega
    unfold tellsR at e
    by_cases hr : Right l
    · exact hr
    · rw [if_neg (fun h => hr h.2)] at e
      have : l = [] := List.length_eq_zero_iff.1 e.symm
      subst this
      exact absurd ⟨(fun r h => by cases h), List.Pairwise.nil⟩ hr
theorem wf_u8 {l : List Int} (h : ∀ y ∈ l, (Lit.int .u8 y).wf = true) : wfB l := by
  intro y hy
  have := h y hy
  simp only [Lit.wf, Bool.and_eq_true, decide_eq_true_eq, show IntKind.u8.min = 0 from rfl, show IntKind.u8.max = 255 from rfl] at this
  omega
theorem good_rows {l : List S37} (hg0 : List.length l * 48 ≤ 140737488351232 ∧ ∀ x ∈ l, (List.length x.f0 * 1 ≤ 140737488351232 ∧ ∀ y ∈ x.f0, (Lit.int .u8 y).wf = true) ∧ (List.length x.f1 * 1 ≤ 140737488351232 ∧ ∀ y ∈ x.f1, (Lit.int .u8 y).wf = true)) : wfL l ∧ short l ∧ l.length ≤ 140737488351232 :=
  ⟨fun r hr => ⟨wf_u8 (hg0.2 r hr).1.2, wf_u8 (hg0.2 r hr).2.2⟩, fun r hr => ⟨by have := (hg0.2 r hr).1.1; omega, by have := (hg0.2 r hr).2.1; omega⟩, by have := hg0.1; omega⟩
end Go.Proofs.Ytkplejkkafcipaa.PA
