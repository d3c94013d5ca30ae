/-
delta.right says whether rows may be.
-/
import Derived.Test.YtkplejkkafcipaaMath
import Derived.Test.YtkplejkkafcipaaPAx10
import Derived.Test.YtkplejkkafcipaaLentM
namespace Go.Proofs.Ytkplejkkafcipaa.PA
open Go.RowKit Go.Proofs.YtkplejkkafcipaaW.PrintWords Go.Proofs.YtkplejkkafcipaaW.PrintLast Go.Proofs.YtkplejkkafcipaaW.PrintMore
set_option linter.unusedVariables false
set_option linter.unusedSimpArgs false

def wfR (r : S37) : Prop := wfB r.f0 ∧ wfB r.f1
def wfL (l : List S37) : Prop := ∀ r ∈ l, wfR r
def wfT (l : List S43) : Prop := ∀ x ∈ l, wfB x.f0 ∧ wfB x.f1 ∧ wfB x.f2
theorem rd37 (l : List S37) (i : Nat) (h : i < l.length) : rd_T37 l (i : Int) = l[i] := by simp [rd_T37, h]
theorem rd43 (l : List S43) (i : Nat) (h : i < l.length) : rd_T43 l (i : Int) = l[i] := by simp [rd_T43, h]
/-- A row may stand where it stands. -/
def okAt (l : List S37) (i : Nat) : Prop := ∀ h : i < l.length, ok37 l[i] ∧ ∀ (hp : 0 < i), lex (l[i - 1]'(by omega)).f0 l[i].f0 = true
theorem right_iff (l : List S37) : Right l ↔ ∀ i, okAt l i := by
  constructor
  · rintro ⟨h1, h2⟩ i h
    exact ⟨h1 _ (List.getElem_mem _), fun hp => (List.pairwise_iff_getElem.1 h2) _ _ _ _ (by omega)⟩
  · intro h
    refine ⟨fun r hr => ?_, List.pairwise_iff_getElem.2 ?_⟩
    · obtain ⟨i, hi, rfl⟩ := List.getElem_of_mem hr
      exact (h i hi).1
    · have key : ∀ (n i : Nat) (hj : i + n + 1 < l.length), lex (l[i]'(by omega)).f0 (l[i + n + 1]).f0 = true := by
        intro n
        induction n with
        | zero => intro i hj; exact (h (i + 1) hj).2 (by omega)
        | succ n ih => intro i hj; exact lex_trans (ih i (by omega)) ((h (i + n + 1 + 1) hj).2 (by omega))
      intro i j hi hj hij
      have := key (j - i - 1) i (by omega)
      simpa [show i + (j - i - 1) + 1 = j by omega] using this
theorem ne_len {l : List Int} : l ≠ [] ↔ ¬ ((l.length : Int) = 0) := by
  cases l <;> simp <;> omega
theorem dright_l0 (l : List S37) (hl : l.length ≤ 1000000000) (hw : wfL l) : ∀ (n i : Nat), i + n = l.length → (∀ j, j < i → okAt l j) → ∃ b, (∃ K, ∀ k, K ≤ k → delta_right.l0 k l l (l.length : Int) (i : Int) = some b) ∧ (b = true ↔ Right l) := by
  intro n
  induction n with
  | zero =>
    intro i hi hok
    refine ⟨true, ⟨1, fun k hk => ?_⟩, ⟨fun _ => (right_iff l).2 fun j => ?_, fun _ => rfl⟩⟩
    · obtain ⟨k, rfl⟩ : ∃ j, k = j + 1 := ⟨k - 1, by omega⟩
      simp only [delta_right.l0]
      rw [if_neg (by omega)]
    · by_cases hj : j < i
      · exact hok j hj
      · intro h; omega
  | succ n ih =>
    intro i hi hok
    have hlt : i < l.length := by omega
    by_cases ho : okAt l i
    · obtain ⟨b, ⟨K, hK⟩, hb⟩ := ih (i + 1) (by omega) (fun j hj => by
        by_cases e : j = i
        · rw [e]; exact ho
        · exact hok j (by omega))
      refine ⟨b, ⟨K + 2, fun k hk => ?_⟩, hb⟩
      obtain ⟨k, rfl⟩ : ∃ j, k = j + 2 := ⟨k - 2, by omega⟩
      obtain ⟨h1, h2⟩ := ho hlt
      simp only [delta_right.l0]
      rw [if_pos (by omega), if_pos (by omega), if_pos (by omega), rd37 l i hlt, if_neg (ne_len.1 h1.1), if_neg (ne_len.1 h1.2)]
      have fin : delta_right.j1 (k + 1) l l (l.length : Int) (i : Int) false = some b := by
        simp only [delta_right.j1]
        rw [if_neg (by simp), wrapI (by omega) (by omega)]
        exact hK k (by omega)
      by_cases hp : 0 < i
      · rw [if_pos (by omega), wrapI (by omega) (by omega), if_pos (by omega), if_pos (by omega), show ((i : Int) - 1) = ((i - 1 : Nat) : Int) by omega, rd37 l (i - 1) (by omega)]
        unfold bytes_Compare.f
        rw [Option.bind_some, compare_is (hw _ (List.getElem_mem _)).1 (hw _ (List.getElem_mem _)).1, h2 hp]
        exact fin
      · rw [if_neg (by omega)]
        exact fin
    · refine ⟨false, ⟨2, fun k hk => ?_⟩, ⟨(fun h => by cases h), fun h => absurd ((right_iff l).1 h i) ho⟩⟩
      obtain ⟨k, rfl⟩ : ∃ j, k = j + 2 := ⟨k - 2, by omega⟩
      have fin : delta_right.j1 (k + 1) l l (l.length : Int) (i : Int) true = some false := by
        simp only [delta_right.j1]
        rw [if_pos trivial]
      simp only [delta_right.l0]
      rw [if_pos (by omega), if_pos (by omega), if_pos (by omega), rd37 l i hlt]
      by_cases h0 : l[i].f0 = []
      · rw [if_pos (by rw [h0]; rfl)]; exact fin
      rw [if_neg (ne_len.1 h0)]
      by_cases h1 : l[i].f1 = []
      · rw [if_pos (by rw [h1]; rfl)]; exact fin
      rw [if_neg (ne_len.1 h1)]
      by_cases hp : 0 < i
      · rw [if_pos (by omega), wrapI (by omega) (by omega), if_pos (by omega), if_pos (by omega), show ((i : Int) - 1) = ((i - 1 : Nat) : Int) by omega, rd37 l (i - 1) (by omega)]
        have hx : lex (l[i - 1]'(by omega)).f0 l[i].f0 = false := by
          rw [← Bool.not_eq_true]
          exact fun hx => ho fun _ => ⟨⟨h0, h1⟩, fun _ => hx⟩
        unfold bytes_Compare.f
        rw [Option.bind_some, compare_is (hw _ (List.getElem_mem _)).1 (hw _ (List.getElem_mem _)).1, hx]
        have : decide ((if false = true then (-1 : Int) else if lex l[i].f0 (l[i - 1]'(by omega)).f0 = true then 1 else 0) ≥ 0) = true := by
          split <;> simp_all
          split <;> simp
        rw [this]
        exact fin
      · exact absurd (fun _ => ⟨⟨h0, h1⟩, fun hp' => absurd hp' hp⟩) ho
theorem dright_ev (l : List S37) (hl : l.length ≤ 1000000000) (hw : wfL l) : ∃ b, (∃ K, ∀ k, K ≤ k → delta_right.f k l = some b) ∧ (b = true ↔ Right l) := by
  obtain ⟨b, ⟨K, hK⟩, hb⟩ := dright_l0 l hl hw l.length 0 (by omega) (fun j hj => by omega)
  exact ⟨b, ⟨K, fun k hk => hK k hk⟩, hb⟩
end Go.Proofs.Ytkplejkkafcipaa.PA
