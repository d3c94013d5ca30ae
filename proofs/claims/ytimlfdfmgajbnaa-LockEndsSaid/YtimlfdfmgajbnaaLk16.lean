/-
Rows that are the same are told to be.
-/
import Derived.Test.YtimlfdfmgajbnaaLk15
namespace Go.Proofs.Ytimlfdfmgajbnaa.PA
open Go.RowKit Go.Proofs.YtimlfdfmgajbnaaW.PrintWords Go.Proofs.YtimlfdfmgajbnaaW.PrintLast Go.Proofs.YtimlfdfmgajbnaaW.PrintMore
set_option linter.unusedVariables false
set_option linter.unusedSimpArgs false
theorem sameTexts_l0 (l : List ByteArray) (hl : l.length ≤ 1000000) : ∀ n i, i + n = l.length → ∀ k, n < k → storemankit_SameTexts.l0 k l l (i : Int) = some true := by
  intro n
  induction n with
  | zero =>
    intro i hi k hk
    obtain ⟨k, rfl⟩ : ∃ j, k = j + 1 := ⟨k - 1, by omega⟩
    simp only [storemankit_SameTexts.l0]
    rw [if_neg (by omega)]
  | succ n ih =>
    intro i hi k hk
    obtain ⟨k, rfl⟩ : ∃ j, k = j + 1 := ⟨k - 1, by omega⟩
    simp only [storemankit_SameTexts.l0]
    rw [if_pos (by omega), if_pos (by omega), if_pos (by omega)]
    simp only [if_true]
    rw [wrapI (by omega) (by omega)]
    exact ih (i + 1) (by omega) k (by omega)
theorem sameTexts_ev (l : List ByteArray) (hl : l.length ≤ 1000000) : storemankit_SameTexts.f (l.length + 1) l l = some true := by
  unfold storemankit_SameTexts.f
  rw [if_pos rfl]
  exact sameTexts_l0 l hl l.length 0 (by omega) _ (by omega)
theorem sameLongs_l0 (l : List Int) (hl : l.length ≤ 1000000) : ∀ n i, i + n = l.length → ∀ k, n < k → storemankit_SameLongs.l0 k l l (i : Int) = some true := by
  intro n
  induction n with
  | zero =>
    intro i hi k hk
    obtain ⟨k, rfl⟩ : ∃ j, k = j + 1 := ⟨k - 1, by omega⟩
    simp only [storemankit_SameLongs.l0]
    rw [if_neg (by omega)]
  | succ n ih =>
    intro i hi k hk
    obtain ⟨k, rfl⟩ : ∃ j, k = j + 1 := ⟨k - 1, by omega⟩
    simp only [storemankit_SameLongs.l0]
    rw [if_pos (by omega), if_pos (by omega), if_pos (by omega)]
    simp only [if_true]
    rw [wrapI (by omega) (by omega)]
    exact ih (i + 1) (by omega) k (by omega)
theorem sameLongs_ev (l : List Int) (hl : l.length ≤ 1000000) : storemankit_SameLongs.f (l.length + 1) l l = some true := by
  unfold storemankit_SameLongs.f
  rw [if_pos rfl]
  exact sameLongs_l0 l hl l.length 0 (by omega) _ (by omega)
end Go.Proofs.Ytimlfdfmgajbnaa.PA
