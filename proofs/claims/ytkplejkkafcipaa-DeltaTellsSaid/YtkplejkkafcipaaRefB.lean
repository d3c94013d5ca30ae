/-
The document's Turns, Apply and Back: what they answer.
-/
import Derived.Test.YtkplejkkafcipaaRef
import Derived.Test.YtkplejkkafcipaaAwake
import Derived.Test.YtkplejkkafcipaaPAx5
namespace Go.Proofs.Ytkplejkkafcipaa.PA
open Go.RowKit Go.Proofs.YtkplejkkafcipaaW.PrintWords Go.Proofs.YtkplejkkafcipaaW.PrintLast Go.Proofs.YtkplejkkafcipaaW.PrintMore
set_option linter.unusedVariables false
set_option linter.unusedSimpArgs false

theorem rturns_l2 (a b keys : List S37) (ha : a.length ≤ 1000000) (hb : b.length ≤ 1000000) (hk : keys.length ≤ 1000000) (sa : short a) (sb : short b) (sk : short keys) : ∀ n i, i + n = keys.length → ∀ out : List S43, out.length + n ≤ 10000000 → ∃ K, ∀ k, K ≤ k → storemanref17_Turns.l2 k a b keys out (i : Int) = some (out ++ (keys.drop i).filterMap (tellR a b)) := by
  intro n
  induction n with
  | zero =>
    intro i hi out ho
    refine ⟨1, fun k hk => ?_⟩
    obtain ⟨k, rfl⟩ : ∃ j, k = j + 1 := ⟨k - 1, by omega⟩
    simp only [storemanref17_Turns.l2]
    rw [if_neg (by omega), List.drop_eq_nil_of_le (by omega)]
    simp
  | succ n ih =>
    intro i hi out ho
    have hlt : i < keys.length := by omega
    have hx := sk _ (List.getElem_mem hlt)
    obtain ⟨K0, g0⟩ := get_ev a keys[i].f0 (by omega) sa (by omega)
    obtain ⟨K1, g1⟩ := get_ev b keys[i].f0 (by omega) sb (by omega)
    have l0 := short_getR sa keys[i].f0
    have l1 := short_getR sb keys[i].f0
    rw [List.drop_eq_getElem_cons hlt]
    by_cases e : getR a keys[i].f0 = getR b keys[i].f0
    · obtain ⟨K, h⟩ := ih (i + 1) (by omega) out (by omega)
      refine ⟨K + K0 + K1 + 2 * (getR a keys[i].f0).length + 2 * (getR b keys[i].f0).length + 4, fun k hk => ?_⟩
      obtain ⟨k, rfl⟩ : ∃ j, k = j + 1 := ⟨k - 1, by omega⟩
      simp only [storemanref17_Turns.l2]
      rw [if_pos (by omega), if_pos (by omega), rd37 keys i hlt, g0 k (by omega), Option.bind_some, g1 k (by omega), Option.bind_some, same_f _ _ (by omega) (by omega) k (by omega), Option.bind_some, if_pos (decide_eq_true e), wrapI (by omega) (by omega)]
      rw [List.filterMap_cons_none (show tellR a b keys[i] = none by unfold tellR; rw [if_pos e])]
      exact h k (by omega)
    · obtain ⟨K, h⟩ := ih (i + 1) (by omega) (out ++ [⟨keys[i].f0, getR a keys[i].f0, getR b keys[i].f0⟩]) (by rw [List.length_append, List.length_singleton]; omega)
      refine ⟨K + K0 + K1 + 2 * (getR a keys[i].f0).length + 2 * (getR b keys[i].f0).length + 4, fun k hk => ?_⟩
      obtain ⟨k, rfl⟩ : ∃ j, k = j + 1 := ⟨k - 1, by omega⟩
      simp only [storemanref17_Turns.l2]
      rw [if_pos (by omega), if_pos (by omega), rd37 keys i hlt, g0 k (by omega), Option.bind_some, g1 k (by omega), Option.bind_some, same_f _ _ (by omega) (by omega) k (by omega), Option.bind_some, if_neg (by simpa using e), if_pos (by omega), wrapI (by omega) (by omega)]
      rw [List.filterMap_cons_some (show tellR a b keys[i] = some ⟨keys[i].f0, getR a keys[i].f0, getR b keys[i].f0⟩ by unfold tellR; rw [if_neg e])]
      have := h k (by omega)
      rw [List.append_assoc] at this
      exact this
theorem rturns_l1 (a b : List S37) (ha : a.length ≤ 10000) (hb : b.length ≤ 10000) (sa : short a) (sb : short b) : ∀ n i, i + n = b.length → ∀ keys : List S37, keys.length + n ≤ 100000 → Sorted keys → short keys → ∃ K, ∀ k, K ≤ k → storemanref17_Turns.l1 k a b keys (i : Int) = some ((addK keys (b.drop i)).filterMap (tellR a b)) := by
  intro n
  induction n with
  | zero =>
    intro i hi keys hk so sk
    obtain ⟨K, h⟩ := rturns_l2 a b keys (by omega) (by omega) (by omega) sa sb sk keys.length 0 (by omega) [] (by simp <;> omega)
    refine ⟨K + 1, fun k hk => ?_⟩
    obtain ⟨k, rfl⟩ : ∃ j, k = j + 1 := ⟨k - 1, by omega⟩
    simp only [storemanref17_Turns.l1]
    rw [if_neg (by omega), List.drop_eq_nil_of_le (show b.length ≤ i by omega)]
    exact h k (by omega)
  | succ n ih =>
    intro i hi keys hk so sk
    have hlt : i < b.length := by omega
    have hx := sb _ (List.getElem_mem hlt)
    obtain ⟨K0, h0⟩ := put_ev keys b[i].f0 [1] (by omega) so sk (by omega)
    have hpl := putR_len keys b[i].f0 [1]
    obtain ⟨K, h⟩ := ih (i + 1) (by omega) (putR keys b[i].f0 [1]) (by omega) (sorted_putR so _ _) (short_putR sk hx.1 (by simp))
    refine ⟨K + K0 + 1, fun k hk => ?_⟩
    obtain ⟨k, rfl⟩ : ∃ j, k = j + 1 := ⟨k - 1, by omega⟩
    simp only [storemanref17_Turns.l1]
    rw [if_pos (by omega), if_pos (by omega), rd37 b i hlt, h0 k (by omega), Option.bind_some, wrapI (by omega) (by omega), List.drop_eq_getElem_cons hlt]
    exact h k (by omega)
theorem rturns_l0 (a b : List S37) (ha : a.length ≤ 10000) (hb : b.length ≤ 10000) (sa : short a) (sb : short b) : ∀ n i, i + n = a.length → ∀ keys : List S37, keys.length + n ≤ 20000 → Sorted keys → short keys → ∃ K, ∀ k, K ≤ k → storemanref17_Turns.l0 k a b keys (i : Int) = some ((addK (addK keys (a.drop i)) b).filterMap (tellR a b)) := by
  intro n
  induction n with
  | zero =>
    intro i hi keys hk so sk
    obtain ⟨K, h⟩ := rturns_l1 a b ha hb sa sb b.length 0 (by omega) keys (by omega) so sk
    refine ⟨K + 1, fun k hk => ?_⟩
    obtain ⟨k, rfl⟩ : ∃ j, k = j + 1 := ⟨k - 1, by omega⟩
    simp only [storemanref17_Turns.l0]
    rw [if_neg (by omega), List.drop_eq_nil_of_le (show a.length ≤ i by omega)]
    exact h k (by omega)
  | succ n ih =>
    intro i hi keys hk so sk
    have hlt : i < a.length := by omega
    have hx := sa _ (List.getElem_mem hlt)
    obtain ⟨K0, h0⟩ := put_ev keys a[i].f0 [1] (by omega) so sk (by omega)
    have hpl := putR_len keys a[i].f0 [1]
    obtain ⟨K, h⟩ := ih (i + 1) (by omega) (putR keys a[i].f0 [1]) (by omega) (sorted_putR so _ _) (short_putR sk hx.1 (by simp))
    refine ⟨K + K0 + 1, fun k hk => ?_⟩
    obtain ⟨k, rfl⟩ : ∃ j, k = j + 1 := ⟨k - 1, by omega⟩
    simp only [storemanref17_Turns.l0]
    rw [if_pos (by omega), if_pos (by omega), rd37 a i hlt, h0 k (by omega), Option.bind_some, wrapI (by omega) (by omega), List.drop_eq_getElem_cons hlt]
    exact h k (by omega)
theorem rturns_ev (a b : List S37) (sa : short a) (sb : short b) (ha : a.length ≤ 10000) (hb : b.length ≤ 10000) : ∃ K, ∀ k, K ≤ k → storemanref17_Turns.f k a b = some (tellsR a b) := by
  obtain ⟨u, ⟨K0, h0⟩, hu⟩ := rright_ev a (by omega) sa
  obtain ⟨v, ⟨K1, h1⟩, hv⟩ := rright_ev b (by omega) sb
  obtain ⟨K2, h2⟩ := rturns_l0 a b ha hb sa sb a.length 0 (by omega) [] (by simp <;> omega) List.Pairwise.nil (fun r h => by cases h)
  refine ⟨K0 + K1 + K2 + 1, fun k hk => ?_⟩
  unfold storemanref17_Turns.f tellsR
  rw [h0 k (by omega), Option.bind_some]
  obtain ⟨k, rfl⟩ : ∃ j, k = j + 1 := ⟨k - 1, by omega⟩
  by_cases hra : Right a
  · rw [hu.2 hra, if_pos rfl, h1 _ (by omega), Option.bind_some]
    simp only [storemanref17_Turns.j0]
    by_cases hrb : Right b
    · rw [hv.2 hrb, if_neg (by simp), if_pos ⟨hra, hrb⟩]
      exact h2 k (by omega)
    · have : v = false := by rw [← Bool.not_eq_true]; exact fun h => hrb (hv.1 h)
      rw [this, if_pos (by simp), if_neg (fun h => hrb h.2)]
  · have : u = false := by rw [← Bool.not_eq_true]; exact fun h => hra (hu.1 h)
    rw [this, if_neg (by simp), if_neg (fun h => hra h.1)]
    simp only [storemanref17_Turns.j0]
    rw [if_pos trivial]
end Go.Proofs.Ytkplejkkafcipaa.PA
