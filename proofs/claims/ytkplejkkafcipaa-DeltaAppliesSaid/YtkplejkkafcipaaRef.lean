/-
The document's answers of chapter 17: less, same, get, put, Right, Turns, Apply, Back.
-/
import Derived.Test.YtkplejkkafcipaaBack
import Derived.Test.YtkplejkkafcipaaPAx3
import Derived.Test.YtkplejkkafcipaaPAx4


namespace Go.Proofs.Ytkplejkkafcipaa.PA
open Go.RowKit Go.Proofs.YtkplejkkafcipaaW.PrintWords Go.Proofs.YtkplejkkafcipaaW.PrintLast Go.Proofs.YtkplejkkafcipaaW.PrintMore
set_option linter.unusedVariables false
set_option linter.unusedSimpArgs false

theorem rd_at (l : List Int) (i : Nat) (h : i < l.length) : rd l (i : Int) = l[i] := by simp [rd, h]
theorem less_l0 (a b : List Int) (ha : a.length ≤ 9223372036854775806) : ∀ (n i k : Nat), i + n = a.length → i ≤ b.length → 2 * n + 2 ≤ k → storemanref17_less.l0 k a b (i : Int) = some (lex (a.drop i) (b.drop i)) := by
  intro n
  induction n with
  | zero =>
    intro i k hi hb hk
    obtain ⟨k, rfl⟩ : ∃ j, k = j + 2 := ⟨k - 2, by omega⟩
    simp only [storemanref17_less.l0]
    rw [if_neg (by omega)]
    simp only [storemanref17_less.j1]
    rw [if_neg (by simp), List.drop_eq_nil_of_le (show a.length ≤ i by omega)]
    cases hd : b.drop i with
    | nil =>
      have : b.length ≤ i := List.drop_eq_nil_iff.1 hd
      rw [decide_eq_false (by omega)]
      rfl
    | cons y t =>
      have : ¬ b.length ≤ i := fun h => by rw [List.drop_eq_nil_of_le h] at hd; cases hd
      rw [decide_eq_true (by omega)]
      rfl
  | succ n ih =>
    intro i k hi hb hk
    obtain ⟨k, rfl⟩ : ∃ j, k = j + 2 := ⟨k - 2, by omega⟩
    have hia : i < a.length := by omega
    simp only [storemanref17_less.l0]
    rw [if_pos (by omega)]
    simp only [storemanref17_less.j1]
    by_cases hib : i < b.length
    · rw [if_pos (decide_eq_true (by omega)), if_pos (by omega), if_pos (by omega), if_pos (by omega), rd_at a i hia, rd_at b i hib, List.drop_eq_getElem_cons hia, List.drop_eq_getElem_cons hib]
      simp only [lex]
      by_cases e : a[i] = b[i]
      · rw [if_pos e, wrapI (by omega) (by omega), show ((i : Int) + 1) = ((i + 1 : Nat) : Int) by omega, ih (i + 1) k (by omega) (by omega) (by omega), e]
        simp
      · rw [if_neg e]
        simp [e]
    · rw [if_neg (by simp; omega), List.drop_eq_nil_of_le (show b.length ≤ i by omega), lex_nil, decide_eq_false (by omega)]
theorem less_f (a b : List Int) (ha : a.length ≤ 9223372036854775806) (k : Nat) (hk : 2 * a.length + 2 ≤ k) : storemanref17_less.f k a b = some (lex a b) := by
  have := less_l0 a b ha a.length 0 k (by omega) (by omega) hk
  simpa [storemanref17_less.f] using this
theorem same_f (a b : List Int) (ha : a.length ≤ 9223372036854775806) (hb : b.length ≤ 9223372036854775806) (k : Nat) (hk : 2 * a.length + 2 * b.length + 2 ≤ k) : storemanref17_same.f k a b = some (decide (a = b)) := by
  unfold storemanref17_same.f
  rw [less_f a b ha k (by omega), Option.bind_some]
  cases h : lex a b with
  | true => rw [if_pos rfl, decide_eq_false (lex_ne h)]
  | false =>
    rw [if_neg (by simp), less_f b a hb k (by omega), Option.bind_some]
    cases h2 : lex b a with
    | true => rw [decide_eq_false (lex_ne h2).symm]; rfl
    | false => rw [decide_eq_true (lex_total h h2)]; rfl
theorem get_l0 (l : List S37) (key : List Int) (hl : l.length ≤ 1000000000) (hs : short l) (hk : key.length ≤ 140737488355328) : ∀ n i, i + n = l.length → ∃ K, ∀ k, K ≤ k → storemanref17_get.l0 k l key (i : Int) = some (getR (l.drop i) key) := by
  intro n
  induction n with
  | zero =>
    intro i hi
    refine ⟨1, fun k hk => ?_⟩
    obtain ⟨k, rfl⟩ : ∃ j, k = j + 1 := ⟨k - 1, by omega⟩
    simp only [storemanref17_get.l0]
    rw [if_neg (by omega), List.drop_eq_nil_of_le (by omega)]
    rfl
  | succ n ih =>
    intro i hi
    have hlt : i < l.length := by omega
    have hx := hs _ (List.getElem_mem hlt)
    obtain ⟨K, h⟩ := ih (i + 1) (by omega)
    refine ⟨K + 2 * l[i].f0.length + 2 * key.length + 3, fun k hk => ?_⟩
    obtain ⟨k, rfl⟩ : ∃ j, k = j + 1 := ⟨k - 1, by omega⟩
    simp only [storemanref17_get.l0]
    rw [if_pos (by omega), if_pos (by omega), rd37 l i hlt, same_f _ _ (by omega) (by omega) k (by omega), Option.bind_some, List.drop_eq_getElem_cons hlt, getR_cons]
    by_cases e : l[i].f0 = key
    · rw [if_pos (decide_eq_true e), if_pos e]
    · rw [if_neg (by simpa using e), if_neg e, wrapI (by omega) (by omega)]
      exact h k (by omega)
theorem get_ev (l : List S37) (key : List Int) (hl : l.length ≤ 1000000000) (hs : short l) (hk : key.length ≤ 140737488355328) : ∃ K, ∀ k, K ≤ k → storemanref17_get.f k l key = some (getR l key) := by
  obtain ⟨K, h⟩ := get_l0 l key hl hs hk l.length 0 (by omega)
  exact ⟨K, fun k hk => by simpa [storemanref17_get.f] using h k hk⟩
/-- A row put where it belongs. -/
def insR (key v : List Int) : List S37 → List S37
  | [] => [⟨key, v⟩]
  | x :: s => if lex x.f0 key then x :: insR key v s else ⟨key, v⟩ :: (x :: s).filter (fun r => decide (r.f0 ≠ key))
theorem insR_is {key v : List Int} : ∀ {s : List S37}, Sorted s → insR key v s = s.filter (fun r => lex r.f0 key) ++ ⟨key, v⟩ :: s.filter (fun r => lex key r.f0)
  | [], _ => rfl
  | x :: s, h => by
    obtain ⟨p, q⟩ := List.pairwise_cons.1 h
    unfold insR
    by_cases e : lex x.f0 key = true
    · rw [if_pos e, insR_is q]
      simp [List.filter_cons, e, lex_asymm e]
    · rw [if_neg e]
      have e' : lex x.f0 key = false := by simpa using e
      have h1 : ∀ r ∈ x :: s, lex r.f0 key = false := by
        intro r hr
        rcases List.mem_cons.1 hr with rfl | hr
        · exact e'
        · cases h2 : lex r.f0 key with
          | false => rfl
          | true => rw [lex_trans (p r hr) h2] at e'; cases e'
      have h2 : (x :: s).filter (fun r => lex r.f0 key) = [] := List.filter_eq_nil_iff.2 (fun r hr => by rw [h1 r hr]; simp)
      rw [h2, List.nil_append]
      congr 1
      apply List.filter_congr
      intro r hr
      have h3 := h1 r hr
      rcases lex_cases key r.f0 with h4 | h4 | h4
      · rw [h4]; simp [(lex_ne h4).symm]
      · rw [← h4, lex_irrefl]; simp
      · rw [h4] at h3; cases h3
theorem put_l0 (l : List S37) (key v : List Int) (hl : l.length ≤ 1000000) (hs : short l) (hkl : key.length ≤ 140737488355328) : ∀ n i, i + n = l.length → ∀ (out : List S37) (b : Bool), out.length + 2 * n ≤ 10000000 → ∃ K, ∀ k, K ≤ k → storemanref17_put.l0 k l key v out b (i : Int) = some (out ++ if b = true then (l.drop i).filter (fun r => decide (r.f0 ≠ key)) else insR key v (l.drop i)) := by
  intro n
  induction n with
  | zero =>
    intro i hi out b ho
    refine ⟨1, fun k hk => ?_⟩
    obtain ⟨k, rfl⟩ : ∃ j, k = j + 1 := ⟨k - 1, by omega⟩
    simp only [storemanref17_put.l0]
    rw [if_neg (show ¬ ((i : Int) < (l.length : Int)) by omega), List.drop_eq_nil_of_le (by omega)]
    cases b with
    | true => simp
    | false =>
      rw [if_neg (show ¬ (false = true) by decide), if_pos (show out.length < 2932031007402 by omega), if_neg (show ¬ (false = true) by decide)]
      rfl
  | succ n ih =>
    intro i hi out b ho
    have hlt : i < l.length := by omega
    have hx := hs _ (List.getElem_mem hlt)
    have tail : ∀ (o : List S37) (b' : Bool), o.length + 2 * n + 1 ≤ 10000000 → ∃ K, ∀ k, K ≤ k → storemanref17_put.j2 k l key v o b' (i : Int) = some (o ++ ((if l[i].f0 = key then [] else [l[i]]) ++ if b' = true then (l.drop (i + 1)).filter (fun r => decide (r.f0 ≠ key)) else insR key v (l.drop (i + 1)))) := by
      intro o b' ho1
      by_cases e : l[i].f0 = key
      · obtain ⟨K2, h2⟩ := ih (i + 1) (by omega) o b' (by omega)
        refine ⟨K2 + 2 * l[i].f0.length + 2 * key.length + 3, fun k hk => ?_⟩
        obtain ⟨k, rfl⟩ : ∃ j, k = j + 1 := ⟨k - 1, by omega⟩
        simp only [storemanref17_put.j2]
        rw [if_pos (show (0 : Int) ≤ (i : Int) by omega), if_pos (show (i : Int) < (l.length : Int) by omega), rd37 l i hlt, same_f _ _ (by omega) (by omega) k (by omega), Option.bind_some, if_pos (decide_eq_true e), if_pos e, List.nil_append, wrapI (by omega) (by omega)]
        exact h2 k (by omega)
      · obtain ⟨K3, h3⟩ := ih (i + 1) (by omega) (o ++ [l[i]]) b' (by rw [List.length_append, List.length_singleton]; omega)
        refine ⟨K3 + 2 * l[i].f0.length + 2 * key.length + 3, fun k hk => ?_⟩
        obtain ⟨k, rfl⟩ : ∃ j, k = j + 1 := ⟨k - 1, by omega⟩
        simp only [storemanref17_put.j2]
        rw [if_pos (show (0 : Int) ≤ (i : Int) by omega), if_pos (show (i : Int) < (l.length : Int) by omega), rd37 l i hlt, same_f _ _ (by omega) (by omega) k (by omega), Option.bind_some, if_neg (show ¬ (decide (l[i].f0 = key) = true) by simpa using e), if_neg e, if_pos (show o.length < 2932031007402 by omega), wrapI (by omega) (by omega)]
        have := h3 k (by omega)
        rw [List.append_assoc] at this
        exact this
    rw [List.drop_eq_getElem_cons hlt]
    cases b with
    | true =>
      obtain ⟨K, h⟩ := tail out true (by omega)
      refine ⟨K + 2, fun k hk => ?_⟩
      obtain ⟨k, rfl⟩ : ∃ j, k = j + 2 := ⟨k - 2, by omega⟩
      simp only [storemanref17_put.l0]
      rw [if_pos (show (i : Int) < (l.length : Int) by omega), if_pos trivial]
      simp only [storemanref17_put.j1]
      rw [if_neg (show ¬ (false = true) by decide), h k (by omega)]
      by_cases e : l[i].f0 = key
      · rw [if_pos e, if_pos rfl, if_pos trivial, List.filter_cons, if_neg (by simpa using e)]; rfl
      · rw [if_neg e, if_pos rfl, if_pos trivial, List.filter_cons, if_pos (by simpa using e)]; rfl
    | false =>
      by_cases e : lex l[i].f0 key = true
      · obtain ⟨K, h⟩ := tail out false (by omega)
        refine ⟨K + 2 * l[i].f0.length + 6, fun k hk => ?_⟩
        obtain ⟨k, rfl⟩ : ∃ j, k = j + 2 := ⟨k - 2, by omega⟩
        simp only [storemanref17_put.l0]
        rw [if_pos (show (i : Int) < (l.length : Int) by omega), if_neg (show ¬ (false = true) by decide), if_pos (show (0 : Int) ≤ (i : Int) by omega), rd37 l i hlt, less_f _ _ (by omega) _ (by omega), Option.bind_some, e]
        simp only [storemanref17_put.j1]
        rw [if_neg (show ¬ ((!true) = true) by decide), h k (by omega), if_neg (lex_ne e)]
        simp [insR, e]
      · have e' : lex l[i].f0 key = false := by simpa using e
        obtain ⟨K, h⟩ := tail (out ++ [⟨key, v⟩]) true (by rw [List.length_append, List.length_singleton]; omega)
        refine ⟨K + 2 * l[i].f0.length + 6, fun k hk => ?_⟩
        obtain ⟨k, rfl⟩ : ∃ j, k = j + 2 := ⟨k - 2, by omega⟩
        simp only [storemanref17_put.l0]
        rw [if_pos (show (i : Int) < (l.length : Int) by omega), if_neg (show ¬ (false = true) by decide), if_pos (show (0 : Int) ≤ (i : Int) by omega), rd37 l i hlt, less_f _ _ (by omega) _ (by omega), Option.bind_some, e']
        simp only [storemanref17_put.j1]
        rw [if_pos (show (!false) = true by decide), if_pos (show out.length < 2932031007402 by omega), h k (by omega)]
        by_cases e2 : l[i].f0 = key
        · rw [if_pos e2, if_pos rfl, if_neg (show ¬ (false = true) by decide)]; unfold insR; rw [if_neg e, List.filter_cons, if_neg (by simpa using e2), List.append_assoc]; rfl
        · rw [if_neg e2, if_pos rfl, if_neg (show ¬ (false = true) by decide)]; unfold insR; rw [if_neg e, List.filter_cons, if_pos (by simpa using e2), List.append_assoc]; rfl
theorem put_ev (l : List S37) (key v : List Int) (hl : l.length ≤ 1000000) (hso : Sorted l) (hs : short l) (hkl : key.length ≤ 140737488355328) : ∃ K, ∀ k, K ≤ k → storemanref17_put.f k l key v = some (putR l key v) := by
  obtain ⟨K, h⟩ := put_l0 l key v hl hs hkl l.length 0 (by omega) [] ((v.length : Int) == 0) (by simp <;> omega)
  refine ⟨K, fun k hk => ?_⟩
  unfold storemanref17_put.f
  refine (show storemanref17_put.l0 k l key v [] ((v.length : Int) == 0) 0 = _ from h k hk).trans ?_
  unfold putR
  by_cases hv : v = []
  · subst hv; simp
  · have : ((v.length : Int) == 0) = false := by rw [beq_eq_false_iff_ne]; exact ne_len.1 hv
    rw [this, if_neg hv, if_neg (show ¬ (false = true) by decide), List.drop_zero, List.nil_append, insR_is hso]
theorem rright_l0 (l : List S37) (hl : l.length ≤ 1000000000) (hs : short l) : ∀ (n i : Nat), i + n = l.length → (∀ j, j < i → okAt l j) → ∃ b, (∃ K, ∀ k, K ≤ k → storemanref17_Right.l0 k l (i : Int) = some b) ∧ (b = true ↔ Right l) := by
  intro n
  induction n with
  | zero =>
    intro i hi hok
    refine ⟨true, ⟨1, fun k hk => ?_⟩, ⟨fun _ => (right_iff l).2 fun j => ?_, fun _ => rfl⟩⟩
    · obtain ⟨k, rfl⟩ : ∃ j, k = j + 1 := ⟨k - 1, by omega⟩
      simp only [storemanref17_Right.l0]
      rw [if_neg (by omega)]
    · by_cases hj : j < i
      · exact hok j hj
      · intro h; omega
  | succ n ih =>
    intro i hi hok
    have hlt : i < l.length := by omega
    by_cases ho : okAt l i
    · obtain ⟨b, ⟨K, hK⟩, hb⟩ := ih (i + 1) (by omega) (fun j hj => by
        by_cases e : j = i
        · rw [e]; exact ho
        · exact hok j (by omega))
      have hx := hs _ (List.getElem_mem (show i - 1 < l.length by omega))
      refine ⟨b, ⟨K + 2 * (l[i - 1]'(by omega)).f0.length + 5, fun k hk => ?_⟩, hb⟩
      obtain ⟨k, rfl⟩ : ∃ j, k = j + 2 := ⟨k - 2, by omega⟩
      obtain ⟨h1, h2⟩ := ho hlt
      simp only [storemanref17_Right.l0]
      rw [if_pos (by omega), if_pos (by omega), rd37 l i hlt, if_neg (ne_len.1 h1.1), if_neg (ne_len.1 h1.2)]
      have fin : storemanref17_Right.j1 (k + 1) l (i : Int) false = some b := by
        simp only [storemanref17_Right.j1]
        rw [if_neg (by simp), wrapI (by omega) (by omega)]
        exact hK k (by omega)
      by_cases hp : 0 < i
      · rw [if_pos (by omega), wrapI (by omega) (by omega), if_pos (by omega), if_pos (by omega), show ((i : Int) - 1) = ((i - 1 : Nat) : Int) by omega, rd37 l (i - 1) (by omega), less_f _ _ (by omega) _ (by omega), Option.bind_some, h2 hp]
        exact fin
      · rw [if_neg (by omega)]
        exact fin
    · have hx := hs _ (List.getElem_mem (show i - 1 < l.length by omega))
      refine ⟨false, ⟨2 * (l[i - 1]'(by omega)).f0.length + 5, fun k hk => ?_⟩, ⟨(fun h => by cases h), fun h => absurd ((right_iff l).1 h i) ho⟩⟩
      obtain ⟨k, rfl⟩ : ∃ j, k = j + 2 := ⟨k - 2, by omega⟩
      have fin : storemanref17_Right.j1 (k + 1) l (i : Int) true = some false := by
        simp only [storemanref17_Right.j1]
        rw [if_pos trivial]
      simp only [storemanref17_Right.l0]
      rw [if_pos (by omega), if_pos (by omega), rd37 l i hlt]
      by_cases h0 : l[i].f0 = []
      · rw [if_pos (by rw [h0]; rfl)]; exact fin
      rw [if_neg (ne_len.1 h0)]
      by_cases h1 : l[i].f1 = []
      · rw [if_pos (by rw [h1]; rfl)]; exact fin
      rw [if_neg (ne_len.1 h1)]
      by_cases hp : 0 < i
      · have hx2 : lex (l[i - 1]'(by omega)).f0 l[i].f0 = false := by
          rw [← Bool.not_eq_true]
          exact fun hx => ho fun _ => ⟨⟨h0, h1⟩, fun _ => hx⟩
        rw [if_pos (by omega), wrapI (by omega) (by omega), if_pos (by omega), if_pos (by omega), show ((i : Int) - 1) = ((i - 1 : Nat) : Int) by omega, rd37 l (i - 1) (by omega), less_f _ _ (by omega) _ (by omega), Option.bind_some, hx2]
        exact fin
      · exact absurd (fun _ => ⟨⟨h0, h1⟩, fun hp' => absurd hp' hp⟩) ho
theorem rright_ev (l : List S37) (hl : l.length ≤ 1000000000) (hs : short l) : ∃ b, (∃ K, ∀ k, K ≤ k → storemanref17_Right.f k l = some b) ∧ (b = true ↔ Right l) := by
  obtain ⟨b, ⟨K, hK⟩, hb⟩ := rright_l0 l hl hs l.length 0 (by omega) (fun j hj => by omega)
  exact ⟨b, ⟨K, fun k hk => hK k hk⟩, hb⟩
theorem short_putR {L : List S37} {key v : List Int} (h : short L) (hk : key.length < 140737488355328) (hv : v.length < 140737488355328) : short (putR L key v) := by
  intro r hr
  rcases mem_putR.1 hr with ⟨_, e⟩ | ⟨h1, _⟩
  · rw [e]; exact ⟨hk, hv⟩
  · exact h r h1
end Go.Proofs.Ytkplejkkafcipaa.PA
