/-
delta.Turns and delta.Back: what they answer.
-/
import Derived.Test.YtkplejkkafcipaaMapM
import Derived.Test.YtkplejkkafcipaaPAx11
import Derived.Test.YtkplejkkafcipaaPAx12
namespace Go.Proofs.Ytkplejkkafcipaa.PA
open Go.RowKit Go.Proofs.YtkplejkkafcipaaW.PrintWords Go.Proofs.YtkplejkkafcipaaW.PrintLast Go.Proofs.YtkplejkkafcipaaW.PrintMore
set_option linter.unusedVariables false
set_option linter.unusedSimpArgs false

theorem getR_cons (x : S37) (a : List S37) (key : List Int) : getR (x :: a) key = if x.f0 = key then x.f1 else getR a key := by
  unfold getR
  rw [List.find?_cons]
  by_cases h : x.f0 = key <;> simp [h]
theorem turnsR_iff {a b : List S37} {z : S43} : z ∈ turnsR a b ↔ z.f1 = getR a z.f0 ∧ z.f2 = getR b z.f0 ∧ z.f1 ≠ z.f2 := by
  rw [turnsR_mem]
  constructor
  · rintro ⟨_, h⟩; exact h
  · rintro ⟨h1, h2, h3⟩
    refine ⟨?_, h1, h2, h3⟩
    rcases getR_cases a z.f0 with ⟨r, hr, hk, _⟩ | ⟨_, e1⟩
    · exact ⟨r, .inl hr, hk⟩
    · rcases getR_cases b z.f0 with ⟨r, hr, hk, _⟩ | ⟨_, e2⟩
      · exact ⟨r, .inr hr, hk⟩
      · exact absurd (h1.trans (e1.trans (e2.symm.trans h2.symm))) h3
theorem right_tail {x : S37} {a : List S37} (h : Right (x :: a)) : Right a := ⟨fun r hr => h.1 r (by simp [hr]), (List.pairwise_cons.1 h.2).2⟩
theorem getR_above {x : List Int} {a : List S37} (h : ∀ r ∈ a, lex x r.f0 = true) : getR a x = [] := getR_none fun r hr e => by
  have := h r hr
  rw [e, lex_irrefl] at this
  cases this
theorem above_tail {x : S37} {a : List S37} (h : Right (x :: a)) : ∀ r ∈ a, lex x.f0 r.f0 = true := (List.pairwise_cons.1 h.2).1
theorem above_cons {x : List Int} {y : S37} {b : List S37} (h : lex x y.f0 = true) (hb : ∀ r ∈ b, lex y.f0 r.f0 = true) : ∀ r ∈ y :: b, lex x r.f0 = true := by
  intro r hr
  rcases List.mem_cons.1 hr with e | hr
  · rw [e]; exact h
  · exact lex_trans h (hb r hr)
/-- The first key stands in the one alone. -/
theorem turnsR_first {a b : List S37} {x : List Int} {T : S43} (h0 : T.f0 = x) (h3 : T.f1 ≠ T.f2) (a' b' : List S37) (ha : ∀ k, getR a k = if x = k then T.f1 else getR a' k) (hb : ∀ k, getR b k = if x = k then T.f2 else getR b' k) (ha' : ∀ r ∈ a', lex x r.f0 = true) (hb' : ∀ r ∈ b', lex x r.f0 = true) :
    turnsR a b = T :: turnsR a' b' := by
  refine sorted_ext S43.f0 (turnsR_sorted a b) (List.pairwise_cons.2 ⟨fun z hz => ?_, turnsR_sorted a' b'⟩) fun z => ?_
  · obtain ⟨⟨r, hr | hr, hk⟩, _⟩ := turnsR_mem.1 hz
    · rw [h0, ← hk]; exact ha' r hr
    · rw [h0, ← hk]; exact hb' r hr
  · rw [List.mem_cons, turnsR_iff, turnsR_iff, ha, hb]
    by_cases e : x = z.f0
    · rw [if_pos e, if_pos e]
      constructor
      · rintro ⟨h1, h2, _⟩
        refine .inl ?_
        obtain ⟨z0, z1, z2⟩ := z
        obtain ⟨t0, t1, t2⟩ := T
        simp only at h0 h1 h2 e ⊢
        rw [h1, h2, ← e, h0]
      · rintro (h | ⟨h1, h2, h4⟩)
        · rw [h]; exact ⟨rfl, rfl, h3⟩
        · rw [← e, getR_above ha'] at h1
          rw [← e, getR_above hb'] at h2
          exact absurd (h1.trans h2.symm) h4
    · rw [if_neg e, if_neg e]
      constructor
      · intro h; exact .inr h
      · rintro (h | h)
        · rw [h] at e; exact absurd h0.symm e
        · exact h
theorem turnsR_same {a b a' b' : List S37} {x v : List Int} (ha : ∀ k, getR a k = if x = k then v else getR a' k) (hb : ∀ k, getR b k = if x = k then v else getR b' k) (ha' : ∀ r ∈ a', lex x r.f0 = true) (hb' : ∀ r ∈ b', lex x r.f0 = true) : turnsR a b = turnsR a' b' := by
  refine sorted_ext S43.f0 (turnsR_sorted a b) (turnsR_sorted a' b') fun z => ?_
  rw [turnsR_iff, turnsR_iff, ha, hb]
  by_cases e : x = z.f0
  · rw [if_pos e, if_pos e, ← e, getR_above ha', getR_above hb']
    constructor
    · rintro ⟨h1, h2, h3⟩; exact absurd (h1.trans h2.symm) h3
    · rintro ⟨h1, h2, h3⟩; exact absurd (h1.trans h2.symm) h3
  · rw [if_neg e, if_neg e]
theorem turn_f {a b c : List Int} (ha : a.length < 140737488355328) (hb : b.length < 140737488355328) (hc : c.length < 140737488355328) : delta_turn.f a b c = some (a, b, c) := by
  unfold delta_turn.f slices_Clone.f
  rw [if_pos ha, if_pos hb, if_pos hc]
  rfl
def short (l : List S37) : Prop := ∀ r ∈ l, r.f0.length < 140737488355328 ∧ r.f1.length < 140737488355328
theorem nil43 (x : S37) : (⟨x.f0, x.f1, []⟩ : S43).f1 ≠ (⟨x.f0, x.f1, []⟩ : S43).f2 ↔ x.f1 ≠ [] := Iff.rfl
theorem dturns_l0 : ∀ (n : Nat) (a b : List S37) (acc : List S43), a.length + b.length ≤ n → Right a → Right b → wfL a → wfL b → short a → short b → acc.length + n ≤ 1000000000 → ∀ k, 4 * n + 2 ≤ k → delta_Turns.l0 k a b acc = some (acc ++ turnsR a b) := by
  intro n
  induction n with
  | zero =>
    intro a b acc hn ha hb _ _ _ _ _ k hk
    obtain ⟨k, rfl⟩ : ∃ j, k = j + 2 := ⟨k - 2, by omega⟩
    obtain rfl : a = [] := List.length_eq_zero_iff.1 (by omega)
    obtain rfl : b = [] := List.length_eq_zero_iff.1 (by omega)
    rw [turnsR_self, List.append_nil]
    simp [delta_Turns.l0, delta_Turns.j2]
  | succ n ih =>
    intro a b acc hn ha hb wa wb sa sb hacc k hk
    obtain ⟨k, rfl⟩ : ∃ j, k = j + 4 := ⟨k - 4, by omega⟩
    cases a with
    | nil =>
      cases b with
      | nil =>
        rw [turnsR_self, List.append_nil]
        simp [delta_Turns.l0, delta_Turns.j2]
      | cons y b =>
        have hy := sb y (by simp)
        have hT : turnsR [] (y :: b) = ⟨y.f0, [], y.f1⟩ :: turnsR [] b := turnsR_first (x := y.f0) (T := ⟨y.f0, [], y.f1⟩) rfl (fun h => (hb.1 y (by simp)).2 h.symm) [] b (fun k => by simp [getR]) (fun k => getR_cons y b k) (fun r h => by cases h) (above_tail hb)
        rw [hT]
        simp only [delta_Turns.l0]
        rw [if_neg (by simp), show decide (((y :: b).length : Int) > 0) = true from decide_eq_true (by simp <;> omega)]
        simp only [delta_Turns.j2]
        rw [if_pos trivial, if_pos (by simp)]
        simp only [delta_Turns.j3]
        rw [if_neg (by omega), if_pos (by omega), if_pos (by simp <;> omega), show rd_T37 (y :: b) 0 = y from rfl, turn_f hy.1 (by simp) hy.2, Option.bind_some, if_pos (by omega)]
        simp only [delta_Turns.j4]
        rw [if_pos (by simp <;> omega), Option.bind_some, if_neg (by omega), List.drop_one, List.tail_cons, ih [] b _ (by simp at hn ⊢; omega) ha (right_tail hb) wa (fun r hr => wb r (by simp [hr])) sa (fun r hr => sb r (by simp [hr])) (by simp <;> omega) _ (by omega), List.append_assoc]
        rfl
    | cons x a =>
      have hx := sa x (by simp)
      have xlt : ∀ b0 : List S37, Right b0 → (∀ r ∈ b0, lex x.f0 r.f0 = true) → turnsR (x :: a) b0 = ⟨x.f0, x.f1, []⟩ :: turnsR a b0 := fun b0 _ hab => turnsR_first (x := x.f0) (T := ⟨x.f0, x.f1, []⟩) rfl (ha.1 x (by simp)).2 a b0 (fun k => getR_cons x a k) (fun k => by by_cases e : x.f0 = k; rw [if_pos e, ← e]; exact getR_above hab; rw [if_neg e]) (above_tail ha) hab
      have left : ∀ (b0 : List S37), Right b0 → wfL b0 → short b0 → (x :: a).length + b0.length ≤ n + 1 → (∀ r ∈ b0, lex x.f0 r.f0 = true) → delta_Turns.j3 (k + 2) (x :: a) b0 acc (-1) = some (acc ++ turnsR (x :: a) b0) := by
        intro b0 hb0 wb0 sb0 hn0 hab
        rw [xlt b0 hb0 hab]
        simp only [delta_Turns.j3]
        rw [if_pos (by omega), if_pos (by simp <;> omega), show rd_T37 (x :: a) 0 = x from rfl, turn_f hx.1 hx.2 (by simp), Option.bind_some, if_pos (by omega), if_pos (by simp <;> omega), List.drop_one, List.tail_cons, ih a b0 _ (by simp at hn0 ⊢; omega) (right_tail ha) hb0 (fun r hr => wa r (by simp [hr])) wb0 (fun r hr => sa r (by simp [hr])) sb0 (by simp <;> omega) _ (by omega), List.append_assoc]
        rfl
      simp only [delta_Turns.l0]
      rw [if_pos (by simp <;> omega)]
      simp only [delta_Turns.j2]
      rw [if_pos trivial, if_neg (by simp <;> omega)]
      cases b with
      | nil =>
        rw [if_pos (by simp)]
        exact left [] hb wb sb hn (fun r h => by cases h)
      | cons y b =>
        have hy := sb y (by simp)
        rw [if_neg (by simp <;> omega), if_pos (by simp <;> omega), if_pos (by simp <;> omega), show rd_T37 (x :: a) 0 = x from rfl, show rd_T37 (y :: b) 0 = y from rfl]
        unfold bytes_Compare.f
        rw [Option.bind_some, compare_is (wa x (by simp)).1 (wb y (by simp)).1]
        rcases lex_cases x.f0 y.f0 with h | h | h
        · rw [if_pos h]
          exact left (y :: b) hb wb sb hn (above_cons h (above_tail hb))
        · rw [h, lex_irrefl, if_neg (by simp), if_neg (by simp)]
          simp only [delta_Turns.j3]
          rw [if_neg (by omega), if_neg (by omega), if_pos (by simp <;> omega), if_pos (by simp <;> omega), show rd_T37 (x :: a) 0 = x from rfl, show rd_T37 (y :: b) 0 = y from rfl, eqB (wa x (by simp)).2 (wb y (by simp)).2, Option.bind_some]
          have fin : ∀ acc', acc'.length + n ≤ 1000000000 → delta_Turns.j4 (k + 1) (x :: a) (y :: b) acc' 0 = some (acc' ++ turnsR a b) := by
            intro acc' hacc'
            simp only [delta_Turns.j4]
            rw [if_pos (by simp <;> omega), Option.bind_some, if_pos trivial, if_pos (by simp <;> omega), List.drop_one, List.drop_one, List.tail_cons, List.tail_cons]
            exact ih a b acc' (by simp at hn; omega) (right_tail ha) (right_tail hb) (fun r hr => wa r (by simp [hr])) (fun r hr => wb r (by simp [hr])) (fun r hr => sa r (by simp [hr])) (fun r hr => sb r (by simp [hr])) hacc' _ (by omega)
          by_cases hv : x.f1 = y.f1
          · rw [if_pos (decide_eq_true hv), fin acc (by omega), turnsR_same (a := x :: a) (b := y :: b) (a' := a) (b' := b) (x := x.f0) (v := x.f1) (fun k => getR_cons x a k) (fun k => by rw [getR_cons, ← h, hv]) (above_tail ha) (fun r hr => by rw [h]; exact above_tail hb r hr)]
          · rw [if_neg (by simpa using hv), turn_f hx.1 hx.2 hy.2, Option.bind_some, if_pos (by omega), fin _ (by simp <;> omega), turnsR_first (a := x :: a) (b := y :: b) (x := x.f0) (T := ⟨x.f0, x.f1, y.f1⟩) rfl hv a b (fun k => getR_cons x a k) (fun k => by rw [getR_cons, ← h]) (above_tail ha) (fun r hr => by rw [h]; exact above_tail hb r hr), List.append_assoc]
            rfl
        · rw [if_neg (by rw [lex_asymm h]; simp), if_pos h]
          simp only [delta_Turns.j3]
          rw [if_neg (by omega), if_pos (by omega), if_pos (by simp <;> omega), show rd_T37 (y :: b) 0 = y from rfl, turn_f hy.1 (by simp) hy.2, Option.bind_some, if_pos (by omega)]
          simp only [delta_Turns.j4]
          have hab : ∀ r ∈ (x :: a), lex y.f0 r.f0 = true := above_cons h (above_tail ha)
          rw [if_pos (by simp <;> omega), Option.bind_some, if_neg (by omega), List.drop_one, List.tail_cons, ih (x :: a) b _ (by simp at hn ⊢; omega) ha (right_tail hb) wa (fun r hr => wb r (by simp [hr])) sa (fun r hr => sb r (by simp [hr])) (by simp <;> omega) _ (by omega),
            turnsR_first (a := x :: a) (b := y :: b) (x := y.f0) (T := ⟨y.f0, [], y.f1⟩) rfl (fun h => (hb.1 y (by simp)).2 h.symm) (x :: a) b (fun k => by by_cases e : y.f0 = k; rw [if_pos e, ← e]; exact getR_above hab; rw [if_neg e]) (fun k => getR_cons y b k) hab (above_tail hb), List.append_assoc]
          rfl
open Classical in
noncomputable def tellsR (a b : List S37) : List S43 := if Right a ∧ Right b then turnsR a b else []
theorem dturns_ev (a b : List S37) (wa : wfL a) (wb : wfL b) (sa : short a) (sb : short b) (hn : a.length + b.length ≤ 1000000) : ∃ K, ∀ k, K ≤ k → delta_Turns.f k a b = some (tellsR a b) := by
  obtain ⟨u, ⟨K0, h0⟩, hu⟩ := dright_ev a (by omega) wa
  obtain ⟨v, ⟨K1, h1⟩, hv⟩ := dright_ev b (by omega) wb
  refine ⟨K0 + K1 + 4 * 1000000 + 3, fun k hk => ?_⟩
  unfold delta_Turns.f tellsR
  rw [h0 k (by omega), Option.bind_some]
  obtain ⟨k, rfl⟩ : ∃ j, k = j + 1 := ⟨k - 1, by omega⟩
  by_cases ha : Right a
  · rw [hu.2 ha, if_pos rfl, h1 _ (by omega), Option.bind_some]
    simp only [delta_Turns.j0]
    by_cases hb : Right b
    · rw [hv.2 hb, if_neg (by simp), if_pos ⟨ha, hb⟩, dturns_l0 (a.length + b.length) a b [] (Nat.le_refl _) ha hb wa wb sa sb (by simp <;> omega) k (by omega)]
      rfl
    · have : v = false := by rw [← Bool.not_eq_true]; exact fun h => hb (hv.1 h)
      rw [this, if_pos (by simp), if_neg (fun h => hb h.2)]
  · have : u = false := by rw [← Bool.not_eq_true]; exact fun h => ha (hu.1 h)
    rw [this, if_neg (by simp), if_neg (fun h => ha h.1)]
    simp only [delta_Turns.j0]
    rw [if_pos trivial]
end Go.Proofs.Ytkplejkkafcipaa.PA
