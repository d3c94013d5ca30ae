/-
Plain laws of chapter 01: what the runs of days are, how many days they have.
-/
import Derived.Test.YtdncelkgfdlfpaaMath

namespace Go.Proofs.Ytdncelkgfdlfpaa.PA
open Go.RowKit Go.Proofs.YtdncelkgfdlfpaaW.PrintWords Go.Proofs.YtdncelkgfdlfpaaW.PrintLast Go.Proofs.YtdncelkgfdlfpaaW.PrintMore
set_option linter.unusedVariables false

/-! ### What the runs are -/
theorem runs_any (c : Nat → Bool) (d : Nat) : ∀ n, (∃ x ∈ runs c n, x.f0 ≤ (d : Int) ∧ (d : Int) < x.f1) ↔ (d < n ∧ c d = true)
  | 0 => by simp [runs]
  | n + 1 => by
    have ih := runs_any c d n
    simp only [runs]
    by_cases e0 : c n = true
    · rw [if_pos e0]
      by_cases e : 0 < n ∧ c (n - 1) = true
      · rw [if_pos e]
        obtain ⟨t, y, h1, h2⟩ := runs_ne c n e
        have hm := runs_mem c (n := n) (x := y) (by rw [h1]; simp)
        rw [h1] at ih ⊢
        rw [setLast_snoc]
        simp only [List.mem_append, List.mem_singleton, or_and_right, exists_or, exists_eq_left] at ih ⊢
        constructor
        · rintro (h | h)
          · have := ih.1 (.inl h)
            exact ⟨by omega, this.2⟩
          · by_cases q : d = n
            · subst q; exact ⟨by omega, e0⟩
            · have := ih.1 (.inr ⟨h.1, by omega⟩)
              exact ⟨by omega, this.2⟩
        · rintro ⟨h3, h4⟩
          by_cases q : d = n
          · subst q; exact .inr ⟨by omega, by omega⟩
          · rcases ih.2 ⟨by omega, h4⟩ with h | h
            · exact .inl h
            · exact .inr ⟨h.1, by omega⟩
      · rw [if_neg e]
        simp only [List.mem_append, List.mem_singleton, or_and_right, exists_or, exists_eq_left]
        rw [ih]
        constructor
        · rintro (h | h)
          · exact ⟨by omega, h.2⟩
          · have : d = n := by omega
            subst this; exact ⟨by omega, e0⟩
        · rintro ⟨h3, h4⟩
          by_cases q : d = n
          · subst q; exact .inr ⟨by omega, by omega⟩
          · exact .inl ⟨by omega, h4⟩
    · rw [if_neg e0, ih]
      constructor
      · rintro ⟨h1, h2⟩; exact ⟨by omega, h2⟩
      · rintro ⟨h1, h2⟩
        have : d ≠ n := fun q => e0 (q ▸ h2)
        exact ⟨by omega, h2⟩
/-- One behind the other, with a day between. -/
def Chain : List S23 → Prop
  | [] => True
  | [_] => True
  | x :: y :: l => x.f1 < y.f0 ∧ Chain (y :: l)
theorem chain_snoc : ∀ (t : List S23) (x : S23), Chain t → (∀ y, t.getLast? = some y → y.f1 < x.f0) → Chain (t ++ [x])
  | [], _, _, _ => trivial
  | [y], x, _, h => ⟨h y rfl, trivial⟩
  | y :: z :: t, x, hc, h => ⟨hc.1, chain_snoc (z :: t) x hc.2 (fun u hu => h u (by simpa [List.getLast?_cons_cons] using hu))⟩
theorem chain_last : ∀ (t : List S23) (x y : S23), x.f0 = y.f0 → Chain (t ++ [x]) → Chain (t ++ [y])
  | [], _, _, _, _ => trivial
  | [z], x, y, e, h => ⟨e ▸ h.1, trivial⟩
  | z :: u :: t, x, y, e, h => ⟨h.1, chain_last (u :: t) x y e h.2⟩
theorem runs_chain (c : Nat → Bool) : ∀ n, Chain (runs c n)
  | 0 => trivial
  | n + 1 => by
    have ih := runs_chain c n
    simp only [runs]
    by_cases e0 : c n = true
    · rw [if_pos e0]
      by_cases e : 0 < n ∧ c (n - 1) = true
      · rw [if_pos e]
        obtain ⟨t, y, h1, h2⟩ := runs_ne c n e
        rw [h1] at ih ⊢
        rw [setLast_snoc]
        exact chain_last t y ⟨y.f0, (n : Int) + 1⟩ rfl ih
      · rw [if_neg e]
        refine chain_snoc _ _ ih (fun y hy => ?_)
        have := (runs_mem c (List.mem_of_getLast? hy)).2.2.2 (by
          rcases Nat.eq_zero_or_pos n with q | q
          · exact .inl q
          · exact .inr (by simpa [q] using e))
        simpa using this
    · rw [if_neg e0]; exact ih
theorem chain_get : ∀ (l : List S23) (i : Nat) (h : i + 1 < l.length), Chain l → (l[i]'(by omega)).f1 < (l[i + 1]).f0
  | [], i, h, _ => by simp at h
  | [_], i, h, _ => by simp at h
  | x :: y :: l, 0, _, hc => hc.1
  | x :: y :: l, i + 1, h, hc => chain_get (y :: l) i (by simpa using h) hc.2
theorem rows_right (l : List S23) : (rows23 l).all right23 = true := by
  unfold rows23
  split
  · rw [List.all_eq_true]
    intro x hx
    have := runs_mem _ hx
    exact (right23_iff x).2 ⟨this.1, by omega, by omega⟩
  · rfl
theorem rows_cov (l : List S23) (hr : l.all right23 = true) (d : Nat) : cov (rows23 l) d = cov l d := by
  have h := runs_any (cov l) d 4001
  rw [Bool.eq_iff_iff]
  simp only [rows23, hr, if_true]
  constructor
  · intro q
    simp only [cov, List.any_eq_true] at q
    obtain ⟨x, hx, q⟩ := q
    simp only [has23, Bool.and_eq_true, decide_eq_true_eq] at q
    exact (h.1 ⟨x, hx, q.2⟩).2
  · intro q
    have hd : d < 4001 := by
      rcases Nat.lt_or_ge d 4001 with p | p
      · exact p
      · rw [cov_4001 l d p] at q; cases q
    obtain ⟨x, hx, q⟩ := h.2 ⟨hd, q⟩
    simp only [cov, List.any_eq_true]
    have := runs_mem _ hx
    exact ⟨x, hx, by simp [has23, (right23_iff x).2 ⟨this.1, by omega, by omega⟩, q]⟩
theorem rows_rows (l : List S23) (hr : l.all right23 = true) : rows23 (rows23 l) = rows23 l := by
  have h := rows_right l
  rw [show rows23 (rows23 l) = runs (cov (rows23 l)) 4001 by rw [rows23, if_pos h], runs_congr (c' := cov l) (fun d _ => rows_cov l hr d)]
  rw [rows23, if_pos hr]
theorem any_day (l : List S23) (day : Int) : l.any (fun x => has23 x day) = if 0 ≤ day then cov l day.toNat else false := by
  split
  · rename_i h
    simp only [cov, show ((day.toNat : Nat) : Int) = day by omega]
  · rename_i h
    rw [← Bool.not_eq_true]
    simp only [List.any_eq_true]
    rintro ⟨x, _, q⟩
    simp only [has23, Bool.and_eq_true, decide_eq_true_eq] at q
    have := (right23_iff x).1 q.1
    omega
theorem rows_day (l : List S23) (hr : l.all right23 = true) (day : Int) : (rows23 l).any (fun x => has23 x day) = l.any (fun x => has23 x day) := by
  rw [any_day, any_day, rows_cov l hr]

/-! ### How many days -/
def cnt (c : Nat → Bool) : Nat → Int
  | 0 => 0
  | d + 1 => cnt c d + if c d then 1 else 0
def lens : List S23 → Int
  | [] => 0
  | x :: l => (x.f1 - x.f0) + lens l
theorem lens_append : ∀ (l m : List S23), lens (l ++ m) = lens l + lens m
  | [], m => by simp [lens]
  | x :: l, m => by simp only [List.cons_append, lens, lens_append l m]; omega
theorem lens_runs (c : Nat → Bool) : ∀ n, lens (runs c n) = cnt c n
  | 0 => rfl
  | n + 1 => by
    have ih := lens_runs c n
    simp only [runs, cnt]
    by_cases e0 : c n = true
    · rw [if_pos e0, if_pos e0]
      by_cases e : 0 < n ∧ c (n - 1) = true
      · rw [if_pos e]
        obtain ⟨t, y, h1, h2⟩ := runs_ne c n e
        rw [h1, lens_append] at ih
        rw [h1, setLast_snoc, lens_append]
        simp only [lens] at ih ⊢
        omega
      · rw [if_neg e, lens_append, ih]
        simp only [lens]; omega
    · rw [if_neg e0, if_neg (by simpa using e0), ih]; omega
theorem cnt_bound (c : Nat → Bool) : ∀ n, 0 ≤ cnt c n ∧ cnt c n ≤ n
  | 0 => by simp [cnt]
  | n + 1 => by have := cnt_bound c n; simp only [cnt]; split <;> omega
theorem cnt_or_and (c d : Nat → Bool) : ∀ n, cnt (fun i => c i || d i) n = cnt c n + cnt d n - cnt (fun i => c i && d i) n
  | 0 => rfl
  | n + 1 => by
    have ih := cnt_or_and c d n
    simp only [cnt, ih]
    by_cases h1 : c n = true <;> by_cases h2 : d n = true <;> simp [h1, h2] <;> omega
theorem cnt_congr {c d : Nat → Bool} (h : ∀ i, c i = d i) (n : Nat) : cnt c n = cnt d n := by rw [funext h]
theorem lens_nonneg : ∀ (l : List S23), l.all right23 = true → 0 ≤ lens l
  | [], _ => by simp [lens]
  | x :: l, h => by
    simp only [List.all_cons, Bool.and_eq_true] at h
    have := (right23_iff x).1 h.1
    have := lens_nonneg l h.2
    simp only [lens]; omega
theorem lens_take_succ (l : List S23) (i : Nat) (h : i < l.length) : lens (l.take (i + 1)) = lens (l.take i) + (l[i].f1 - l[i].f0) := by
  rw [List.take_succ_eq_append_getElem h, lens_append]; simp [lens]
theorem take_right (l : List S23) (h : l.all right23 = true) (i : Nat) : (l.take i).all right23 = true := by
  rw [List.all_eq_true] at h ⊢
  exact fun x hx => h x (List.mem_of_mem_take hx)
theorem drop_right (l : List S23) (h : l.all right23 = true) (i : Nat) : (l.drop i).all right23 = true := by
  rw [List.all_eq_true] at h ⊢
  exact fun x hx => h x (List.mem_of_mem_drop hx)
theorem lens_split (l : List S23) (i : Nat) : lens l = lens (l.take i) + lens (l.drop i) := by
  rw [← lens_append, List.take_append_drop]
theorem count_l0 (t : List S23) (hr : t.all right23 = true) (hs : lens t ≤ 4001) (hl : t.length ≤ 4001) (m : Nat) : ∀ i k, i + m = t.length → m < k → window_Count.l0 k (lens (t.take i)) t (t.length : Int) i = some (lens t) := by
  induction m with
  | zero =>
    intro i k hi hk
    obtain ⟨k, rfl⟩ : ∃ j, k = j + 1 := ⟨k - 1, by omega⟩
    simp only [window_Count.l0]
    rw [if_neg (by omega), List.take_of_length_le (by omega)]
  | succ m ih =>
    intro i k hi hk
    obtain ⟨k, rfl⟩ : ∃ j, k = j + 1 := ⟨k - 1, by omega⟩
    have hil : i < t.length := by omega
    have h0 := lens_nonneg _ (take_right t hr i)
    have h1 := lens_nonneg _ (drop_right t hr (i + 1))
    have h2 := lens_split t (i + 1)
    have h3 := lens_take_succ t i hil
    have h4 := (right23_iff t[i]).1 (List.all_eq_true.1 hr _ (List.getElem_mem hil))
    simp only [window_Count.l0]
    rw [if_pos (by omega), if_pos (by omega), if_pos (by omega), rd23_get t i hil, wrap64_id (x := t[i].f1 - t[i].f0) (by omega) (by omega), ← h3, wrap64_id (by omega) (by omega), wrap64_id (x := (i : Int) + 1) (by omega) (by omega)]
    exact ih (i + 1) k (by omega) (by omega)
theorem count_ev (l : List S23) (hl : l.length ≤ 140737488351232) (hr : l.all right23 = true) : Ev (fun k => window_Count.f k l) (cnt (cov l) 4001) := by
  have e : rows23 l = runs (cov l) 4001 := by rw [rows23, if_pos hr]
  have hs := cnt_bound (cov l) 4001
  have hle := lens_runs (cov l) 4001
  refine ⟨4003, fun k hk => ?_⟩
  show (window_Rows.f l).bind (fun t266 => (window_Count.l0 k 0 t266 (t266.length : Int) 0)) = _
  rw [rows_f l hl, Option.bind_some]
  have hlen := runs_len (cov l) 4001
  rw [← e] at hle hlen
  have := count_l0 (rows23 l) (rows_right l) (by omega) hlen (rows23 l).length 0 k (by omega) (by omega)
  rw [← hle]
  exact this
theorem same_l0 (t : List S23) (hl : t.length ≤ 140737488351232) (m : Nat) : ∀ i k, i + m = t.length → m < k → storemankit_SameWindows.l0 k t t i = some true := by
  induction m with
  | zero =>
    intro i k hi hk
    obtain ⟨k, rfl⟩ : ∃ j, k = j + 1 := ⟨k - 1, by omega⟩
    simp only [storemankit_SameWindows.l0]
    rw [if_neg (by omega)]
  | succ m ih =>
    intro i k hi hk
    obtain ⟨k, rfl⟩ : ∃ j, k = j + 1 := ⟨k - 1, by omega⟩
    simp only [storemankit_SameWindows.l0]
    rw [if_pos (by omega), if_pos (by omega), if_pos (by omega), if_neg (by simp), wrap64_id (by omega) (by omega)]
    exact ih (i + 1) k (by omega) (by omega)
theorem same_ev (t : List S23) (hl : t.length ≤ 140737488351232) : Ev (fun k => storemankit_SameWindows.f k t t) true :=
  ⟨t.length + 1, fun k hk => by
    show (if (t.length : Int) = (t.length : Int) then storemankit_SameWindows.l0 k t t 0 else some false) = _
    rw [if_pos rfl]; exact same_l0 t hl t.length 0 k (by omega) (by omega)⟩

end Go.Proofs.Ytdncelkgfdlfpaa.PA
