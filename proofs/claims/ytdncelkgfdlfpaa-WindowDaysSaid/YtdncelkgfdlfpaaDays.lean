/-
Plain laws of the statement WindowDays: lists and numbers alone.
-/
import Derived.Test.YtdncelkgfdlfpaaMath
import Derived.Test.YtdncelkgfdlfpaaPAx6

namespace Go.Proofs.Ytdncelkgfdlfpaa.PA
open Go.RowKit Go.Proofs.YtdncelkgfdlfpaaW.PrintWords Go.Proofs.YtdncelkgfdlfpaaW.PrintLast Go.Proofs.YtdncelkgfdlfpaaW.PrintMore
set_option linter.unusedVariables false

/-! ### What the runs are -/
theorem runs_any (c : Nat → Bool) (d : Nat) : ∀ n, (∃ x ∈ runs c n, x.f0 ≤ (d : Int) ∧ (d : Int) < x.f1) ↔ (d < n ∧ c d = true)
  | 0 => by simp [runs]
  | n + 1 => by
    have ih := runs_any c d n
    simp only [runs]
    by_cases e0 : c n = true
    · rw [if_pos e0]
      by_cases e : 0 < n ∧ c (n - 1) = true
      · rw [if_pos e]
        obtain ⟨t, y, h1, h2⟩ := runs_ne c n e
        have hm := runs_mem c (n := n) (x := y) (by rw [h1]; simp)
        rw [h1] at ih ⊢
        rw [setLast_snoc]
        simp only [List.mem_append, List.mem_singleton, or_and_right, exists_or, exists_eq_left] at ih ⊢
        constructor
        · rintro (h | h)
          · have := ih.1 (.inl h)
            exact ⟨by omega, this.2⟩
          · by_cases q : d = n
            · subst q; exact ⟨by omega, e0⟩
            · have := ih.1 (.inr ⟨h.1, by omega⟩)
              exact ⟨by omega, this.2⟩
        · rintro ⟨h3, h4⟩
          by_cases q : d = n
          · subst q; exact .inr ⟨by omega, by omega⟩
          · rcases ih.2 ⟨by omega, h4⟩ with h | h
            · exact .inl h
            · exact .inr ⟨h.1, by omega⟩
      · rw [if_neg e]
        simp only [List.mem_append, List.mem_singleton, or_and_right, exists_or, exists_eq_left]
        rw [ih]
        constructor
        · rintro (h | h)
          · exact ⟨by omega, h.2⟩
          · have : d = n := by omega
            subst this; exact ⟨by omega, e0⟩
        · rintro ⟨h3, h4⟩
          by_cases q : d = n
          · subst q; exact .inr ⟨by omega, by omega⟩
          · exact .inl ⟨by omega, h4⟩
    · rw [if_neg e0, ih]
      constructor
      · rintro ⟨h1, h2⟩; exact ⟨by omega, h2⟩
      · rintro ⟨h1, h2⟩
        have : d ≠ n := fun q => e0 (q ▸ h2)
        exact ⟨by omega, h2⟩
/-- One behind the other, with a day between. -/
def Chain : List S23 → Prop
  | [] => True
  | [_] => True
  | x :: y :: l => x.f1 < y.f0 ∧ Chain (y :: l)
theorem chain_snoc : ∀ (t : List S23) (x : S23), Chain t → (∀ y, t.getLast? = some y → y.f1 < x.f0) → Chain (t ++ [x])
  | [], _, _, _ => trivial
  | [y], x, _, h => ⟨h y rfl, trivial⟩
  | y :: z :: t, x, hc, h => ⟨hc.1, chain_snoc (z :: t) x hc.2 (fun u hu => h u (by simpa [List.getLast?_cons_cons] using hu))⟩
theorem chain_last : ∀ (t : List S23) (x y : S23), x.f0 = y.f0 → Chain (t ++ [x]) → Chain (t ++ [y])
  | [], _, _, _, _ => trivial
  | [z], x, y, e, h => ⟨e ▸ h.1, trivial⟩
  | z :: u :: t, x, y, e, h => ⟨h.1, chain_last (u :: t) x y e h.2⟩
theorem runs_chain (c : Nat → Bool) : ∀ n, Chain (runs c n)
  | 0 => trivial
  | n + 1 => by
    have ih := runs_chain c n
    simp only [runs]
    by_cases e0 : c n = true
    · rw [if_pos e0]
      by_cases e : 0 < n ∧ c (n - 1) = true
      · rw [if_pos e]
        obtain ⟨t, y, h1, h2⟩ := runs_ne c n e
        rw [h1] at ih ⊢
        rw [setLast_snoc]
        exact chain_last t y ⟨y.f0, (n : Int) + 1⟩ rfl ih
      · rw [if_neg e]
        refine chain_snoc _ _ ih (fun y hy => ?_)
        have := (runs_mem c (List.mem_of_getLast? hy)).2.2.2 (by
          rcases Nat.eq_zero_or_pos n with q | q
          · exact .inl q
          · exact .inr (by simpa [q] using e))
        simpa using this
    · rw [if_neg e0]; exact ih
theorem chain_get : ∀ (l : List S23) (i : Nat) (h : i + 1 < l.length), Chain l → (l[i]'(by omega)).f1 < (l[i + 1]).f0
  | [], i, h, _ => by simp at h
  | [_], i, h, _ => by simp at h
  | x :: y :: l, 0, _, hc => hc.1
  | x :: y :: l, i + 1, h, hc => chain_get (y :: l) i (by simpa using h) hc.2
theorem rows_right (l : List S23) : (rows23 l).all right23 = true := by
  unfold rows23
  split
  · rw [List.all_eq_true]
    intro x hx
    have := runs_mem _ hx
    exact (right23_iff x).2 ⟨this.1, by omega, by omega⟩
  · rfl
theorem rows_cov (l : List S23) (hr : l.all right23 = true) (d : Nat) : cov (rows23 l) d = cov l d := by
  have h := runs_any (cov l) d 4001
  rw [Bool.eq_iff_iff]
  simp only [rows23, hr, if_true]
  constructor
  · intro q
    simp only [cov, List.any_eq_true] at q
    obtain ⟨x, hx, q⟩ := q
    simp only [has23, Bool.and_eq_true, decide_eq_true_eq] at q
    exact (h.1 ⟨x, hx, q.2⟩).2
  · intro q
    have hd : d < 4001 := by
      rcases Nat.lt_or_ge d 4001 with p | p
      · exact p
      · rw [cov_4001 l d p] at q; cases q
    obtain ⟨x, hx, q⟩ := h.2 ⟨hd, q⟩
    simp only [cov, List.any_eq_true]
    have := runs_mem _ hx
    exact ⟨x, hx, by simp [has23, (right23_iff x).2 ⟨this.1, by omega, by omega⟩, q]⟩
theorem rows_rows (l : List S23) (hr : l.all right23 = true) : rows23 (rows23 l) = rows23 l := by
  have h := rows_right l
  rw [show rows23 (rows23 l) = runs (cov (rows23 l)) 4001 by rw [rows23, if_pos h], runs_congr (c' := cov l) (fun d _ => rows_cov l hr d)]
  rw [rows23, if_pos hr]
theorem any_day (l : List S23) (day : Int) : l.any (fun x => has23 x day) = if 0 ≤ day then cov l day.toNat else false := by
  split
  · rename_i h
    simp only [cov, show ((day.toNat : Nat) : Int) = day by omega]
  · rename_i h
    rw [← Bool.not_eq_true]
    simp only [List.any_eq_true]
    rintro ⟨x, _, q⟩
    simp only [has23, Bool.and_eq_true, decide_eq_true_eq] at q
    have := (right23_iff x).1 q.1
    omega
theorem rows_day (l : List S23) (hr : l.all right23 = true) (day : Int) : (rows23 l).any (fun x => has23 x day) = l.any (fun x => has23 x day) := by
  rw [any_day, any_day, rows_cov l hr]

/-! ### How many days -/
def cnt (c : Nat → Bool) : Nat → Int
  | 0 => 0
  | d + 1 => cnt c d + if c d then 1 else 0
def lens : List S23 → Int
  | [] => 0
  | x :: l => (x.f1 - x.f0) + lens l
theorem lens_append : ∀ (l m : List S23), lens (l ++ m) = lens l + lens m
  | [], m => by simp [lens]
  | x :: l, m => by simp only [List.cons_append, lens, lens_append l m]; omega
theorem lens_runs (c : Nat → Bool) : ∀ n, lens (runs c n) = cnt c n
  | 0 => rfl
  | n + 1 => by
    have ih := lens_runs c n
    simp only [runs, cnt]
    by_cases e0 : c n = true
    · rw [if_pos e0, if_pos e0]
      by_cases e : 0 < n ∧ c (n - 1) = true
      · rw [if_pos e]
        obtain ⟨t, y, h1, h2⟩ := runs_ne c n e
        rw [h1, lens_append] at ih
        rw [h1, setLast_snoc, lens_append]
        simp only [lens] at ih ⊢
        omega
      · rw [if_neg e, lens_append, ih]
        simp only [lens]; omega
    · rw [if_neg e0, if_neg (by simpa using e0), ih]; omega
theorem cnt_bound (c : Nat → Bool) : ∀ n, 0 ≤ cnt c n ∧ cnt c n ≤ n
  | 0 => by simp [cnt]
  | n + 1 => by have := cnt_bound c n; simp only [cnt]; split <;> omega
theorem cnt_or_and (c d : Nat → Bool) : ∀ n, cnt (fun i => c i || d i) n = cnt c n + cnt d n - cnt (fun i => c i && d i) n
  | 0 => rfl
  | n + 1 => by
    have ih := cnt_or_and c d n
    simp only [cnt, ih]
    by_cases h1 : c n = true <;> by_cases h2 : d n = true <;> simp [h1, h2] <;> omega
theorem cnt_congr {c d : Nat → Bool} (h : ∀ i, c i = d i) (n : Nat) : cnt c n = cnt d n := by rw [funext h]
theorem lens_nonneg : ∀ (l : List S23), l.all right23 = true → 0 ≤ lens l
  | [], _ => by simp [lens]
  | x :: l, h => by
    simp only [List.all_cons, Bool.and_eq_true] at h
    have := (right23_iff x).1 h.1
    have := lens_nonneg l h.2
    simp only [lens]; omega
theorem lens_take_succ (l : List S23) (i : Nat) (h : i < l.length) : lens (l.take (i + 1)) = lens (l.take i) + (l[i].f1 - l[i].f0) := by
  rw [List.take_succ_eq_append_getElem h, lens_append]; simp [lens]
theorem take_right (l : List S23) (h : l.all right23 = true) (i : Nat) : (l.take i).all right23 = true := by
  rw [List.all_eq_true] at h ⊢
  exact fun x hx => h x (List.mem_of_mem_take hx)
theorem drop_right (l : List S23) (h : l.all right23 = true) (i : Nat) : (l.drop i).all right23 = true := by
  rw [List.all_eq_true] at h ⊢
  exact fun x hx => h x (List.mem_of_mem_drop hx)
theorem lens_split (l : List S23) (i : Nat) : lens l = lens (l.take i) + lens (l.drop i) := by
  rw [← lens_append, List.take_append_drop]
theorem count_l0 (t : List S23) (hr : t.all right23 = true) (hs : lens t ≤ 4001) (hl : t.length ≤ 4001) (m : Nat) : ∀ i k, i + m = t.length → m < k → window_Count.l0 k (lens (t.take i)) t (t.length : Int) i = some (lens t) := by
  induction m with
  | zero =>
    intro i k hi hk
    obtain ⟨k, rfl⟩ : ∃ j, k = j + 1 := ⟨k - 1, by omega⟩
    simp only [window_Count.l0]
    rw [if_neg (by omega), List.take_of_length_le (by omega)]
  | succ m ih =>
    intro i k hi hk
    obtain ⟨k, rfl⟩ : ∃ j, k = j + 1 := ⟨k - 1, by omega⟩
    have hil : i < t.length := by omega
    have h0 := lens_nonneg _ (take_right t hr i)
    have h1 := lens_nonneg _ (drop_right t hr (i + 1))
    have h2 := lens_split t (i + 1)
    have h3 := lens_take_succ t i hil
    have h4 := (right23_iff t[i]).1 (List.all_eq_true.1 hr _ (List.getElem_mem hil))
    simp only [window_Count.l0]
    rw [if_pos (by omega), if_pos (by omega), if_pos (by omega), rd23_get t i hil, wrap64_id (x := t[i].f1 - t[i].f0) (by omega) (by omega), ← h3, wrap64_id (by omega) (by omega), wrap64_id (x := (i : Int) + 1) (by omega) (by omega)]
    exact ih (i + 1) k (by omega) (by omega)
theorem count_ev (l : List S23) (hl : l.length ≤ 140737488351232) (hr : l.all right23 = true) : Ev (fun k => window_Count.f k l) (cnt (cov l) 4001) := by
  have e : rows23 l = runs (cov l) 4001 := by rw [rows23, if_pos hr]
  have hs := cnt_bound (cov l) 4001
  have hle := lens_runs (cov l) 4001
  refine ⟨4003, fun k hk => ?_⟩
  show (window_Rows.f l).bind (fun t266 => (window_Count.l0 k 0 t266 (t266.length : Int) 0)) = _
  rw [rows_f l hl, Option.bind_some]
  have hlen := runs_len (cov l) 4001
  rw [← e] at hle hlen
  have := count_l0 (rows23 l) (rows_right l) (by omega) hlen (rows23 l).length 0 k (by omega) (by omega)
  rw [← hle]
  exact this
theorem same_l0 (t : List S23) (hl : t.length ≤ 140737488351232) (m : Nat) : ∀ i k, i + m = t.length → m < k → storemankit_SameWindows.l0 k t t i = some true := by
  induction m with
  | zero =>
    intro i k hi hk
    obtain ⟨k, rfl⟩ : ∃ j, k = j + 1 := ⟨k - 1, by omega⟩
    simp only [storemankit_SameWindows.l0]
    rw [if_neg (by omega)]
  | succ m ih =>
    intro i k hi hk
    obtain ⟨k, rfl⟩ : ∃ j, k = j + 1 := ⟨k - 1, by omega⟩
    simp only [storemankit_SameWindows.l0]
    rw [if_pos (by omega), if_pos (by omega), if_pos (by omega), if_neg (by simp), wrap64_id (by omega) (by omega)]
    exact ih (i + 1) k (by omega) (by omega)
theorem same_ev (t : List S23) (hl : t.length ≤ 140737488351232) : Ev (fun k => storemankit_SameWindows.f k t t) true :=
  ⟨t.length + 1, fun k hk => by
    show (if (t.length : Int) = (t.length : Int) then storemankit_SameWindows.l0 k t t 0 else some false) = _
    rw [if_pos rfl]; exact same_l0 t hl t.length 0 k (by omega) (by omega)⟩

/-! ### The statement's loops -/
def meetRow (a : S23) (m : List S23) : List S23 := m.filterMap (fun b => if (meet23 a b).2.2 then some ⟨(meet23 a b).1, (meet23 a b).2.1⟩ else none)
def both (l m : List S23) : List S23 := l.flatMap (fun a => meetRow a m)
theorem meetRow_yes (a b : S23) (m : List S23) (h : (meet23 a b).2.2 = true) : meetRow a (b :: m) = ⟨(meet23 a b).1, (meet23 a b).2.1⟩ :: meetRow a m := by
  unfold meetRow; rw [List.filterMap_cons]; simp [h]
theorem meetRow_no (a b : S23) (m : List S23) (h : ¬ (meet23 a b).2.2 = true) : meetRow a (b :: m) = meetRow a m := by
  unfold meetRow; rw [List.filterMap_cons]; simp [h]
theorem meetRow_len (a : S23) (m : List S23) : (meetRow a m).length ≤ m.length := List.length_filterMap_le _ _
theorem both_len (l m : List S23) : (both l m).length ≤ l.length * m.length := by
  induction l with
  | nil => simp [both]
  | cons a l ih =>
    simp only [both, List.flatMap_cons, List.length_append, List.length_cons]
    have := meetRow_len a m
    simp only [both] at ih
    rw [Nat.succ_mul]; omega
theorem nowrap {n : Nat} (h : n ≤ 140737488351232) : wrap64 ((n : Int) + 1) = ((n + 1 : Nat) : Int) := by rw [wrap64_id (by omega) (by omega)]; omega

theorem days_l4 (l m rows : List S23) (has is : Bool) (r : Bool) (hm : m.length ≤ 200) (hl : l.length ≤ 200) (i : Nat) (hi : i < l.length) (n : Nat) : ∀ (j : Nat) (acc : List S23), j + n = m.length → acc.length + n ≤ 1000000 →
    Ev (fun k => storemanlaw01_WindowDays.l3 k l m rows has is (acc ++ meetRow l[i] (m.drop j)) ((i + 1 : Nat) : Int)) r →
    Ev (fun k => storemanlaw01_WindowDays.l4 k l m rows has is acc i j) r := by
  induction n with
  | zero =>
    intro j acc hj ha H
    rw [List.drop_of_length_le (by omega)] at H
    refine Ev.step (f := fun k => storemanlaw01_WindowDays.l3 k l m rows has is acc ((i + 1 : Nat) : Int)) (fun k => ?_) (by simpa [meetRow] using H)
    simp only [storemanlaw01_WindowDays.l4]
    rw [if_neg (by omega), nowrap (by omega)]
  | succ n ih =>
    intro j acc hj ha H
    have hjm : j < m.length := by omega
    rw [drop_cons m j hjm] at H
    by_cases ho : (meet23 l[i] m[j]).2.2 = true
    · have hr : meetRow l[i] (m[j] :: m.drop (j + 1)) = ⟨(meet23 l[i] m[j]).1, (meet23 l[i] m[j]).2.1⟩ :: meetRow l[i] (m.drop (j + 1)) := meetRow_yes _ _ _ ho
      rw [hr] at H
      refine Ev.step (f := fun k => storemanlaw01_WindowDays.l4 k l m rows has is (acc ++ [⟨(meet23 l[i] m[j]).1, (meet23 l[i] m[j]).2.1⟩]) i ((j + 1 : Nat) : Int)) (fun k => ?_) (ih (j + 1) (acc ++ [⟨(meet23 l[i] m[j]).1, (meet23 l[i] m[j]).2.1⟩]) (by omega) (by simp; omega) (by rw [List.append_assoc]; exact H))
      simp only [storemanlaw01_WindowDays.l4]
      rw [if_pos (by omega), if_pos (by omega), if_pos (by omega), if_pos (by omega), rd23_get l i hi, rd23_get m j hjm, meet_f, Option.bind_some, if_pos ho, if_pos (by omega), nowrap (by omega)]
    · have hr : meetRow l[i] (m[j] :: m.drop (j + 1)) = meetRow l[i] (m.drop (j + 1)) := meetRow_no _ _ _ ho
      rw [hr] at H
      refine Ev.step (f := fun k => storemanlaw01_WindowDays.l4 k l m rows has is acc i ((j + 1 : Nat) : Int)) (fun k => ?_) (ih (j + 1) _ (by omega) (by omega) H)
      simp only [storemanlaw01_WindowDays.l4]
      rw [if_pos (by omega), if_pos (by omega), if_pos (by omega), if_pos (by omega), rd23_get l i hi, rd23_get m j hjm, meet_f, Option.bind_some, if_neg ho, nowrap (by omega)]
theorem days_l3 (l m rows : List S23) (has is : Bool) (r : Bool) (hm : m.length ≤ 200) (hl : l.length ≤ 200) (n : Nat) : ∀ (i : Nat) (acc : List S23), i + n = l.length → acc.length + n * 200 ≤ 100000 →
    Ev (fun k => storemanlaw01_WindowDays.l3 k l m rows has is (acc ++ both (l.drop i) m) (l.length : Int)) r →
    Ev (fun k => storemanlaw01_WindowDays.l3 k l m rows has is acc i) r := by
  induction n with
  | zero =>
    intro i acc hi ha H
    obtain rfl : i = l.length := by omega
    simpa [both] using H
  | succ n ih =>
    intro i acc hi ha H
    have hil : i < l.length := by omega
    refine Ev.step (f := fun k => storemanlaw01_WindowDays.l4 k l m rows has is acc i ((0 : Nat) : Int)) (fun k => ?_) ?_
    · simp only [storemanlaw01_WindowDays.l3]
      rw [if_pos (by omega)]; rfl
    · refine days_l4 l m rows has is r hm hl i hil m.length 0 acc (by omega) (by omega) ?_
      rw [List.drop_zero]
      have := meetRow_len l[i] m
      refine ih (i + 1) (acc ++ meetRow l[i] m) (by omega) (by simp; omega) ?_
      have e : both (l.drop i) m = meetRow l[i] m ++ both (l.drop (i + 1)) m := by rw [drop_cons l i hil]; rfl
      rw [e, ← List.append_assoc] at H
      exact H
theorem days_l2 (l m rows : List S23) (has : Bool) (r : Bool) (hrr : rows.all right23 = true) (hne : ∀ x ∈ rows, x.f0 < x.f1) (hch : Chain rows) (day : Int) (hlen : rows.length ≤ 4001) (n : Nat) : ∀ (i : Nat) (is : Bool), i + n = rows.length →
    Ev (fun k => storemanlaw01_WindowDays.l3 k l m rows has (is || (rows.drop i).any (fun x => has23 x day)) [] 0) r →
    Ev (fun k => storemanlaw01_WindowDays.l2 k l m day rows has is i) r := by
  induction n with
  | zero =>
    intro i is hi H
    rw [List.drop_of_length_le (by omega)] at H
    refine Ev.step (f := fun k => storemanlaw01_WindowDays.l3 k l m rows has is [] 0) (fun k => ?_) (by simpa using H)
    simp only [storemanlaw01_WindowDays.l2]
    rw [if_neg (by omega)]
  | succ n ih =>
    intro i is hi H
    have hil : i < rows.length := by omega
    rw [drop_cons rows i hil, List.any_cons, ← Bool.or_assoc] at H
    have hx := hne rows[i] (List.getElem_mem hil)
    have hprev : ∀ (h : 0 < i), (rd_T23 rows (wrap64 ((i : Int) - 1))).f1 < (rows[i]).f0 := by
      intro h
      have e1 : wrap64 ((i : Int) - 1) = ((i - 1 : Nat) : Int) := by rw [wrap64_id (by omega) (by omega)]; omega
      rw [e1, rd23_get rows (i - 1) (by omega)]
      have := chain_get rows (i - 1) (by omega) hch
      simpa [show i - 1 + 1 = i by omega] using this
    refine Ev.step (f := fun k => storemanlaw01_WindowDays.l2 k l m day rows has (is || has23 rows[i] day) ((i + 1 : Nat) : Int)) (fun k => ?_) (ih (i + 1) _ (by omega) H)
    simp only [storemanlaw01_WindowDays.l2]
    have e1 : 0 < i → wrap64 ((i : Int) - 1) = ((i - 1 : Nat) : Int) := fun h => by rw [wrap64_id (by omega) (by omega)]; omega
    rw [if_pos (by omega), rd23_get rows i hil, nowrap (by omega)]
    cases is
    · rw [if_neg (by decide), if_pos (by omega), has_f, Option.bind_some, if_neg (by omega)]
      by_cases h0 : 0 < i
      · rw [if_pos (by omega), if_pos (by rw [e1 h0]; omega), if_pos (by rw [e1 h0]; omega), if_neg (by have := hprev h0; omega)]; rfl
      · rw [if_neg (by omega)]; rfl
    · rw [if_pos rfl, if_pos (by omega), if_neg (by omega)]
      by_cases h0 : 0 < i
      · rw [if_pos (by omega), if_pos (by rw [e1 h0]; omega), if_pos (by rw [e1 h0]; omega), if_neg (by have := hprev h0; omega)]; rfl
      · rw [if_neg (by omega)]; rfl
theorem days_l1 (l m rows : List S23) (r : Bool) (day : Int) (hl : l.length ≤ 200) (n : Nat) : ∀ (i : Nat) (has : Bool), i + n = l.length →
    Ev (fun k => storemanlaw01_WindowDays.l2 k l m day rows (has || (l.drop i).any (fun x => has23 x day)) false 0) r →
    Ev (fun k => storemanlaw01_WindowDays.l1 k l m day rows has false i) r := by
  induction n with
  | zero =>
    intro i has hi H
    rw [List.drop_of_length_le (by omega)] at H
    refine Ev.step (f := fun k => storemanlaw01_WindowDays.l2 k l m day rows has false 0) (fun k => ?_) (by simpa using H)
    simp only [storemanlaw01_WindowDays.l1]
    rw [if_neg (by omega)]
  | succ n ih =>
    intro i has hi H
    have hil : i < l.length := by omega
    rw [drop_cons l i hil, List.any_cons, ← Bool.or_assoc] at H
    refine Ev.step (f := fun k => storemanlaw01_WindowDays.l1 k l m day rows (has || has23 l[i] day) false ((i + 1 : Nat) : Int)) (fun k => ?_) (ih (i + 1) _ (by omega) H)
    simp only [storemanlaw01_WindowDays.l1]
    rw [if_pos (by omega), nowrap (by omega)]
    cases has
    · rw [if_neg (by decide), if_pos (by omega), rd23_get l i hil, has_f, Option.bind_some]; rfl
    · rw [if_pos rfl]; rfl
theorem days_l0 (l m : List S23) (day : Int) (hl : l.length + m.length ≤ 200) (H : (l ++ m).all right23 = true → Ev (fun k => storemanlaw01_WindowDays.l1 k l m day (rows23 l) false false 0) true) (n : Nat) : ∀ i, i + n = l.length + m.length → ((l ++ m).take i).all right23 = true →
    Ev (fun k => storemanlaw01_WindowDays.l0 k l m day i) true := by
  have hsum : wrap64 ((l.length : Int) + (m.length : Int)) = ((l.length + m.length : Nat) : Int) := by rw [wrap64_id (by omega) (by omega)]; omega
  induction n with
  | zero =>
    intro i hi ht
    rw [List.take_of_length_le (by simp; omega)] at ht
    refine Ev.step (f := fun k => storemanlaw01_WindowDays.l1 k l m day (rows23 l) false false 0) (fun k => ?_) (H ht)
    simp only [storemanlaw01_WindowDays.l0]
    rw [hsum, if_neg (by omega), rows_f l (by omega)]; rfl
  | succ n ih =>
    intro i hi ht
    have hil : i < (l ++ m).length := by simp; omega
    have e : ∀ k, storemanlaw01_WindowDays.l0 (k + 1) l m day i = if right23 (l ++ m)[i] = true then storemanlaw01_WindowDays.l0 k l m day ((i + 1 : Nat) : Int) else some true := by
      intro k
      rw [show storemanlaw01_WindowDays.l0 (k + 1) l m day i = _ from by simp only [storemanlaw01_WindowDays.l0]; rfl]
      simp only [Option.bind_some, List.nil_append, List.length_nil]
      rw [hsum, if_pos (by omega), if_pos (by omega), if_pos (by omega), if_pos (by omega), if_pos (by omega), rd23_get (l ++ m) i hil, right_f, Option.bind_some, nowrap (by omega)]
    by_cases hr : right23 (l ++ m)[i] = true
    · refine Ev.step (f := fun k => storemanlaw01_WindowDays.l0 k l m day ((i + 1 : Nat) : Int)) (fun k => by rw [e k, if_pos hr]) (ih (i + 1) (by omega) ?_)
      rw [List.take_succ_eq_append_getElem hil, List.all_append, ht]; simpa using hr
    · exact ⟨1, fun k hk => by
        obtain ⟨k, rfl⟩ : ∃ j, k = j + 1 := ⟨k - 1, by omega⟩
        show storemanlaw01_WindowDays.l0 (k + 1) l m day i = _
        rw [e k, if_neg hr]⟩
theorem meet_right {a b : S23} (h : (meet23 a b).2.2 = true) : right23 ⟨(meet23 a b).1, (meet23 a b).2.1⟩ = true ∧ ∀ d : Int, (has23 ⟨(meet23 a b).1, (meet23 a b).2.1⟩ d = true ↔ has23 a d = true ∧ has23 b d = true) := by
  have hr : right23 a = true ∧ right23 b = true := by
    unfold meet23 at h
    split at h
    · rename_i q; simpa using q
    · cases h
  have e : meet23 a b = within23 (mx a.f0 b.f0) (mn a.f1 b.f1) := by unfold meet23; rw [if_pos (by simp [hr])]
  rw [e] at h ⊢
  unfold within23 at h ⊢
  split at h
  · rename_i q
    rw [if_pos q]
    have h1 := (right23_iff a).1 hr.1
    have h2 := (right23_iff b).1 hr.2
    have g1 := (mx_le a.f0 b.f0 (mx a.f0 b.f0)).1 (Int.le_refl _)
    have g2 := (lt_mn a.f1 b.f1 (mn a.f1 b.f1 - 1)).1 (by omega)
    have hw : right23 ⟨mx a.f0 b.f0, mn a.f1 b.f1⟩ = true := (right23_iff _).2 ⟨by dsimp only; omega, by dsimp only; omega, by dsimp only; omega⟩
    refine ⟨hw, fun d => ?_⟩
    simp only [has23, hw, hr.1, hr.2, Bool.true_and, Bool.and_eq_true, decide_eq_true_eq, mx_le, lt_mn]
    omega
  · cases h
theorem meet_none {a b : S23} (ha : right23 a = true) (hb : right23 b = true) (h : (meet23 a b).2.2 = false) (d : Int) : ¬ (has23 a d = true ∧ has23 b d = true) := by
  have e : meet23 a b = within23 (mx a.f0 b.f0) (mn a.f1 b.f1) := by unfold meet23; rw [if_pos (by simp [ha, hb])]
  rw [e] at h
  unfold within23 at h
  split at h
  · cases h
  · rename_i q
    simp only [has23, ha, hb, Bool.true_and, Bool.and_eq_true, decide_eq_true_eq]
    rintro ⟨q1, q2⟩
    have := (mx_le a.f0 b.f0 d).2 ⟨q1.1, q2.1⟩
    have := (lt_mn a.f1 b.f1 d).2 ⟨q1.2, q2.2⟩
    omega
theorem both_right (l m : List S23) : (both l m).all right23 = true := by
  rw [List.all_eq_true]
  intro x hx
  simp only [both, meetRow, List.mem_flatMap, List.mem_filterMap] at hx
  obtain ⟨a, _, b, _, h⟩ := hx
  split at h
  · rename_i q
    cases h
    exact (meet_right q).1
  · cases h
theorem both_cov (l m : List S23) (hl : l.all right23 = true) (hm : m.all right23 = true) (d : Nat) : cov (both l m) d = (cov l d && cov m d) := by
  rw [Bool.eq_iff_iff]
  simp only [cov, List.any_eq_true, Bool.and_eq_true, both, meetRow, List.mem_flatMap, List.mem_filterMap]
  constructor
  · rintro ⟨x, ⟨a, ha, b, hb, h⟩, hx⟩
    split at h
    · rename_i q
      cases h
      have := ((meet_right q).2 d).1 hx
      exact ⟨⟨a, ha, this.1⟩, ⟨b, hb, this.2⟩⟩
    · cases h
  · rintro ⟨⟨a, ha, h1⟩, ⟨b, hb, h2⟩⟩
    have hq : (meet23 a b).2.2 = true := by
      rw [← Bool.not_eq_false]
      intro q
      exact meet_none (List.all_eq_true.1 hl a ha) (List.all_eq_true.1 hm b hb) q d ⟨h1, h2⟩
    exact ⟨_, ⟨a, ha, b, hb, by rw [if_pos hq]⟩, ((meet_right hq).2 d).2 ⟨h1, h2⟩⟩
theorem append_cov (l m : List S23) (d : Nat) : cov (l ++ m) d = (cov l d || cov m d) := List.any_append
/-- WindowDays, of numbers and lists alone. -/
theorem days_pure (l m : List S23) (day : Int) (hl : l.length * 16 ≤ 140737488351232) (hm : m.length * 16 ≤ 140737488351232) : ∃ k, storemanlaw01_WindowDays.f k l m day = some true := by
  have hsum : wrap64 ((l.length : Int) + (m.length : Int)) = ((l.length + m.length : Nat) : Int) := by rw [wrap64_id (by omega) (by omega)]; omega
  by_cases hb : l.length + m.length > 200
  · refine ⟨0, ?_⟩
    unfold storemanlaw01_WindowDays.f
    rw [awake_f, Option.bind_some, if_pos rfl, hsum, if_pos (by omega)]
  · have main : Ev (fun k => storemanlaw01_WindowDays.l0 k l m day ((0 : Nat) : Int)) true := by
      refine days_l0 l m day (by omega) (fun hall => ?_) (l.length + m.length) 0 (by omega) (by simp)
      rw [List.all_append, Bool.and_eq_true] at hall
      obtain ⟨h1, h2⟩ := hall
      have e : rows23 l = runs (cov l) 4001 := by rw [rows23, if_pos h1]
      have hlen : (rows23 l).length ≤ 4001 := by rw [e]; exact runs_len _ _
      refine days_l1 l m (rows23 l) true day (by omega) l.length 0 false (by omega) ?_
      refine days_l2 l m (rows23 l) _ true (rows_right l) (fun x hx => by rw [e] at hx; exact (runs_mem _ hx).2.1) (by rw [e]; exact runs_chain _ _) day hlen (rows23 l).length 0 false (by omega) ?_
      refine days_l3 l m (rows23 l) _ _ true (by omega) (by omega) l.length 0 [] (by omega) (by simp; omega) ?_
      rw [List.drop_zero, List.drop_zero, List.nil_append, Bool.false_or, Bool.false_or, rows_day l h1]
      have hbl := both_len l m
      have hbl2 : l.length * m.length ≤ 200 * 200 := Nat.mul_le_mul (by omega) (by omega)
      obtain ⟨K0, s0⟩ := same_ev (rows23 l) (by omega)
      obtain ⟨K1, s1⟩ := count_ev (l ++ m) (by simp; omega) (by rw [List.all_append, h1, h2]; rfl)
      obtain ⟨K2, s2⟩ := count_ev l (by omega) h1
      obtain ⟨K3, s3⟩ := count_ev m (by omega) h2
      obtain ⟨K4, s4⟩ := count_ev (both l m) (by omega) (both_right l m)
      replace s0 : ∀ k, K0 ≤ k → storemankit_SameWindows.f k (rows23 l) (rows23 l) = some true := s0
      replace s1 : ∀ k, K1 ≤ k → window_Count.f k (l ++ m) = _ := s1
      replace s2 : ∀ k, K2 ≤ k → window_Count.f k l = _ := s2
      replace s3 : ∀ k, K3 ≤ k → window_Count.f k m = _ := s3
      replace s4 : ∀ k, K4 ≤ k → window_Count.f k (both l m) = _ := s4
      have c1 : cnt (cov (l ++ m)) 4001 = cnt (cov l) 4001 + cnt (cov m) 4001 - cnt (cov (both l m)) 4001 := by
        rw [cnt_congr (append_cov l m), cnt_congr (both_cov l m h1 h2)]; exact cnt_or_and _ _ _
      have b2 := cnt_bound (cov l) 4001
      have b3 := cnt_bound (cov m) 4001
      have b4 := cnt_bound (cov (both l m)) 4001
      refine ⟨K0 + K1 + K2 + K3 + K4 + 1, fun k hk => ?_⟩
      obtain ⟨k, rfl⟩ : ∃ j, k = j + 1 := ⟨k - 1, by omega⟩
      show storemanlaw01_WindowDays.l3 (k + 1) l m (rows23 l) _ _ (both l m) (l.length : Int) = _
      rw [show ∀ h, storemanlaw01_WindowDays.l3 (k + 1) l m (rows23 l) h h (both l m) (l.length : Int) = _ from fun h => by simp only [storemanlaw01_WindowDays.l3]; rfl]
      simp only [Option.bind_some, List.nil_append, List.length_nil]
      rw [if_neg (by omega), if_pos (by omega), if_pos (by omega), if_pos (by simp), rows_f _ (by omega), rows_rows l h1, Option.bind_some, s0 k (by omega), Option.bind_some, if_pos rfl, s1 k (by omega), Option.bind_some, s2 k (by omega), Option.bind_some, s3 k (by omega), Option.bind_some, s4 k (by omega), Option.bind_some, wrap64_id (x := cnt (cov l) 4001 + cnt (cov m) 4001) (by omega) (by omega), wrap64_id (by omega) (by omega), c1]
      simp
    obtain ⟨k, hk⟩ := main.rounds
    refine ⟨k, ?_⟩
    unfold storemanlaw01_WindowDays.f
    rw [awake_f, Option.bind_some, if_pos rfl, hsum, if_neg (by omega)]
    exact hk
end Go.Proofs.Ytdncelkgfdlfpaa.PA
