/-
Plain laws of the statement WindowRows: lists and numbers alone.
-/
import Derived.Test.YtdncelkgfdlfpaaRuns
import Derived.Test.YtdncelkgfdlfpaaPAx4
namespace Go.Proofs.Ytdncelkgfdlfpaa.PA
open Go.RowKit Go.Proofs.YtdncelkgfdlfpaaW.PrintWords Go.Proofs.YtdncelkgfdlfpaaW.PrintLast Go.Proofs.YtdncelkgfdlfpaaW.PrintMore
set_option linter.unusedVariables false

theorem nowrap1 {n : Nat} (h : n ≤ 140737488351232) : wrap64 ((n : Int) + 1) = ((n + 1 : Nat) : Int) := by rw [wrap64_id (by omega) (by omega)]; omega
def daysOf (g : Nat → Bool) : List Bool := (List.range 4001).map g
theorem daysOf_len (g : Nat → Bool) : (daysOf g).length = 4001 := by simp [daysOf]
theorem daysOf_set (g : Nat → Bool) (j : Nat) : (daysOf g).set j true = daysOf (fun d => g d || decide (d = j)) := by
  apply List.ext_getElem?
  intro i
  by_cases h : i < 4001
  · by_cases e : j = i
    · subst e; simp [daysOf, h]
    · rw [List.getElem?_set_ne e]
      simp [daysOf, h, Ne.symm e]
  · simp [daysOf, h]
theorem daysOf_of (g : Nat → Bool) : Ev (fun k => storemanref01_Of.f k (daysOf g)) (runs g 4001) := by
  have h := Of_ev (daysOf g) (by simp [daysOf])
  have e : runs (fun i => (daysOf g).getD i false) (daysOf g).length = runs g 4001 := by
    rw [daysOf_len]
    exact runs_congr (fun d hd => by simp [daysOf, hd])
  rwa [e] at h
theorem refRows_l1 (l : List S23) (r : List S23) (hl : l.length ≤ 140737488351232) (i : Nat) (hi : i < l.length) (x : S23) (hx : rd_T23 l i = x) (hr : right23 x = true) (n : Nat) : ∀ (j : Nat) (g : Nat → Bool), (j : Int) + n = x.f1 → 
    Ev (fun k => storemanref01_Rows.l0 k l (daysOf (fun d => g d || (decide (j ≤ d) && decide ((d : Int) < x.f1)))) ((i + 1 : Nat) : Int)) r →
    Ev (fun k => storemanref01_Rows.l1 k l (daysOf g) i j) r := by
  have h := (right23_iff x).1 hr
  induction n with
  | zero =>
    intro j g hj H
    have e : (fun d => g d || (decide (j ≤ d) && decide ((d : Int) < x.f1))) = g := by
      funext d
      have : (decide (j ≤ d) && decide ((d : Int) < x.f1)) = false := by simp; omega
      simp [this]
    rw [e] at H
    refine Ev.step (f := fun k => storemanref01_Rows.l0 k l (daysOf g) ((i + 1 : Nat) : Int)) (fun k => ?_) H
    simp only [storemanref01_Rows.l1]
    rw [if_pos (by omega), if_pos (by omega), hx, if_neg (by omega), nowrap1 (by omega)]
  | succ n ih =>
    intro j g hj H
    have e : (fun d => (fun d => g d || decide (d = j)) d || (decide (j + 1 ≤ d) && decide ((d : Int) < x.f1))) = (fun d => g d || (decide (j ≤ d) && decide ((d : Int) < x.f1))) := by
      funext d
      rw [Bool.eq_iff_iff]
      simp only [Bool.or_eq_true, Bool.and_eq_true, decide_eq_true_eq]
      constructor
      · rintro ((q | q) | q)
        · exact .inl q
        · exact .inr ⟨by omega, by omega⟩
        · exact .inr ⟨by omega, by omega⟩
      · rintro (q | q)
        · exact .inl (.inl q)
        · by_cases q2 : d = j
          · exact .inl (.inr q2)
          · exact .inr ⟨by omega, by omega⟩
    refine Ev.step (f := fun k => storemanref01_Rows.l1 k l (daysOf (fun d => g d || decide (d = j))) i ((j + 1 : Nat) : Int)) (fun k => ?_) (ih (j + 1) (fun d => g d || decide (d = j)) (by omega) (by rw [e]; exact H))
    simp only [storemanref01_Rows.l1]
    rw [if_pos (by omega), if_pos (by omega), hx, if_pos (by omega), if_pos (by omega), if_pos (by rw [daysOf_len]; omega), Int.toNat_natCast, daysOf_set, nowrap1 (by omega)]
theorem refRows_l0 (l : List S23) (hl : l.length ≤ 140737488351232) (n : Nat) : ∀ i, i + n = l.length → (l.take i).all right23 = true →
    Ev (fun k => storemanref01_Rows.l0 k l (daysOf (cov (l.take i))) i) (rows23 l) := by
  induction n with
  | zero =>
    intro i hi ht
    rw [List.take_of_length_le (by omega)] at ht ⊢
    refine Ev.step (f := fun k => (storemanref01_Of.f k (daysOf (cov l))).bind fun t169 => (some t169)) (fun k => ?_) ?_
    · simp only [storemanref01_Rows.l0]
      rw [if_neg (by omega)]
    · rw [rows23, if_pos ht]
      exact Ev.bind (daysOf_of _) (Ev.now _)
  | succ n ih =>
    intro i hi ht
    have hil : i < l.length := by omega
    have e : ∀ k, storemanref01_Rows.l0 (k + 1) l (daysOf (cov (l.take i))) i = if right23 l[i] = true then storemanref01_Rows.l1 k l (daysOf (cov (l.take i))) i l[i].f0 else some [] := by
      intro k
      simp only [storemanref01_Rows.l0]
      rw [if_pos (by omega), if_pos (by omega), rd23_get l i hil, refRight_f, Option.bind_some]
    by_cases hr : right23 l[i] = true
    · have h := (right23_iff l[i]).1 hr
      refine Ev.step (f := fun k => storemanref01_Rows.l1 k l (daysOf (cov (l.take i))) i ((l[i].f0.toNat : Nat) : Int)) (fun k => by rw [e k, if_pos hr, show ((l[i].f0.toNat : Nat) : Int) = l[i].f0 by omega]) ?_
      refine refRows_l1 l (rows23 l) hl i hil l[i] (rd23_get l i hil) hr (l[i].f1 - l[i].f0).toNat l[i].f0.toNat _ (by omega) ?_
      have hc : (fun d => cov (l.take i) d || (decide (l[i].f0.toNat ≤ d) && decide ((d : Int) < l[i].f1))) = cov (l.take (i + 1)) := by
        funext d
        rw [List.take_succ_eq_append_getElem hil]
        simp only [cov, List.any_append, List.any_cons, List.any_nil, Bool.or_false, has23, hr, Bool.true_and]
        have : decide (l[i].f0.toNat ≤ d) = decide (l[i].f0 ≤ (d : Int)) := by rw [Bool.eq_iff_iff]; simp
        rw [this]
      rw [hc]
      exact ih (i + 1) (by omega) (by rw [List.take_succ_eq_append_getElem hil, List.all_append, ht]; simpa using hr)
    · have hall : l.all right23 = false := by
        rw [← Bool.not_eq_true, List.all_eq_true]
        exact fun q => hr (q _ (List.getElem_mem hil))
      rw [rows23, hall]
      exact ⟨1, fun k hk => by
        obtain ⟨k, rfl⟩ : ∃ j, k = j + 1 := ⟨k - 1, by omega⟩
        show storemanref01_Rows.l0 (k + 1) l _ i = _
        rw [e k, if_neg hr]; rfl⟩
theorem rep_days (n : Nat) : List.replicate n false = (List.range n).map (fun _ => false) := by
  apply List.ext_getElem?
  intro i
  by_cases h : i < n
  · simp [h]
  · simp [h]
theorem refRows_ev (l : List S23) (hl : l.length ≤ 140737488351232) : Ev (fun k => storemanref01_Rows.f k l) (rows23 l) := by
  have h := refRows_l0 l hl l.length 0 (by omega) (by simp)
  refine Ev.congr (fun k => ?_) h
  show (if 4001 ≤ 281474976710656 then storemanref01_Rows.l0 k l (List.replicate 4001 false) 0 else none) = _
  rw [if_pos (by omega)]
  rw [rep_days 4001]; rfl
theorem rows_len (l : List S23) : (rows23 l).length ≤ 4001 := by
  unfold rows23; split
  · exact runs_len _ _
  · simp
theorem rows_lens (l : List S23) : 0 ≤ lens (rows23 l) ∧ lens (rows23 l) ≤ 4001 := by
  unfold rows23; split
  · rw [lens_runs]; exact cnt_bound _ _
  · simp [lens]
theorem count_ev' (l : List S23) (hl : l.length ≤ 140737488351232) : Ev (fun k => window_Count.f k l) (lens (rows23 l)) := by
  refine ⟨4003, fun k hk => ?_⟩
  show (window_Rows.f l).bind (fun t266 => (window_Count.l0 k 0 t266 (t266.length : Int) 0)) = _
  rw [rows_f l hl, Option.bind_some]
  exact count_l0 (rows23 l) (rows_right l) (rows_lens l).2 (rows_len l) (rows23 l).length 0 k (by omega) (by have := rows_len l; omega)
theorem refCount_l0 (t : List S23) (hr : t.all right23 = true) (hs : lens t ≤ 4001) (hl : t.length ≤ 4001) (m : Nat) : ∀ i k, i + m = t.length → m < k → storemanref01_Count.l0 k (lens (t.take i)) t i = some (lens t) := by
  induction m with
  | zero =>
    intro i k hi hk
    obtain ⟨k, rfl⟩ : ∃ j, k = j + 1 := ⟨k - 1, by omega⟩
    simp only [storemanref01_Count.l0]
    rw [if_neg (by omega), List.take_of_length_le (by omega)]
  | succ m ih =>
    intro i k hi hk
    obtain ⟨k, rfl⟩ : ∃ j, k = j + 1 := ⟨k - 1, by omega⟩
    have hil : i < t.length := by omega
    have h0 := lens_nonneg _ (take_right t hr i)
    have h1 := lens_nonneg _ (drop_right t hr (i + 1))
    have h2 := lens_split t (i + 1)
    have h3 := lens_take_succ t i hil
    have h4 := (right23_iff t[i]).1 (List.all_eq_true.1 hr _ (List.getElem_mem hil))
    simp only [storemanref01_Count.l0]
    rw [if_pos (by omega), if_pos (by omega), rd23_get t i hil, wrap64_id (x := lens (t.take i) + t[i].f1) (by omega) (by omega), show lens (t.take i) + t[i].f1 - t[i].f0 = lens (t.take (i + 1)) by omega, wrap64_id (x := lens (t.take (i + 1))) (by omega) (by omega), nowrap1 (by omega)]
    exact ih (i + 1) k (by omega) (by omega)
theorem refCount_ev (l : List S23) (hl : l.length ≤ 140737488351232) : Ev (fun k => storemanref01_Count.f k l) (lens (rows23 l)) :=
  Ev.bind (refRows_ev l hl) ⟨4003, fun k hk => refCount_l0 (rows23 l) (rows_right l) (rows_lens l).2 (rows_len l) (rows23 l).length 0 k (by omega) (by have := rows_len l; omega)⟩

/-! ### Lists that are lent -/
def mk23 (i : Nat) : S23 := ⟨8000024 + i, 0⟩
theorem mark_f (i : Int) (h0 : 0 ≤ i) (h1 : i ≤ 100) : storemankit_markWindow.f 1 i = some (8000024 + i, 0) := by
  unfold storemankit_markWindow.f storemankit_mark.f
  rw [wrap64_id (x := 1 + 7) (by omega) (by omega), wrap64_id (x := 1000003 * (1 + 7)) (by omega) (by omega), wrap64_id (by omega) (by omega)]
  rfl
def marks23 : List S23 := (List.range 12).map mk23
theorem marks23_len : marks23.length = 12 := rfl
theorem lent_l0 (l : List S23) (hl : l.length ≤ 1000) (n : Nat) : ∀ (i k : Nat), i + n = 12 → n < k → storemankit_LentWindows.l0 k l (l ++ marks23.take i) i = some (l ++ marks23) := by
  induction n with
  | zero =>
    intro i k hi hk
    obtain ⟨k, rfl⟩ : ∃ j, k = j + 1 := ⟨k - 1, by omega⟩
    obtain rfl : i = 12 := by omega
    simp only [storemankit_LentWindows.l0]
    rw [if_neg (by omega), if_pos (by simp; omega)]; rfl
  | succ n ih =>
    intro i k hi hk
    obtain ⟨k, rfl⟩ : ∃ j, k = j + 1 := ⟨k - 1, by omega⟩
    simp only [storemankit_LentWindows.l0]
    have hlen : (l ++ marks23.take i).length ≤ 1012 := by simp [marks23_len]; omega
    rw [if_pos (by omega), mark_f _ (by omega) (by omega), Option.bind_some, if_pos (by omega), nowrap1 (by omega)]
    have e : l ++ marks23.take i ++ [(⟨8000024 + i, 0⟩ : S23)] = l ++ marks23.take (i + 1) := by
      have hi12 : i < marks23.length := by rw [marks23_len]; omega
      rw [List.take_succ_eq_append_getElem hi12, List.append_assoc]
      have : marks23[i] = ⟨8000024 + i, 0⟩ := by simp [marks23, mk23]
      rw [this]
    rw [e]
    exact ih (i + 1) k (by omega) (by omega)
theorem lent_ev (l : List S23) (hl : l.length ≤ 1000) : Ev (fun k => storemankit_LentWindows.f k l) (l ++ marks23) := by
  refine ⟨13, fun k hk => ?_⟩
  show storemankit_LentWindows.f k l = _
  unfold storemankit_LentWindows.f
  rw [wrap64_id (by omega) (by omega), if_pos (by omega), if_pos (by omega), Option.bind_some, if_pos (by simp; omega)]
  have := lent_l0 l hl 12 0 k (by omega) (by omega)
  simpa using this
theorem kept_l0 (l : List S23) (hl : l.length ≤ 1000) (n : Nat) : ∀ (i k : Nat), i + n = l.length + 12 → n < k → storemankit_KeptWindows.l0 k l (l ++ marks23) i = some true := by
  induction n with
  | zero =>
    intro i k hi hk
    obtain ⟨k, rfl⟩ : ∃ j, k = j + 1 := ⟨k - 1, by omega⟩
    simp only [storemankit_KeptWindows.l0]
    rw [if_neg (by simp [marks23_len]; omega)]
  | succ n ih =>
    intro i k hi hk
    obtain ⟨k, rfl⟩ : ∃ j, k = j + 1 := ⟨k - 1, by omega⟩
    simp only [storemankit_KeptWindows.l0]
    rw [if_pos (by simp [marks23_len]; omega)]
    by_cases h : i < l.length
    · have e1 : rd_T23 (l ++ marks23) i = l[i] := by simp only [rd_T23, Int.toNat_natCast, List.getD_eq_getElem?_getD, List.getElem?_append_left h]; simp [h]
      rw [if_pos (by omega), if_pos (by omega), e1, rd23_get l i h, if_pos (by simp), if_neg (by omega), nowrap1 (by omega)]
      exact ih (i + 1) k (by omega) (by omega)
    · have e1 : rd_T23 (l ++ marks23) i = mk23 (i - l.length) := by
        have h2 : i - l.length < 12 := by omega
        simp [rd_T23, List.getElem?_append_right (show l.length ≤ i by omega), marks23, h2]
      rw [if_neg (by omega), if_pos (by omega), if_pos (by omega), wrap64_id (x := (i : Int) - l.length) (by omega) (by omega), mark_f _ (by omega) (by omega), Option.bind_some, e1, if_pos (by simp [mk23]; omega), nowrap1 (by omega)]
      exact ih (i + 1) k (by omega) (by omega)
theorem kept_ev (l : List S23) (hl : l.length ≤ 1000) : Ev (fun k => storemankit_KeptWindows.f k l (l ++ marks23) l) true := by
  refine ⟨l.length + 13, fun k hk => ?_⟩
  show storemankit_KeptWindows.f k l (l ++ marks23) l = _
  unfold storemankit_KeptWindows.f
  rw [if_pos rfl, if_pos (by rw [wrap64_id (by omega) (by omega)]; simp [marks23_len])]
  exact kept_l0 l hl (l.length + 12) 0 k (by omega) (by omega)
end Go.Proofs.Ytdncelkgfdlfpaa.PA
