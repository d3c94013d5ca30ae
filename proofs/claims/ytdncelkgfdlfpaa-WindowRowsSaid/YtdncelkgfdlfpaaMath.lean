/-
Plain laws of chapter 01: what window.Rows and the reference's Rows, Of and one compute are the days of some windows as the least rising windows; lists and numbers alone.
-/
import Derived.Test.YtdncelkgfdlfpaaPAx3
import Derived.Test.YtdncelkgfdlfpaaHRows
import Derived.Test.YtdncelkgfdlfpaaPAx5
namespace Go.Proofs.Ytdncelkgfdlfpaa.PA
open Go.RowKit Go.Proofs.YtdncelkgfdlfpaaW.PrintWords Go.Proofs.YtdncelkgfdlfpaaW.PrintLast Go.Proofs.YtdncelkgfdlfpaaW.PrintMore

theorem wrap64_id {x : Int} (h0 : -9223372036854775808 ≤ x) (h1 : x ≤ 9223372036854775807) : wrap64 x = x := by unfold wrap64; omega

def setLast (l : List S23) (u : Int) : List S23 := l.set (l.length - 1) ⟨(l.getD (l.length - 1) z23).f0, u⟩
theorem setLast_snoc (t : List S23) (x : S23) (u : Int) : setLast (t ++ [x]) u = t ++ [⟨x.f0, u⟩] := by
  simp [setLast]
/-- The days below n of which c says yes, as the least rising windows. -/
def runs (c : Nat → Bool) : Nat → List S23
  | 0 => []
  | d + 1 => if c d then (if 0 < d ∧ c (d - 1) = true then setLast (runs c d) (d + 1) else runs c d ++ [⟨d, d + 1⟩]) else runs c d
theorem runs_congr {c c' : Nat → Bool} : ∀ {n : Nat}, (∀ d, d < n → c d = c' d) → runs c n = runs c' n
  | 0, _ => rfl
  | n + 1, h => by
    have ih := runs_congr (n := n) (fun d hd => h d (by omega))
    simp only [runs, ih, h n (by omega)]
    by_cases e : 0 < n
    · rw [h (n - 1) (by omega)]
    · simp [e]
theorem runs_last (c : Nat → Bool) : ∀ (d : Nat), c d = true → ∃ (t : List S23) (x : S23), runs c (d + 1) = t ++ [x] ∧ x.f1 = (d : Int) + 1
  | 0, h => by
    simp only [runs, h, if_true]
    exact ⟨_, _, rfl, rfl⟩
  | d + 1, h => by
    rw [runs, if_pos h]
    by_cases e : 0 < d + 1 ∧ c (d + 1 - 1) = true
    · rw [if_pos e]
      obtain ⟨t, x, h1, h2⟩ := runs_last c d e.2
      rw [h1, setLast_snoc]
      exact ⟨_, _, rfl, rfl⟩
    · rw [if_neg e]
      exact ⟨_, _, rfl, rfl⟩
/-- Every window of the runs below n: it has days, all of them below n, and is over before n if n - 1 is none. -/
theorem runs_mem (c : Nat → Bool) : ∀ {n : Nat} {x : S23}, x ∈ runs c n → 0 ≤ x.f0 ∧ x.f0 < x.f1 ∧ x.f1 ≤ n ∧ ((n = 0 ∨ c (n - 1) = false) → x.f1 < n)
  | 0, x, h => by simp [runs] at h
  | n + 1, x, h => by
    simp only [runs] at h
    by_cases e0 : c n = true
    · rw [if_pos e0] at h
      have hl : ¬ (n + 1 = 0 ∨ c (n + 1 - 1) = false) := by simp [e0]
      by_cases e : 0 < n ∧ c (n - 1) = true
      · rw [if_pos e] at h
        obtain ⟨t, y, h1, h2⟩ := runs_last c (n - 1) e.2
        rw [show n - 1 + 1 = n by omega] at h1
        have hy : y ∈ runs c n := by rw [h1]; simp
        have hY := runs_mem c hy
        rw [h1, setLast_snoc] at h
        rcases List.mem_append.1 h with h | h
        · have := runs_mem c (n := n) (x := x) (by rw [h1]; simp [h])
          exact ⟨this.1, this.2.1, by omega, fun q => absurd q hl⟩
        · obtain rfl := List.mem_singleton.1 h
          exact ⟨hY.1, by simp; omega, by simp, fun q => absurd q hl⟩
      · rw [if_neg e] at h
        rcases List.mem_append.1 h with h | h
        · have := runs_mem c h
          exact ⟨this.1, this.2.1, by omega, fun q => absurd q hl⟩
        · obtain rfl := List.mem_singleton.1 h
          exact ⟨by simp, by simp; omega, by simp, fun q => absurd q hl⟩
    · rw [if_neg e0] at h
      have := runs_mem c h
      exact ⟨this.1, this.2.1, by omega, fun _ => by omega⟩
theorem runs_len (c : Nat → Bool) : ∀ n, (runs c n).length ≤ n
  | 0 => Nat.le_refl _
  | n + 1 => by
    have := runs_len c n
    simp only [runs]
    by_cases e0 : c n = true
    · rw [if_pos e0]
      by_cases e : 0 < n ∧ c (n - 1) = true
      · rw [if_pos e]; simp [setLast]; omega
      · rw [if_neg e]; simp; omega
    · rw [if_neg e0]; omega

theorem rd_snoc (t : List S23) (x : S23) (i : Int) (hi : i = t.length) : rd_T23 (t ++ [x]) i = x := by
  subst hi; simp [rd_T23]

/-- The reference's Of: the days that are ticked. -/
theorem Of_tells (days : List Bool) (hn : days.length ≤ 8000) (m : Nat) : ∀ (d k : Nat), d + m = days.length → m < k →
    storemanref01_Of.l0 k days (runs (fun i => days.getD i false) d) d = some (runs (fun i => days.getD i false) days.length) := by
  induction m with
  | zero =>
    intro d k hd hk
    obtain ⟨k, rfl⟩ : ∃ j, k = j + 1 := ⟨k - 1, by omega⟩
    simp only [storemanref01_Of.l0]
    rw [if_neg (by omega), show d = days.length by omega]
  | succ m ih =>
    intro d k hd hk
    obtain ⟨k, rfl⟩ : ∃ j, k = j + 1 := ⟨k - 1, by omega⟩
    have hw : wrap64 ((d : Int) + 1) = ((d + 1 : Nat) : Int) := by rw [wrap64_id (by omega) (by omega)]; omega
    have ih' := ih (d + 1) k (by omega) (by omega)
    simp only [storemanref01_Of.l0]
    rw [if_pos (by omega), if_pos (by omega), hw]
    have hr : rdOf false days (d : Int) = days.getD d false := by simp [rdOf]
    rw [hr]
    generalize hc : (fun i => days.getD i false) = c at *
    have hcd : days.getD d false = c d := by rw [← hc]
    rw [hcd]
    have hlen := runs_len c d
    by_cases e0 : c d = true
    · rw [if_pos e0]
      by_cases e : 0 < d ∧ c (d - 1) = true
      · obtain ⟨t, x, h1, h2⟩ := runs_last c (d - 1) e.2
        rw [show d - 1 + 1 = d by omega] at h1
        have hl : (runs c d).length = t.length + 1 := by rw [h1]; simp
        have hwl : wrap64 (((runs c d).length : Int) - 1) = t.length := by rw [wrap64_id (by omega) (by omega)]; omega
        have hx : rd_T23 (runs c d) t.length = x := by rw [h1]; exact rd_snoc t x _ rfl
        rw [if_pos (by omega), hwl, if_pos (by omega), if_pos (by omega), hx, if_pos (by omega), Int.toNat_natCast, h1]
        have hs : (t ++ [x]).set t.length ⟨x.f0, ((d + 1 : Nat) : Int)⟩ = runs c (d + 1) := by
          simp only [runs, e0, if_true]; rw [if_pos e, h1, setLast_snoc, List.set_append]; simp
        rw [hs]; exact ih'
      · have hs : runs c d ++ [⟨(d : Int), ((d + 1 : Nat) : Int)⟩] = runs c (d + 1) := by
          simp only [runs, e0, if_true]; rw [if_neg e]; rfl
        by_cases en : (runs c d) = []
        · have h0 : ((runs c d).length : Int) = 0 := by simp [en]
          rw [if_neg (by omega), if_pos (by omega), hs]; exact ih'
        · obtain ⟨t, x, h1⟩ : ∃ t x, runs c d = t ++ [x] := ⟨_, _, (List.dropLast_concat_getLast en).symm⟩
          have hl : (runs c d).length = t.length + 1 := by rw [h1]; simp
          have hwl : wrap64 (((runs c d).length : Int) - 1) = t.length := by rw [wrap64_id (by omega) (by omega)]; omega
          have hx : rd_T23 (runs c d) t.length = x := by rw [h1]; exact rd_snoc t x _ rfl
          have hm := runs_mem c (n := d) (x := x) (by rw [h1]; simp)
          have hlt : x.f1 < d := hm.2.2.2 (by
            rcases Nat.eq_zero_or_pos d with q | q
            · exact .inl q
            · exact .inr (by simpa [q] using e))
          rw [if_pos (by omega), hwl, if_pos (by omega), if_pos (by omega), hx, if_neg (by omega), if_pos (by omega), hs]; exact ih'
    · rw [if_neg e0]
      have hs : runs c (d + 1) = runs c d := by simp only [runs]; rw [if_neg e0]
      rw [← hs]; exact ih'
theorem Of_ev (days : List Bool) (hn : days.length ≤ 8000) : Ev (fun k => storemanref01_Of.f k days) (runs (fun i => days.getD i false) days.length) :=
  ⟨days.length + 1, fun k hk => by unfold storemanref01_Of.f; exact Of_tells days hn days.length 0 k (by omega) (by omega)⟩

/-- Is a day one of a window's? -/
def has23 (x : S23) (d : Int) : Bool := right23 x && (decide (x.f0 ≤ d) && decide (d < x.f1))
theorem refRight_f (a b : Int) : storemanref01_Right.f a b = some (right23 ⟨a, b⟩) := by
  unfold storemanref01_Right.f right23
  by_cases h1 : 0 ≤ a
  · by_cases h2 : a ≤ b
    · rw [if_pos (by omega), if_pos (by omega)]; simp [h1, h2]
    · rw [if_pos (by omega), if_neg (by omega)]; simp [h2]
  · rw [if_neg (by omega)]; simp [h1]
theorem has_f (a b d : Int) : window_Has.f a b d = some (has23 ⟨a, b⟩ d) := by
  unfold window_Has.f has23
  rw [right_f]
  cases right23 ⟨a, b⟩ <;> simp
  by_cases h : a ≤ d <;> simp [h]
theorem refHas_f (a b d : Int) : storemanref01_Has.f a b d = some (has23 ⟨a, b⟩ d) := by
  unfold storemanref01_Has.f has23
  rw [refRight_f]
  cases right23 ⟨a, b⟩ <;> simp
  by_cases h : a ≤ d
  · rw [if_pos (by omega)]; simp [h]
  · rw [if_neg (by omega)]; simp [h]

theorem set_mid {α : Type} (pre post : List α) (v y : α) : (pre ++ y :: post).set pre.length v = pre ++ v :: post := by
  rw [List.set_append]; simp
theorem rdOf_mid (pre post : List Bool) (y : Bool) (d : Int) (hd : d = pre.length) : rdOf false (pre ++ y :: post) d = y := by
  subst hd; simp [rdOf]
theorem rd23_get (l : List S23) (j : Nat) (hj : j < l.length) : rd_T23 l (j : Int) = l[j] := by simp [rd_T23, hj]
theorem drop_cons (l : List S23) (j : Nat) (hj : j < l.length) : l.drop j = l[j] :: l.drop (j + 1) := List.drop_eq_getElem_cons hj

theorem one_l1 (l : List S23) (hl : l.length ≤ 1000000) (a : Int) (r : Int × Int × Bool) (pre post : List Bool) (d : Nat) (hd : pre.length = d) (hd2 : d ≤ 4000) (m : Nat) : ∀ (j : Nat) (v : Bool), j + m = l.length →
    Ev (fun k => storemanref01_one.l0 k l a (pre ++ (v && (l.drop j).all (fun x => has23 x d)) :: post) ((d + 1 : Nat) : Int)) r →
    Ev (fun k => storemanref01_one.l1 k l a (pre ++ v :: post) d j) r := by
  induction m with
  | zero =>
    intro j v hj H
    refine Ev.step (f := fun k => storemanref01_one.l0 k l a (pre ++ v :: post) ((d + 1 : Nat) : Int)) (fun k => ?_) ?_
    · simp only [storemanref01_one.l1]
      rw [if_neg (by omega), wrap64_id (by omega) (by omega)]
      rfl
    · rw [List.drop_of_length_le (by omega)] at H
      simpa using H
  | succ m ih =>
    intro j v hj H
    have hjl : j < l.length := by omega
    rw [drop_cons l j hjl, List.all_cons, ← Bool.and_assoc] at H
    refine Ev.step (f := fun k => storemanref01_one.l1 k l a (pre ++ (v && has23 l[j] d) :: post) d ((j + 1 : Nat) : Int)) (fun k => ?_) (ih (j + 1) _ (by omega) H)
    have hw : wrap64 ((j : Int) + 1) = ((j + 1 : Nat) : Int) := by rw [wrap64_id (by omega) (by omega)]; omega
    simp only [storemanref01_one.l1]
    rw [if_pos (by omega), if_pos (by omega), if_pos (by simp; omega), rdOf_mid _ _ _ _ (by omega), rd23_get l j hjl, refHas_f, hw, Int.toNat_natCast]
    have hs : ∀ u, (pre ++ v :: post).set d u = pre ++ u :: post := fun u => by rw [← hd]; exact set_mid _ _ _ _
    cases v
    · rw [if_neg (by decide), hs]; rfl
    · rw [if_pos rfl, if_pos (by omega), Option.bind_some, hs]; rfl

/-- What the reference's one tells, of the days of which all is so. -/
def only (l : List S23) : Int × Int × Bool := match l with
  | [x] => (x.f0, x.f1, true)
  | _ => (0, 0, false)
def oneB (l : List S23) (a : Int) (d : Nat) : Bool := decide ((d : Int) ≥ a) && l.all (fun x => has23 x d)
theorem one_l0 (l : List S23) (hl : l.length ≤ 1000000) (a : Int) (m : Nat) : ∀ (d : Nat), d + m = 4001 →
    Ev (fun k => storemanref01_one.l0 k l a ((List.range d).map (oneB l a) ++ List.replicate m false) d) (only (runs (oneB l a) 4001)) := by
  induction m with
  | zero =>
    intro d hd
    obtain rfl : d = 4001 := by omega
    refine Ev.step (f := fun k => (storemanref01_Of.f k ((List.range 4001).map (oneB l a) ++ List.replicate 0 false)).bind fun t129 => (if (t129.length : Int) = 1 then (if 0 < (t129.length : Int) then (some ((rd_T23 t129 0).f0, (rd_T23 t129 0).f1, true)) else (none)) else (some (0, 0, false)))) (fun k => ?_) ?_
    · simp only [storemanref01_one.l0]; rw [if_neg (by omega)]
    · have h := Of_ev ((List.range 4001).map (oneB l a) ++ List.replicate 0 false) (by simp)
      have e : runs (fun i => ((List.range 4001).map (oneB l a) ++ List.replicate 0 false).getD i false) ((List.range 4001).map (oneB l a) ++ List.replicate 0 false).length = runs (oneB l a) 4001 := by
        have hlen : ((List.range 4001).map (oneB l a) ++ List.replicate 0 false).length = 4001 := by simp
        rw [hlen]
        exact runs_congr (fun d hd => by simp [hd])
      rw [e] at h
      refine Ev.bind h ⟨0, fun k _ => ?_⟩
      match hr : runs (oneB l a) 4001 with
      | [] => rfl
      | [x] => rfl
      | x :: y :: t => rw [if_neg (by simp; omega)]; rfl
  | succ m ih =>
    intro d hd
    have hrep : List.replicate (m + 1) false = false :: List.replicate m false := rfl
    have hpl : ((List.range d).map (oneB l a)).length = d := by simp
    rw [hrep]
    refine Ev.step (f := fun k => storemanref01_one.l1 k l a ((List.range d).map (oneB l a) ++ decide ((d : Int) ≥ a) :: List.replicate m false) d ((0 : Nat) : Int)) (fun k => ?_) ?_
    · simp only [storemanref01_one.l0]
      rw [if_pos (by omega), if_pos (by omega), if_pos (by simp; omega), Int.toNat_natCast]
      have hs : ∀ u, ((List.range d).map (oneB l a) ++ false :: List.replicate m false).set d u = (List.range d).map (oneB l a) ++ u :: List.replicate m false := fun u => by
        have := set_mid ((List.range d).map (oneB l a)) (List.replicate m false) u false
        rwa [hpl] at this
      rw [hs]; rfl
    · refine one_l1 l hl a _ _ _ d hpl (by omega) l.length 0 _ (by omega) ?_
      have := ih (d + 1) (by omega)
      rw [List.range_succ, List.map_append, List.append_assoc] at this
      exact this
theorem one_ev (l : List S23) (hl : l.length ≤ 1000000) (a : Int) : Ev (fun k => storemanref01_one.f k l a) (only (runs (oneB l a) 4001)) := by
  refine Ev.congr (f := fun k => storemanref01_one.l0 k l a (List.replicate 4001 false) 0) (fun k => ?_) (one_l0 l hl a 4001 0 (by omega))
  unfold storemanref01_one.f; rw [if_pos (by omega)]

def mn2 (a b : Int) : Int := if a < b then a else b
theorem runs_interval (lo hi : Int) (h0 : 0 ≤ lo) (n : Nat) : runs (fun d => decide (lo ≤ (d : Int) ∧ (d : Int) < hi)) n = if lo < mn2 hi n then [⟨lo, mn2 hi n⟩] else [] := by
  induction n with
  | zero => rw [if_neg (by unfold mn2; split <;> omega)]; rfl
  | succ n ih =>
    rw [runs, ih]
    by_cases c : lo ≤ (n : Int) ∧ (n : Int) < hi
    · rw [if_pos (by simpa using c)]
      have h1 : mn2 hi n = n := by unfold mn2; split <;> omega
      have h2 : mn2 hi (n + 1 : Nat) = (n : Int) + 1 := by unfold mn2; split <;> omega
      rw [h1, h2, if_pos (show lo < (n : Int) + 1 by omega)]
      by_cases e : 0 < n ∧ lo ≤ ((n - 1 : Nat) : Int)
      · rw [if_pos (show 0 < n ∧ decide (lo ≤ ((n - 1 : Nat) : Int) ∧ ((n - 1 : Nat) : Int) < hi) = true from ⟨e.1, by simp; omega⟩), if_pos (show lo < (n : Int) by omega)]
        exact setLast_snoc [] _ _
      · rw [if_neg (show ¬ (0 < n ∧ decide (lo ≤ ((n - 1 : Nat) : Int) ∧ ((n - 1 : Nat) : Int) < hi) = true) by simp; omega), if_neg (show ¬ lo < (n : Int) by omega)]
        have : lo = n := by omega
        subst this; rfl
    · rw [if_neg (by simpa using c)]
      by_cases e : hi ≤ n
      · have h1 : mn2 hi n = hi := by unfold mn2; split <;> omega
        have h2 : mn2 hi (n + 1 : Nat) = hi := by unfold mn2; split <;> omega
        rw [h1, h2]
      · rw [if_neg (by unfold mn2; split <;> omega), if_neg (by unfold mn2; split <;> omega)]
/-- What is told of days from one to another. -/
def within23 (lo hi : Int) : Int × Int × Bool := if lo < hi then (lo, hi, true) else (0, 0, false)
theorem within_f (a b : Int) : window_within.f a b = some (within23 a b) := by
  unfold window_within.f within23
  by_cases h : a ≥ b
  · rw [if_pos h, if_neg (by omega)]
  · rw [if_neg h, if_pos (by omega)]
theorem only_interval (c : Nat → Bool) (lo hi : Int) (h0 : 0 ≤ lo) (h1 : hi ≤ 4001) (hc : ∀ d : Nat, d < 4001 → c d = decide (lo ≤ (d : Int) ∧ (d : Int) < hi)) : only (runs c 4001) = within23 lo hi := by
  rw [runs_congr hc, runs_interval lo hi h0]
  have : mn2 hi (4001 : Nat) = hi := by unfold mn2; split <;> omega
  rw [this]; unfold within23
  by_cases h : lo < hi
  · rw [if_pos h, if_pos h]; rfl
  · rw [if_neg h, if_neg h]; rfl
theorem only_none (c : Nat → Bool) (hc : ∀ d : Nat, d < 4001 → c d = false) : only (runs c 4001) = (0, 0, false) := by
  rw [only_interval c 0 0 (by omega) (by omega) (fun d hd => by rw [hc d hd]; simp)]; rfl

def meet23 (a b : S23) : Int × Int × Bool := if right23 a && right23 b then within23 (mx a.f0 b.f0) (mn a.f1 b.f1) else (0, 0, false)
def from23 (a : S23) (d : Int) : Int × Int × Bool := if right23 a then within23 (mx a.f0 d) a.f1 else (0, 0, false)
theorem right23_iff (x : S23) : right23 x = true ↔ 0 ≤ x.f0 ∧ x.f0 ≤ x.f1 ∧ x.f1 ≤ 4001 := by
  simp [right23, and_assoc]
theorem meet_f (a b c d : Int) : window_Meet.f a b c d = some (meet23 ⟨a, b⟩ ⟨c, d⟩) := by
  unfold window_Meet.f meet23
  rw [right_f, right_f]
  cases right23 ⟨a, b⟩ <;> cases right23 ⟨c, d⟩ <;> simp [within_f]
theorem from_f (a b d : Int) : window_From.f a b d = some (from23 ⟨a, b⟩ d) := by
  unfold window_From.f from23
  rw [right_f]
  cases right23 ⟨a, b⟩ <;> simp [within_f]
theorem mx_le (a b : Int) (d : Int) : mx a b ≤ d ↔ a ≤ d ∧ b ≤ d := by unfold mx; split <;> omega
theorem lt_mn (a b : Int) (d : Int) : d < mn a b ↔ d < a ∧ d < b := by unfold mn; split <;> omega
theorem refMeet_ev (a b c d : Int) : Ev (fun k => storemanref01_Meet.f k a b c d) (meet23 ⟨a, b⟩ ⟨c, d⟩) := by
  have h := one_ev [⟨a, b⟩, ⟨c, d⟩] (by simp) 0
  have e : only (runs (oneB [⟨a, b⟩, ⟨c, d⟩] 0) 4001) = meet23 ⟨a, b⟩ ⟨c, d⟩ := by
    unfold meet23
    by_cases hr : right23 ⟨a, b⟩ = true ∧ right23 ⟨c, d⟩ = true
    · rw [if_pos (by simp [hr])]
      have h1 := (right23_iff _).1 hr.1
      have h2 := (right23_iff _).1 hr.2
      simp only at h1 h2
      refine only_interval _ _ _ (by dsimp only; unfold mx; split <;> omega) (by dsimp only; unfold mn; split <;> omega) (fun x hx => ?_)
      simp only [oneB, List.all_cons, List.all_nil, has23, hr.1, hr.2, mx_le, lt_mn, Bool.true_and, Bool.and_true]
      rw [Bool.eq_iff_iff]; simp; omega
    · rw [if_neg (by simpa using hr)]
      refine only_none _ (fun x hx => ?_)
      simp only [oneB, List.all_cons, List.all_nil, has23]
      by_cases q : right23 ⟨a, b⟩ = true
      · have : right23 ⟨c, d⟩ = false := by simpa [q] using hr
        simp [this]
      · simp [q]
  rw [e] at h
  refine Ev.congr (fun k => ?_) h
  unfold storemanref01_Meet.f
  cases storemanref01_one.f k [⟨a, b⟩, ⟨c, d⟩] 0 <;> rfl
theorem refFrom_ev (a b d : Int) : Ev (fun k => storemanref01_From.f k a b d) (from23 ⟨a, b⟩ d) := by
  have h := one_ev [⟨a, b⟩] (by simp) d
  have e : only (runs (oneB [⟨a, b⟩] d) 4001) = from23 ⟨a, b⟩ d := by
    unfold from23
    by_cases hr : right23 ⟨a, b⟩ = true
    · rw [if_pos hr]
      have h1 := (right23_iff _).1 hr
      simp only at h1
      refine only_interval _ _ _ (by dsimp only; unfold mx; split <;> omega) (by dsimp only; omega) (fun x hx => ?_)
      simp only [oneB, List.all_cons, List.all_nil, has23, hr, mx_le, Bool.true_and, Bool.and_true]
      rw [Bool.eq_iff_iff]; simp; omega
    · rw [if_neg hr]
      refine only_none _ (fun x hx => ?_)
      simp [oneB, has23, hr]
  rw [e] at h
  refine Ev.congr (fun k => ?_) h
  unfold storemanref01_From.f
  cases storemanref01_one.f k [⟨a, b⟩] d <;> rfl

/-! ### The sweep -/
def sumBy (g : S23 → Int) : List S23 → Int
  | [] => 0
  | x :: l => g x + sumBy g l
theorem sumBy_add {g h f : S23 → Int} : ∀ {l : List S23}, (∀ x ∈ l, g x = h x + f x) → sumBy g l = sumBy h l + sumBy f l
  | [], _ => rfl
  | x :: l, H => by
    have := sumBy_add (l := l) (fun y hy => H y (List.mem_cons_of_mem _ hy))
    simp only [sumBy, this, H x List.mem_cons_self]; omega
theorem sumBy_bound {g : S23 → Int} (H : ∀ x, -1 ≤ g x ∧ g x ≤ 1) : ∀ l : List S23, -(l.length : Int) ≤ sumBy g l ∧ sumBy g l ≤ l.length
  | [] => by simp [sumBy]
  | x :: l => by
    have := sumBy_bound H l
    have := H x
    simp only [sumBy, List.length_cons]; omega
theorem sumBy_pos {g : S23 → Int} (H : ∀ x, 0 ≤ g x) : ∀ l : List S23, 0 ≤ sumBy g l ∧ (0 < sumBy g l ↔ ∃ x ∈ l, 0 < g x)
  | [] => by simp [sumBy]
  | x :: l => by
    have h1 := sumBy_pos H l
    have h2 := H x
    refine ⟨by simp only [sumBy]; omega, ?_⟩
    simp only [sumBy, List.mem_cons, exists_eq_or_imp]
    rw [← h1.2]; omega
def startsAt (i : Int) (x : S23) : Int := (if x.f0 = i then 1 else 0) - (if x.f1 = i then 1 else 0)
def openAt (i : Int) (x : S23) : Int := if x.f0 ≤ i ∧ i < x.f1 then 1 else 0
theorem startsAt_b (i : Int) (x : S23) : -1 ≤ startsAt i x ∧ startsAt i x ≤ 1 := by unfold startsAt; split <;> split <;> omega
theorem openAt_b (i : Int) (x : S23) : 0 ≤ openAt i x ∧ openAt i x ≤ 1 := by unfold openAt; split <;> omega
theorem open_step (l : List S23) (hr : l.all right23 = true) (d : Int) : sumBy (openAt d) l = sumBy (openAt (d - 1)) l + sumBy (startsAt d) l := by
  refine sumBy_add (fun x hx => ?_)
  have := (right23_iff x).1 (List.all_eq_true.1 hr x hx)
  unfold openAt startsAt
  split <;> split <;> split <;> split <;> omega
theorem getD_set (t : List Int) (j : Nat) (v : Int) (i : Nat) (hj : j < t.length) : (t.set j v).getD i 0 = if i = j then v else t.getD i 0 := by
  by_cases e : i = j
  · subst e; simp [hj]
  · simp [e, List.getElem?_set_ne (Ne.symm e)]
theorem tick_get (t : List Int) (ht : t.length = 4002) (x : S23) (hx : right23 x = true) (hb : ∀ i, -1000000000000000 ≤ t.getD i 0 ∧ t.getD i 0 ≤ 1000000000000000) (i : Nat) : (wr_tick t x).getD i 0 = t.getD i 0 + startsAt i x := by
  have h := (right23_iff x).1 hx
  have b0 := hb x.f0.toNat
  have b1 := hb x.f1.toNat
  have bi := hb i
  simp only [wr_tick]
  rw [getD_set _ _ _ _ (by simp; omega), getD_set _ _ _ _ (by omega), getD_set _ _ _ _ (by omega)]
  unfold startsAt
  by_cases e0 : i = x.f0.toNat
  · by_cases e1 : i = x.f1.toNat
    · rw [if_pos e1, if_pos (by omega), if_pos (by omega), if_pos (by omega), wrap64_id (by unfold wrap64; omega) (by unfold wrap64; omega), wrap64_id (by omega) (by omega), ← e0]; omega
    · rw [if_neg e1, if_pos e0, if_pos (by omega), if_neg (by omega), wrap64_id (by omega) (by omega), ← e0]; omega
  · by_cases e1 : i = x.f1.toNat
    · rw [if_pos e1, if_neg (by omega), if_neg (by omega), if_pos (by omega), wrap64_id (by omega) (by omega), ← e1]; omega
    · rw [if_neg e1, if_neg e0, if_neg (by omega), if_neg (by omega)]; omega
theorem ticks_get (l : List S23) (hr : l.all right23 = true) (i : Nat) : ∀ (t : List Int) (B : Nat), t.length = 4002 → (∀ i, -(B : Int) ≤ t.getD i 0 ∧ t.getD i 0 ≤ B) → B + l.length ≤ 1000000000000000 →
    (l.foldl wr_tick t).getD i 0 = t.getD i 0 + sumBy (startsAt i) l := by
  induction l with
  | nil => intro t B _ _ _; simp [sumBy]
  | cons x l ih =>
    intro t B ht hb hB
    simp only [List.all_cons, Bool.and_eq_true] at hr
    simp only [List.length_cons] at hB
    have hg := tick_get t ht x hr.1 (fun i => by have := hb i; omega)
    rw [List.foldl_cons, ih hr.2 (wr_tick t x) (B + 1) (by rw [wr_tick_len]; exact ht) (fun i => by rw [hg i]; have := hb i; have := startsAt_b i x; omega) (by omega), hg i]
    simp only [sumBy]; omega
def cov (l : List S23) (d : Nat) : Bool := l.any (fun x => has23 x d)
theorem cov_open (l : List S23) (hr : l.all right23 = true) (d : Nat) : cov l d = true ↔ 0 < sumBy (openAt d) l := by
  rw [(sumBy_pos (fun x => (openAt_b d x).1) l).2]
  simp only [cov, List.any_eq_true]
  constructor
  · rintro ⟨x, hx, h⟩
    refine ⟨x, hx, ?_⟩
    simp only [has23, Bool.and_eq_true, decide_eq_true_eq] at h
    unfold openAt; rw [if_pos h.2]; omega
  · rintro ⟨x, hx, h⟩
    refine ⟨x, hx, ?_⟩
    have := List.all_eq_true.1 hr x hx
    unfold openAt at h
    split at h
    · simp [has23, this]; omega
    · omega
theorem runs_ne (c : Nat → Bool) (d : Nat) (h : 0 < d ∧ c (d - 1) = true) : ∃ (t : List S23) (x : S23), runs c d = t ++ [x] ∧ x.f1 = d := by
  obtain ⟨t, x, h1, h2⟩ := runs_last c (d - 1) h.2
  rw [show d - 1 + 1 = d by omega] at h1
  exact ⟨t, x, h1, by omega⟩
theorem rep_get (n i : Nat) : (List.replicate n (0 : Int)).getD i 0 = 0 := by
  simp [List.getElem?_replicate]; split <;> rfl
theorem zero_get (i : Nat) : zero41.getD i 0 = 0 := rep_get 4002 i
theorem zero_len : zero41.length = 4002 := List.length_replicate
theorem open_none (l : List S23) (hr : l.all right23 = true) : sumBy (openAt (((0 : Nat) : Int) - 1)) l = 0 := by
  have h := sumBy_pos (g := openAt (((0 : Nat) : Int) - 1)) (fun x => (openAt_b (((0 : Nat) : Int) - 1) x).1) l
  have : ¬ 0 < sumBy (openAt (((0 : Nat) : Int) - 1)) l := by
    rw [h.2]
    rintro ⟨x, hx, q⟩
    have := (right23_iff x).1 (List.all_eq_true.1 hr x hx)
    unfold openAt at q
    split at q <;> omega
  have := h.1
  omega
theorem sweep_tells (l : List S23) (hr : l.all right23 = true) (hl : l.length ≤ 140737488351232) : ∀ d, d ≤ 4002 →
    wr_sweep (l.foldl wr_tick zero41) d = some (sumBy (openAt ((d : Int) - 1)) l, if cov l (d - 1) = true ∧ 0 < d then setLast (runs (cov l) d) 0 else runs (cov l) d) := by
  intro d
  induction d with
  | zero =>
    intro _
    rw [open_none l hr, if_neg (by omega)]
    rfl
  | succ d ih =>
    intro hd
    have hstep := open_step l hr d
    have ht := ticks_get l hr d zero41 0 zero_len (fun i => by rw [zero_get]; omega) (by omega)
    rw [zero_get] at ht
    have hb := sumBy_bound (g := openAt d) (fun x => ⟨by have := (openAt_b d x).1; omega, (openAt_b d x).2⟩) l
    have hnow : wrap64 (sumBy (openAt ((d : Int) - 1)) l + (l.foldl wr_tick zero41).getD d 0) = sumBy (openAt d) l := by
      rw [ht, wrap64_id (by omega) (by omega)]; omega
    have hc := cov_open l hr d
    have hc0 : 0 < d → (cov l (d - 1) = true ↔ 0 < sumBy (openAt ((d : Int) - 1)) l) := fun q => by
      have := cov_open l hr (d - 1)
      rwa [show ((d - 1 : Nat) : Int) = (d : Int) - 1 by omega] at this
    have hp := (sumBy_pos (g := openAt d) (fun x => (openAt_b d x).1) l).1
    have hp0 := (sumBy_pos (g := openAt ((d : Int) - 1)) (fun x => (openAt_b ((d : Int) - 1) x).1) l).1
    have hd0 : d = 0 → sumBy (openAt ((d : Int) - 1)) l = 0 := fun q => by
      subst q; exact open_none l hr
    have e1 : ((d + 1 : Nat) : Int) - 1 = d := by omega
    rw [wr_sweep, ih (by omega), Option.bind_some, e1, show d + 1 - 1 = d from rfl]
    by_cases a : 0 < sumBy (openAt ((d : Int) - 1)) l
    · have hdp : 0 < d := by
        rcases Nat.eq_zero_or_pos d with q | q
        · have := hd0 q; omega
        · exact q
      have hcd := (hc0 hdp).2 a
      obtain ⟨t, x, h1, h2⟩ := runs_ne (cov l) d ⟨hdp, hcd⟩
      rw [if_pos (⟨hcd, hdp⟩ : cov l (d - 1) = true ∧ 0 < d), h1, setLast_snoc]
      simp only [wr_step]
      rw [hnow, if_neg (by omega)]
      by_cases b : sumBy (openAt d) l = 0
      · have hcf : cov l d = false := by
          rw [← Bool.not_eq_true]; intro q; have := hc.1 q; omega
        rw [if_pos ⟨a, b⟩, if_neg (by simp), if_neg (by simp [hcf])]
        have hs := setLast_snoc t ⟨x.f0, 0⟩ d
        unfold setLast at hs
        rw [hs]
        simp only [runs, hcf, Bool.false_eq_true, if_false]
        rw [h1, show (⟨x.f0, (d : Int)⟩ : S23) = x by rw [← h2]]
      · have hct : cov l d = true := hc.2 (by omega)
        rw [if_neg (by omega), if_pos ⟨hct, by omega⟩]
        simp only [runs, hct, if_true]
        rw [if_pos ⟨hdp, hcd⟩, h1, setLast_snoc, setLast_snoc]
    · have hcd : ¬ (0 < d ∧ cov l (d - 1) = true) := fun q => a ((hc0 q.1).1 q.2)
      have a0 : sumBy (openAt ((d : Int) - 1)) l = 0 := by omega
      rw [if_neg (fun q => hcd ⟨q.2, q.1⟩)]
      simp only [wr_step]
      rw [hnow]
      by_cases b : 0 < sumBy (openAt d) l
      · have hct : cov l d = true := hc.2 b
        rw [if_pos ⟨a0, b⟩, if_pos ⟨hct, by omega⟩]
        simp only [runs, hct, if_true]
        rw [if_neg hcd, setLast_snoc]
      · have hcf : cov l d = false := by
          rw [← Bool.not_eq_true]; intro q; exact b (hc.1 q)
        rw [if_neg (by omega), if_neg (by omega), if_neg (by simp [hcf])]
        simp only [runs, hcf, Bool.false_eq_true, if_false]
theorem cov_4001 (l : List S23) (d : Nat) (h : 4001 ≤ d) : cov l d = false := by
  rw [← Bool.not_eq_true]
  simp only [cov, List.any_eq_true]
  rintro ⟨x, _, q⟩
  simp only [has23, Bool.and_eq_true, decide_eq_true_eq] at q
  have := (right23_iff x).1 q.1
  omega
/-- What window.Rows answers. -/
def rows23 (l : List S23) : List S23 := if l.all right23 then runs (cov l) 4001 else []
theorem rows_f (l : List S23) (hl : l.length ≤ 140737488351232) : window_Rows.f l = some (rows23 l) := by
  unfold window_Rows.f rows23
  rw [if_neg (by omega)]
  by_cases hr : l.all right23 = true
  · rw [if_pos hr, if_pos hr, sweep_tells l hr hl 4002 (by omega)]
    have : cov l (4002 - 1) = false := cov_4001 l _ (by omega)
    rw [this]
    have h2 : runs (cov l) 4002 = runs (cov l) 4001 := by
      rw [show 4002 = 4001 + 1 from rfl, runs, cov_4001 l 4001 (by omega)]; simp
    simp [h2]
  · rw [if_neg hr, if_neg hr]
theorem awake_rows : rows23 [⟨3, 5⟩, ⟨5, 7⟩, ⟨1, 4⟩] = [⟨1, 7⟩] := by
  unfold rows23
  rw [if_pos (by decide), runs_congr (c' := fun d => decide ((1 : Int) ≤ (d : Int) ∧ (d : Int) < 7)) (fun d hd => by
    simp only [cov, List.any_cons, List.any_nil, has23, Bool.or_false, show right23 ⟨3, 5⟩ = true from by decide, show right23 ⟨5, 7⟩ = true from by decide, show right23 ⟨1, 4⟩ = true from by decide, Bool.true_and]
    rw [Bool.eq_iff_iff]; simp; omega), runs_interval 1 7 (by omega)]
  rfl
theorem awake_f : storemanlaw01_awake.f = some true := by
  unfold storemanlaw01_awake.f
  rw [rows_f _ (by simp), awake_rows, Option.bind_some, meet_f, Option.bind_some]
  have e : meet23 ⟨3, 6⟩ ⟨5, 9⟩ = (5, 6, true) := by decide
  rw [e]
  simp only [has_f, Option.bind_some]
  decide
/-- WindowTells, of numbers alone. -/
theorem tells_pure (a b c d x : Int) : ∃ k, storemanlaw01_WindowTells.f k a b c d x = some true := by
  obtain ⟨K1, h1⟩ := refMeet_ev a b c d
  obtain ⟨K2, h2⟩ := refFrom_ev a b x
  replace h1 : ∀ k, K1 ≤ k → storemanref01_Meet.f k a b c d = some (meet23 ⟨a, b⟩ ⟨c, d⟩) := h1
  replace h2 : ∀ k, K2 ≤ k → storemanref01_From.f k a b x = some (from23 ⟨a, b⟩ x) := h2
  refine ⟨max K1 K2, ?_⟩
  unfold storemanlaw01_WindowTells.f
  rw [awake_f, Option.bind_some, if_pos rfl, meet_f, Option.bind_some, h1 _ (by omega), Option.bind_some, from_f, Option.bind_some, h2 _ (by omega), Option.bind_some, right_f, Option.bind_some, refRight_f, Option.bind_some, has_f, refHas_f]
  simp
end Go.Proofs.Ytdncelkgfdlfpaa.PA
