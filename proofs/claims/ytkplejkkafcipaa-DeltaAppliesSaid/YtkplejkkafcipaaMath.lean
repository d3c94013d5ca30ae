/-
Plain laws of chapter 17: keys in order, rows of rows that are put and told apart; no program in sight.
-/
import Derived.Test.YtkplejkkafcipaaPAx0
import Derived.Lib.Bytes
import Derived.Lib.Bytealg
namespace Go.Proofs.Ytkplejkkafcipaa.PA
open Go.RowKit Go.Proofs.YtkplejkkafcipaaW.PrintWords Go.Proofs.YtkplejkkafcipaaW.PrintLast Go.Proofs.YtkplejkkafcipaaW.PrintMore
set_option linter.unusedVariables false
set_option linter.unusedSimpArgs false

/-! ### keys -/
def lex : List Int → List Int → Bool
  | _, [] => false
  | [], _ :: _ => true
  | a :: x, b :: y => decide (a < b) || (decide (a = b) && lex x y)
theorem lex_nil (a : List Int) : lex a [] = false := by cases a <;> rfl
theorem lex_irrefl : ∀ a, lex a a = false
  | [] => rfl
  | a :: x => by simp [lex, lex_irrefl x]
theorem lex_trans : ∀ {a b c : List Int}, lex a b = true → lex b c = true → lex a c = true
  | _, _, [], _, h => by rw [lex_nil] at h; cases h
  | _, [], _ :: _, h, _ => by rw [lex_nil] at h; cases h
  | [], _ :: _, _ :: _, _, _ => rfl
  | a :: x, b :: y, c :: z, h, k => by
    simp only [lex, Bool.or_eq_true, Bool.and_eq_true, decide_eq_true_eq] at h k ⊢
    rcases h with h | ⟨h1, h2⟩ <;> rcases k with k | ⟨k1, k2⟩
    · exact .inl (by omega)
    · exact .inl (by omega)
    · exact .inl (by omega)
    · exact .inr ⟨by omega, lex_trans h2 k2⟩
theorem lex_asymm {a b : List Int} (h : lex a b = true) : lex b a = false := by
  cases hb : lex b a with
  | false => rfl
  | true => exact absurd (lex_trans h hb) (by simp [lex_irrefl])
theorem lex_total : ∀ {a b : List Int}, lex a b = false → lex b a = false → a = b
  | [], [], _, _ => rfl
  | [], _ :: _, h, _ => by cases h
  | _ :: _, [], _, h => by cases h
  | a :: x, b :: y, h, k => by
    simp only [lex, Bool.or_eq_false_iff, Bool.and_eq_false_iff, decide_eq_false_iff_not] at h k
    have e : a = b := by omega
    subst e
    rw [lex_total (a := x) (b := y) (by rcases h.2 with h | h; exact absurd rfl h; exact h) (by rcases k.2 with k | k; exact absurd rfl k; exact k)]
theorem lex_ne {a b : List Int} (h : lex a b = true) : a ≠ b := fun e => by rw [e, lex_irrefl] at h; cases h
theorem lex_cases (a b : List Int) : lex a b = true ∨ a = b ∨ lex b a = true := by
  cases h : lex a b with
  | true => exact .inl rfl
  | false =>
    cases k : lex b a with
    | true => exact .inr (.inr rfl)
    | false => exact .inr (.inl (lex_total h k))
def wfB (l : List Int) : Prop := ∀ x ∈ l, 0 ≤ x ∧ x < 256
theorem wfB_nil : wfB [] := fun _ h => by cases h
theorem u8_lt {a b : Int} (ha : 0 ≤ a ∧ a < 256) (hb : 0 ≤ b ∧ b < 256) : (UInt8.ofNat a.toNat < UInt8.ofNat b.toNat) ↔ a < b := by
  rw [UInt8.lt_iff_toNat_lt, UInt8.toNat_ofNat', UInt8.toNat_ofNat', Nat.mod_eq_of_lt (by omega), Nat.mod_eq_of_lt (by omega)]
  omega
theorem u8_inj {a b : Int} (ha : 0 ≤ a ∧ a < 256) (hb : 0 ≤ b ∧ b < 256) (h : UInt8.ofNat a.toNat = UInt8.ofNat b.toNat) : a = b := by
  have := congrArg UInt8.toNat h
  rw [UInt8.toNat_ofNat', UInt8.toNat_ofNat', Nat.mod_eq_of_lt (by omega), Nat.mod_eq_of_lt (by omega)] at this
  omega
theorem u8_back {a : Int} (ha : 0 ≤ a ∧ a < 256) : ((UInt8.ofNat a.toNat).toNat : Int) = a := by
  rw [UInt8.toNat_ofNat', Nat.mod_eq_of_lt (by omega)]
  omega
theorem compare_is : ∀ {a b : List Int}, wfB a → wfB b → Lib.compareBytes (Lib.bytesOf a) (Lib.bytesOf b) = if lex a b then -1 else if lex b a then 1 else 0
  | [], [], _, _ => rfl
  | [], _ :: _, _, _ => rfl
  | _ :: _, [], _, _ => rfl
  | a :: x, b :: y, ha, hb => by
    have h1 := ha a (by simp)
    have h2 := hb b (by simp)
    have ih := compare_is (a := x) (b := y) (fun q hq => ha q (by simp [hq])) (fun q hq => hb q (by simp [hq]))
    show (if UInt8.ofNat a.toNat < UInt8.ofNat b.toNat then (-1 : Int) else if UInt8.ofNat b.toNat < UInt8.ofNat a.toNat then 1 else Lib.compareBytes (Lib.bytesOf x) (Lib.bytesOf y)) = _
    rw [ih]
    simp only [u8_lt h1 h2, u8_lt h2 h1, lex]
    by_cases q : a < b
    · simp [q]
    · by_cases q2 : b < a
      · have : ¬ a = b := by omega
        simp [q, q2, this]
      · have : a = b := by omega
        subst this
        simp
theorem bytes_inj : ∀ {a b : List Int}, wfB a → wfB b → Lib.bytesOf a = Lib.bytesOf b → a = b
  | [], [], _, _, _ => rfl
  | [], _ :: _, _, _, h => by cases h
  | _ :: _, [], _, _, h => by cases h
  | a :: x, b :: y, ha, hb, h => by
    have h' : UInt8.ofNat a.toNat :: Lib.bytesOf x = UInt8.ofNat b.toNat :: Lib.bytesOf y := h
    injection h' with h1 h2
    rw [u8_inj (ha a (by simp)) (hb b (by simp)) h1, bytes_inj (fun q hq => ha q (by simp [hq])) (fun q hq => hb q (by simp [hq])) h2]
theorem bytes_back : ∀ {a : List Int}, wfB a → (Lib.bytesOf a).map (fun b => (b.toNat : Int)) = a
  | [], _ => rfl
  | a :: x, h => by
    show ((UInt8.ofNat a.toNat).toNat : Int) :: (Lib.bytesOf x).map (fun b => (b.toNat : Int)) = _
    rw [u8_back (h a (by simp)), bytes_back (fun q hq => h q (by simp [hq]))]

/-! ### rows in the order of their keys -/
section
variable {α : Type} (key : α → List Int)
def SortedBy (l : List α) : Prop := l.Pairwise (fun a b => lex (key a) (key b) = true)
theorem sorted_ext : ∀ {l1 l2 : List α}, SortedBy key l1 → SortedBy key l2 → (∀ x, x ∈ l1 ↔ x ∈ l2) → l1 = l2
  | [], [], _, _, _ => rfl
  | [], b :: _, _, _, h => absurd ((h b).2 (by simp)) (by simp)
  | a :: _, [], _, _, h => absurd ((h a).1 (by simp)) (by simp)
  | a :: l1, b :: l2, h1, h2, h => by
    obtain ⟨p1, q1⟩ := List.pairwise_cons.1 h1
    obtain ⟨p2, q2⟩ := List.pairwise_cons.1 h2
    have e : a = b := by
      rcases List.mem_cons.1 ((h a).1 (by simp)) with e | m1
      · exact e
      rcases List.mem_cons.1 ((h b).2 (by simp)) with e | m2
      · exact e.symm
      exact absurd (lex_trans (p1 b m2) (p2 a m1)) (by simp [lex_irrefl])
    subst e
    rw [sorted_ext q1 q2 fun x => ⟨fun m => ?_, fun m => ?_⟩]
    · rcases List.mem_cons.1 ((h x).1 (by simp [m])) with e | m'
      · subst e; exact absurd (p1 x m) (by simp [lex_irrefl])
      · exact m'
    · rcases List.mem_cons.1 ((h x).2 (by simp [m])) with e | m'
      · subst e; exact absurd (p2 x m) (by simp [lex_irrefl])
      · exact m'
theorem sorted_key : ∀ {l : List α}, SortedBy key l → ∀ {x y : α}, x ∈ l → y ∈ l → key x = key y → x = y
  | [], _, _, _, h, _, _ => by cases h
  | a :: l, h, x, y, hx, hy, e => by
    obtain ⟨p, q⟩ := List.pairwise_cons.1 h
    rcases List.mem_cons.1 hx with h1 | h1 <;> rcases List.mem_cons.1 hy with h2 | h2
    · rw [h1, h2]
    · rw [h1] at e; exact absurd e (lex_ne (p y h2))
    · rw [h2] at e; exact absurd e.symm (lex_ne (p x h1))
    · exact sorted_key q h1 h2 e
end
abbrev Sorted (l : List S37) : Prop := SortedBy S37.f0 l
def ok37 (r : S37) : Prop := r.f0 ≠ [] ∧ r.f1 ≠ []
instance (r : S37) : Decidable (ok37 r) := by unfold ok37; infer_instance
def Right (l : List S37) : Prop := (∀ r ∈ l, ok37 r) ∧ Sorted l
/-- What is there under a key. -/
def getR (l : List S37) (key : List Int) : List Int := match l.find? (fun r => decide (r.f0 = key)) with | some r => r.f1 | none => []
theorem getR_none {l : List S37} {key : List Int} (h : ∀ r ∈ l, r.f0 ≠ key) : getR l key = [] := by
  unfold getR
  rw [List.find?_eq_none.2 (fun r hr => by simpa using h r hr)]
theorem getR_mem {l : List S37} (hs : Sorted l) {r : S37} (hr : r ∈ l) : getR l r.f0 = r.f1 := by
  unfold getR
  cases h : l.find? (fun q => decide (q.f0 = r.f0)) with
  | none => exact absurd (rfl : r.f0 = r.f0) (by simpa using List.find?_eq_none.1 h r hr)
  | some q =>
    have h1 := List.mem_of_find?_eq_some h
    have h2 : q.f0 = r.f0 := by simpa using List.find?_some h
    rw [sorted_key S37.f0 hs h1 hr h2]
theorem getR_cases (l : List S37) (key : List Int) : (∃ r ∈ l, r.f0 = key ∧ getR l key = r.f1) ∨ ((∀ r ∈ l, r.f0 ≠ key) ∧ getR l key = []) := by
  unfold getR
  cases h : l.find? (fun q => decide (q.f0 = key)) with
  | none => exact .inr ⟨fun r hr => by simpa using List.find?_eq_none.1 h r hr, rfl⟩
  | some q => exact .inl ⟨q, List.mem_of_find?_eq_some h, by simpa using List.find?_some h, rfl⟩
/-- Rows with a value under a key (none: no row). -/
def putR (l : List S37) (key v : List Int) : List S37 := if v = [] then l.filter (fun r => decide (r.f0 ≠ key)) else l.filter (fun r => lex r.f0 key) ++ ⟨key, v⟩ :: l.filter (fun r => lex key r.f0)
theorem ne_lex {a b : List Int} : a ≠ b ↔ lex a b = true ∨ lex b a = true := by
  rcases lex_cases a b with h | h | h
  · exact ⟨fun _ => .inl h, fun _ => lex_ne h⟩
  · subst h; simp [lex_irrefl]
  · exact ⟨fun _ => .inr h, fun _ => (lex_ne h).symm⟩
theorem mem_putR {l : List S37} {key v : List Int} {r : S37} : r ∈ putR l key v ↔ (v ≠ [] ∧ r = ⟨key, v⟩) ∨ (r ∈ l ∧ r.f0 ≠ key) := by
  unfold putR
  split
  · rename_i e; simp [e]
  · rename_i e
    simp only [List.mem_append, List.mem_filter, List.mem_cons, ne_lex, e, ne_eq, not_false_eq_true, true_and]
    constructor
    · rintro (⟨h, k⟩ | h | ⟨h, k⟩)
      · exact .inr ⟨h, .inl k⟩
      · exact .inl h
      · exact .inr ⟨h, .inr k⟩
    · rintro (h | ⟨h, k | k⟩)
      · exact .inr (.inl h)
      · exact .inl ⟨h, k⟩
      · exact .inr (.inr ⟨h, k⟩)
theorem sorted_putR {l : List S37} (hs : Sorted l) (key v : List Int) : Sorted (putR l key v) := by
  unfold putR
  split
  · exact List.Pairwise.filter _ hs
  · refine List.pairwise_append.2 ⟨List.Pairwise.filter _ hs, List.pairwise_cons.2 ⟨fun r hr => (List.mem_filter.1 hr).2, List.Pairwise.filter _ hs⟩, fun a ha b hb => ?_⟩
    have h1 := (List.mem_filter.1 ha).2
    rcases List.mem_cons.1 hb with rfl | hb
    · exact h1
    · exact lex_trans h1 (List.mem_filter.1 hb).2
theorem getR_putR {l : List S37} (hs : Sorted l) (key v k' : List Int) : getR (putR l key v) k' = if k' = key then v else getR l k' := by
  have hs' := sorted_putR hs key v
  split
  · rename_i e; subst e
    by_cases hv : v = []
    · rw [hv]; exact getR_none (fun r hr => by rcases mem_putR.1 hr with ⟨h, _⟩ | ⟨_, h⟩; exact absurd rfl h; exact h)
    · exact getR_mem (r := ⟨k', v⟩) hs' (mem_putR.2 (.inl ⟨hv, rfl⟩))
  · rename_i e
    rcases getR_cases l k' with ⟨r, hr, hk, hg⟩ | ⟨hn, hg⟩
    · rw [hg, ← hk]; exact getR_mem hs' (mem_putR.2 (.inr ⟨hr, by rw [hk]; exact e⟩))
    · rw [hg]; exact getR_none (fun r hr => by
        rcases mem_putR.1 hr with ⟨_, h⟩ | ⟨h, _⟩
        · rw [h]; exact fun q => e q.symm
        · exact hn r h)
theorem right_putR {l : List S37} (hr : Right l) {key : List Int} (hk : key ≠ []) (v : List Int) : Right (putR l key v) :=
  ⟨fun r h => by rcases mem_putR.1 h with ⟨h1, h2⟩ | ⟨h1, _⟩; rw [h2]; exact ⟨hk, h1⟩; exact hr.1 r h1, sorted_putR hr.2 key v⟩
theorem putR_len (l : List S37) (key v : List Int) : (putR l key v).length ≤ l.length + 1 := by
  unfold putR
  split
  · exact Nat.le_succ_of_le (List.length_filter_le _ _)
  · have : ∀ l : List S37, (l.filter (fun r => lex r.f0 key)).length + (l.filter (fun r => lex key r.f0)).length ≤ l.length := by
      intro l
      induction l with
      | nil => simp
      | cons a l ih =>
        rcases lex_cases a.f0 key with h | h | h
        · simp [List.filter_cons, h, lex_asymm h]; omega
        · simp [List.filter_cons, h, lex_irrefl]; omega
        · simp [List.filter_cons, h, lex_asymm h]; omega
    have := this l
    simp
    omega
/-- Two right rows of rows with the same under each key are one. -/
theorem right_ext {l m : List S37} (hl : Right l) (hm : Right m) (h : ∀ key, getR l key = getR m key) : l = m := by
  refine sorted_ext S37.f0 hl.2 hm.2 fun r => ?_
  have dir : ∀ {l m : List S37}, Right l → Right m → (∀ key, getR l key = getR m key) → r ∈ l → r ∈ m := by
    intro l m hl hm h hr
    have h1 := getR_mem hl.2 hr
    rw [h] at h1
    rcases getR_cases m r.f0 with ⟨q, hq, hk, hg⟩ | ⟨_, hg⟩
    · have : q = r := by
        have e1 : q.f1 = r.f1 := hg.symm.trans h1
        obtain ⟨q0, q1⟩ := q
        obtain ⟨r0, r1⟩ := r
        simp at hk e1
        rw [hk, e1]
      rw [← this]; exact hq
    · rw [hg] at h1
      exact absurd h1.symm (hl.1 r hr).2
  exact ⟨dir hl hm h, dir hm hl fun k => (h k).symm⟩

/-! ### turns -/
abbrev SortedT (l : List S43) : Prop := SortedBy S43.f0 l
def stepR (L : List S37) (x : S43) : Option (List S37) := if x.f0 = [] ∨ getR L x.f0 ≠ x.f1 then none else some (putR L x.f0 x.f2)
def goR : List S37 → List S43 → Option (List S37)
  | L, [] => some L
  | L, x :: t => (stepR L x).bind fun L' => goR L' t
theorem goR_append : ∀ (t u : List S43) (L : List S37), goR L (t ++ u) = (goR L t).bind fun L' => goR L' u
  | [], u, L => rfl
  | x :: t, u, L => by
    simp only [List.cons_append, goR]
    cases stepR L x with
    | none => rfl
    | some L' => exact goR_append t u L'
theorem goR_right : ∀ {t : List S43} {L L' : List S37}, Right L → goR L t = some L' → Right L'
  | [], L, L', h, e => by cases e; exact h
  | x :: t, L, L', h, e => by
    simp only [goR, stepR] at e
    split at e
    · cases e
    · rename_i hn
      exact goR_right (right_putR h (fun q => hn (.inl q)) x.f2) e
theorem goR_len : ∀ {t : List S43} {L L' : List S37}, goR L t = some L' → L'.length ≤ L.length + t.length
  | [], L, L', e => by cases e; simp
  | x :: t, L, L', e => by
    simp only [goR, stepR] at e
    split at e
    · cases e
    · have h1 := goR_len e
      have h2 := putR_len L x.f0 x.f2
      simp
      omega
/-- Turns of keys of which no two are the same, each from what is there, make of rows what they say. -/
theorem goR_fits : ∀ {t : List S43} {L : List S37}, Sorted L → t.Pairwise (fun a b => a.f0 ≠ b.f0) → (∀ x ∈ t, x.f0 ≠ [] ∧ getR L x.f0 = x.f1) → ∃ L', goR L t = some L' ∧ (∀ x ∈ t, getR L' x.f0 = x.f2) ∧ ∀ key, (∀ x ∈ t, x.f0 ≠ key) → getR L' key = getR L key
  | [], L, _, _, _ => ⟨L, rfl, (fun _ h => by cases h), fun _ _ => rfl⟩
  | x :: t, L, hs, hp, hx => by
    obtain ⟨p, q⟩ := List.pairwise_cons.1 hp
    have h1 := hx x (by simp)
    obtain ⟨L', e, f, g⟩ := goR_fits (t := t) (sorted_putR hs x.f0 x.f2) q (fun y hy => ⟨(hx y (by simp [hy])).1, by rw [getR_putR hs, if_neg (p y hy).symm]; exact (hx y (by simp [hy])).2⟩)
    refine ⟨L', ?_, fun y hy => ?_, fun key hk => ?_⟩
    · simp only [goR, stepR]
      rw [if_neg (by rintro (h | h); exact h1.1 h; exact h h1.2)]
      exact e
    · rcases List.mem_cons.1 hy with rfl | hy
      · rw [g y.f0 (fun z hz => (p z hz).symm), getR_putR hs, if_pos rfl]
      · exact f y hy
    · rw [g key (fun z hz => hk z (by simp [hz])), getR_putR hs, if_neg (hk x (by simp)).symm]
/-- All keys of two rows of rows. -/
def addK (K : List S37) (l : List S37) : List S37 := l.foldl (fun K r => putR K r.f0 [1]) K
theorem addK_sorted : ∀ (l K : List S37), Sorted K → Sorted (addK K l)
  | [], _, h => h
  | r :: l, K, h => addK_sorted l _ (sorted_putR h r.f0 [1])
theorem addK_mem : ∀ (l K : List S37) (key : List Int), (∃ r ∈ addK K l, r.f0 = key) ↔ (∃ r ∈ K, r.f0 = key) ∨ ∃ r ∈ l, r.f0 = key
  | [], K, key => by simp [addK]
  | x :: l, K, key => by
    have ih := addK_mem l (putR K x.f0 [1]) key
    show (∃ r ∈ addK (putR K x.f0 [1]) l, r.f0 = key) ↔ _
    rw [ih]
    constructor
    · rintro (⟨r, hr, hk⟩ | ⟨r, hr, hk⟩)
      · rcases mem_putR.1 hr with ⟨_, h⟩ | ⟨h, _⟩
        · exact .inr ⟨x, by simp, by rw [← hk, h]⟩
        · exact .inl ⟨r, h, hk⟩
      · exact .inr ⟨r, by simp [hr], hk⟩
    · rintro (⟨r, hr, hk⟩ | ⟨r, hr, hk⟩)
      · by_cases e : r.f0 = x.f0
        · exact .inl ⟨⟨x.f0, [1]⟩, mem_putR.2 (.inl ⟨by simp, rfl⟩), by rw [← hk, e]⟩
        · exact .inl ⟨r, mem_putR.2 (.inr ⟨hr, e⟩), hk⟩
      · rcases List.mem_cons.1 hr with rfl | hr
        · exact .inl ⟨⟨r.f0, [1]⟩, mem_putR.2 (.inl ⟨by simp, rfl⟩), hk⟩
        · exact .inr ⟨r, hr, hk⟩
theorem addK_len : ∀ (l K : List S37), (addK K l).length ≤ K.length + l.length
  | [], K => by simp [addK]
  | x :: l, K => by
    have h1 := addK_len l (putR K x.f0 [1])
    have h2 := putR_len K x.f0 [1]
    show (addK (putR K x.f0 [1]) l).length ≤ _
    simp
    omega
def tellR (a b : List S37) (r : S37) : Option S43 := if getR a r.f0 = getR b r.f0 then none else some ⟨r.f0, getR a r.f0, getR b r.f0⟩
def turnsR (a b : List S37) : List S43 := (addK (addK [] a) b).filterMap (tellR a b)
theorem turnsR_mem {a b : List S37} {x : S43} : x ∈ turnsR a b ↔ (∃ r, (r ∈ a ∨ r ∈ b) ∧ r.f0 = x.f0) ∧ x.f1 = getR a x.f0 ∧ x.f2 = getR b x.f0 ∧ x.f1 ≠ x.f2 := by
  have hk := addK_mem b (addK [] a)
  have hk' : ∀ key, (∃ r ∈ addK (addK [] a) b, r.f0 = key) ↔ ∃ r, (r ∈ a ∨ r ∈ b) ∧ r.f0 = key := by
    intro key
    rw [hk, addK_mem]
    constructor
    · rintro ((⟨r, hr, _⟩ | ⟨r, hr, h⟩) | ⟨r, hr, h⟩)
      · cases hr
      · exact ⟨r, .inl hr, h⟩
      · exact ⟨r, .inr hr, h⟩
    · rintro ⟨r, hr | hr, h⟩
      · exact .inl (.inr ⟨r, hr, h⟩)
      · exact .inr ⟨r, hr, h⟩
  unfold turnsR
  rw [List.mem_filterMap]
  constructor
  · rintro ⟨r, hr, h⟩
    unfold tellR at h
    split at h
    · cases h
    · rename_i hn
      cases h
      exact ⟨(hk' _).1 ⟨r, hr, rfl⟩, rfl, rfl, hn⟩
  · rintro ⟨h1, h2, h3, h4⟩
    obtain ⟨r, hr, hrk⟩ := (hk' x.f0).2 h1
    refine ⟨r, hr, ?_⟩
    obtain ⟨x0, x1, x2⟩ := x
    simp only at h1 h2 h3 h4 hrk
    subst hrk h2 h3
    unfold tellR
    rw [if_neg h4]
theorem turnsR_sorted (a b : List S37) : SortedT (turnsR a b) := by
  unfold turnsR
  refine List.pairwise_filterMap.2 ((addK_sorted b _ (addK_sorted a [] List.Pairwise.nil)).imp ?_)
  intro r s h x hx y hy
  unfold tellR at hx hy
  split at hx
  · cases hx
  split at hy
  · cases hy
  cases hx; cases hy
  exact h
theorem turnsR_len (a b : List S37) : (turnsR a b).length ≤ a.length + b.length := by
  have h1 := addK_len b (addK [] a)
  have h2 := addK_len a []
  have h3 := List.length_filterMap_le (tellR a b) (addK (addK [] a) b)
  unfold turnsR
  simp at h2
  omega
theorem turnsR_self (a : List S37) : turnsR a a = [] := by
  cases h : turnsR a a with
  | nil => rfl
  | cons x t =>
    have := turnsR_mem.1 (show x ∈ turnsR a a by rw [h]; simp)
    exact absurd (this.2.1.trans this.2.2.1.symm) this.2.2.2
def backR (t : List S43) : List S43 := t.reverse.map fun x => ⟨x.f0, x.f2, x.f1⟩
theorem goR_turns {a b : List S37} (ha : Right a) (hb : Right b) : goR a (turnsR a b) = some b := by
  have key_ne : ∀ x ∈ turnsR a b, x.f0 ≠ [] := by
    intro x hx
    obtain ⟨⟨r, hr | hr, hk⟩, _⟩ := turnsR_mem.1 hx
    · rw [← hk]; exact (ha.1 r hr).1
    · rw [← hk]; exact (hb.1 r hr).1
  obtain ⟨L', e, f, g⟩ := goR_fits (t := turnsR a b) ha.2 ((turnsR_sorted a b).imp fun h => lex_ne h) (fun x hx => ⟨key_ne x hx, (turnsR_mem.1 hx).2.1.symm⟩)
  rw [e]
  refine congrArg some (right_ext (goR_right ha e) hb fun key => ?_)
  by_cases h : ∃ x ∈ turnsR a b, x.f0 = key
  · obtain ⟨x, hx, rfl⟩ := h
    rw [f x hx, (turnsR_mem.1 hx).2.2.1]
  · rw [g key (fun x hx hk => h ⟨x, hx, hk⟩)]
    by_cases hq : getR a key = getR b key
    · exact hq
    · refine absurd ⟨⟨key, getR a key, getR b key⟩, turnsR_mem.2 ⟨?_, rfl, rfl, hq⟩, rfl⟩ h
      rcases getR_cases a key with ⟨r, hr, hk, _⟩ | ⟨_, ha0⟩
      · exact ⟨r, .inl hr, hk⟩
      · rcases getR_cases b key with ⟨r, hr, hk, _⟩ | ⟨_, hb0⟩
        · exact ⟨r, .inr hr, hk⟩
        · exact absurd (ha0.trans hb0.symm) hq
theorem goR_back {a b : List S37} (ha : Right a) (hb : Right b) : goR b (backR (turnsR a b)) = some a := by
  have hm : ∀ x, x ∈ backR (turnsR a b) ↔ (⟨x.f0, x.f2, x.f1⟩ : S43) ∈ turnsR a b := by
    intro x
    unfold backR
    simp only [List.mem_map, List.mem_reverse]
    constructor
    · rintro ⟨y, hy, rfl⟩; exact hy
    · intro h; exact ⟨_, h, rfl⟩
  have hd : (backR (turnsR a b)).Pairwise (fun x y => x.f0 ≠ y.f0) := by
    unfold backR
    rw [List.pairwise_map, List.pairwise_reverse]
    exact (turnsR_sorted a b).imp fun h => (lex_ne h).symm
  have key_ne : ∀ x ∈ turnsR a b, x.f0 ≠ [] := by
    intro x hx
    obtain ⟨⟨r, hr | hr, hk⟩, _⟩ := turnsR_mem.1 hx
    · rw [← hk]; exact (ha.1 r hr).1
    · rw [← hk]; exact (hb.1 r hr).1
  obtain ⟨L', e, f, g⟩ := goR_fits (t := backR (turnsR a b)) hb.2 hd (fun x hx => ⟨key_ne ⟨x.f0, x.f2, x.f1⟩ ((hm x).1 hx), (turnsR_mem.1 ((hm x).1 hx)).2.2.1.symm⟩)
  rw [e]
  refine congrArg some (right_ext (goR_right hb e) ha fun key => ?_)
  by_cases h : ∃ x ∈ turnsR a b, x.f0 = key
  · obtain ⟨x, hx, rfl⟩ := h
    rw [f ⟨x.f0, x.f2, x.f1⟩ ((hm _).2 hx), (turnsR_mem.1 hx).2.1]
  · rw [g key (fun x hx hk => h ⟨_, (hm x).1 hx, hk⟩)]
    by_cases hq : getR a key = getR b key
    · exact hq.symm
    · refine absurd ⟨⟨key, getR a key, getR b key⟩, turnsR_mem.2 ⟨?_, rfl, rfl, hq⟩, rfl⟩ h
      rcases getR_cases a key with ⟨r, hr, hk, _⟩ | ⟨_, ha0⟩
      · exact ⟨r, .inl hr, hk⟩
      · rcases getR_cases b key with ⟨r, hr, hk, _⟩ | ⟨_, hb0⟩
        · exact ⟨r, .inr hr, hk⟩
        · exact absurd (ha0.trans hb0.symm) hq
end Go.Proofs.Ytkplejkkafcipaa.PA
