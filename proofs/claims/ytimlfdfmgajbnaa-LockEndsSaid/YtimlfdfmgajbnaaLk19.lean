/-
Plain laws for LockOne: what great and meets tell; nobody holds what another holds.
-/
import Derived.Test.YtimlfdfmgajbnaaLk17
import Derived.Test.YtimlfdfmgajbnaaPAx5
namespace Go.Proofs.Ytimlfdfmgajbnaa.PA
open Go.RowKit Go.Proofs.YtimlfdfmgajbnaaW.PrintWords Go.Proofs.YtimlfdfmgajbnaaW.PrintLast Go.Proofs.YtimlfdfmgajbnaaW.PrintMore
set_option linter.unusedVariables false
set_option linter.unusedSimpArgs false
theorem rd34 (l : List S34) (i : Nat) (h : i < l.length) : rd_T34 l (i : Int) = l[i] := by simp [rd_T34, h]
theorem rdS (l : List ByteArray) (i : Nat) (h : i < l.length) : rdOf ByteArray.empty l (i : Int) = l[i] := by simp [rdOf, h]
def namesIn (l : List S34) : Nat := (l.map (fun x => x.f2.length)).sum
def shortL (l : List S34) : Prop := ∀ x ∈ l, ∀ s ∈ x.f2, s.size ≤ 140737488351232
theorem great_l1 (l : List S34) (hl : l.length ≤ 60) (hn : ∀ x ∈ l, x.f2.length ≤ 140737488351232) (hs : shortL l) (i : Nat) (hi : i < l.length)
    (IH : ∀ c : Int, 0 ≤ c → c ≤ 100000000000000 → ∃ K r, (∀ k, K ≤ k → storemanlaw24_great.l0 k l c ((i + 1 : Nat) : Int) = some r) ∧ (r = false → c + namesIn (l.drop (i + 1)) ≤ 2000)) :
    ∀ n j, j + n = l[i].f2.length → ∀ c : Int, 0 ≤ c → c ≤ 100000000000000 → ∃ K r, (∀ k, K ≤ k → storemanlaw24_great.l1 k l c (i : Int) (j : Int) = some r) ∧ (r = false → c + n + namesIn (l.drop (i + 1)) ≤ 2000) := by
  intro n
  have hni := hn _ (List.getElem_mem hi)
  induction n with
  | zero =>
    intro j hj c h0 h1
    obtain ⟨K, r, h2, h3⟩ := IH c h0 h1
    refine ⟨K + 1, r, fun k hk => ?_, fun h => by have := h3 h; omega⟩
    obtain ⟨k, rfl⟩ : ∃ q, k = q + 1 := ⟨k - 1, by omega⟩
    simp only [storemanlaw24_great.l1]
    rw [if_pos (by omega), if_pos (by omega), rd34 l i hi, if_neg (by omega), wrapI (by omega) (by omega)]
    exact h2 k (by omega)
  | succ n ih =>
    intro j hj c h0 h1
    have hj2 : j < l[i].f2.length := by omega
    have hsz := hs _ (List.getElem_mem hi) _ (List.getElem_mem hj2)
    by_cases hc : c ≤ 2000
    · obtain ⟨K, r, h2, h3⟩ := ih (j + 1) (by omega) (c + 1 + ((l[i].f2[j]).size : Int) / 20) (by omega) (by omega)
      refine ⟨K + 1, r, fun k hk => ?_, fun h => by have := h3 h; omega⟩
      obtain ⟨k, rfl⟩ : ∃ q, k = q + 1 := ⟨k - 1, by omega⟩
      simp only [storemanlaw24_great.l1]
      rw [if_pos (by omega), if_pos (by omega), rd34 l i hi, if_pos (by omega), if_pos hc, if_pos (by omega), rdS _ j hj2, wrapI (x := c + 1) (by omega) (by omega), wrapI (x := ((l[i].f2[j]).size : Int) / 20) (by omega) (by omega), wrapI (x := c + 1 + ((l[i].f2[j]).size : Int) / 20) (by omega) (by omega), wrapI (x := (j : Int) + 1) (by omega) (by omega)]
      exact h2 k (by omega)
    · obtain ⟨K, r, h2, h3⟩ := IH c h0 h1
      refine ⟨K + 1, r, fun k hk => ?_, fun h => by have := h3 h; omega⟩
      obtain ⟨k, rfl⟩ : ∃ q, k = q + 1 := ⟨k - 1, by omega⟩
      simp only [storemanlaw24_great.l1]
      rw [if_pos (by omega), if_pos (by omega), rd34 l i hi, if_pos (by omega), if_neg hc, wrapI (by omega) (by omega)]
      exact h2 k (by omega)
theorem great_l0 (l : List S34) (hl : l.length ≤ 60) (hn : ∀ x ∈ l, x.f2.length ≤ 140737488351232) (hs : shortL l) : ∀ n i, i + n = l.length → ∀ c : Int, 0 ≤ c → c ≤ 100000000000000 → ∃ K r, (∀ k, K ≤ k → storemanlaw24_great.l0 k l c (i : Int) = some r) ∧ (r = false → c + namesIn (l.drop i) ≤ 2000) := by
  intro n
  induction n with
  | zero =>
    intro i hi c h0 h1
    refine ⟨2, decide (c > 2000), fun k hk => ?_, fun h => by rw [List.drop_eq_nil_of_le (by omega)]; have : ¬ c > 2000 := of_decide_eq_false h; simp [namesIn]; omega⟩
    obtain ⟨k, rfl⟩ : ∃ q, k = q + 2 := ⟨k - 2, by omega⟩
    simp only [storemanlaw24_great.l0]
    rw [if_neg (by omega)]
    simp only [storemanlaw24_great.j1]
    rw [if_neg (by simp)]
  | succ n ih =>
    intro i hi c h0 h1
    have hlt : i < l.length := by omega
    have hd : namesIn (l.drop i) = l[i].f2.length + namesIn (l.drop (i + 1)) := by rw [List.drop_eq_getElem_cons hlt]; unfold namesIn; rw [List.map_cons, List.sum_cons]
    by_cases hc : c ≤ 2000
    · obtain ⟨K, r, h2, h3⟩ := great_l1 l hl hn hs i hlt (fun c h0 h1 => ih (i + 1) (by omega) c h0 h1) l[i].f2.length 0 (by omega) c h0 h1
      refine ⟨K + 2, r, fun k hk => ?_, fun h => by have := h3 h; rw [hd]; omega⟩
      obtain ⟨k, rfl⟩ : ∃ q, k = q + 2 := ⟨k - 2, by omega⟩
      simp only [storemanlaw24_great.l0]
      rw [if_pos (by omega)]
      simp only [storemanlaw24_great.j1]
      rw [if_pos (by simpa using hc)]
      exact h2 k (by omega)
    · refine ⟨2, true, fun k hk => ?_, fun h => by cases h⟩
      obtain ⟨k, rfl⟩ : ∃ q, k = q + 2 := ⟨k - 2, by omega⟩
      simp only [storemanlaw24_great.l0]
      rw [if_pos (by omega)]
      simp only [storemanlaw24_great.j1]
      rw [if_neg (by simpa using hc), decide_eq_true (by omega)]
theorem great_ev (l : List S34) (hl : l.length ≤ 60) (hn : ∀ x ∈ l, x.f2.length ≤ 140737488351232) (hs : shortL l) : ∃ K r, storemanlaw24_great.f K l = some r ∧ (r = false → namesIn l ≤ 2000) := by
  obtain ⟨K, r, h1, h2⟩ := great_l0 l hl hn hs l.length 0 (by omega) 0 (by omega) (by omega)
  exact ⟨K, r, h1 K (Nat.le_refl _), fun h => by have := h2 h; rw [List.drop_zero] at this; omega⟩
/-! ### meets -/
def lawM (a b : List ByteArray) : Bool := a.any fun x => b.any fun y => decide (x = y) || decide (x = star) || decide (y = star)
theorem toList_eq_iff (a b : ByteArray) : a.toList = b.toList ↔ a = b := ⟨toList_inj, fun h => by rw [h]⟩
theorem star_list : star.toList = [42] := by rw [ByteArray.toList_eq]
theorem star_iff (a : ByteArray) : a.toList = [42] ↔ a = star := by rw [← star_list]; exact toList_eq_iff a star
theorem meets_l1 (a b : List ByteArray) (ha : a.length ≤ 9223372036854775807) (hb : b.length ≤ 9223372036854775807) (i : Nat) (hi : i < a.length) (r0 : Bool) (IH : ∃ K, ∀ k, K ≤ k → storemanlaw24_meets.l0 k a b ((i + 1 : Nat) : Int) = some r0) :
    ∀ n j, j + n = b.length → ∃ K, ∀ k, K ≤ k → storemanlaw24_meets.l1 k a b (i : Int) (j : Int) = some (((b.drop j).any fun y => decide (a[i] = y) || decide (a[i] = star) || decide (y = star)) || r0) := by
  intro n
  induction n with
  | zero =>
    intro j hj
    obtain ⟨K, h⟩ := IH
    refine ⟨K + 1, fun k hk => ?_⟩
    obtain ⟨k, rfl⟩ : ∃ q, k = q + 1 := ⟨k - 1, by omega⟩
    simp only [storemanlaw24_meets.l1]
    rw [if_neg (by omega), List.drop_eq_nil_of_le (by omega), wrapI (by omega) (by omega)]
    exact h k (by omega)
  | succ n ih =>
    intro j hj
    have hjl : j < b.length := by omega
    obtain ⟨K, h⟩ := ih (j + 1) (by omega)
    refine ⟨K + 1, fun k hk => ?_⟩
    obtain ⟨k, rfl⟩ : ∃ q, k = q + 1 := ⟨k - 1, by omega⟩
    simp only [storemanlaw24_meets.l1]
    rw [if_pos (by omega), if_pos (by omega), if_pos (by omega), if_pos (by omega), rdS a i hi, rdS b j hjl, List.drop_eq_getElem_cons hjl, List.any_cons]
    by_cases h1 : a[i] = b[j]
    · rw [if_pos (by rw [h1]), decide_eq_true h1]; simp
    · rw [if_neg (fun e => h1 ((toList_eq_iff _ _).1 e)), decide_eq_false h1]
      by_cases h2 : a[i] = star
      · rw [if_pos ((star_iff _).2 h2), decide_eq_true h2]; simp
      · rw [if_neg (fun e => h2 ((star_iff _).1 e)), decide_eq_false h2]
        by_cases h3 : b[j] = star
        · rw [if_pos ((star_iff _).2 h3), decide_eq_true h3]; simp
        · rw [if_neg (fun e => h3 ((star_iff _).1 e)), decide_eq_false h3, wrapI (by omega) (by omega)]
          refine (h k (by omega)).trans ?_
          simp [h2]
theorem meets_l0 (a b : List ByteArray) (ha : a.length ≤ 9223372036854775807) (hb : b.length ≤ 9223372036854775807) : ∀ n i, i + n = a.length → ∃ K, ∀ k, K ≤ k → storemanlaw24_meets.l0 k a b (i : Int) = some (lawM (a.drop i) b) := by
  intro n
  induction n with
  | zero =>
    intro i hi
    refine ⟨1, fun k hk => ?_⟩
    obtain ⟨k, rfl⟩ : ∃ q, k = q + 1 := ⟨k - 1, by omega⟩
    simp only [storemanlaw24_meets.l0]
    rw [if_neg (by omega), List.drop_eq_nil_of_le (by omega)]
    rfl
  | succ n ih =>
    intro i hi
    have hlt : i < a.length := by omega
    obtain ⟨K, h⟩ := meets_l1 a b ha hb i hlt (lawM (a.drop (i + 1)) b) (ih (i + 1) (by omega)) b.length 0 (by omega)
    refine ⟨K + 1, fun k hk => ?_⟩
    obtain ⟨k, rfl⟩ : ∃ q, k = q + 1 := ⟨k - 1, by omega⟩
    simp only [storemanlaw24_meets.l0]
    rw [if_pos (by omega), List.drop_eq_getElem_cons hlt]
    refine (h k (by omega)).trans ?_
    rw [List.drop_zero]
    rfl
theorem meets_ev (a b : List ByteArray) (ha : a.length ≤ 9223372036854775807) (hb : b.length ≤ 9223372036854775807) : ∃ K, storemanlaw24_meets.f K a b = some (lawM a b) := by
  obtain ⟨K, h⟩ := meets_l0 a b ha hb a.length 0 (by omega)
  exact ⟨K, by have := h K (Nat.le_refl _); rwa [List.drop_zero] at this⟩
theorem lawM_iff {a b : List ByteArray} : lawM a b = true ↔ ∃ x ∈ a, ∃ y ∈ b, x = y ∨ x = star ∨ y = star := by
  unfold lawM
  rw [List.any_eq_true]
  constructor
  · rintro ⟨x, hx, h⟩
    obtain ⟨y, hy, h2⟩ := List.any_eq_true.1 h
    refine ⟨x, hx, y, hy, ?_⟩
    simp only [Bool.or_eq_true, decide_eq_true_eq] at h2
    rcases h2 with (h2 | h2) | h2
    · exact .inl h2
    · exact .inr (.inl h2)
    · exact .inr (.inr h2)
  · rintro ⟨x, hx, y, hy, h⟩
    refine ⟨x, hx, List.any_eq_true.2 ⟨y, hy, ?_⟩⟩
    simp only [Bool.or_eq_true, decide_eq_true_eq]
    rcases h with h | h | h
    · exact .inl (.inl h)
    · exact .inl (.inr h)
    · exact .inr h
theorem meetB_iff {a b : List ByteArray} : meetB a b = true ↔ ∃ x ∈ a, ∃ y ∈ b, x = y ∨ x = star ∨ y = star := by
  unfold meetB
  simp only [Bool.and_eq_true, Bool.or_eq_true, decide_eq_true_eq, List.any_eq_true]
  constructor
  · rintro ⟨⟨ha, hb⟩, (h | h) | ⟨x, hx, hy⟩⟩
    · obtain ⟨y, t, rfl⟩ := List.exists_cons_of_ne_nil hb
      exact ⟨star, h, y, by simp, .inr (.inl rfl)⟩
    · obtain ⟨x, t, rfl⟩ := List.exists_cons_of_ne_nil ha
      exact ⟨x, by simp, star, h, .inr (.inr rfl)⟩
    · exact ⟨x, hx, x, hy, .inl rfl⟩
  · rintro ⟨x, hx, y, hy, h⟩
    refine ⟨⟨List.ne_nil_of_mem hx, List.ne_nil_of_mem hy⟩, ?_⟩
    rcases h with rfl | rfl | rfl
    · exact .inr ⟨_, hx, hy⟩
    · exact .inl (.inl hx)
    · exact .inl (.inr hy)
/-! ### nobody holds what another holds -/
def Excl (L : List S79) : Prop := L.Pairwise (fun x y => lawM x.f1 y.f1 = false) ∧ (L.map (fun x => x.f0)).Nodup
theorem lawM_comm (a b : List ByteArray) : lawM a b = lawM b a := by
  have : ∀ a b, lawM a b = true → lawM b a = true := fun a b h => by
    obtain ⟨x, hx, y, hy, h⟩ := lawM_iff.1 h
    refine lawM_iff.2 ⟨y, hy, x, hx, ?_⟩
    rcases h with h | h | h
    · exact .inl h.symm
    · exact .inr (.inr h)
    · exact .inr (.inl h)
  cases h : lawM a b with
  | true => exact (this a b h).symm
  | false =>
    cases k : lawM b a with
    | true => rw [this b a k] at h; cases h
    | false => rfl
theorem Excl.two {L : List S79} (h : Excl L) {x y : S79} (hx : x ∈ L) (hy : y ∈ L) (hne : x.f0 ≠ y.f0) : lawM x.f1 y.f1 = false := by
  have h1 := h.1
  clear h
  induction L with
  | nil => cases hx
  | cons z L ih =>
    obtain ⟨p, q⟩ := List.pairwise_cons.1 h1
    rcases List.mem_cons.1 hx with ex | hx' <;> rcases List.mem_cons.1 hy with ey | hy'
    · rw [ex, ey] at hne; exact absurd rfl hne
    · rw [ex]; exact p y hy'
    · rw [ey, lawM_comm]; exact p x hx'
    · exact ih hx' hy' q
theorem excl_of {L : List S79} (hn : (L.map (fun x => x.f0)).Nodup) (h : ∀ x ∈ L, ∀ y ∈ L, x.f0 ≠ y.f0 → lawM x.f1 y.f1 = false) : Excl L := by
  refine ⟨?_, hn⟩
  induction L with
  | nil => exact List.Pairwise.nil
  | cons z L ih =>
    rw [List.map_cons] at hn
    obtain ⟨n1, n2⟩ := List.nodup_cons.1 hn
    exact List.pairwise_cons.2 ⟨fun y hy => h z (by simp) y (by simp [hy]) (fun e => n1 (List.mem_map.2 ⟨y, hy, e.symm⟩)), ih n2 (fun x hx y hy => h x (by simp [hx]) y (by simp [hy]))⟩
theorem excl_free {L : List S79} (h : Excl L) (id : Int) : Excl (freeL L id) := ⟨h.1.sublist List.filter_sublist, h.2.sublist (List.Sublist.map _ List.filter_sublist)⟩
theorem withL_nodup {L : List S79} (h : (L.map (fun x => x.f0)).Nodup) (id : Int) : ((withL L id).map (fun x => x.f0)).Nodup := by
  unfold withL
  split
  · exact h
  · rename_i hf
    rw [List.map_append]
    refine List.nodup_append.2 ⟨h, by simp, fun a ha b hb e => ?_⟩
    obtain ⟨x, hx, rfl⟩ := List.mem_map.1 ha
    simp only [List.map_cons, List.map_nil, List.mem_singleton, newW] at hb
    have := List.find?_eq_none.1 hf x hx
    simp at this
    exact this (e.trans hb)
theorem setL_ids (L : List S79) (x : S79) : (setL L x).map (fun y => y.f0) = L.map (fun y => y.f0) := by
  unfold setL
  rw [List.map_map]
  apply List.map_congr_left
  intro y _
  simp only [Function.comp]
  split
  · rename_i h; exact h.symm
  · rfl
theorem excl_with {L : List S79} (h : Excl L) (id : Int) : Excl (withL L id) := by
  refine excl_of (withL_nodup h.2 id) (fun x hx y hy hne => ?_)
  rcases mem_withL hx with hx | rfl <;> rcases mem_withL hy with hy | rfl
  · exact h.two hx hy hne
  · rw [lawM_comm]; rfl
  · rfl
  · exact absurd rfl hne
theorem getL_mem (L : List S79) (id : Int) : getL L id ∈ withL L id := by
  unfold getL withL
  cases h : L.find? (fun x => decide (x.f0 = id)) with
  | none => simp
  | some x => exact List.mem_of_find?_eq_some h
theorem kept_nil {L : List S79} {id : Int} {W : List ByteArray} {t : Int} (h : keptL L id W t = []) : ∀ x ∈ L, x.f0 ≠ id → meetB x.f1 W = false := by
  intro x hx hne
  unfold keptL at h
  rw [List.map_eq_nil_iff] at h
  have := List.filter_eq_nil_iff.1 h x hx
  simp only [Bool.and_eq_true, decide_eq_true_eq, not_and, Bool.not_eq_true] at this
  have := this hne
  unfold keepB at this
  simp only [Bool.or_eq_false_iff] at this
  exact this.1
theorem mem_set_other {L : List S79} {x y : S79} (h : y ∈ setL L x) (hne : y.f0 ≠ x.f0) : y ∈ L := by
  obtain ⟨z, hz, rfl⟩ := List.mem_map.1 h
  split
  · rename_i e; rw [if_pos e] at hne; exact absurd rfl hne
  · exact hz
theorem excl_ask {L : List S79} (h : Excl L) (last id : Int) (ns : List ByteArray) : Excl (askL L last id ns).1 := by
  have hw := excl_with h id
  have hg := getL_mem L id
  have hi := getL_id L id
  by_cases hk : keptL (withL L id) id (wantsS (getL L id).f1 (getL L id).f2 ns) (turnS last (getL L id)) = []
  · rw [askL_yes L last id ns rfl rfl hk]
    refine excl_of (by rw [setL_ids]; exact hw.2) ?_
    have key : ∀ y ∈ withL L id, y.f0 ≠ id → lawM y.f1 (joinS (getL L id).f1 (wantsS (getL L id).f1 (getL L id).f2 ns)) = false := fun y hy hne => by
      have e1 := hw.two hy hg (fun e => hne (e.trans hi))
      have e2 := kept_nil hk y hy hne
      rw [← Bool.not_eq_true, lawM_iff]
      rintro ⟨a, ha, b, hb, hab⟩
      rcases mem_joinS.1 hb with hb | hb
      · rw [lawM_iff.2 ⟨a, ha, b, hb, hab⟩] at e1; cases e1
      · rw [meetB_iff.2 ⟨a, ha, b, hb, hab⟩] at e2; cases e2
    intro x hx y hy hne
    by_cases ex : x.f0 = id
    · have ey : y.f0 ≠ id := fun e => hne (ex.trans e.symm)
      have hy' := mem_set_other hy ey
      have : x = ⟨id, joinS (getL L id).f1 (wantsS (getL L id).f1 (getL L id).f2 ns), [], 0⟩ := by
        obtain ⟨z, hz, rfl⟩ := List.mem_map.1 hx
        split at ex
        · rename_i e; rw [if_pos e]
        · rename_i e; exact absurd ex e
      rw [this, lawM_comm]
      exact key y hy' ey
    · have hx' := mem_set_other hx ex
      by_cases ey : y.f0 = id
      · have : y = ⟨id, joinS (getL L id).f1 (wantsS (getL L id).f1 (getL L id).f2 ns), [], 0⟩ := by
          obtain ⟨z, hz, rfl⟩ := List.mem_map.1 hy
          split at ey
          · rename_i e; rw [if_pos e]
          · rename_i e; exact absurd ey e
        rw [this]
        exact key x hx' ex
      · exact hw.two hx' (mem_set_other hy ey) hne
  · rw [askL_no L last id ns rfl rfl hk]
    refine excl_of (by rw [setL_ids]; exact hw.2) (fun x hx y hy hne => ?_)
    have back : ∀ z ∈ setL (withL L id) ⟨id, (getL L id).f1, wantsS (getL L id).f1 (getL L id).f2 ns, turnS last (getL L id)⟩, ∃ z' ∈ withL L id, z'.f0 = z.f0 ∧ z'.f1 = z.f1 := fun z hz => by
      obtain ⟨u, hu, rfl⟩ := List.mem_map.1 hz
      split
      · exact ⟨getL L id, hg, hi, rfl⟩
      · exact ⟨u, hu, rfl, rfl⟩
    obtain ⟨x', hx', e1, e2⟩ := back x hx
    obtain ⟨y', hy', e3, e4⟩ := back y hy
    rw [← e2, ← e4]
    exact hw.two hx' hy' (by rw [e1, e3]; exact hne)
theorem holds_apart {L : List S79} (h : Excl L) {a b : Int} (hne : a ≠ b) : lawM (holdsL L a) (holdsL L b) = false := by
  unfold holdsL
  cases ha : L.find? (fun x => decide (x.f0 = a)) with
  | none => rfl
  | some x =>
    cases hb : L.find? (fun x => decide (x.f0 = b)) with
    | none => rw [lawM_comm]; rfl
    | some y =>
      have e1 : x.f0 = a := by simpa using List.find?_some ha
      have e2 : y.f0 = b := by simpa using List.find?_some hb
      exact h.two (List.mem_of_find?_eq_some ha) (List.mem_of_find?_eq_some hb) (by rw [e1, e2]; exact hne)
/-! ### behind an ask, behind a free -/
theorem find_setL {L : List S79} {x : S79} (h : ∃ y ∈ L, y.f0 = x.f0) : (setL L x).find? (fun y => decide (y.f0 = x.f0)) = some x := by
  induction L with
  | nil => obtain ⟨y, hy, _⟩ := h; cases hy
  | cons z L ih =>
    show ((if z.f0 = x.f0 then x else z) :: setL L x).find? _ = _
    rw [List.find?_cons]
    by_cases e : z.f0 = x.f0
    · rw [if_pos e]; simp
    · rw [if_neg e, decide_eq_false e]
      exact ih (by obtain ⟨y, hy, he⟩ := h; rcases List.mem_cons.1 hy with rfl | hy; exact absurd he e; exact ⟨y, hy, he⟩)
theorem holds_getL (L : List S79) (id : Int) : holdsL L id = (getL L id).f1 := by
  unfold holdsL getL
  cases L.find? (fun x => decide (x.f0 = id)) <;> rfl
theorem ask_no {L : List S79} {last id : Int} {ns : List ByteArray} {B : Nat} (hok : OkL L last B) (h : (askL L last id ns).2.2 = false) : holdsL (askL L last id ns).1 id = holdsL L id ∧ waitsL (askL L last id ns).1 id ≠ [] := by
  have hg := getL_mem L id
  have hi := getL_id L id
  by_cases hk : keptL (withL L id) id (wantsS (getL L id).f1 (getL L id).f2 ns) (turnS last (getL L id)) = []
  · rw [askL_yes L last id ns rfl rfl hk] at h; cases h
  · rw [askL_no L last id ns rfl rfl hk]
    have hf := find_setL (L := withL L id) (x := ⟨id, (getL L id).f1, wantsS (getL L id).f1 (getL L id).f2 ns, turnS last (getL L id)⟩) ⟨_, hg, hi⟩
    have hf' : (setL (withL L id) ⟨id, (getL L id).f1, wantsS (getL L id).f1 (getL L id).f2 ns, turnS last (getL L id)⟩).find? (fun y => decide (y.f0 = id)) = some ⟨id, (getL L id).f1, wantsS (getL L id).f1 (getL L id).f2 ns, turnS last (getL L id)⟩ := hf
    refine ⟨?_, ?_⟩
    · rw [holds_getL L id]; unfold holdsL; simp only; rw [hf']
    · unfold waitsL
      simp only
      rw [hf']
      have ht : turnS last (getL L id) ≠ 0 := by
        have h0 := hok.h0
        unfold turnS
        split
        · omega
        · rename_i h; exact h
      simp only
      rw [if_neg ht]
      have hks := keptL_set (withL L id) ⟨id, (getL L id).f1, wantsS (getL L id).f1 (getL L id).f2 ns, turnS last (getL L id)⟩ (wantsS (getL L id).f1 (getL L id).f2 ns) (turnS last (getL L id))
      simp only at hks
      rw [hks]
      intro e
      have := congrArg List.length e
      rw [sortI_length] at this
      exact hk (List.length_eq_zero_iff.1 this)
theorem mem_wants {H W ns : List ByteArray} {n : ByteArray} (h : n ∈ wantsS H W ns ∨ n ∈ W) : n ∈ wantsS H W ns := by
  rcases h with h | h
  · exact h
  · unfold wantsS
    induction ns generalizing W with
    | nil => exact h
    | cons a ns ih =>
      rw [List.foldl_cons]
      split
      · exact ih h
      · exact ih (mem_putS.2 (.inr h))
theorem wants_asked {H : List ByteArray} : ∀ {ns W : List ByteArray} {n : ByteArray}, n ∈ ns → n ∈ H ∨ star ∈ H ∨ n ∈ wantsS H W ns
  | [], _, _, h => by cases h
  | a :: ns, W, n, h => by
    show n ∈ H ∨ star ∈ H ∨ n ∈ wantsS H (if a ∈ H ∨ star ∈ H then W else putS W a) ns
    rcases List.mem_cons.1 h with e | h
    · rw [e]
      by_cases h1 : a ∈ H ∨ star ∈ H
      · rcases h1 with h1 | h1
        · exact .inl h1
        · exact .inr (.inl h1)
      · rw [if_neg h1]
        exact .inr (.inr (mem_wants (.inr (mem_putS.2 (.inl rfl)))))
    · exact wants_asked h
theorem ask_yes {L : List S79} {last id : Int} {ns : List ByteArray} (h : (askL L last id ns).2.2 = true) : (∀ n ∈ ns, lawM [n] (holdsL (askL L last id ns).1 id) = true) ∧ waitsL (askL L last id ns).1 id = [] := by
  have hg := getL_mem L id
  have hi := getL_id L id
  by_cases hk : keptL (withL L id) id (wantsS (getL L id).f1 (getL L id).f2 ns) (turnS last (getL L id)) = []
  · rw [askL_yes L last id ns rfl rfl hk]
    have hf' : (setL (withL L id) ⟨id, joinS (getL L id).f1 (wantsS (getL L id).f1 (getL L id).f2 ns), [], 0⟩).find? (fun y => decide (y.f0 = id)) = some ⟨id, joinS (getL L id).f1 (wantsS (getL L id).f1 (getL L id).f2 ns), [], 0⟩ := find_setL (L := withL L id) (x := ⟨id, joinS (getL L id).f1 (wantsS (getL L id).f1 (getL L id).f2 ns), [], 0⟩) ⟨_, hg, hi⟩
    refine ⟨fun n hn => ?_, ?_⟩
    · unfold holdsL
      simp only
      rw [hf']
      refine lawM_iff.2 ⟨n, by simp, ?_⟩
      rcases wants_asked (H := (getL L id).f1) (W := (getL L id).f2) hn with h1 | h1 | h1
      · exact ⟨n, mem_joinS.2 (.inl h1), .inl rfl⟩
      · exact ⟨star, mem_joinS.2 (.inl h1), .inr (.inr rfl)⟩
      · exact ⟨n, mem_joinS.2 (.inr h1), .inl rfl⟩
    · unfold waitsL
      simp only
      rw [hf']
      simp
  · rw [askL_no L last id ns rfl rfl hk] at h; cases h
theorem free_none (L : List S79) (id : Int) : holdsL (freeL L id) id = [] ∧ waitsL (freeL L id) id = [] := by
  have : (freeL L id).find? (fun x => decide (x.f0 = id)) = none := List.find?_eq_none.2 (fun x hx => by simpa using (List.mem_filter.1 hx).2)
  unfold holdsL waitsL
  rw [this]
  exact ⟨rfl, rfl⟩
end Go.Proofs.Ytimlfdfmgajbnaa.PA
