/-
Plain laws for LockEnds: a round has two works at least; where there is none, some work is kept by nobody, and may have all it asked for.
-/
import Derived.Test.YtimlfdfmgajbnaaLk19
namespace Go.Proofs.Ytimlfdfmgajbnaa.PA
open Go.RowKit Go.Proofs.YtimlfdfmgajbnaaW.PrintWords Go.Proofs.YtimlfdfmgajbnaaW.PrintLast Go.Proofs.YtimlfdfmgajbnaaW.PrintMore
set_option linter.unusedVariables false
set_option linter.unusedSimpArgs false
def idsL (L : List S79) : List Int := L.map (fun x => x.f0)
theorem nd_len : ∀ (p q : List Int), p.Nodup → (∀ x ∈ p, x ∈ q) → p.length ≤ q.length
  | [], _, _, _ => Nat.zero_le _
  | a :: p, q, hn, hs => by
    obtain ⟨h1, h2⟩ := List.nodup_cons.1 hn
    have ha := hs a (by simp)
    have h3 := nd_len p (q.erase a) h2 (fun x hx => (List.mem_erase_of_ne (fun e => h1 (by rw [← e]; exact hx))).2 (hs x (by simp [hx])))
    rw [List.length_erase_of_mem ha] at h3
    have : 0 < q.length := List.length_pos_of_mem ha
    simp only [List.length_cons]
    omega
theorem waits_mem {L : List S79} {a b : Int} (h : b ∈ waitsL L a) : b ∈ idsL L ∧ b ≠ a := by
  unfold waitsL at h
  split at h
  · cases h
  · rename_i x hx
    split at h
    · cases h
    · unfold sortI at h
      rw [List.mem_mergeSort] at h
      unfold keptL at h
      obtain ⟨y, hy, rfl⟩ := List.mem_map.1 h
      obtain ⟨h1, h2⟩ := List.mem_filter.1 hy
      simp only [Bool.and_eq_true, decide_eq_true_eq] at h2
      exact ⟨List.mem_map.2 ⟨y, h1, rfl⟩, h2.1⟩
theorem ReachL.mem {L : List S79} {a b : Int} (h : ReachL L a b) : b ∈ idsL L := by
  induction h with
  | one h => exact (waits_mem h).1
  | step _ _ ih => exact ih
theorem ReachL.trans {L : List S79} {a b c : Int} (h : ReachL L a b) (k : ReachL L b c) : ReachL L a c := by
  induction h with
  | one h => exact .step h k
  | step h _ ih => exact .step h (ih k)
/-- Where a round is told it holds two works at least, all of them works of the locks. -/
theorem round_two {L : List S79} {out : List Int} (h : RoundL L out) (hne : out ≠ []) : 2 ≤ out.length ∧ ∀ x ∈ out, x ∈ idsL L := by
  rcases h with ⟨h, _⟩ | ⟨a, ha, hr, _, hs, hm⟩
  · exact absurd h hne
  refine ⟨?_, fun x hx => ((hm x).1 hx).1.mem⟩
  have haa := (hm a).2 ⟨hr, hr⟩
  obtain ⟨b, hb, hba, hra⟩ : ∃ b, b ≠ a ∧ ReachL L a b ∧ ReachL L b a := by
    cases hr with
    | one h => exact absurd rfl (waits_mem h).2
    | step h k => exact ⟨_, (waits_mem h).2, .one h, k⟩
  have hbb := (hm b).2 ⟨hba, hra⟩
  have := nd_len [a, b] out (by simp [hb.symm]) (fun x hx => by
    simp only [List.mem_cons, List.not_mem_nil, or_false] at hx
    rcases hx with rfl | rfl
    · exact haa
    · exact hbb)
  simpa using this
/-- Where no work reaches itself, some work is kept by nobody. -/
theorem walk_on {L : List S79} (hw : ∀ a ∈ idsL L, waitsL L a ≠ []) (hc : ∀ a ∈ idsL L, ¬ ReachL L a a) {a0 : Int} (h0 : a0 ∈ idsL L) : ∀ n : Nat, ∃ (p : List Int) (x : Int), p.length = n ∧ p.Nodup ∧ (∀ y ∈ p, y ∈ idsL L ∧ ReachL L y x) ∧ x ∈ idsL L
  | 0 => ⟨[], a0, rfl, List.nodup_nil, (fun y hy => by cases hy), h0⟩
  | n + 1 => by
    obtain ⟨p, x, hl, hn, hp, hx⟩ := walk_on hw hc h0 n
    obtain ⟨b, t, hb⟩ := List.exists_cons_of_ne_nil (hw x hx)
    have hbm : b ∈ waitsL L x := by rw [hb]; simp
    refine ⟨x :: p, b, by simp [hl], List.nodup_cons.2 ⟨fun hm => hc x hx (hp x hm).2, hn⟩, fun y hy => ?_, (waits_mem hbm).1⟩
    rcases List.mem_cons.1 hy with rfl | hy
    · exact ⟨hx, .one hbm⟩
    · exact ⟨(hp y hy).1, (hp y hy).2.trans (.one hbm)⟩
theorem sink {L : List S79} (hc : ∀ a ∈ idsL L, ¬ ReachL L a a) (hne : idsL L ≠ []) : ∃ a ∈ idsL L, waitsL L a = [] := by
  apply Classical.byContradiction
  intro hno
  obtain ⟨a0, t, he⟩ := List.exists_cons_of_ne_nil hne
  obtain ⟨p, x, hl, hn, hp, _⟩ := walk_on (fun a ha e => hno ⟨a, ha, e⟩) hc (a0 := a0) (by rw [he]; simp) ((idsL L).length + 1)
  have := nd_len p (idsL L) hn (fun y hy => (hp y hy).1)
  omega
/-! ### who waits for nothing wants nothing -/
def WI (L : List S79) : Prop := ∀ x ∈ L, x.f3 = 0 → x.f2 = []
theorem wi_free {L : List S79} (h : WI L) (id : Int) : WI (freeL L id) := fun x hx => h x (List.mem_filter.1 hx).1
theorem wi_with {L : List S79} (h : WI L) (id : Int) : WI (withL L id) := fun x hx => by
  rcases mem_withL hx with hx | rfl
  · exact h x hx
  · exact fun _ => rfl
theorem wi_set {L : List S79} (h : WI L) {x : S79} (hx : x.f3 = 0 → x.f2 = []) : WI (setL L x) := fun y hy => by
  rcases mem_setL hy with rfl | hy
  · exact hx
  · exact h y hy
theorem turn_pos {L : List S79} {last : Int} {B : Nat} (hok : OkL L last B) (id : Int) : turnS last (getL L id) ≠ 0 := by
  have := hok.h0
  unfold turnS
  split
  · omega
  · rename_i h; exact h
theorem wi_ask {L : List S79} {last : Int} {B : Nat} (hok : OkL L last B) (h : WI L) (id : Int) (ns : List ByteArray) : WI (askL L last id ns).1 := by
  by_cases hk : keptL (withL L id) id (wantsS (getL L id).f1 (getL L id).f2 ns) (turnS last (getL L id)) = []
  · rw [askL_yes L last id ns rfl rfl hk]
    exact wi_set (wi_with h id) (fun _ => rfl)
  · rw [askL_no L last id ns rfl rfl hk]
    exact wi_set (wi_with h id) (fun e => absurd e (turn_pos hok id))
theorem ids_with (L : List S79) (id x : Int) : x ∈ idsL (withL L id) ↔ x = id ∨ x ∈ idsL L := by
  unfold withL idsL
  split
  · rename_i y hy
    have h1 := List.mem_of_find?_eq_some hy
    have h2 : y.f0 = id := by simpa using List.find?_some hy
    constructor
    · exact .inr
    · rintro (rfl | h)
      · exact List.mem_map.2 ⟨y, h1, h2⟩
      · exact h
  · rw [List.map_append, List.mem_append]
    simp [newW, or_comm]
theorem ids_ask (L : List S79) (last id : Int) (ns : List ByteArray) (x : Int) : x ∈ idsL (askL L last id ns).1 ↔ x = id ∨ x ∈ idsL L := by
  rw [← ids_with L id x]
  by_cases hk : keptL (withL L id) id (wantsS (getL L id).f1 (getL L id).f2 ns) (turnS last (getL L id)) = []
  · rw [askL_yes L last id ns rfl rfl hk]; unfold idsL; rw [setL_ids]
  · rw [askL_no L last id ns rfl rfl hk]; unfold idsL; rw [setL_ids]
theorem ids_free (L : List S79) (id x : Int) : x ∈ idsL (freeL L id) ↔ x ∈ idsL L ∧ x ≠ id := by
  unfold idsL freeL
  constructor
  · intro h
    obtain ⟨y, hy, rfl⟩ := List.mem_map.1 h
    obtain ⟨h1, h2⟩ := List.mem_filter.1 hy
    exact ⟨List.mem_map.2 ⟨y, h1, rfl⟩, by simpa using h2⟩
  · rintro ⟨h, hne⟩
    obtain ⟨y, hy, rfl⟩ := List.mem_map.1 h
    exact List.mem_map.2 ⟨y, List.mem_filter.2 ⟨hy, by simpa using hne⟩, rfl⟩
theorem keep_none (H O : List ByteArray) (ot t : Int) : keepB H O ot [] t = false := by unfold keepB meetB; simp
/-- A work of the locks that is kept by nobody may have what it asked for. -/
theorem ask_sink {L : List S79} {last id : Int} (hw : WI L) (hm : id ∈ idsL L) (hs : waitsL L id = []) : (askL L last id []).2.2 = true := by
  have hg : ∃ x, L.find? (fun x => decide (x.f0 = id)) = some x := by
    cases h : L.find? (fun x => decide (x.f0 = id)) with
    | some x => exact ⟨x, rfl⟩
    | none =>
      obtain ⟨y, hy, e⟩ := List.mem_map.1 hm
      have := List.find?_eq_none.1 h y hy
      simp at this
      exact absurd e this
  obtain ⟨x, hx⟩ := hg
  have eg : getL L id = x := by unfold getL; rw [hx]; rfl
  have ew : withL L id = L := by unfold withL; rw [hx]
  have hk : keptL (withL L id) id (wantsS (getL L id).f1 (getL L id).f2 []) (turnS last (getL L id)) = [] := by
    rw [eg, ew]
    show keptL L id x.f2 (turnS last x) = []
    unfold waitsL at hs
    rw [hx] at hs
    simp only at hs
    by_cases h3 : x.f3 = 0
    · rw [hw x (List.mem_of_find?_eq_some hx) h3]
      unfold keptL
      rw [List.map_eq_nil_iff]
      exact List.filter_eq_nil_iff.2 (fun y _ => by rw [keep_none]; simp)
    · rw [if_neg h3] at hs
      have : turnS last x = x.f3 := by unfold turnS; rw [if_neg h3]
      rw [this]
      have := congrArg List.length hs
      rw [sortI_length] at this
      exact List.length_eq_zero_iff.1 this
  rw [askL_yes L last id [] rfl rfl hk]
end Go.Proofs.Ytimlfdfmgajbnaa.PA
