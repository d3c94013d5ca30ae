/-
lock.meets: does a name of one set meet one of another?
-/
import Derived.Test.YtimlfdfmgajbnaaLk1
namespace Go.Proofs.Ytimlfdfmgajbnaa.PA
open Go.RowKit Go.Proofs.YtimlfdfmgajbnaaW.PrintWords Go.Proofs.YtimlfdfmgajbnaaW.PrintLast Go.Proofs.YtimlfdfmgajbnaaW.PrintMore
open Go.Proofs.Ytimlfdfmgajbnaa.Mp
set_option linter.unusedVariables false
set_option linter.unusedSimpArgs false
theorem int_eq0 {z : Nat} (h : z ≠ 0) : ((z : Int) == 0) = false := by rw [beq_eq_false_iff_ne]; omega
theorem star_size : star.size ≤ 9223372036854775807 := by
  have h : star.size = 1 := rfl
  omega
set_option maxRecDepth 100000 in
theorem key_str {kl : Lit} {x : List UInt8} (h : keyOf Try.prog 9 (.string ⟨x.toArray⟩) = some kl) : kl = sLit ⟨x.toArray⟩ ∧ (⟨x.toArray⟩ : ByteArray).size ≤ 9223372036854775807 := by
  obtain ⟨y, hy, rfl, hl⟩ := Go.Maps.keyOf_str Try.underlying9 h
  have e : x.toArray = y.toArray := by
    have h1 : Value.string ⟨x.toArray⟩ = Value.string ⟨y.toArray⟩ := hy
    injection h1 with h1
    injection h1
  have e2 : x = y := congrArg Array.toList e
  subst e2
  have h3 : (⟨x.toArray⟩ : ByteArray).size = x.length := List.size_toArray
  constructor
  · rfl
  · rw [h3]
    unfold maxLen at hl
    omega
theorem same_sLit (a b : ByteArray) : (sLit a).sameKey (sLit b) = true ↔ a = b := by
  unfold sLit Lit.sameKey
  simp only [beq_iff_eq]
  constructor
  · intro h; exact sLit_inj (by unfold sLit; rw [show a.data.toList = b.data.toList by simpa using h])
  · rintro rfl; simp
set_option maxHeartbeats 4000000 in
set_option maxRecDepth 100000 in
theorem meets_calls (ba na : Nat) (A : List ByteArray) (bb nb : Nat) (B : List ByteArray) (r : Bool) (w : World) (ha : SetIs w ba na A) (hb : SetIs w bb nb B) (hr : r = meetB A B) :
    Calls Try.prog 51 #[.map (some ba), .map (some bb)] w fun e w' => e = .returned (.bool r) ∧ Below w.heap.size w w' := by
  have HA := Aside0.mk ha
  have HB := Aside0.mk hb
  have HBB := Aside0.mk hb.lt
  have HBL := Aside0.mk (Below.refl w.heap.size w)
  obtain ⟨za, la, ea⟩ := len_fact ha
  obtain ⟨zb, lb, eb⟩ := len_fact hb
  by_cases hA : A = []
  · have HE := Aside0.mk hA
    have HZ := Aside0.mk (show r = false by rw [hr, hA]; rfl)
    obtain rfl : za = 0 := ea.2 hA
    clear hr ha hb hA ea eb lb
    go_enter Try.func51, Try.ntmps51
    go_wp2
    go_ret
    exact ⟨by rw [HZ.out]; rfl, HBL.out⟩
  by_cases hB : B = []
  · have HE := Aside0.mk hB
    have HF := Aside0.mk hA
    have HZ := Aside0.mk (show r = false by rw [hr, hB]; simp [meetB])
    have hz1 := int_eq0 (fun h => hA (ea.1 h))
    obtain rfl : zb = 0 := eb.2 hB
    clear hr ha hb hA hB ea eb
    go_enter Try.func51, Try.ntmps51
    go_wp2
    go_ret
    exact ⟨by rw [HZ.out]; rfl, HBL.out⟩
  have HE := Aside0.mk hB
  have HF := Aside0.mk hA
  have hz1 := int_eq0 (fun h => hA (ea.1 h))
  have hz2 := int_eq0 (fun h => hB (eb.1 h))
  clear ea eb
  by_cases hs : star ∈ A ∨ star ∈ B
  · have HZ := Aside0.mk (show r = true by rw [hr]; unfold meetB; rcases hs with h | h <;> simp [hA, hB, h])
    by_cases h1 : star ∈ A
    · have H1 := Aside0.mk (decide_eq_true h1).symm
      clear hr ha hb hA hB hs h1
      go_enter Try.func51, Try.ntmps51
      go_wp2_with (first | (go_at_call 32; (with_reducible refine (has_calls ba na A star true _ HA.out star_size H1.out).mono ?_); rintro e w' ⟨rfl, rfl⟩))
      go_ret
      exact ⟨by rw [HZ.out]; rfl, HBL.out⟩
    · have h2 : star ∈ B := by rcases hs with h | h; exact absurd h h1; exact h
      have H1 := Aside0.mk (decide_eq_false h1).symm
      have H2 := Aside0.mk (decide_eq_true h2).symm
      clear hr ha hb hA hB hs h1 h2
      go_enter Try.func51, Try.ntmps51
      go_wp2_with (first | (go_at_call 32; (with_reducible refine (has_calls ba na A star false _ HA.out star_size H1.out).mono ?_); rintro e w' ⟨rfl, rfl⟩) | (go_at_call 32; (with_reducible refine (has_calls bb nb B star true _ HB.out star_size H2.out).mono ?_); rintro e w' ⟨rfl, rfl⟩))
      go_ret
      exact ⟨by rw [HZ.out]; rfl, HBL.out⟩
  have h1 : ¬ star ∈ A := fun h => hs (.inl h)
  have h2 : ¬ star ∈ B := fun h => hs (.inr h)
  have HQ := Aside0.mk (show r = A.any (fun n => decide (n ∈ B)) by rw [hr]; unfold meetB; simp [hA, hB, h1, h2])
  have H1 := Aside0.mk (decide_eq_false h1).symm
  have H2 := Aside0.mk (decide_eq_false h2).symm
  clear hr ha hb hA hB hs h1 h2
  go_enter Try.func51, Try.ntmps51
  go_wp2_with (first | (go_at_call 32; (with_reducible refine (has_calls ba na A star false _ HA.out star_size H1.out).mono ?_); rintro e w' ⟨rfl, rfl⟩) | (go_at_call 32; (with_reducible refine (has_calls bb nb B star false _ HB.out star_size H2.out).mono ?_); rintro e w' ⟨rfl, rfl⟩) | (at_range; refine range_event HA.out rfl _ rfl keyed9 Try.underlying57 rfl ?_; intro ri hri W2 cnt hrg hcnt hg; have HGR := Aside0.mk (by rw [hri]; exact Nat.le_refl _ : w.heap.size ≤ ri); have HBn := Aside0.mk (HBL.out.grown hg (below_size HBL.out) (fun k hk => by cases hk)); clear HBL; have HBL := HBn; clear HBn; have HRG := Aside0.mk hrg; have HB2 := Aside0.mk (HB.out.kept hg (fun h => by cases h)); clear HA HB hri hrg hcnt hg))
  go_frame
  go_loopw [5] (fun v5 wr => ∃ left cnt, Aside0 (Ranges Try.prog 9 wr ba ri na (setF A) left cnt) ∧ Aside0 (SetIs wr bb nb B) ∧ Aside0 (∀ s ∈ A, left (sLit s) = false → s ∉ B) ∧ Aside0 (Below w.heap.size w wr)) (fun _ wr => wr.rangeLeft ba ri)
  case atStart => exact ⟨_, cnt, ⟨HRG.out⟩, ⟨HB2.out⟩, ⟨fun s hs hl => by rw [setF_at, if_pos hs] at hl; cases hl⟩, ⟨HBL.out⟩⟩
  case round =>
    clear HRG HB2 HBL
    obtain ⟨left, cnt, HRG, HB, HNO, HBL⟩ := hrel
    have HMS := Aside0.mk (HRG.out.left_eq)
    go_wp2_with (first | (at_next; refine next_event (fun x : List UInt8 => Value.string ⟨x.toArray⟩) (fun key kl hk => by obtain ⟨x, hx, _⟩ := Maps.keyOf_str Try.underlying9 hk; exact ⟨x, hx⟩) HRG.out rfl _ rfl keyed9 rfl ?_ ?_))
    · intro hl0
      have HZ := Aside0.mk (show r = false by rw [HQ.out, List.any_eq_false]; intro s hs; simpa using HNO.out s hs (hl0 _))
      clear hl0
      go_wp2
      go_ret
      exact ⟨by rw [HZ.out]; rfl, HBL.out⟩
    · intro x v kl W2 cnt2 hkey hlk hf hrg hlt hg hen
      obtain ⟨rfl, hsz⟩ := key_str hkey
      obtain ⟨s, hs, ekl, rfl⟩ := setF_some hf
      obtain rfl := sLit_inj ekl
      have HSZ := Aside0.mk hsz
      have HLT := Aside0.mk hlt
      have HBn := Aside0.mk (HBL.out.grown hg (below_size HBL.out) (fun k hk => by cases hk; exact HGR.out))
      have HRGn := Aside0.mk hrg
      have HB2 := Aside0.mk (HB.out.kept hg (fun h => by injection h with h; have h1 := HGR.out; have h2 := HBB.out; omega))
      clear HB HBL HRG hg hrg hlt hsz hf hkey
      have HBL := HBn
      have HRG := HRGn
      clear HBn HRGn
      by_cases hm : (⟨x.toArray⟩ : ByteArray) ∈ B
      · have H3 := Aside0.mk (decide_eq_true hm).symm
        have HZ := Aside0.mk (show r = true by rw [HQ.out, List.any_eq_true]; exact ⟨_, hs, decide_eq_true hm⟩)
        clear hm hs ekl hlk
        go_wp2_with (first | (go_at_call 32; (with_reducible refine (has_calls bb nb B _ true _ HB2.out HSZ.out H3.out).mono ?_); rintro e w' ⟨rfl, rfl⟩))
        go_ret
        exact ⟨by rw [HZ.out]; rfl, HBL.out⟩
      · have H3 := Aside0.mk (decide_eq_false hm).symm
        have HN2 := Aside0.mk (show ∀ s ∈ A, (left (sLit s) && !(sLit s).sameKey (sLit ⟨x.toArray⟩)) = false → s ∉ B by
          intro s hsA hl
          by_cases e : s = ⟨x.toArray⟩
          · rw [e]; exact hm
          · refine HNO.out s hsA ?_
            have h4 : (sLit s).sameKey (sLit ⟨x.toArray⟩) = false := by rw [← Bool.not_eq_true]; exact fun h => e ((same_sLit _ _).1 h)
            rw [h4] at hl
            simpa using hl)
        clear hm hs ekl hlk
        go_wp2_with (first | (go_at_call 32; (with_reducible refine (has_calls bb nb B _ false _ HB2.out HSZ.out H3.out).mono ?_); rintro e w' ⟨rfl, rfl⟩))
        go_roundw
        case rel => exact ⟨_, cnt2, ⟨HRG.out⟩, ⟨HB2.out⟩, ⟨HN2.out⟩, ⟨HBL.out⟩⟩
        case measure => rw [HRG.out.left_eq, HMS.out]; exact HLT.out
end Go.Proofs.Ytimlfdfmgajbnaa.PA
