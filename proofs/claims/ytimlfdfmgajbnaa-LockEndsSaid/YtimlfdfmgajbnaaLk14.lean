/-
Locks told as data alone: what each call answers and leaves.
-/
import Derived.Test.YtimlfdfmgajbnaaLk13
namespace Go.Proofs.Ytimlfdfmgajbnaa.PA
open Go.RowKit Go.Proofs.YtimlfdfmgajbnaaW.PrintWords Go.Proofs.YtimlfdfmgajbnaaW.PrintLast Go.Proofs.YtimlfdfmgajbnaaW.PrintMore
open Go.Proofs.Ytimlfdfmgajbnaa.Mp
set_option linter.unusedVariables false
set_option linter.unusedSimpArgs false
/-! ### what is told -/
def waitsL (L : List S79) (id : Int) : List Int := match L.find? (fun x => decide (x.f0 = id)) with
  | none => []
  | some x => if x.f3 = 0 then [] else sortI (keptL L id x.f2 x.f3)
def holdsL (L : List S79) (id : Int) : List ByteArray := match L.find? (fun x => decide (x.f0 = id)) with
  | none => []
  | some x => x.f1
def freeL (L : List S79) (id : Int) : List S79 := L.filter (fun x => decide (x.f0 ≠ id))
inductive ReachL (L : List S79) : Int → Int → Prop
  | one {a b : Int} : b ∈ waitsL L a → ReachL L a b
  | step {a b c : Int} : b ∈ waitsL L a → ReachL L b c → ReachL L a c
def RoundL (L : List S79) (out : List Int) : Prop := (out = [] ∧ ∀ a ∈ L.map (fun x => x.f0), ¬ ReachL L a a) ∨ ∃ a ∈ L.map (fun x => x.f0), ReachL L a a ∧ (∀ b ∈ L.map (fun x => x.f0), b < a → ¬ ReachL L b b) ∧ out.Pairwise (fun x y => x < y) ∧ ∀ x, x ∈ out ↔ ReachL L a x ∧ ReachL L x a
theorem waits_dat {w : World} {lb mb mn : Nat} {last : Int} {Q : List PW} (h : LockAt w lb mb mn last Q) (id : Int) : waitsQ Q id = waitsL (datQ Q) id := by
  unfold waitsQ waitsL
  rw [find_dat]
  cases hf : Q.find? (fun q => decide (q.2.f0 = id)) with
  | none => rfl
  | some q =>
    have hq := List.mem_of_find?_eq_some hf
    have hi : q.2.f0 = id := by simpa using List.find?_some hf
    simp only [Option.map_some]
    rw [kept_dat h hq, hi]
theorem holds_dat (Q : List PW) (id : Int) : holdsQ Q id = holdsL (datQ Q) id := by
  unfold holdsQ holdsL
  rw [find_dat]
  cases Q.find? (fun q => decide (q.2.f0 = id)) <;> rfl
theorem free_dat (Q : List PW) (id : Int) : datQ (freeQ Q id) = freeL (datQ Q) id := by
  unfold datQ freeQ freeL
  rw [List.filter_map]
  rfl
theorem reach_dat {w : World} {lb mb mn : Nat} {last : Int} {Q : List PW} (h : LockAt w lb mb mn last Q) (a b : Int) : Reach Q a b ↔ ReachL (datQ Q) a b := by
  constructor
  · intro hr
    induction hr with
    | one h1 => exact .one (by rw [← waits_dat h]; exact h1)
    | step h1 _ ih => exact .step (by rw [← waits_dat h]; exact h1) ih
  · intro hr
    induction hr with
    | one h1 => exact .one (by rw [waits_dat h]; exact h1)
    | step h1 _ ih => exact .step (by rw [waits_dat h]; exact h1) ih
theorem round_dat {w : World} {lb mb mn : Nat} {last : Int} {Q : List PW} (h : LockAt w lb mb mn last Q) {out : List Int} (hr : RoundIs Q out) : RoundL (datQ Q) out := by
  unfold RoundIs at hr
  unfold RoundL
  rw [ids_dat]
  simp only [reach_dat h] at hr
  exact hr
/-! ### rising texts -/
theorem less_trans {a b c : List UInt8} (h : Op.bytesLess a b = true) (k : Op.bytesLess b c = true) : Op.bytesLess a c = true := by
  rw [bytesLess_eq] at *
  exact decide_eq_true (List.lt_trans (of_decide_eq_true h) (of_decide_eq_true k))
theorem less_total {a b : List UInt8} (h : ¬ Op.bytesLess a b = true) (hne : a ≠ b) : Op.bytesLess b a = true := by
  rw [bytesLess_eq] at *
  have h1 : ¬ a < b := fun e => h (decide_eq_true e)
  refine decide_eq_true ?_
  rcases List.le_iff_lt_or_eq.1 (List.not_lt.1 h1) with e | e
  · exact e
  · exact absurd e.symm hne
theorem sorted_putS : ∀ {l : List ByteArray} (s : ByteArray), SortedS l → SortedS (putS l s)
  | [], s, _ => List.pairwise_singleton _ _
  | x :: l, s, h => by
    obtain ⟨p, q⟩ := List.pairwise_cons.1 h
    unfold putS
    split
    · rename_i hx
      refine List.pairwise_cons.2 ⟨fun y hy => ?_, sorted_putS s q⟩
      rcases mem_putS.1 hy with e | hy
      · rw [e, ByteArray.toList_eq, ByteArray.toList_eq]; exact hx
      · exact p y hy
    · rename_i hx
      split
      · exact h
      · rename_i hne
        have hs : Op.bytesLess s.toList x.toList = true := by rw [ByteArray.toList_eq, ByteArray.toList_eq]; exact less_total hx hne
        refine List.pairwise_cons.2 ⟨fun y hy => ?_, h⟩
        rcases List.mem_cons.1 hy with e | hy
        · rw [e]; exact hs
        · exact less_trans hs (p y hy)
theorem sorted_joinS : ∀ {W H : List ByteArray}, SortedS H → SortedS (joinS H W)
  | [], H, h => h
  | y :: W, H, h => by
    show SortedS (joinS (putS H y) W)
    exact sorted_joinS (sorted_putS y h)
/-! ### states that may be -/
/-- Turns are told, what is held rises. -/
structure OkL (L : List S79) (last : Int) (B : Nat) : Prop where
  h0 : 0 ≤ last
  h1 : last ≤ B
  t : ∀ x ∈ L, 0 ≤ x.f3 ∧ x.f3 ≤ last
  s : ∀ x ∈ L, SortedS x.f1
theorem mem_setL {L : List S79} {x y : S79} (h : y ∈ setL L x) : y = x ∨ y ∈ L := by
  obtain ⟨z, hz, rfl⟩ := List.mem_map.1 h
  split
  · exact .inl rfl
  · exact .inr hz
theorem mem_withL {L : List S79} {id : Int} {y : S79} (h : y ∈ withL L id) : y ∈ L ∨ y = newW id := by
  unfold withL at h
  split at h
  · exact .inl h
  · rcases List.mem_append.1 h with h | h
    · exact .inl h
    · exact .inr (List.mem_singleton.1 h)
theorem getL_cases (L : List S79) (id : Int) : getL L id ∈ L ∨ getL L id = newW id := by
  unfold getL
  cases h : L.find? (fun x => decide (x.f0 = id)) with
  | none => exact .inr rfl
  | some x => exact .inl (List.mem_of_find?_eq_some h)
theorem ask_ok {L : List S79} {last : Int} {B : Nat} (h : OkL L last B) (id : Int) (ns : List ByteArray) : OkL (askL L last id ns).1 (askL L last id ns).2.1 (B + 1 + ns.length) := by
  have hq : (0 ≤ (getL L id).f3 ∧ (getL L id).f3 ≤ last) ∧ SortedS (getL L id).f1 := by
    rcases getL_cases L id with hm | e
    · exact ⟨h.t _ hm, h.s _ hm⟩
    · rw [e]; exact ⟨⟨Int.le_refl _, h.h0⟩, List.Pairwise.nil⟩
  have hw : ∀ x ∈ withL L id, (0 ≤ x.f3 ∧ x.f3 ≤ last) ∧ SortedS x.f1 := fun x hx => by
    rcases mem_withL hx with hm | e
    · exact ⟨h.t _ hm, h.s _ hm⟩
    · rw [e]; exact ⟨⟨Int.le_refl _, h.h0⟩, List.Pairwise.nil⟩
  have ht : 0 ≤ turnS last (getL L id) ∧ turnS last (getL L id) ≤ last + 1 := by unfold turnS; split <;> omega
  have h0 := h.h0
  have h1 := h.h1
  by_cases hk : keptL (withL L id) id (wantsS (getL L id).f1 (getL L id).f2 ns) (turnS last (getL L id)) = []
  · rw [askL_yes L last id ns rfl rfl hk]
    refine ⟨h0, by show last ≤ _; omega, fun x hx => ?_, fun x hx => ?_⟩ <;> rcases mem_setL hx with rfl | hm
    · exact ⟨Int.le_refl _, h0⟩
    · exact (hw x hm).1
    · exact sorted_joinS hq.2
    · exact (hw x hm).2
  · rw [askL_no L last id ns rfl rfl hk]
    have hm : last ≤ mxI last (turnS last (getL L id)) ∧ turnS last (getL L id) ≤ mxI last (turnS last (getL L id)) ∧ mxI last (turnS last (getL L id)) ≤ last + 1 := by unfold mxI; split <;> omega
    refine ⟨by show 0 ≤ mxI _ _; omega, by show mxI _ _ ≤ _; omega, fun x hx => ?_, fun x hx => ?_⟩ <;> rcases mem_setL hx with rfl | hm2
    · exact ⟨ht.1, hm.2.1⟩
    · exact ⟨(hw x hm2).1.1, Int.le_trans (hw x hm2).1.2 hm.1⟩
    · exact hq.2
    · exact (hw x hm2).2
theorem free_ok {L : List S79} {last : Int} {B : Nat} (h : OkL L last B) (id : Int) : OkL (freeL L id) last B := ⟨h.h0, h.h1, fun x hx => h.t x (List.mem_filter.1 hx).1, fun x hx => h.s x (List.mem_filter.1 hx).1⟩
/-- Locks in memory that are these; F: where they lie. -/
structure LockSt (w : World) (lb : Nat) (F : List Nat) (last : Int) (L : List S79) (B : Nat) : Prop where
  at_ : ∃ mb mn Q, LockAt w lb mb mn last Q ∧ datQ Q = L ∧ mn ≤ B ∧ (∀ x ∈ Q, x.1.nh + x.1.nw ≤ B) ∧ Q.length ≤ B ∧ F = footOf lb mb Q
  ok : OkL L last B
theorem LockSt.lt {w : World} {lb : Nat} {F : List Nat} {last : Int} {L : List S79} {B : Nat} (h : LockSt w lb F last L B) : ∀ k ∈ F, k < w.heap.size := by
  obtain ⟨mb, mn, Q, hL, _, _, _, _, rfl⟩ := h.at_
  exact hL.lt
theorem LockSt.chg {G : Nat → Prop} {w w' : World} {lb : Nat} {F : List Nat} {last : Int} {L : List S79} {B : Nat} (h : LockSt w lb F last L B) (hc : Chg G w w') (hg : ∀ k ∈ F, ¬ G k) : LockSt w' lb F last L B := by
  have hlt := h.lt
  obtain ⟨mb, mn, Q, hL, h1, h2, h3, h4, rfl⟩ := h.at_
  exact ⟨⟨mb, mn, Q, hL.at (fun k hk => hc.block k (hlt k hk) (hg k hk)), h1, h2, h3, h4, rfl⟩, h.ok⟩
theorem LockSt.below {w w' : World} {lb : Nat} {F : List Nat} {last : Int} {L : List S79} {B : Nat} (h : LockSt w lb F last L B) (hb : Below w.heap.size w w') : LockSt w' lb F last L B := h.chg (Chg.ofBelow (F := fun _ => False) hb) (fun _ _ q => q)
theorem repl_len (Q : List PW) (q : PW) : (replQ Q q).length = Q.length := by unfold replQ; simp
theorem st_new (w : World) : Calls Try.prog 10 #[] w fun e w' => ∃ lb F, e = .returned (.pointer (some ⟨lb, 0, none⟩)) ∧ LockSt w' lb F 0 [] 0 ∧ Below w.heap.size w w' ∧ ∀ k ∈ F, w.heap.size ≤ k :=
  (new_calls w).mono fun e w' ⟨lb, mb, he, hL, hb, h1, h2⟩ => ⟨lb, footOf lb mb [], he, ⟨⟨mb, 0, [], hL, rfl, Nat.le_refl _, (fun x hx => by cases hx), Nat.le_refl _, rfl⟩, ⟨Int.le_refl _, Int.le_refl _, (fun x hx => by cases hx), (fun x hx => by cases hx)⟩⟩, hb, fun k hk => by
    simp only [footOf, List.flatMap_nil, List.mem_cons, List.not_mem_nil, or_false] at hk
    rcases hk with rfl | rfl
    · exact h1
    · exact h2⟩
theorem st_free {lb : Nat} {F : List Nat} {last : Int} {L : List S79} {B : Nat} {w : World} (id : Int) (h : LockSt w lb F last L B) (hid : (Lit.int .i64 id).wf = true) : Calls Try.prog 13 #[.pointer (some ⟨lb, 0, none⟩), .int .i64 id] w fun e w' => e = .returned (.tuple #[]) ∧ ∃ F', LockSt w' lb F' last (freeL L id) B ∧ (∀ k ∈ F', k ∈ F) ∧ Chg (fun k => k ∈ F) w w' := by
  have hok := h.ok
  obtain ⟨mb, mn, Q, hL, h1, h2, h3, h4, rfl⟩ := h.at_
  refine (free_calls lb mb mn last Q id w hL hid).mono fun e w' ⟨he, hL', hg⟩ => ⟨he, footOf lb mb (freeQ Q id), ⟨⟨mb, mn, freeQ Q id, hL', by rw [free_dat, h1], h2, fun x hx => h3 x (List.mem_filter.1 hx).1, Nat.le_trans (List.length_filter_le _ _) h4, rfl⟩, free_ok hok id⟩, fun k hk => ?_, Chg.ofGrown hg (fun k e => by injection e with e; rw [e]; simp [footOf])⟩
  unfold footOf at hk ⊢
  simp only [List.mem_cons] at hk ⊢
  rcases hk with e | e | e
  · exact .inl e
  · exact .inr (.inl e)
  · exact .inr (.inr ((sub_flatMap (List.filter_sublist) _).subset e))
theorem withL_len {Q : List PW} {Q1 : List PW} {id : Int} (h : datQ Q1 = withL (datQ Q) id) : Q1.length ≤ Q.length + 1 := by
  have := congrArg List.length h
  unfold datQ withL at this
  rw [List.length_map] at this
  rw [this]
  split <;> simp
theorem askL_len (L : List S79) (last id : Int) (ns : List ByteArray) : (askL L last id ns).1.length ≤ L.length + 1 := by
  unfold askL
  simp only
  have h : (withL L id).length ≤ L.length + 1 := by unfold withL; split <;> simp
  split <;> simpa [setL] using h
theorem st_ask0 {lb : Nat} {F : List Nat} {last : Int} {L : List S79} {B : Nat} {w : World} (id : Int) (A0 : Option Addr) (c0 : Nat) (ns : List ByteArray) (h : LockSt w lb F last L B) (hid : (Lit.int .i64 id).wf = true) (hbn : B + ns.length ≤ 100000)
    (hr : Kd.C Kd.string w A0 ns.length ns) (hc0 : ns.length ≤ c0) (hsz : ∀ s ∈ ns, s.size ≤ 9223372036854775807) (hfar : 0 < ns.length → ∀ ad, A0 = some ad → ad.block ∉ F) :
    Calls Try.prog 14 #[.pointer (some ⟨lb, 0, none⟩), .int .i64 id, .slice A0 ns.length c0] w fun e w' => e = .returned (.bool (askL L last id ns).2.2) ∧ ∃ F', LockSt w' lb F' (askL L last id ns).2.1 (askL L last id ns).1 (B + 1 + ns.length) ∧ (∀ k ∈ F', k ∈ F ∨ w.heap.size ≤ k) ∧ Chg (fun k => k ∈ F) w w' := by
  have hok := h.ok
  obtain ⟨mb, mn, Q, hL, h1, h2, h3, h4, rfl⟩ := h.at_
  have hl := hok.h0
  have hl2 := hok.h1
  subst h1
  refine (ask_calls lb mb mn last Q id A0 c0 ns B w hL hid h2 h3 hbn ⟨hl, by omega⟩ hr hc0 hsz hfar).mono fun e w' ⟨mn', Q', he, hL', hd, hm, hb, hc, hf⟩ => ⟨he, footOf lb mb Q', ⟨⟨mb, mn', Q', hL', hd, hm, hb, ?_, rfl⟩, ask_ok hok id ns⟩, hf, hc⟩
  have e1 := askL_len (datQ Q) last id ns
  rw [← hd] at e1
  unfold datQ at e1
  rw [List.length_map, List.length_map] at e1
  omega
theorem st_ask {lb : Nat} {F : List Nat} {last : Int} {L : List S79} {B : Nat} {w : World} (id : Int) (A0 : Option Addr) (c0 : Nat) (ns : List ByteArray) (h : LockSt w lb F last L B) (hid : (Lit.int .i64 id).wf = true) (hbn : B + ns.length ≤ 100000)
    (hr : Kd.C Kd.string w A0 ns.length ns) (hc0 : ns.length ≤ c0) (hsz : ∀ s ∈ ns, s.size ≤ 9223372036854775807) (hfar : ∀ ad, A0 = some ad → ad.block ∉ F) :
    Calls Try.prog 14 #[.pointer (some ⟨lb, 0, none⟩), .int .i64 id, .slice A0 ns.length c0] w fun e w' => e = .returned (.bool (askL L last id ns).2.2) ∧ ∃ F', LockSt w' lb F' (askL L last id ns).2.1 (askL L last id ns).1 (B + 1 + ns.length) ∧ (∀ k ∈ F', k ∈ F ∨ w.heap.size ≤ k) ∧ Chg (fun k => k ∈ F) w w' := st_ask0 id A0 c0 ns h hid hbn hr hc0 hsz (fun _ => hfar)
theorem st_waits {lb : Nat} {F : List Nat} {last : Int} {L : List S79} {B : Nat} {w : World} (id : Int) (h : LockSt w lb F last L B) (hid : (Lit.int .i64 id).wf = true) (hB : B ≤ 1000000) :
    Calls Try.prog 16 #[.pointer (some ⟨lb, 0, none⟩), .int .i64 id] w fun e w' => ∃ v, e = .returned v ∧ Kd.R (Kd.int .i64) 2 w' w.heap.size (fun _ => True) v (waitsL L id) ∧ Below w.heap.size w w' := by
  obtain ⟨mb, mn, Q, hL, h1, h2, h3, h4, rfl⟩ := h.at_
  rw [← h1, ← waits_dat hL]
  exact waits_calls lb mb mn last Q id w hL hid (by omega)
theorem st_holds {lb : Nat} {F : List Nat} {last : Int} {L : List S79} {B : Nat} {w : World} (id : Int) (h : LockSt w lb F last L B) (hid : (Lit.int .i64 id).wf = true) (hB : B ≤ 1000000) :
    Calls Try.prog 15 #[.pointer (some ⟨lb, 0, none⟩), .int .i64 id] w fun e w' => ∃ v, e = .returned v ∧ Kd.R Kd.string 9 w' w.heap.size (fun _ => True) v (holdsL L id) ∧ Below w.heap.size w w' := by
  have hok := h.ok
  obtain ⟨mb, mn, Q, hL, h1, h2, h3, h4, rfl⟩ := h.at_
  subst h1
  rw [← holds_dat]
  exact holds_calls lb mb mn last Q id w hL hid (fun q hq => hok.s q.2 (List.mem_map.2 ⟨q, hq, rfl⟩)) (fun q hq => by have := h3 q hq; omega)
theorem st_round {lb : Nat} {F : List Nat} {last : Int} {L : List S79} {B : Nat} {w : World} (h : LockSt w lb F last L B) (hB : B ≤ 1000000) :
    Calls Try.prog 17 #[.pointer (some ⟨lb, 0, none⟩)] w fun e w' => ∃ v out, e = .returned v ∧ Kd.R (Kd.int .i64) 2 w' w.heap.size (fun _ => True) v out ∧ RoundL L out ∧ Below w.heap.size w w' := by
  obtain ⟨mb, mn, Q, hL, h1, h2, h3, h4, rfl⟩ := h.at_
  subst h1
  exact (round_calls lb mb mn last Q w hL (by omega) (by omega)).mono fun e w' ⟨v, out, he, hR, hr, hb⟩ => ⟨v, out, he, hR, round_dat hL hr, hb⟩
end Go.Proofs.Ytimlfdfmgajbnaa.PA
