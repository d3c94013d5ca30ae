/-
Locks: made, New, Free, Waits.
-/
import Derived.Test.YtimlfdfmgajbnaaLk5
import Derived.Laws.Pointers
import Derived.WalkSpells
namespace Go.Proofs.Ytimlfdfmgajbnaa.PA
open Go.RowKit Go.Proofs.YtimlfdfmgajbnaaW.PrintWords Go.Proofs.YtimlfdfmgajbnaaW.PrintLast Go.Proofs.YtimlfdfmgajbnaaW.PrintMore
open Go.Proofs.Ytimlfdfmgajbnaa.Mp
set_option linter.unusedVariables false
set_option linter.unusedSimpArgs false
theorem ne_nil25 (W : World) (p : Option Addr) : (binOp .neq 25 (.pointer p) (.pointer none)).run Try.prog W = .ok (.bool (!p.isNone)) W := run_neq_pointer_nil W 25 p (by kernel_rfl)
theorem eq_nil55 (W : World) (p : Option Addr) : (binOp .eql 55 (.pointer p) (.pointer none)).run Try.prog W = .ok (.bool p.isNone) W := run_eql_pointer_nil W 55 p (by kernel_rfl)
theorem ne_nil36 (W : World) (m : Option Nat) : (binOp .neq 36 (.map m) (.map none)).run Try.prog W = .ok (.bool (!m.isNone)) W := run_neq_map_nil W 36 2 55 m Try.underlying36
theorem l_cells {w : World} {lb mb mn : Nat} {last : Int} {Q : List PW} (h : LockAt w lb mb mn last Q) : w.cell? ⟨lb, 0, none⟩ = some (.map (some mb)) ∧ w.cell? ⟨lb, 1, none⟩ = some (.int .i64 last) := by
  constructor <;> simp [World.cell?, h.l]
theorem w_cells {w : World} {q : PW} (h : WorkAt w q) : w.cell? ⟨q.1.k, 0, none⟩ = some (.map (some q.1.hb)) ∧ w.cell? ⟨q.1.k, 1, none⟩ = some (.map (some q.1.wb)) ∧ w.cell? ⟨q.1.k, 2, none⟩ = some (.int .i64 q.2.f3) := by
  refine ⟨?_, ?_, ?_⟩ <;> simp [World.cell?, h.b]
theorem make_event {P : Program} {ops : Array Oper} {rest : List Oper} {o : Oper} {a : Act} {Q : Exit → Act → World → Prop} {W : World} (hg : o.guard = none) {t : TypeId} (ho : o.op = .makeMap t none) (k : TypeId) (h : ∀ b, b = W.heap.size → ∀ W', MapIs P k W' b 0 (fun _ => none) → Below W.heap.size W W' → wpList P ops Q rest (a.put o.dst (.map (some b))) W') : wpList P ops Q (o :: rest) a W := by
  refine Kd.event_run hg (v := .map (some W.heap.size)) (w1 := W.alloc (.map #[] 0)) ?_ (h _ rfl _ (made P k W) (below_alloc (Below.refl _ _) _))
  unfold execOp
  simp only [ho]
  simp [run_makeMap, Result.andThen]
/-! ### made -/
theorem made_yes (lb mb mn : Nat) (last : Int) (Q : List PW) (w : World) (h : LockAt w lb mb mn last Q) : Calls Try.prog 31 #[.pointer (some ⟨lb, 0, none⟩)] w fun e w' => e = .returned (.bool true) ∧ w = w' := by
  have hc := (l_cells h).1
  clear h
  have h1 := ne_nil25 w (some ⟨lb, 0, none⟩)
  have h2 := ne_nil36 w (some mb)
  go_enter Try.func31, Try.ntmps31
  go_wp2
  go_ret
  exact ⟨rfl, rfl⟩
theorem made_nil (w : World) : Calls Try.prog 31 #[.pointer none] w fun e w' => e = .returned (.bool false) ∧ w = w' := by
  have h1 := ne_nil25 w none
  go_enter Try.func31, Try.ntmps31
  go_wp2
  go_ret
  exact ⟨rfl, rfl⟩
theorem made_not (lb : Nat) (w : World) (hc : w.cell? ⟨lb, 0, none⟩ = some (.map none)) : Calls Try.prog 31 #[.pointer (some ⟨lb, 0, none⟩)] w fun e w' => e = .returned (.bool false) ∧ w = w' := by
  have h1 := ne_nil25 w (some ⟨lb, 0, none⟩)
  have h2 := ne_nil36 w none
  go_enter Try.func31, Try.ntmps31
  go_wp2
  go_ret
  exact ⟨rfl, rfl⟩
/-! ### New -/
theorem worksF_nil (kl : Lit) : worksF [] kl = none := by unfold worksF; split <;> rfl
set_option maxHeartbeats 400000 in
theorem new_calls (w : World) : Calls Try.prog 10 #[] w fun e w' => ∃ lb mb, e = .returned (.pointer (some ⟨lb, 0, none⟩)) ∧ LockAt w' lb mb 0 0 [] ∧ Below w.heap.size w w' ∧ w.heap.size ≤ lb ∧ w.heap.size ≤ mb := by
  have HB := Aside0.mk (Below.refl w.heap.size w)
  go_enter Try.func10, Try.ntmps10
  go_wp2_with (first | ((with_reducible refine gate_dst (N := 1) rfl ?_); refine make_event rfl rfl 2 ?_; intro bm hbm W2 hm hb; have GM := Aside0.mk (by rw [hbm]; exact Nat.le_refl _ : w.heap.size ≤ bm); have HM := Aside0.mk hm; clear HB; have HB := Aside0.mk hb; clear hm hb hbm) | ((with_reducible refine gate_dst (N := 3) rfl ?_); refine box_event ?hg (N := 3) ?hd (cs := #[.map (some bm), .int .i64 0]) (t := 38) ?hr ?_; (case hd => rfl); (case hg => rfl); (case hr => first | (go_simp; done) | (go_simp; rfl)); intro g hg W3 hbox hb; have GL := Aside0.mk (by rw [hg]; exact HB.out.size : w.heap.size ≤ g); have HMn := Aside0.mk (HM.out.below hb); clear HM; have HM := HMn; clear HMn; have HBn := Aside0.mk (below_step HB.out hb); clear HB; have HB := HBn; clear HBn; have BK := Aside0.mk hbox; clear hg hbox hb))
  go_ret
  exact ⟨g, bm, rfl, ⟨BK.out, HM.out.congr (fun kl => (worksF_nil kl).symm), (fun q hq => by cases hq), List.nodup_nil, List.nodup_nil, by simp [mapsOf], (fun q hq => by cases hq)⟩, HB.out, GL.out, GM.out⟩
/-! ### Free -/
def freeQ (Q : List PW) (id : Int) : List PW := Q.filter (fun q => decide (q.2.f0 ≠ id))
theorem worksF_free {Q : List PW} (hn : (idsOf Q).Nodup) (id : Int) (kl : Lit) : upd (worksF Q) (.int .i64 id) none kl = worksF (freeQ Q id) kl := by
  unfold upd
  split
  · rename_i e
    rw [e, worksF_none]
    intro q hq
    simpa using (List.mem_filter.1 hq).2
  · rename_i e
    cases h : worksF (freeQ Q id) kl with
    | some v =>
      obtain ⟨q, hq, rfl, rfl⟩ := worksF_some h
      exact worksF_mem hn (List.mem_filter.1 hq).1
    | none =>
      cases h2 : worksF Q kl with
      | none => rfl
      | some v =>
        obtain ⟨q, hq, rfl, rfl⟩ := worksF_some h2
        have h3 : q ∈ freeQ Q id := List.mem_filter.2 ⟨hq, by simp; intro e2; exact e (by rw [e2])⟩
        have hn2 : (idsOf (freeQ Q id)).Nodup := hn.sublist (List.Sublist.map _ List.filter_sublist)
        rw [worksF_mem hn2 h3] at h
        cases h
theorem sub_flatMap {Q R : List PW} (h : R.Sublist Q) (f : PW → List Nat) : (R.flatMap f).Sublist (Q.flatMap f) := by
  induction h with
  | slnil => exact List.Sublist.slnil
  | cons a _ ih => rw [List.flatMap_cons]; exact ih.trans (List.sublist_append_right _ _)
  | cons_cons a _ ih => rw [List.flatMap_cons, List.flatMap_cons]; exact (List.Sublist.refl _).append ih
theorem maps_sub {mb : Nat} {Q R : List PW} (h : R.Sublist Q) (hm : (mapsOf mb Q).Nodup) : (mapsOf mb R).Nodup := hm.sublist ((sub_flatMap h _).cons_cons mb)
theorem maps_ne {mb : Nat} {Q : List PW} (hm : (mapsOf mb Q).Nodup) {q : PW} (hq : q ∈ Q) : mb ≠ q.1.hb ∧ mb ≠ q.1.wb := by
  obtain ⟨h1, _⟩ := List.nodup_cons.1 hm
  exact ⟨fun e => h1 (List.mem_flatMap.2 ⟨q, hq, by simp [e]⟩), fun e => h1 (List.mem_flatMap.2 ⟨q, hq, by simp [e]⟩)⟩
theorem free_at {w w' : World} {lb mb mn mn' : Nat} {last : Int} {Q : List PW} {id : Int} (h : LockAt w lb mb mn last Q) (hm : MapIs Try.prog 2 w' mb mn' (upd (worksF Q) (.int .i64 id) none)) (hg : w.grownBy w' (some mb)) : LockAt w' lb mb mn' last (freeQ Q id) := by
  have hs : (freeQ Q id).Sublist Q := List.filter_sublist
  refine ⟨(hg.block lb (blk_lt h.l) (fun e => cells_ne_map h.l h.m (by injection e))).trans h.l, hm.congr (worksF_free h.ids id), fun q hq => ?_, h.ids.sublist (hs.map _), h.ks.sublist (hs.map _), maps_sub hs h.maps, fun q hq => h.wf q (hs.subset hq)⟩
  have hq' := hs.subset hq
  have hw := h.wk q hq'
  have hne := maps_ne h.maps hq'
  exact hw.at (hg.block _ (blk_lt hw.b) (fun e => cells_ne_map hw.b h.m (by injection e))) (hg.block _ hw.h.lt (fun e => hne.1 (by injection e with e; exact e.symm))) (hg.block _ hw.w.lt (fun e => hne.2 (by injection e with e; exact e.symm)))
set_option maxHeartbeats 400000 in
theorem free_calls (lb mb mn : Nat) (last : Int) (Q : List PW) (id : Int) (w : World) (h : LockAt w lb mb mn last Q) (hid : (Lit.int .i64 id).wf = true) :
    Calls Try.prog 13 #[.pointer (some ⟨lb, 0, none⟩), .int .i64 id] w fun e w' => e = .returned (.tuple #[]) ∧ LockAt w' lb mb mn last (freeQ Q id) ∧ w.grownBy w' (some mb) := by
  have hc := (l_cells h).1
  have HL := Aside0.mk h
  have HI := Aside0.mk hid
  clear h hid
  go_enter Try.func13, Try.ntmps13
  go_wp2_with (first | (go_at_call 31; (with_reducible refine (made_yes lb mb mn last Q _ HL.out).mono ?_); rintro e w' ⟨rfl, rfl⟩) | (at_delete; refine delete_event HL.out.m rfl _ _ rfl keyed2 Try.underlying36 rfl rfl (key_i id HI.out) ?_; intro W2 hm hg; have HL2 := Aside0.mk (free_at HL.out hm hg); have HG := Aside0.mk hg; clear hm hg))
  go_end0
  exact ⟨rfl, HL2.out, HG.out⟩
/-! ### Waits -/
def waitsQ (Q : List PW) (id : Int) : List Int := match Q.find? (fun q => decide (q.2.f0 = id)) with
  | none => []
  | some q => if q.2.f3 = 0 then [] else sortI (keptQ Q q.1.k q.2.f2 q.2.f3)
set_option maxHeartbeats 8000000 in
set_option maxRecDepth 100000 in
theorem waits_calls (lb mb mn : Nat) (last : Int) (Q : List PW) (id : Int) (w : World) (h : LockAt w lb mb mn last Q) (hid : (Lit.int .i64 id).wf = true) (hmn : mn ≤ 1000000) :
    Calls Try.prog 16 #[.pointer (some ⟨lb, 0, none⟩), .int .i64 id] w fun e w' => ∃ v, e = .returned v ∧ Kd.R (Kd.int .i64) 2 w' w.heap.size (fun _ => True) v (waitsQ Q id) ∧ Below w.heap.size w w' := by
  have hc := (l_cells h).1
  have hlook := h.m.lookup_run keyed2 Try.underlying36 (zero55 w) (key_i id hid)
  have HL := Aside0.mk h; have HMN := Aside0.mk hmn
  have HB := Aside0.mk (Below.refl w.heap.size w)
  rw [worksF_at] at hlook
  cases hf : Q.find? (fun q => decide (q.2.f0 = id)) with
  | none =>
    rw [hf] at hlook
    simp only [Option.map_none, Option.getD_none] at hlook
    have HZ := Aside0.mk (show waitsQ Q id = [] by unfold waitsQ; rw [hf])
    have hn := eq_nil55 w none
    clear h hid hmn hf
    go_enter Try.func16, Try.ntmps16
    go_wp2_with (first | (go_at_call 31; (with_reducible refine (made_yes lb mb mn last Q _ HL.out).mono ?_); rintro e w' ⟨rfl, rfl⟩))
    go_ret
    exact ⟨_, rfl, by rw [HZ.out]; exact Kd.R_nil _ _ _ _ _, HB.out⟩
  | some q =>
    have hq := List.mem_of_find?_eq_some hf
    rw [hf] at hlook
    simp only [Option.map_some, Option.getD_some] at hlook
    have hn := eq_nil55 w (some ⟨q.1.k, 0, none⟩)
    obtain ⟨c0, c1, c2⟩ := w_cells (h.wk q hq)
    by_cases ht : q.2.f3 = 0
    · have HZ := Aside0.mk (show waitsQ Q id = [] by unfold waitsQ; rw [hf]; simp [ht])
      have ht0 : (q.2.f3 == 0) = true := by rw [ht]; rfl
      clear h hid hmn hf hq ht
      go_enter Try.func16, Try.ntmps16
      go_wp2_with (first | (go_at_call 31; (with_reducible refine (made_yes lb mb mn last Q _ HL.out).mono ?_); rintro e w' ⟨rfl, rfl⟩))
      go_ret
      exact ⟨_, rfl, by rw [HZ.out]; exact Kd.R_nil _ _ _ _ _, HB.out⟩
    · have HZ := Aside0.mk (show waitsQ Q id = sortI (keptQ Q q.1.k q.2.f2 q.2.f3) by unfold waitsQ; rw [hf]; simp [ht])
      have ht0 : (q.2.f3 == 0) = false := by rw [beq_eq_false_iff_ne]; exact ht
      have HQ := Aside0.mk hq
      clear h hid hmn hf hq ht
      go_enter Try.func16, Try.ntmps16
      go_wp2_with (first | (go_at_call 31; (with_reducible refine (made_yes lb mb mn last Q _ HL.out).mono ?_); rintro e w' ⟨rfl, rfl⟩))
      refine start_ (n := 12) (S := (fun w' => w'.cell? ⟨q.1.k, 1, none⟩ = some (.map (some q.1.wb)) ∧ w'.cell? ⟨q.1.k, 2, none⟩ = some (.int .i64 q.2.f3))) (ds := []) (Sh.m 0 12) (by kernel_rfl) rfl rfl ⟨c1, c2⟩ (fun hHeld => ?_)
      (have HBn := Aside0.mk (below_drew1 HB.out); clear HB; have HB := HBn; clear HBn; have HL1 := Aside0.mk (HL.out.below (below_drew1 (Below.refl _ w))); have hw1 : w.heap.size = w.drew.heap.size := rfl; have HW1 := Aside0.mk hw1; clear hw1 hlook hn hc c0 c1 c2; generalize w.drew = W1 at HB HL1 HW1 hHeld ⊢)
      refine pure_ (i := 0) (N := some 36) (v := ?_) (a' := ?_) (Sh.m 1 11) rfl rfl (by kernel_rfl) (fun _ _ _ h => h) (Or.inl ⟨by rfl, ?_⟩) ?_ ?_
      rotate_left
      · intro w'
        go_simp
        with_reducible rfl
      rotate_left
      · simp only [Act.put, List.setIfInBounds_toArray, List.set_cons_zero, List.set_cons_succ, i64_w, i32_w]
        rfl
      refine pure_ (i := 1) (N := some 37) (v := ?_) (a' := ?_) (Sh.m 2 10) rfl rfl (by kernel_rfl) (fun _ _ _ h => h) (Or.inl ⟨by rfl, ?_⟩) ?_ ?_
      rotate_left
      · intro w'
        go_simp
        with_reducible rfl
      rotate_left
      · simp only [Act.put, List.setIfInBounds_toArray, List.set_cons_zero, List.set_cons_succ, i64_w, i32_w]
        rfl
      refine pure_ (i := 2) (N := some 38) (v := ?_) (a' := ?_) (Sh.m 3 9) rfl rfl (by kernel_rfl) (fun _ _ _ h => h) (Or.inl ⟨by rfl, ?_⟩) ?_ ?_
      rotate_left
      · intro w'
        go_simp
        with_reducible rfl
      rotate_left
      · simp only [Act.put, List.setIfInBounds_toArray, List.set_cons_zero, List.set_cons_succ, i64_w, i32_w]
        rfl
      refine pure_ (i := 3) (N := some 39) (v := ?_) (a' := ?_) (Sh.m 4 8) rfl rfl (by kernel_rfl) (fun _ _ _ h => h) (Or.inl ⟨by rfl, ?_⟩) ?_ ?_
      rotate_left
      · intro w'
        go_simp
        with_reducible rfl
      rotate_left
      · simp only [Act.put, List.setIfInBounds_toArray, List.set_cons_zero, List.set_cons_succ, i64_w, i32_w]
        rfl
      refine pure_ (i := 4) (N := some 40) (v := ?_) (a' := ?_) (Sh.m 5 7) rfl rfl (by kernel_rfl) (fun _ _ _ h => h) (Or.inl ⟨by rfl, ?_⟩) ?_ ?_
      rotate_left
      · intro w'
        go_simp
        with_reducible rfl
      rotate_left
      · simp only [Act.put, List.setIfInBounds_toArray, List.set_cons_zero, List.set_cons_succ, i64_w, i32_w]
        rfl
      refine take_ (i := 5) (N := some 41) (v := ?_) (a' := ?_) (Sh.m 6 6) rfl rfl (by kernel_rfl) (fun _ _ _ h => h) (Or.inl ⟨by rfl, ?_⟩) hHeld ?_ ?_
      rotate_left
      · rintro w' ⟨s0, s1⟩
        go_simp
        with_reducible rfl
      rotate_left
      · simp only [Act.put, List.setIfInBounds_toArray, List.set_cons_zero, List.set_cons_succ, i64_w, i32_w]
        rfl
      refine pure_ (i := 6) (N := some 42) (v := ?_) (a' := ?_) (Sh.m 7 5) rfl rfl (by kernel_rfl) (fun _ _ _ h => h) (Or.inl ⟨by rfl, ?_⟩) ?_ ?_
      rotate_left
      · intro w'
        go_simp
        with_reducible rfl
      rotate_left
      · simp only [Act.put, List.setIfInBounds_toArray, List.set_cons_zero, List.set_cons_succ, i64_w, i32_w]
        rfl
      refine pure_ (i := 7) (N := some 43) (v := ?_) (a' := ?_) (Sh.m 8 4) rfl rfl (by kernel_rfl) (fun _ _ _ h => h) (Or.inl ⟨by rfl, ?_⟩) ?_ ?_
      rotate_left
      · intro w'
        go_simp
        with_reducible rfl
      rotate_left
      · simp only [Act.put, List.setIfInBounds_toArray, List.set_cons_zero, List.set_cons_succ, i64_w, i32_w]
        rfl
      refine pure_ (i := 8) (N := some 44) (v := ?_) (a' := ?_) (Sh.m 9 3) rfl rfl (by kernel_rfl) (fun _ _ _ h => h) (Or.inl ⟨by rfl, ?_⟩) ?_ ?_
      rotate_left
      · intro w'
        go_simp
        with_reducible rfl
      rotate_left
      · simp only [Act.put, List.setIfInBounds_toArray, List.set_cons_zero, List.set_cons_succ, i64_w, i32_w]
        rfl
      refine take_ (i := 9) (N := some 45) (v := ?_) (a' := ?_) (Sh.m 10 2) rfl rfl (by kernel_rfl) (fun _ _ _ h => h) (Or.inl ⟨by rfl, ?_⟩) hHeld ?_ ?_
      rotate_left
      · rintro w' ⟨s0, s1⟩
        go_simp
        with_reducible rfl
      rotate_left
      · simp only [Act.put, List.setIfInBounds_toArray, List.set_cons_zero, List.set_cons_succ, i64_w, i32_w]
        rfl
      refine one_ (i := 10) (N := some 46) (Sh.m 11 1) rfl rfl (by kernel_rfl) (by decide) (fun K hK => ?_)
      refine goes_ Try.func33 (by kernel_rfl) rfl #[.pointer (some ⟨lb, 0, none⟩), .pointer (some ⟨q.1.k, 0, none⟩), .map (some q.1.wb), .int .i64 q.2.f3] (by rfl) rfl rfl (by (try simp only [List.map_toArray, List.map_cons, List.map_nil]); first | done | rfl) ?_
      with_reducible refine (kept_calls lb mb mn last Q q.1.k q.1.wb q.1.nw q.2.f2 q.2.f3 _ HL1.out ⟨_, (HL1.out.wk q HQ.out).b⟩ (HL1.out.wk q HQ.out).w HMN.out).mono ?_
      rintro e W2 ⟨v, rfl, hR, hb⟩
      refine ⟨_, rfl, ?_⟩
      have HBn := Aside0.mk (below_step HB.out hb); clear HB; have HB := HBn; clear HBn
      have HR := Aside0.mk (Kd.R_lower hR (Nat.le_of_eq HW1.out))
      obtain ⟨k0, k1⟩ := hHeld
      refine hK.out _ _ ⟨cell_keep k0 hb, cell_keep k1 hb⟩ (fun hHeld => ?_)
      clear hK K
      refine norm_ (a' := ?_) ?_ ?_
      rotate_left
      · show Act.put _ (some 46) _ = _
        simp only [Act.put, List.setIfInBounds_toArray, List.set_cons_zero, List.set_cons_succ, i64_w, i32_w]
        rfl
      refine pure_ (i := 11) (N := some 4) (v := ?_) (a' := ?_) (Sh.m 12 0) rfl rfl (by kernel_rfl) (fun _ _ _ h => h) (Or.inl ⟨by rfl, ?_⟩) ?_ ?_
      rotate_left
      · intro w'
        go_simp
        with_reducible rfl
      rotate_left
      · simp only [Act.put, List.setIfInBounds_toArray, List.set_cons_zero, List.set_cons_succ, i64_w, i32_w]
        rfl
      refine done_ (by kernel_rfl) ?_
      go_wp2
      go_ret
      exact ⟨_, rfl, by rw [HZ.out]; exact HR.out, HB.out⟩
end Go.Proofs.Ytimlfdfmgajbnaa.PA
