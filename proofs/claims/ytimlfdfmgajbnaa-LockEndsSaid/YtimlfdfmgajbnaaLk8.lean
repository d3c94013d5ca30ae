/-
What asking comes to, on works told as data; a work that comes new.
-/
import Derived.Test.YtimlfdfmgajbnaaLk7
namespace Go.Proofs.Ytimlfdfmgajbnaa.PA
open Go.RowKit Go.Proofs.YtimlfdfmgajbnaaW.PrintWords Go.Proofs.YtimlfdfmgajbnaaW.PrintLast Go.Proofs.YtimlfdfmgajbnaaW.PrintMore
open Go.Proofs.Ytimlfdfmgajbnaa.Mp
set_option linter.unusedVariables false
set_option linter.unusedSimpArgs false
theorem wrapI {x : Int} (h0 : -9223372036854775808 ≤ x) (h1 : x ≤ 9223372036854775807) : wrap64 x = x := by unfold wrap64; omega
theorem add_block (ad : Addr) (i : Nat) : (ad.add i).block = ad.block := by unfold Addr.add; split <;> rfl
def newW (id : Int) : S79 := ⟨id, [], [], 0⟩
def getL (L : List S79) (id : Int) : S79 := (L.find? (fun x => decide (x.f0 = id))).getD (newW id)
def withL (L : List S79) (id : Int) : List S79 := match L.find? (fun x => decide (x.f0 = id)) with | some _ => L | none => L ++ [newW id]
def keptL (L : List S79) (id : Int) (W : List ByteArray) (t : Int) : List Int := (L.filter (fun x => decide (x.f0 ≠ id) && keepB x.f1 x.f2 x.f3 W t)).map (fun x => x.f0)
def setL (L : List S79) (x' : S79) : List S79 := L.map (fun x => if x.f0 = x'.f0 then x' else x)
def turnS (last : Int) (x : S79) : Int := if x.f3 = 0 then last + 1 else x.f3
def mxI (a b : Int) : Int := if a < b then b else a
/-- What asking for some names comes to: all works, the last turn, is it granted? -/
def askL (L : List S79) (last id : Int) (ns : List ByteArray) : List S79 × Int × Bool :=
  let q := getL L id
  let W := wantsS q.f1 q.f2 ns
  let t := turnS last q
  if keptL (withL L id) id W t = [] then (setL (withL L id) ⟨id, joinS q.f1 W, [], 0⟩, last, true) else (setL (withL L id) ⟨id, q.f1, W, t⟩, mxI last t, false)
theorem askL_yes (L : List S79) (last id : Int) (ns : List ByteArray) {W : List ByteArray} {t : Int} (hW : W = wantsS (getL L id).f1 (getL L id).f2 ns) (ht : t = turnS last (getL L id)) (hk : keptL (withL L id) id W t = []) : askL L last id ns = (setL (withL L id) ⟨id, joinS (getL L id).f1 W, [], 0⟩, last, true) := by
  subst hW ht
  unfold askL
  simp only
  rw [if_pos hk]
theorem askL_no (L : List S79) (last id : Int) (ns : List ByteArray) {W : List ByteArray} {t : Int} (hW : W = wantsS (getL L id).f1 (getL L id).f2 ns) (ht : t = turnS last (getL L id)) (hk : keptL (withL L id) id W t ≠ []) : askL L last id ns = (setL (withL L id) ⟨id, (getL L id).f1, W, t⟩, mxI last t, false) := by
  subst hW ht
  unfold askL
  simp only
  rw [if_neg hk]
def datQ (Q : List PW) : List S79 := Q.map (fun q => q.2)
theorem ids_dat (Q : List PW) : (datQ Q).map (fun x => x.f0) = idsOf Q := by unfold datQ idsOf; rw [List.map_map]; rfl
theorem find_dat (Q : List PW) (id : Int) : (datQ Q).find? (fun x => decide (x.f0 = id)) = (Q.find? (fun q => decide (q.2.f0 = id))).map (fun q => q.2) := by
  unfold datQ
  rw [List.find?_map]
  rfl
theorem dat_repl (Q : List PW) (q' : PW) : datQ (replQ Q q') = setL (datQ Q) q'.2 := by
  unfold datQ replQ setL
  rw [List.map_map, List.map_map]
  apply List.map_congr_left
  intro x _
  simp only [Function.comp]
  split <;> rfl
theorem setL_setL (L : List S79) (x y : S79) (h : x.f0 = y.f0) : setL (setL L x) y = setL L y := by
  unfold setL
  rw [List.map_map]
  apply List.map_congr_left
  intro z _
  simp only [Function.comp]
  by_cases e : z.f0 = x.f0
  · rw [if_pos e, if_pos h, if_pos (e.trans h)]
  · rw [if_neg e, if_neg (fun e2 => e (e2.trans h.symm))]
theorem kept_dat {w : World} {lb mb mn : Nat} {last : Int} {Q : List PW} (h : LockAt w lb mb mn last Q) {q : PW} (hq : q ∈ Q) (W : List ByteArray) (t : Int) : keptQ Q q.1.k W t = keptL (datQ Q) q.2.f0 W t := by
  unfold keptQ keptL datQ
  rw [List.filter_map, List.map_map]
  have e : Q.filter (fun x => decide (x.1.k ≠ q.1.k) && keepB x.2.f1 x.2.f2 x.2.f3 W t) = Q.filter ((fun x : S79 => decide (x.f0 ≠ q.2.f0) && keepB x.f1 x.f2 x.f3 W t) ∘ fun q : PW => q.2) := by
    apply List.filter_congr
    intro x hx
    simp only [Function.comp]
    by_cases e : x.2.f0 = q.2.f0
    · rw [ids_inj h.ids hx hq e]; simp
    · have h1 := k_ne h hx hq e
      rw [decide_eq_true h1, decide_eq_true e]
  rw [e]
  rfl
theorem keptL_set (L : List S79) (x' : S79) (W : List ByteArray) (t : Int) : keptL (setL L x') x'.f0 W t = keptL L x'.f0 W t := by
  unfold keptL setL
  induction L with
  | nil => rfl
  | cons y L ih =>
    rw [List.map_cons]
    by_cases e : y.f0 = x'.f0
    · rw [if_pos e, List.filter_cons, List.filter_cons]
      simp only [e, ne_eq, not_true_eq_false, decide_false, Bool.false_and, Bool.false_eq_true, if_false]
      exact ih
    · rw [if_neg e, List.filter_cons, List.filter_cons]
      split
      · rw [List.map_cons, List.map_cons, ih]
      · exact ih
theorem worksF_add {Q : List PW} {p : PW} (hid : ∀ q ∈ Q, q.2.f0 ≠ p.2.f0) (kl : Lit) : upd (worksF Q) (.int .i64 p.2.f0) (some (ptr p.1)) kl = worksF (Q ++ [p]) kl := by
  unfold upd
  split
  · rename_i e
    rw [e, worksF_at, List.find?_append, List.find?_eq_none.2 (fun q hq => by simpa using hid q hq)]
    simp
  · rename_i e
    unfold worksF
    split
    · rename_i n
      rw [List.find?_append]
      have : ¬ p.2.f0 = n := fun h => e (by rw [h])
      simp [this]
    · rfl
theorem LockAt.add {w w' : World} {lb mb mn mn' : Nat} {last : Int} {Q : List PW} (h : LockAt w lb mb mn last Q) (p : PW) (hid : ∀ q ∈ Q, q.2.f0 ≠ p.2.f0) (hwf : (Lit.int .i64 p.2.f0).wf = true) (hw : WorkAt w' p)
    (hm : MapIs Try.prog 2 w' mb mn' (upd (worksF Q) (.int .i64 p.2.f0) (some (ptr p.1)))) (hg : w.grownBy w' (some mb)) (hk : p.1.k ∉ footOf lb mb Q) (hh : p.1.hb ∉ footOf lb mb Q) (hb : p.1.wb ∉ footOf lb mb Q) (hne : p.1.hb ≠ p.1.wb) : LockAt w' lb mb mn' last (Q ++ [p]) := by
  refine ⟨(hg.block lb (blk_lt h.l) (fun e => cells_ne_map h.l h.m (by injection e))).trans h.l, hm.congr (worksF_add hid), fun q hq => ?_, ?_, ?_, ?_, fun q hq => ?_⟩
  · rcases List.mem_append.1 hq with hq | hq
    · have hw := h.wk q hq
      have hne := maps_ne h.maps hq
      exact hw.at (hg.block _ (blk_lt hw.b) (fun e => cells_ne_map hw.b h.m (by injection e))) (hg.block _ hw.h.lt (fun e => hne.1 (by injection e with e; exact e.symm))) (hg.block _ hw.w.lt (fun e => hne.2 (by injection e with e; exact e.symm)))
    · rw [List.mem_singleton.1 hq]; exact hw
  · unfold idsOf
    rw [List.map_append]
    refine List.nodup_append.2 ⟨h.ids, by simp, fun a ha b hb e => ?_⟩
    obtain ⟨q, hq, rfl⟩ := List.mem_map.1 ha
    simp only [List.map_cons, List.map_nil, List.mem_singleton] at hb
    exact hid q hq (e.trans hb)
  · rw [List.map_append]
    refine List.nodup_append.2 ⟨h.ks, by simp, fun a ha b hb e => ?_⟩
    obtain ⟨q, hq, rfl⟩ := List.mem_map.1 ha
    simp only [List.map_cons, List.map_nil, List.mem_singleton] at hb
    exact hk (by rw [← hb, ← e]; exact (mem_foot hq).1)
  · unfold mapsOf
    rw [List.flatMap_append, ← List.cons_append]
    refine List.nodup_append.2 ⟨h.maps, by simpa using hne, fun a ha b hb' e => ?_⟩
    have ha' : a ∈ footOf lb mb Q := mem_maps_foot ha
    simp only [List.flatMap_cons, List.flatMap_nil, List.append_nil, List.mem_cons, List.not_mem_nil, or_false] at hb'
    rcases hb' with rfl | rfl
    · exact hh (by rw [← e]; exact ha')
    · exact hb (by rw [← e]; exact ha')
  · rcases List.mem_append.1 hq with hq | hq
    · exact h.wf q hq
    · rw [List.mem_singleton.1 hq]; exact hwf
theorem foot_repl {lb mb : Nat} {Q : List PW} {q q' : PW} (hq : q ∈ Q) (hid : q'.2.f0 = q.2.f0) {k : Nat} (h : k ∈ footOf lb mb (replQ Q q')) : k ∈ footOf lb mb Q ∨ k = q'.1.k ∨ k = q'.1.hb ∨ k = q'.1.wb := by
  rcases List.mem_cons.1 h with rfl | h
  · exact .inl (by simp [footOf])
  rcases List.mem_cons.1 h with rfl | h
  · exact .inl (by simp [footOf])
  obtain ⟨x, hx, hk⟩ := List.mem_flatMap.1 h
  rcases (mem_replQ hq hid).1 hx with rfl | ⟨hx, _⟩
  · simp only [List.mem_cons, List.not_mem_nil, or_false] at hk
    exact .inr hk
  · exact .inl (List.mem_cons.2 (.inr (List.mem_cons.2 (.inr (List.mem_flatMap.2 ⟨x, hx, hk⟩)))))
theorem Chg.cell {F : Nat → Prop} {w w' : World} (h : Chg F w w') {a : Addr} {v : Value} (hc : w.cell? a = some v) (hf : ¬ F a.block) : w'.cell? a = some v := by
  have hlt := World.block_lt_of_cell? w _ hc
  rw [World.cell?_of_block (h.block _ hlt hf)]
  exact hc
theorem getL_id (L : List S79) (id : Int) : (getL L id).f0 = id := by
  unfold getL
  cases h : L.find? (fun x => decide (x.f0 = id)) with
  | none => rfl
  | some x => have := List.find?_some h; simpa using this
theorem Chg.setCell (W : World) (g i : Nat) (u : Value) : Chg (fun k => k = g) W (W.setCell ⟨g, i, none⟩ u) :=
  ⟨rfl, rfl, rfl, by simp [World.setCell], fun k _ hf => Below.heap_setCell W ⟨g, i, none⟩ u k hf⟩
theorem ask_end {w Wm W6 : World} {lb mb mn1 : Nat} {last last' : Int} {Q Q1 : List PW} {q q1 q2 : PW} {N : Nat} (hL : LockAt Wm lb mb mn1 last (replQ Q1 q1)) (hq : q ∈ Q1) (hid1 : q1.2.f0 = q.2.f0) (hk1 : q1.1.k = q.1.k) (hh1 : q1.1.hb = q.1.hb) (hw1 : q1.1.wb = q.1.wb)
    (hid2 : q2.2.f0 = q.2.f0) (hk2 : q2.1.k = q.1.k) (hh2 : q2.1.hb = q.1.hb) (hw2 : q2.1.wb = q.1.wb ∨ Wm.heap.size ≤ q2.1.wb) (hW : WorkAt W6 q2) (hl : W6.heap[lb]? = some (.cells #[.map (some mb), .int .i64 last'] 38 (0, 0)))
    (hc : Chg (fun k => k = lb ∨ k = q.1.k ∨ k = q.1.hb ∨ k = q.1.wb) Wm W6) (hcw : Chg (fun k => k ∈ footOf lb mb Q) w Wm) (hft : ∀ k ∈ footOf lb mb Q1, k ∈ footOf lb mb Q ∨ w.heap.size ≤ k) (hbu : ∀ x ∈ Q1, x.1.nh + x.1.nw ≤ N) (hb2 : q2.1.nh + q2.1.nw ≤ N) :
    LockAt W6 lb mb mn1 last' (replQ (replQ Q1 q1) q2) ∧ datQ (replQ (replQ Q1 q1) q2) = setL (datQ Q1) q2.2 ∧ (∀ x ∈ replQ (replQ Q1 q1) q2, x.1.nh + x.1.nw ≤ N) ∧ Chg (fun k => k ∈ footOf lb mb Q) w W6 ∧ ∀ k ∈ footOf lb mb (replQ (replQ Q1 q1) q2), k ∈ footOf lb mb Q ∨ w.heap.size ≤ k := by
  have hm1 : q1 ∈ replQ Q1 q1 := (mem_replQ hq hid1).2 (.inl rfl)
  have hid21 : q2.2.f0 = q1.2.f0 := hid2.trans hid1.symm
  have fq := mem_foot (lb := lb) (mb := mb) hq
  refine ⟨hL.repl hm1 (hk2.trans hk1.symm) hid21 hW hl (hc.mono (fun k _ h => by rw [hk1, hh1, hw1]; exact h)) (hh2.trans hh1.symm) (hw2.imp (fun h => h.trans hw1.symm) id), ?_, ?_, ?_, ?_⟩
  · rw [dat_repl, dat_repl, setL_setL _ _ _ hid21.symm]
  · intro x hx
    rcases (mem_replQ hm1 hid21).1 hx with rfl | ⟨hx, hne⟩
    · exact hb2
    · rcases (mem_replQ hq hid1).1 hx with rfl | ⟨hx, _⟩
      · exact absurd rfl hne
      · exact hbu x hx
  · refine hcw.trans hc (fun k hk h => ?_)
    have : k ∈ footOf lb mb Q1 := by
      rcases h with rfl | rfl | rfl | rfl
      · simp [footOf]
      · exact fq.1
      · exact fq.2.1
      · exact fq.2.2
    rcases hft k this with h | h
    · exact h
    · exact absurd hk (Nat.not_lt.2 h)
  · intro k hk
    have hq1 : ∀ k, k ∈ footOf lb mb (replQ Q1 q1) → k ∈ footOf lb mb Q ∨ w.heap.size ≤ k := fun k hk => by
      rcases foot_repl hq hid1 hk with h | rfl | rfl | rfl
      · exact hft k h
      · rw [hk1]; exact hft _ fq.1
      · rw [hh1]; exact hft _ fq.2.1
      · rw [hw1]; exact hft _ fq.2.2
    rcases foot_repl hm1 hid21 hk with h | rfl | rfl | rfl
    · exact hq1 k h
    · rw [hk2]; exact hft _ fq.1
    · rw [hh2]; exact hft _ fq.2.1
    · rcases hw2 with h | h
      · rw [h]; exact hft _ fq.2.2
      · exact .inr (Nat.le_trans hcw.size h)
end Go.Proofs.Ytimlfdfmgajbnaa.PA
