/-
Locks in memory: the works, each with what it holds and waits for.
-/
import Derived.Test.YtimlfdfmgajbnaaLk3
namespace Go.Proofs.Ytimlfdfmgajbnaa.PA
open Go.RowKit Go.Proofs.YtimlfdfmgajbnaaW.PrintWords Go.Proofs.YtimlfdfmgajbnaaW.PrintLast Go.Proofs.YtimlfdfmgajbnaaW.PrintMore
open Go.Proofs.Ytimlfdfmgajbnaa.Mp
set_option linter.unusedVariables false
set_option linter.unusedSimpArgs false
/-- Where a work lies: its block, its two maps, how many these may have. -/
structure Pl where
  k : Nat
  hb : Nat
  wb : Nat
  nh : Nat
  nw : Nat
abbrev PW : Type := Pl × S79
abbrev ptr (p : Pl) : Value := .pointer (some ⟨p.k, 0, none⟩)
structure WorkAt (w : World) (q : PW) : Prop where
  b : w.heap[q.1.k]? = some (.cells #[.map (some q.1.hb), .map (some q.1.wb), .int .i64 q.2.f3] 59 (0, 0))
  h : SetIs w q.1.hb q.1.nh q.2.f1
  w : SetIs w q.1.wb q.1.nw q.2.f2
def worksF (Q : List PW) : Lit → Option Value := fun kl => match kl with
  | .int .i64 n => (Q.find? (fun q => decide (q.2.f0 = n))).map (fun q => ptr q.1)
  | _ => none
def idsOf (Q : List PW) : List Int := Q.map (fun q => q.2.f0)
def mapsOf (mb : Nat) (Q : List PW) : List Nat := mb :: Q.flatMap (fun q => [q.1.hb, q.1.wb])
def footOf (lb mb : Nat) (Q : List PW) : List Nat := lb :: mb :: Q.flatMap (fun q => [q.1.k, q.1.hb, q.1.wb])
structure LockAt (w : World) (lb mb mn : Nat) (last : Int) (Q : List PW) : Prop where
  l : w.heap[lb]? = some (.cells #[.map (some mb), .int .i64 last] 38 (0, 0))
  m : MapIs Try.prog 2 w mb mn (worksF Q)
  wk : ∀ q ∈ Q, WorkAt w q
  ids : (idsOf Q).Nodup
  ks : (Q.map (fun q => q.1.k)).Nodup
  maps : (mapsOf mb Q).Nodup
  wf : ∀ q ∈ Q, (Lit.int .i64 q.2.f0).wf = true
theorem key_i (n : Int) (h : (Lit.int .i64 n).wf = true) : keyOf Try.prog 2 (.int .i64 n) = some (.int .i64 n) := Go.Maps.keyOf_int_mk Try.underlying2 h
theorem worksF_at (Q : List PW) (n : Int) : worksF Q (.int .i64 n) = (Q.find? (fun q => decide (q.2.f0 = n))).map (fun q => ptr q.1) := rfl
theorem ids_inj : ∀ {Q : List PW}, (idsOf Q).Nodup → ∀ {a b : PW}, a ∈ Q → b ∈ Q → a.2.f0 = b.2.f0 → a = b
  | [], _, _, _, h, _, _ => by cases h
  | x :: Q, hn, a, b, ha, hb, e => by
    obtain ⟨h1, h2⟩ := List.nodup_cons.1 hn
    rcases List.mem_cons.1 ha with ea | ha' <;> rcases List.mem_cons.1 hb with eb | hb'
    · rw [ea, eb]
    · rw [ea] at e; exact absurd (List.mem_map.2 ⟨b, hb', e.symm⟩) h1
    · rw [eb] at e; exact absurd (List.mem_map.2 ⟨a, ha', e⟩) h1
    · exact ids_inj h2 ha' hb' e
theorem find_id {Q : List PW} (hn : (idsOf Q).Nodup) {q : PW} (hq : q ∈ Q) : Q.find? (fun x => decide (x.2.f0 = q.2.f0)) = some q := by
  cases h : Q.find? (fun x => decide (x.2.f0 = q.2.f0)) with
  | none => exact absurd (rfl : q.2.f0 = q.2.f0) (by simpa using List.find?_eq_none.1 h q hq)
  | some x =>
    have h1 := List.mem_of_find?_eq_some h
    have h2 : x.2.f0 = q.2.f0 := by simpa using List.find?_some h
    rw [ids_inj hn h1 hq h2]
theorem worksF_mem {Q : List PW} (hn : (idsOf Q).Nodup) {q : PW} (hq : q ∈ Q) : worksF Q (.int .i64 q.2.f0) = some (ptr q.1) := by
  rw [worksF_at, find_id hn hq]; rfl
theorem worksF_none {Q : List PW} {n : Int} (h : ∀ q ∈ Q, q.2.f0 ≠ n) : worksF Q (.int .i64 n) = none := by
  rw [worksF_at, List.find?_eq_none.2 (fun q hq => by simpa using h q hq)]; rfl
theorem worksF_some {Q : List PW} {kl : Lit} {v : Value} (h : worksF Q kl = some v) : ∃ q ∈ Q, kl = .int .i64 q.2.f0 ∧ v = ptr q.1 := by
  unfold worksF at h
  split at h
  · rename_i n
    obtain ⟨q, hq, rfl⟩ := Option.map_eq_some_iff.1 h
    have h2 : q.2.f0 = n := by simpa using List.find?_some hq
    exact ⟨q, List.mem_of_find?_eq_some hq, by rw [h2], rfl⟩
  · cases h
theorem WorkAt.at {w w' : World} {q : PW} (h : WorkAt w q) (hk : w'.heap[q.1.k]? = w.heap[q.1.k]?) (hh : w'.heap[q.1.hb]? = w.heap[q.1.hb]?) (hw : w'.heap[q.1.wb]? = w.heap[q.1.wb]?) : WorkAt w' q := ⟨hk.trans h.b, h.h.at hh, h.w.at hw⟩
theorem mem_foot {lb mb : Nat} {Q : List PW} {q : PW} (hq : q ∈ Q) : q.1.k ∈ footOf lb mb Q ∧ q.1.hb ∈ footOf lb mb Q ∧ q.1.wb ∈ footOf lb mb Q := by
  unfold footOf
  refine ⟨?_, ?_, ?_⟩ <;> exact List.mem_cons.2 (.inr (List.mem_cons.2 (.inr (List.mem_flatMap.2 ⟨q, hq, by simp⟩))))
theorem LockAt.at {w w' : World} {lb mb mn : Nat} {last : Int} {Q : List PW} (h : LockAt w lb mb mn last Q) (hf : ∀ k ∈ footOf lb mb Q, w'.heap[k]? = w.heap[k]?) : LockAt w' lb mb mn last Q :=
  ⟨(hf lb (by simp [footOf])).trans h.l, h.m.at (hf mb (by simp [footOf])), fun q hq => (h.wk q hq).at (hf _ (mem_foot hq).1) (hf _ (mem_foot hq).2.1) (hf _ (mem_foot hq).2.2), h.ids, h.ks, h.maps, h.wf⟩
theorem blk_lt {w : World} {k : Nat} {o : Obj} (h : w.heap[k]? = some o) : k < w.heap.size := (Array.getElem?_eq_some_iff.1 h).1
theorem LockAt.lt {w : World} {lb mb mn : Nat} {last : Int} {Q : List PW} (h : LockAt w lb mb mn last Q) : ∀ k ∈ footOf lb mb Q, k < w.heap.size := by
  intro k hk
  rcases List.mem_cons.1 hk with rfl | hk
  · exact blk_lt h.l
  rcases List.mem_cons.1 hk with rfl | hk
  · exact h.m.lt
  obtain ⟨q, hq, hk⟩ := List.mem_flatMap.1 hk
  have hw := h.wk q hq
  simp only [List.mem_cons, List.not_mem_nil, or_false] at hk
  rcases hk with rfl | rfl | rfl
  · exact blk_lt hw.b
  · exact hw.h.lt
  · exact hw.w.lt
theorem LockAt.below {w w' : World} {lb mb mn : Nat} {last : Int} {Q : List PW} (h : LockAt w lb mb mn last Q) (hb : Below w.heap.size w w') : LockAt w' lb mb mn last Q := h.at fun k hk => hb.block k (h.lt k hk)
/-- A row of cells is no map. -/
theorem cells_ne_map {P : Program} {w : World} {a b n : Nat} {kt : TypeId} {f : Lit → Option Value} {c : Array Value} {e : TypeId} {fr : Nat × Nat} (ha : w.heap[a]? = some (.cells c e fr)) (hb : MapIs P kt w b n f) : a ≠ b := by
  rintro rfl
  obtain ⟨D, ⟨es, clock, h, _⟩, _⟩ := hb
  rw [ha] at h
  cases h
theorem WorkAt.k1 {w : World} {q : PW} (h : WorkAt w q) {b5 b6 b7 wk wm nw : Nat} {W : List ByteArray} {t : Int} (c5 : w.cell? ⟨b5, 0, none⟩ = some (.pointer (some ⟨wk, 0, none⟩))) (c6 : w.cell? ⟨b6, 0, none⟩ = some (.map (some wm))) (c7 : w.cell? ⟨b7, 0, none⟩ = some (.int .i64 t))
    (wb : ∃ c, w.heap[wk]? = some (.cells c 59 (0, 0))) (sw : SetIs w wm nw W) : K1 w b5 b6 b7 wk q.1.k q.1.hb q.1.wb wm q.1.nh q.1.nw nw q.2.f1 q.2.f2 W q.2.f3 t := ⟨c5, c6, c7, wb, h.b, h.h, h.w, sw⟩
/-- The works that keep one: those that are others, and hold or wait ahead of it. -/
def keptQ (Q : List PW) (wk : Nat) (W : List ByteArray) (t : Int) : List Int := (Q.filter (fun q => decide (q.1.k ≠ wk) && keepB q.2.f1 q.2.f2 q.2.f3 W t)).map (fun q => q.2.f0)
def leI : Int → Int → Bool := fun x y => decide (x ≤ y)
def sortI (l : List Int) : List Int := l.mergeSort leI
theorem sortI_perm {l m : List Int} (h : l.Perm m) : sortI l = sortI m := by
  unfold sortI
  have hp : (l.mergeSort leI).Perm (m.mergeSort leI) := (List.mergeSort_perm l leI).trans (h.trans (List.mergeSort_perm m leI).symm)
  have s1 : (l.mergeSort leI).Pairwise (fun x y => leI x y = true) := List.pairwise_mergeSort (fun a b c => by simp only [leI, decide_eq_true_eq]; omega) (fun a b => by simp only [leI, Bool.or_eq_true, decide_eq_true_eq]; omega) l
  have s2 : (m.mergeSort leI).Pairwise (fun x y => leI x y = true) := List.pairwise_mergeSort (fun a b c => by simp only [leI, decide_eq_true_eq]; omega) (fun a b => by simp only [leI, Bool.or_eq_true, decide_eq_true_eq]; omega) m
  exact hp.eq_of_pairwise (fun a b _ _ h1 h2 => by simp only [leI, decide_eq_true_eq] at h1 h2; omega) s1 s2
theorem keptQ_mem {Q : List PW} {wk : Nat} {W : List ByteArray} {t n : Int} : n ∈ keptQ Q wk W t ↔ ∃ q ∈ Q, q.2.f0 = n ∧ (decide (q.1.k ≠ wk) && keepB q.2.f1 q.2.f2 q.2.f3 W t) = true := by
  unfold keptQ
  rw [List.mem_map]
  constructor
  · rintro ⟨q, hq, rfl⟩
    obtain ⟨h1, h2⟩ := List.mem_filter.1 hq
    exact ⟨q, h1, rfl, h2⟩
  · rintro ⟨q, h1, rfl, h2⟩
    exact ⟨q, List.mem_filter.2 ⟨h1, h2⟩, rfl⟩
theorem keptQ_nodup {Q : List PW} (hn : (idsOf Q).Nodup) (wk : Nat) (W : List ByteArray) (t : Int) : (keptQ Q wk W t).Nodup := by
  unfold keptQ
  exact hn.sublist (List.Sublist.map _ List.filter_sublist)
theorem nodup_perm {l m : List Int} (h1 : l.Nodup) (h2 : m.Nodup) (h : ∀ n, n ∈ l ↔ n ∈ m) : l.Perm m := (List.perm_ext_iff_of_nodup h1 h2).2 h
end Go.Proofs.Ytimlfdfmgajbnaa.PA
