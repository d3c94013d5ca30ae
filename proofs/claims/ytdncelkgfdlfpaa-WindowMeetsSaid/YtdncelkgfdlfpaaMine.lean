/-
Events of straight walks: a variable that is made and written at once; reads of what was made.
-/
import Derived.Test.YtdncelkgfdlfpaaWWords
import Derived.Test.YtdncelkgfdlfpaaWLast
import Derived.Test.YtdncelkgfdlfpaaWMore
namespace Go.Proofs.Ytdncelkgfdlfpaa.Mine
open Go.RowKit Go.Proofs.YtdncelkgfdlfpaaW.PrintWords Go.Proofs.YtdncelkgfdlfpaaW.PrintLast Go.Proofs.YtdncelkgfdlfpaaW.PrintMore

/-- A block's cells are written, one behind the other, from cell i on. -/
def putAll (w : World) (g : Nat) : Nat → List Value → World
  | _, [] => w
  | i, v :: vs => putAll (w.setCell ⟨g, i, none⟩ v) g (i + 1) vs
theorem putAll_blk {t : TypeId} {g : Nat} : ∀ (vs : List Value) (i : Nat) (w : World) (pre zs : List Value), w.heap[g]? = some (.cells (pre ++ zs).toArray t (0, 0)) → pre.length = i → zs.length = vs.length →
    (putAll w g i vs).heap[g]? = some (.cells (pre ++ vs).toArray t (0, 0))
  | [], i, w, pre, zs, h, _, hz => by
    have : zs = [] := List.length_eq_zero_iff.1 (by simpa using hz)
    subst this; exact h
  | v :: vs, i, w, pre, z :: zs, h, hp, hz => by
    have h1 : (w.setCell ⟨g, i, none⟩ v).heap[g]? = some (.cells ((pre ++ [v]) ++ zs).toArray t (0, 0)) := by
      rw [blk_set h]
      subst hp
      simp
    have h2 := putAll_blk (t := t) vs (i + 1) (w.setCell ⟨g, i, none⟩ v) (pre ++ [v]) zs h1 (by simp [hp]) (by simpa using hz)
    simpa [putAll] using h2
theorem putAll_below {w0 : World} {g : Nat} (hg : w0.heap.size ≤ g) : ∀ (vs : List Value) (i : Nat) (w : World), Below w0.heap.size w0 w → Below w0.heap.size w0 (putAll w g i vs)
  | [], _, _, h => h
  | _ :: vs, i, _, h => putAll_below hg vs (i + 1) _ (below_set h hg)
section
variable {P : Program} {ops : Array Oper} {rest : List Oper} {o1 o2 : Oper} {a : Act} {Q : Exit → Act → World → Prop}
/-- A variable is made and written at once. -/
theorem alloc_store {W : World} (hg1 : o1.guard = none) {N : Tmp} (hd : o1.dst = some N) {zs : List Value} (vs : List Value) {t : TypeId}
    (hr1 : (execOp a.eval o1).run P W = .ok (.value (.pointer (some ⟨W.heap.size, 0, none⟩))) (W.alloc (.cells zs.toArray t (0, 0))))
    (hg2 : o2.guard = none) (hn2 : o2.dst = none) (hl : zs.length = vs.length)
    (hr2 : (execOp (a.put o1.dst (.pointer (some ⟨W.heap.size, 0, none⟩))).eval o2).run P (W.alloc (.cells zs.toArray t (0, 0))) = .ok .skip (putAll (W.alloc (.cells zs.toArray t (0, 0))) W.heap.size 0 vs))
    (h : ∀ g, g = W.heap.size → ∀ w1, w1.heap[g]? = some (.cells vs.toArray t (0, 0)) → Below W.heap.size W w1 → wpList P ops Q rest (a.put o1.dst (.pointer (some ⟨g, 0, none⟩))) w1) :
    wpList P ops Q (o1 :: o2 :: rest) a W := by
  refine Kd.event_run hg1 hr1 ?_
  refine wpList_plain hg2 fun K hK => ?_
  unfold Oper.wp
  rw [hr2]
  show K ((a.put o1.dst (.pointer (some ⟨W.heap.size, 0, none⟩))).put o2.dst undef) _
  rw [hn2]
  exact hK _ _ (h _ rfl _ (by
    have := putAll_blk (t := t) vs 0 (W.alloc (.cells zs.toArray t (0, 0))) (g := W.heap.size) [] zs (blk_new W _) rfl hl
    simpa using this) (putAll_below (Nat.le_refl _) _ _ _ (below_alloc (Below.refl _ _) _)))
end
end Go.Proofs.Ytdncelkgfdlfpaa.Mine
