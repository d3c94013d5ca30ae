/-
Events of straight walks: a variable that is made and written at once; reads of what was made.
-/
import Derived.Test.YtimlfdfmgajbnaaWWords
import Derived.Test.YtimlfdfmgajbnaaWLast
import Derived.Test.YtimlfdfmgajbnaaWMore
namespace Go.Proofs.Ytimlfdfmgajbnaa.Mine
open Go.RowKit Go.Proofs.YtimlfdfmgajbnaaW.PrintWords Go.Proofs.YtimlfdfmgajbnaaW.PrintLast Go.Proofs.YtimlfdfmgajbnaaW.PrintMore

/-- A block's cells are written, one behind the other, from cell i on. -/
def putAll (w : World) (g : Nat) : Nat → List Value → World
  | _, [] => w
  | i, v :: vs => putAll (w.setCell ⟨g, i, none⟩ v) g (i + 1) vs
theorem putAll_blk {t : TypeId} {g : Nat} : ∀ (vs : List Value) (i : Nat) (w : World) (pre zs : List Value), w.heap[g]? = some (.cells (pre ++ zs).toArray t (0, 0)) → pre.length = i → zs.length = vs.length →
    (putAll w g i vs).heap[g]? = some (.cells (pre ++ vs).toArray t (0, 0))
  | [], i, w, pre, zs, h, _, hz => by
    have : zs = [] := List.length_eq_zero_iff.1 (by simpa using hz)
    subst this; exact h
  | v :: vs, i, w, pre, z :: zs, h, hp, hz => by
    have h1 : (w.setCell ⟨g, i, none⟩ v).heap[g]? = some (.cells ((pre ++ [v]) ++ zs).toArray t (0, 0)) := by
      rw [blk_set h]
      subst hp
      simp
    have h2 := putAll_blk (t := t) vs (i + 1) (w.setCell ⟨g, i, none⟩ v) (pre ++ [v]) zs h1 (by simp [hp]) (by simpa using hz)
    simpa [putAll] using h2
theorem putAll_below {w0 : World} {g : Nat} (hg : w0.heap.size ≤ g) : ∀ (vs : List Value) (i : Nat) (w : World), Below w0.heap.size w0 w → Below w0.heap.size w0 (putAll w g i vs)
  | [], _, _, h => h
  | _ :: vs, i, _, h => putAll_below hg vs (i + 1) _ (below_set h hg)
section
variable {P : Program} {ops : Array Oper} {rest : List Oper} {o1 o2 : Oper} {a : Act} {Q : Exit → Act → World → Prop}
/-- A variable is made and written at once. -/
theorem alloc_store {W : World} (hg1 : o1.guard = none) {N : Tmp} (_hd : o1.dst = some N) {zs : List Value} (vs : List Value) {t : TypeId}
    (hr1 : (execOp a.eval o1).run P W = .ok (.value (.pointer (some ⟨W.heap.size, 0, none⟩))) (W.alloc (.cells zs.toArray t (0, 0))))
    (hg2 : o2.guard = none) (hn2 : o2.dst = none) (hl : zs.length = vs.length)
    (hr2 : (execOp (a.put o1.dst (.pointer (some ⟨W.heap.size, 0, none⟩))).eval o2).run P (W.alloc (.cells zs.toArray t (0, 0))) = .ok .skip (putAll (W.alloc (.cells zs.toArray t (0, 0))) W.heap.size 0 vs))
    (h : ∀ g, g = W.heap.size → ∀ w1, w1.heap[g]? = some (.cells vs.toArray t (0, 0)) → Below W.heap.size W w1 → wpList P ops Q rest (a.put o1.dst (.pointer (some ⟨g, 0, none⟩))) w1) :
    wpList P ops Q (o1 :: o2 :: rest) a W := by
  refine Kd.event_run hg1 hr1 ?_
  refine wpList_plain hg2 fun K hK => ?_
  unfold Oper.wp
  rw [hr2]
  show K ((a.put o1.dst (.pointer (some ⟨W.heap.size, 0, none⟩))).put o2.dst undef) _
  rw [hn2]
  exact hK _ _ (h _ rfl _ (by
    have := putAll_blk (t := t) vs 0 (W.alloc (.cells zs.toArray t (0, 0))) (g := W.heap.size) [] zs (blk_new W _) rfl hl
    simpa using this) (putAll_below (Nat.le_refl _) _ _ _ (below_alloc (Below.refl _ _) _)))
end

/-! ### Slices with room behind them -/
section
variable {P : Program} {ops : Array Oper} {rest : List Oper} {o : Oper} {a : Act} {Q : Exit → Act → World → Prop} {α : Type}
/-- make([]T, 0, n): a row of the call's own without elements. -/
theorem R_make0 (d : Kd α) {w0 W : World} (base e : Nat) (hgd : o.guard = none) {N : Tmp} (_hd : o.dst = some N) (t : TypeId) (x y : Operand) (ho : o.op = .makeSlice t x y) (n : Int) (hx : a.eval x = .int .i64 0) (hy : a.eval y = .int .i64 n)
    (ht : P.underlying t = some (.slice e)) (z : Value) (bytes : Nat) (hinfo : (P.info? e).map (fun i => (i.zero, i.size, i.bytes)) = some (some z, d.sz, bytes)) (hb0 : 0 < bytes)
    {ok : Nat → Prop} (hfresh : ok W.heap.size) (h0 : 0 ≤ n) (hl : n.toNat * bytes ≤ 281474976710656) (HB : Below base w0 W) (hbase : base ≤ W.heap.size)
    (h : ∀ v1 w1, d.R e w1 base ok v1 [] → Below base w0 w1 → W.grownBy w1 none → (∃ b, v1.ownBlock = some b ∧ W.heap.size ≤ b) → wpList P ops Q rest (a.put o.dst v1) w1) : wpList P ops Q (o :: rest) a W := by
  obtain ⟨m, rfl⟩ := Int.eq_ofNat_of_zero_le h0
  simp only [Int.toNat_natCast] at hl
  obtain ⟨i0, hi, hzz⟩ := Option.map_eq_some_iff.1 hinfo
  simp only [Prod.mk.injEq] at hzz
  obtain ⟨hz0, hz1, hz2⟩ := hzz
  have hm : m ≤ 281474976710656 := Nat.le_trans (Nat.le_mul_of_pos_right _ hb0) hl
  obtain ⟨w1, hr, hown, hg⟩ := run_make_own (P := P) W base t e i0 z d.sz ht hi hz0 hz1 .i64 .i64 m (by rw [hz2, Nat.mul_comm]; exact hl) (by unfold maxLen; omega) hbase
  have hrun : (execOp a.eval o).run P W = .ok (.value (.slice (some ⟨W.heap.size, 0, none⟩) 0 m)) w1 := by
    unfold execOp
    simp only [ho, hx, hy]
    simp [hr]
  refine Kd.event_run hgd hrun (h _ _ ⟨fun k hk => ?_, [], hown, Reps.none _ _⟩ (HB.grown hg hbase (fun k hk => by cases hk)) hg ⟨W.heap.size, by simp [Value.ownBlock], Nat.le_refl _⟩)
  have : W.heap.size = k := by simpa [Value.ownBlock] using hk
  subst this
  exact hfresh
/-- A cut up to a place beyond the length, but in the room. -/
theorem cut_cap (t e : TypeId) (kh : IntKind) {i : TypeInfo} (ht : P.underlying t = some (.slice e)) (hi : P.info? e = some i) (A : Option Addr) (n c : Nat) (j : Int) (h0 : 0 ≤ j) (hc : j ≤ c) :
    ∀ W : World, (Instr.slice t (.slice A n c) none (some (.int kh j)) none).run P W = .ok (.slice A j.toNat c) W := by
  intro W
  have hel : P.elem t = e := by simp [Program.elem, ht]
  have hu : P.underlying t = some (.slice (P.elem t)) := by rw [hel]; exact ht
  have ha : (A.map fun x => x.add 0) = A := by cases A <;> simp [Addr.add]
  rw [run_slice_h W t A n c hu kh j h0 (by omega), hel]
  simp [sizeOf, typeInfo, hi, sliced, Result.andThen, ha]
/-- A slice, made shorter (or longer). -/
def shorten (v : Value) (n : Nat) : Value := match v with
  | .slice A _ c => .slice A n c
  | v => v
end
end Go.Proofs.Ytimlfdfmgajbnaa.Mine
