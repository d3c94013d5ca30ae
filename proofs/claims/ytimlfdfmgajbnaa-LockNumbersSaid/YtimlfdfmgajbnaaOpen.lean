/-
Whatever reads as data of a kind is of that kind: a value of ints, bools, strings, structs and slices of such, opened whole, with the bounds that the row's reach gives.
-/
import Derived.Test.YtimlfdfmgajbnaaWWords
import Derived.SizedLaws
import Derived.ChangeSlices
import Derived.ChangeArms
import Derived.ChangeShapes
import Derived.Deep.Slices
namespace Go.Proofs.Ytimlfdfmgajbnaa.Opening
open Go.ChangeShapes Go.WideShapes Go.Proofs.YtimlfdfmgajbnaaW.PrintWords

def Opens {α : Type} (P : Program) (t : TypeId) (d : Kd α) (g : α → Prop) : Prop :=
  ∀ (H : Type) (enc : TypeId × Value → H) (w : World) (fuel : Nat) (cs : List Value) (x : DataW H × List MemPlace),
    DataW.trod enc P w 0 (fun _ => true) true fuel t cs = some x → (x.1.weights P t).all (· ≤ reachBytes) = true → ∃ a, d.K w a cs ∧ g a
theorem Opens.imp {α : Type} {P : Program} {t : TypeId} {d : Kd α} {g g' : α → Prop} (h : Opens P t d g) (hg : ∀ a, g a → g' a) : Opens P t d g' :=
  fun H enc w fuel cs x hx hw => let ⟨a, h1, h2⟩ := h H enc w fuel cs x hx hw; ⟨a, h1, hg a h2⟩
theorem opens_int {P : Program} {t : TypeId} {k : IntKind} (ht : P.underlying t = some (.int k)) : Opens P t (Kd.int k) (fun n => (Lit.int k n).wf = true) := by
  intro H enc w fuel cs x hx _
  obtain ⟨n, rfl, _, hw⟩ := DataW.trod_int ht hx
  exact ⟨n, rfl, hw⟩
theorem opens_bool {P : Program} {t : TypeId} (ht : P.underlying t = some .bool) : Opens P t Kd.bool (fun _ => True) := by
  intro H enc w fuel cs x hx _
  obtain ⟨b, rfl, _⟩ := DataW.trod_bool ht hx
  exact ⟨b, rfl, trivial⟩
theorem opens_string {P : Program} {t : TypeId} (ht : P.underlying t = some .string) : Opens P t Kd.string (fun s => s.size ≤ 140737488351232) := by
  intro H enc w fuel cs x hx hw
  obtain ⟨s, rfl, hx1, _⟩ := DataW.trod_string ht hx
  refine ⟨s, rfl, ?_⟩
  rw [hx1] at hw
  simp only [DataW.weights, List.all_cons, List.all_nil, Bool.and_true, decide_eq_true_eq] at hw
  simpa [reachBytes] using hw
/-- Structs: their fields, one behind the other. -/
def OpensFields {α : Type} (P : Program) (fs : List Field) (off : Nat) (d : Kd α) (g : α → Prop) : Prop :=
  ∀ (H : Type) (enc : TypeId × Value → H) (w : World) (fuel : Nat) (cs : List Value) (xs : List (DataW H × List MemPlace)), xs.length = fs.length →
    (∀ (i : Nat) (f : Field), fs[i]? = some f → DataW.trod enc P w 0 (fun _ => true) true fuel f.type ((cs.drop f.offset).take (P.cellsOf f.type)) = xs[i]?) →
    (DataW.weightsEach P (fs.map (·.type)) (xs.map (·.1))).all (· ≤ reachBytes) = true → ∃ a, d.K w a ((cs.drop off).take d.sz) ∧ g a
theorem fields_one {α : Type} {P : Program} {f : Field} {d : Kd α} {g : α → Prop} (h : Opens P f.type d g) (hs : P.cellsOf f.type = d.sz) : OpensFields P [f] f.offset d g := by
  intro H enc w fuel cs xs hl hx hw
  match xs, hl with
  | [x], _ =>
    have h0 := hx 0 f rfl
    rw [hs] at h0
    simp only [List.map_cons, List.map_nil, DataW.weightsEach, List.append_nil] at hw
    exact h H enc w fuel _ x h0 hw
theorem fields_cons {α β : Type} {P : Program} {f : Field} {fs : List Field} {d : Kd α} {d' : Kd β} {g : α → Prop} {g' : β → Prop} (off' : Nat) (h : Opens P f.type d g) (hs : P.cellsOf f.type = d.sz) (ho : off' = f.offset + d.sz) (r : OpensFields P fs off' d' g') :
    OpensFields P (f :: fs) f.offset (Kd.pair d d') (fun p => g p.1 ∧ g' p.2) := by
  intro H enc w fuel cs xs hl hx hw
  match xs, hl with
  | x :: xs, hl =>
    have h0 := hx 0 f rfl
    rw [hs] at h0
    simp only [List.map_cons, DataW.weightsEach, List.all_append, Bool.and_eq_true] at hw
    obtain ⟨a, ha, ga⟩ := h H enc w fuel _ x h0 hw.1
    obtain ⟨b, hb, gb⟩ := r H enc w fuel cs xs (by simpa using hl) (fun i f' hf => hx (i + 1) f' hf) hw.2
    refine ⟨(a, b), ⟨_, _, ?_, ha, hb⟩, ga, gb⟩
    subst ho
    show List.take (d.sz + d'.sz) (cs.drop f.offset) = _
    rw [List.take_add, List.drop_drop]
theorem opens_struct {α : Type} {P : Program} {t : TypeId} {fs : Array Field} {d : Kd α} {g : α → Prop} (ht : P.underlying t = some (.struct fs)) (hc : P.cellsOf t = d.sz) (r : OpensFields P fs.toList 0 d g) : Opens P t d g := by
  intro H enc w fuel cs x hx hw
  obtain ⟨xs, n, _, hx1, hlen, hl2, hf⟩ := DataW.trod_struct ht hx
  have hx2 := congrArg Prod.fst hx1
  simp only at hx2
  rw [hx2] at hw
  simp only [DataW.weights, ht] at hw
  obtain ⟨a, ha, ga⟩ := r H enc w n cs xs (by simpa using hl2) (fun i f hi => hf i f (by simpa using hi)) hw
  refine ⟨a, ?_, ga⟩
  rw [List.drop_zero, List.take_of_length_le (by omega)] at ha
  exact ha
theorem opens_iso {α β : Type} {P : Program} {t : TypeId} {d : Kd α} {g : α → Prop} (f : β → α) (hf : ∀ a, ∃ b, f b = a) (h : Opens P t d g) : Opens P t (Kd.iso d f) (fun b => g (f b)) := by
  intro H enc w fuel cs x hx hw
  obtain ⟨a, ha, ga⟩ := h H enc w fuel cs x hx hw
  obtain ⟨b, rfl⟩ := hf a
  exact ⟨b, ha, ga⟩
theorem weightsAll_mem {H : Type} {P : Program} {e : TypeId} : ∀ {ds : List (DataW H)} {d : DataW H}, d ∈ ds → ∀ n ∈ d.weights P e, n ∈ DataW.weightsAll P e ds
  | d0 :: ds, d, hd, n, hn => by
    simp only [DataW.weightsAll, List.mem_append]
    rcases List.mem_cons.1 hd with rfl | hd
    · exact .inl hn
    · exact .inr (weightsAll_mem hd n hn)
theorem list_of {α : Type} {n : Nat} {p : Nat → α → Prop} (h : ∀ i, i < n → ∃ x, p i x) : ∃ xs : List α, xs.length = n ∧ ∀ i x, xs[i]? = some x → p i x := by
  induction n with
  | zero => exact ⟨[], rfl, fun i x hx => by simp at hx⟩
  | succ n ih =>
    obtain ⟨xs, hl, hp⟩ := ih (fun i hi => h i (by omega))
    obtain ⟨x, hx⟩ := h n (by omega)
    refine ⟨xs ++ [x], by simp [hl], fun i y hy => ?_⟩
    by_cases e : i < n
    · rw [List.getElem?_append_left (by omega)] at hy
      exact hp i y hy
    · rw [List.getElem?_append_right (by omega)] at hy
      have : i = n := by
        rcases Nat.lt_or_ge (i - xs.length) 1 with q | q
        · omega
        · rw [List.getElem?_eq_none (by simpa using q)] at hy; cases hy
      subst this
      simp [hl] at hy
      subst hy; exact hx
theorem opens_slice {α : Type} {P : Program} {t e : TypeId} {d : Kd α} {g : α → Prop} {B : Nat} (ht : P.underlying t = some (.slice e)) (hc : P.cellsOf e = d.sz) (hB : P.bytesOf e = B) (hd : Opens P e d g) :
    Opens P t (Kd.slice e d) (fun xs => xs.length * B ≤ 140737488351232 ∧ ∀ x ∈ xs, g x) := by
  intro H enc w fuel cs x hx hw
  rcases DataW.trod_slice ht hx with ⟨rfl, _⟩ | ⟨a, len, cap, elems, rest, n, _, rfl, hx1, _, hlc, hcm, hel, hcell, hspare, _⟩
  · exact ⟨[], ⟨none, 0, rfl, Nat.le_refl _, rfl, by simp, fun h => by simp at h⟩, by simp, fun x hx => by simp at hx⟩
  · have hx2 := congrArg Prod.fst hx1
    simp only at hx2
    rw [hx2] at hw
    simp only [DataW.weights, ht, List.all_cons, List.all_append, Bool.and_eq_true, List.length_map, decide_eq_true_eq] at hw
    obtain ⟨hlen, hwe, _⟩ := hw
    have hcells : ∀ i, i < len → ∃ cs' y, w.cells? 0 (a.add (i * P.cellsOf e)) (P.cellsOf e) = some cs' ∧ DataW.trod enc P w 0 (fun _ => true) true n e cs' = some y ∧ y ∈ elems := by
      intro i hi
      have h := hcell i hi
      rw [List.getElem?_eq_getElem (by omega)] at h
      obtain ⟨cs', h1, h2⟩ := Option.bind_eq_some_iff.1 h
      exact ⟨cs', _, h1, h2, List.getElem_mem _⟩
    have hone : ∀ i, i < len → ∃ b, (∃ cs', cs'.length = d.sz ∧ d.K w b cs' ∧ ∀ j u, cs'[j]? = some u → w.cell? (a.add (i * d.sz + j)) = some u) ∧ g b := by
      intro i hi
      obtain ⟨cs', y, h1, h2, h3⟩ := hcells i hi
      obtain ⟨b, hb, gb⟩ := hd H enc w n cs' y h2 (by
        rw [List.all_eq_true]
        intro m hm
        exact List.all_eq_true.1 hwe m (weightsAll_mem (List.mem_map.2 ⟨y, h3, rfl⟩) m hm))
      obtain ⟨_, q1, q2⟩ := World.cells?_some h1
      refine ⟨b, ⟨cs', d.K_len hb, hb, fun j u hj => ?_⟩, gb⟩
      have hj2 : j < cs'.length := by
        rcases Nat.lt_or_ge j cs'.length with q | q
        · exact q
        · rw [List.getElem?_eq_none q] at hj; cases hj
      have := q2 j (by rw [d.K_len hb] at hj2; omega)
      rw [hj, Deep.add_add, hc] at this
      exact this
    obtain ⟨xs, hxl, hxp⟩ := list_of hone
    refine ⟨xs, ⟨some a, cap, by rw [hxl], by omega, hxl ▸ rfl, ?_, fun _ => ⟨a, rfl, fun j p hj => ?_⟩⟩, ?_, fun x hx => ?_⟩
    · unfold maxLen at hcm; omega
    · obtain ⟨⟨c, h1, h2, h3⟩, _⟩ := hxp j p hj
      exact ⟨c, h1, h2, h3⟩
    · rw [hB] at hlen
      have : reachBytes = 140737488351232 := by decide
      rw [this] at hlen
      refine Nat.le_trans (Nat.mul_le_mul_right _ ?_) hlen
      omega
    · obtain ⟨i, hi⟩ := List.mem_iff_getElem?.1 hx
      exact (hxp i x hi).2
/-- A parameter that is a slice. -/
theorem param_slice {α : Type} {P : Program} {t e : TypeId} {d : Kd α} {g : List α → Prop} {H : Type} {enc : TypeId × Value → H} {w : World} {a : Option Addr} {len cap : Nat} {D : DataW H} {ps : List MemPlace}
    (ho : Opens P t (Kd.slice e d) g) (h : DataW.Trod enc P w 0 (fun _ => true) true t (.slice a len cap) D ps) (hw : (D.weights P t).all (· ≤ reachBytes) = true) :
    ∃ xs : List α, len = xs.length ∧ xs.length ≤ cap ∧ d.C w a xs.length xs ∧ g xs := by
  obtain ⟨fuel, hf⟩ := h
  obtain ⟨xs, ⟨A, c, hcs, hl, hC⟩, gx⟩ := ho H enc w fuel _ _ hf hw
  simp [Value.cells] at hcs
  obtain ⟨rfl, rfl, rfl⟩ := hcs
  exact ⟨xs, rfl, hl, hC, gx⟩
theorem weights_of {H : Type} {P : Program} {ts : List TypeId} {ds : List (DataW H)} (h : (DataW.weightsEach P ts ds).all (· ≤ reachBytes) = true) {j : Nat} {t : TypeId} {d : DataW H} (ht : ts[j]? = some t) (hd : ds[j]? = some d) : (d.weights P t).all (· ≤ reachBytes) = true := by
  rw [List.all_eq_true]
  intro n hn
  exact List.all_eq_true.1 h n (DataW.weights_mem_each ht hd n hn)
end Go.Proofs.Ytimlfdfmgajbnaa.Opening
