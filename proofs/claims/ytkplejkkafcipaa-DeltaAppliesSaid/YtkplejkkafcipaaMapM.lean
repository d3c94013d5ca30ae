/-
What the map of delta.Apply holds: rows by their keys; bytes made out of texts; sums of turns.
-/
import Derived.Test.YtkplejkkafcipaaRight
import Derived.Test.YtkplejkkafcipaaHSort
import Derived.Test.YtkplejkkafcipaaMaps
import Derived.Lib.ConvBytes
import Derived.StringKeys
import Derived.Sort.KeysCollected
import Derived.Test.YtkplejkkafcipaaPAx1
namespace Go.Proofs.Ytkplejkkafcipaa.PA
open Go.RowKit Go.Proofs.YtkplejkkafcipaaW.PrintWords Go.Proofs.YtkplejkkafcipaaW.PrintLast Go.Proofs.YtkplejkkafcipaaW.PrintMore
open Go.Proofs.Ytkplejkkafcipaa.Mp
set_option linter.unusedVariables false
set_option linter.unusedSimpArgs false

def klOf (key : List Int) : Lit := .string (strOfNums key).data.toList
theorem klOf_inj {a b : List Int} (ha : wfB a) (hb : wfB b) (h : klOf a = klOf b) : a = b := bytes_inj ha hb (by unfold klOf at h; injection h)
theorem key9 (key : List Int) (h : key.length ≤ 9223372036854775807) : keyOf Try.prog 9 (.string (strOfNums key)) = some (klOf key) := Go.WideMaps.keyOf_string_mk Try.underlying9 (by rw [strOfNums_size]; exact h)
theorem law9 : Go.Maps.Keyed Try.prog 9 := Go.Maps.string_keyed Try.underlying9
theorem zero35 (w : World) : (zeroValue 35).run Try.prog w = .ok (.slice none 0 0) w := by kernel_rfl
/-- The map holds these rows' values, at their keys. -/
def RowsIn (w : World) (f : Lit → Option Value) (L : List S37) : Prop :=
  (∀ kl v, f kl = some v → ∃ r ∈ L, kl = klOf r.f0 ∧ ∃ A c, v = .slice A r.f1.length c ∧ r.f1.length ≤ c ∧ (Kd.int .u8).C w A r.f1.length r.f1) ∧ ∀ r ∈ L, (f (klOf r.f0)).isSome = true
theorem RowsIn.nil (w : World) : RowsIn w (fun _ => none) [] := ⟨(fun _ _ h => by cases h), (fun _ h => by cases h)⟩
theorem RowsIn.get {w : World} {f : Lit → Option Value} {L : List S37} (h : RowsIn w f L) (hs : Sorted L) (hw : wfL L) {key : List Int} (hk : wfB key) :
    ∃ A c, (f (klOf key)).getD (.slice none 0 0) = .slice A (getR L key).length c ∧ (getR L key).length ≤ c ∧ (Kd.int .u8).C w A (getR L key).length (getR L key) := by
  cases e : f (klOf key) with
  | some v =>
    obtain ⟨r, hr, hkr, A, c, ev, hc, hC⟩ := h.1 _ _ e
    have e2 : key = r.f0 := klOf_inj hk (hw r hr).1 hkr
    have e3 : getR L key = r.f1 := by rw [e2]; exact getR_mem hs hr
    rw [e3]
    exact ⟨A, c, ev, hc, hC⟩
  | none =>
    have e3 : getR L key = [] := getR_none fun r hr hkr => by
      have := h.2 r hr
      rw [hkr, e] at this
      cases this
    rw [e3]
    exact ⟨none, 0, rfl, Nat.le_refl _, Kd.C_nil _ w⟩
theorem RowsIn.put {w : World} {f : Lit → Option Value} {L L' : List S37} (h : RowsIn w f L) (hw : wfL L) {key v : List Int} (hk : wfB key) {A : Option Addr} {c : Nat} (hc : v.length ≤ c) (hC : (Kd.int .u8).C w A v.length v)
    (hm : ∀ r, r ∈ L' ↔ r = ⟨key, v⟩ ∨ (r ∈ L ∧ r.f0 ≠ key)) : RowsIn w (upd f (klOf key) (some (.slice A v.length c))) L' := by
  refine ⟨fun kl u hu => ?_, fun r hr => ?_⟩
  · unfold upd at hu
    split at hu
    · rename_i e
      cases hu
      exact ⟨⟨key, v⟩, (hm _).2 (.inl rfl), e, A, c, rfl, hc, hC⟩
    · rename_i e
      obtain ⟨r, hr, hkr, q⟩ := h.1 _ _ hu
      exact ⟨r, (hm r).2 (.inr ⟨hr, fun e2 => e (by rw [hkr, e2])⟩), hkr, q⟩
  · unfold upd
    split
    · rfl
    · rename_i e
      rcases (hm r).1 hr with e2 | ⟨hr', e2⟩
      · rw [e2] at e; exact absurd rfl e
      · exact h.2 r hr'
theorem RowsIn.del {w : World} {f : Lit → Option Value} {L L' : List S37} (h : RowsIn w f L) (hw : wfL L) {key : List Int} (hk : wfB key) (hm : ∀ r, r ∈ L' ↔ r ∈ L ∧ r.f0 ≠ key) : RowsIn w (upd f (klOf key) none) L' := by
  refine ⟨fun kl u hu => ?_, fun r hr => ?_⟩
  · unfold upd at hu
    split at hu
    · cases hu
    · rename_i e
      obtain ⟨r, hr, hkr, q⟩ := h.1 _ _ hu
      exact ⟨r, (hm r).2 ⟨hr, fun e2 => e (by rw [hkr, e2])⟩, hkr, q⟩
  · unfold upd
    obtain ⟨hr', e2⟩ := (hm r).1 hr
    rw [if_neg fun e => e2 (klOf_inj (hw r hr').1 hk e)]
    exact h.2 r hr'
theorem upd_del (f : Lit → Option Value) (kl : Lit) (u : Option Value) (x : Lit) : upd (upd f kl u) kl none x = upd f kl none x := by
  unfold upd
  split <;> rfl
theorem wfL_putR {L : List S37} {key v : List Int} (h : wfL L) (hk : wfB key) (hv : wfB v) : wfL (putR L key v) := by
  intro r hr
  rcases mem_putR.1 hr with ⟨_, e⟩ | ⟨h1, _⟩
  · rw [e]; exact ⟨hk, hv⟩
  · exact h r h1
open Classical in
/-- What delta.Apply answers. -/
noncomputable def applyR (l : List S37) (t : List S43) : List S37 × Bool := if Right l then (match goR l t with | some L => (L, true) | none => ([], false)) else ([], false)
theorem applyR_not {l : List S37} {t : List S43} (h : ¬ Right l) : applyR l t = ([], false) := by unfold applyR; rw [if_neg h]
theorem applyR_some {l L : List S37} {t : List S43} (h : Right l) (e : goR l t = some L) : applyR l t = (L, true) := by unfold applyR; rw [if_pos h, e]
theorem applyR_none {l : List S37} {t : List S43} (h : Right l) (e : goR l t = none) : applyR l t = ([], false) := by unfold applyR; rw [if_pos h, e]
theorem goR_snoc (l : List S37) (t : List S43) (x : S43) : goR l (t ++ [x]) = (goR l t).bind fun L => stepR L x := by
  rw [goR_append]
  cases goR l t with
  | none => rfl
  | some L => simp only [Option.bind_some, goR]; cases stepR L x <;> rfl
theorem goR_stop {l : List S37} {t u : List S43} (h : goR l t = none) : goR l (t ++ u) = none := by rw [goR_append, h]; rfl
theorem goR_sub : ∀ {t : List S43} {L L' : List S37} {q : S37}, goR L t = some L' → q ∈ L' → q ∈ L ∨ ∃ x ∈ t, q = ⟨x.f0, x.f2⟩
  | [], L, L', q, e, hq => by cases e; exact .inl hq
  | x :: t, L, L', q, e, hq => by
    simp only [goR, stepR] at e
    split at e
    · cases e
    · rcases goR_sub e hq with h | ⟨y, hy, h⟩
      · rcases mem_putR.1 h with ⟨_, h⟩ | ⟨h, _⟩
        · exact .inr ⟨x, by simp, h⟩
        · exact .inl h
      · exact .inr ⟨y, by simp [hy], h⟩
/-! ### events -/
section
variable {ops : Array Oper} {rest : List Oper} {o : Oper} {a : Act} {Q : Exit → Act → World → Prop} {W : World}
/-- Bytes made out of a text: a row of its own that is only read. -/
theorem conv_event (hg : o.guard = none) {x : Operand} (ho : o.op = .convert 9 35 x) {s : ByteArray} (hx : a.eval x = .string s) (hmx : s.size ≤ 9223372036854775807)
    (h : ∀ A c W', Kd.F (Kd.int .u8) W' (fun k => W.heap.size ≤ k) A (bytesOf s).length (bytesOf s) → (bytesOf s).length ≤ c → Below W.heap.size W W' → wpList Try.prog ops Q rest (a.put o.dst (.slice A (bytesOf s).length c)) W') :
    wpList Try.prog ops Q (o :: rest) a W := by
  have hrun := Go.Lib.run_convert_string_bytes (P := Try.prog) W 9 35 5 s Try.underlying9 Try.underlying35 Try.underlying5
  refine Kd.event_run hg (v := .slice (some ⟨W.heap.size, 0, none⟩) s.size (grownCap W s.size 0 5)) (w1 := Go.Lib.bytesWorld W 5 s) ?_ ?_
  · unfold execOp
    simp only [ho, hx]
    simp [hrun, Result.andThen]
  · have hb : Below W.heap.size W (Go.Lib.bytesWorld W 5 s) := ⟨rfl, rfl, rfl, by rw [Go.Lib.bytesWorld_size]; omega, fun k hk => Go.Lib.bytesWorld_at_old W 5 s k hk⟩
    rw [← bytesOf_length s]
    refine h _ _ _ (fun W2 hW => ?_) (by rw [bytesOf_length]; exact grownCap_ge _ _ _ _) hb
    have e0 := hW W.heap.size (Nat.le_refl _) (by rw [Go.Lib.bytesWorld_size]; omega)
    refine ⟨rfl, by rw [bytesOf_length]; exact hmx, fun _ => ⟨_, rfl, fun j p hj => ⟨[.int .u8 p], rfl, rfl, fun i u hu => ?_⟩⟩⟩
    have hi : i = 0 := by
      have := (List.getElem?_eq_some_iff.1 hu).1
      simp at this
      exact this
    subst hi
    cases hu
    have hjl : j < s.size := by have := (List.getElem?_eq_some_iff.1 hj).1; rwa [bytesOf_length] at this
    have e1 : (⟨W.heap.size, 0, none⟩ : Addr).add (j * (Kd.int .u8).sz + 0) = ⟨W.heap.size, j, none⟩ := by
      have : (Kd.int .u8).sz = 1 := rfl
      rw [this, Nat.mul_one, Nat.add_zero]
      unfold Addr.add
      split <;> simp_all
    rw [e1, World.cell?_of_block (w := Go.Lib.bytesWorld W 5 s) e0, Go.Lib.bytesWorld_cell W 5 s j hjl]
    have e2 : p = ((s.data.toList.getD j 0).toNat : Int) := by
      unfold bytesOf at hj
      rw [List.getElem?_map] at hj
      obtain ⟨b, hb1, rfl⟩ := Option.map_eq_some_iff.1 hj
      rw [List.getD_eq_getElem?_getD, hb1]
      rfl
    rw [e2]
theorem make_event {P : Program} (hg : o.guard = none) {t : TypeId} (ho : o.op = .makeMap t none) (k : TypeId) (h : ∀ b, b = W.heap.size → ∀ W', MapIs P k W' b 0 (fun _ => none) → Below W.heap.size W W' → wpList P ops Q rest (a.put o.dst (.map (some b))) W') : wpList P ops Q (o :: rest) a W := by
  refine Kd.event_run hg (v := .map (some W.heap.size)) (w1 := W.alloc (.map #[] 0)) ?_ (h _ rfl _ (made P k W) (below_alloc (Below.refl _ _) _))
  unfold execOp
  simp only [ho]
  simp [run_makeMap, Result.andThen]
end
theorem take_mem {l : List S37} (hs : Sorted l) {i : Nat} (h : i < l.length) (r : S37) : r ∈ l.take (i + 1) ↔ r = ⟨l[i].f0, l[i].f1⟩ ∨ (r ∈ l.take i ∧ r.f0 ≠ l[i].f0) := by
  rw [List.take_succ_eq_append_getElem h, List.mem_append, List.mem_singleton]
  have e : (⟨l[i].f0, l[i].f1⟩ : S37) = l[i] := rfl
  rw [e]
  constructor
  · rintro (hr | hr)
    · refine .inr ⟨hr, ?_⟩
      obtain ⟨j, hj, rfl⟩ := List.getElem_of_mem hr
      have hj' : j < i := by simp at hj; omega
      have := (List.pairwise_iff_getElem.1 hs) j i (by omega) h hj'
      simp only [List.getElem_take]
      exact lex_ne this
    · exact .inl hr
  · rintro (hr | ⟨hr, _⟩)
    · exact .inr hr
    · exact .inl hr
theorem wf_getR {L : List S37} (h : wfL L) (key : List Int) : wfB (getR L key) := by
  rcases getR_cases L key with ⟨r, hr, _, e⟩ | ⟨_, e⟩
  · rw [e]; exact (h r hr).2
  · rw [e]; exact wfB_nil
theorem eqB {a b : List Int} (ha : wfB a) (hb : wfB b) : bytes_Equal.f a b = some (decide (a = b)) := by
  unfold bytes_Equal.f
  rw [Lib.strOfNums_toList, Lib.strOfNums_toList]
  by_cases h : a = b
  · subst h; simp
  · have : Lib.bytesOf a ≠ Lib.bytesOf b := fun e => h (bytes_inj ha hb e)
    simp [h, this]
theorem empty_str (a : List Int) : (strOfNums a).toList.isEmpty = decide (a = []) := by
  rw [Lib.strOfNums_toList]
  cases a <;> simp [Lib.bytesOf]
theorem same_kl (a b : List Int) : (klOf a).sameKey (klOf b) = true ↔ klOf a = klOf b := by
  unfold klOf Lit.sameKey
  simp
theorem str_of_kl {x : List UInt8} {key : List Int} (h : Lit.string x = klOf key) : (⟨x.toArray⟩ : ByteArray) = strOfNums key := by
  unfold klOf at h
  injection h with h
  rw [h]
/-- Sorted, with keys that are not the same, and the same rows: so it is that row of rows. -/
theorem sorted_is {out' out L : List S37} (hp : out'.Perm out) (hs : out'.Pairwise (fun a b => lex b.f0 a.f0 = false)) (hd : out.Pairwise (fun a b => a.f0 ≠ b.f0)) (hm : ∀ q, q ∈ out ↔ q ∈ L) (hL : Sorted L) : out' = L := by
  have hd' : out'.Pairwise (fun a b => a.f0 ≠ b.f0) := (hp.pairwise_iff (fun h => Ne.symm h)).2 hd
  refine sorted_ext S37.f0 ?_ hL fun q => ?_
  · refine List.Pairwise.imp ?_ (List.Pairwise.and hs hd')
    rintro a b ⟨h1, h2⟩
    rcases lex_cases a.f0 b.f0 with h | h | h
    · exact h
    · exact absurd h h2
    · rw [h] at h1; cases h1
  · rw [hp.mem_iff, hm]
theorem bytesOf_str {key : List Int} (h : wfB key) : bytesOf (strOfNums key) = key := bytes_back h
end Go.Proofs.Ytkplejkkafcipaa.PA
