/-
Rows of bytes that are lent: the marks behind them; kinds of rows whose elements hold them.
-/
import Derived.Test.YtkplejkkafcipaaPAx1
namespace Go.Proofs.Ytkplejkkafcipaa.PA
open Go.RowKit Go.Proofs.YtkplejkkafcipaaW.PrintWords Go.Proofs.YtkplejkkafcipaaW.PrintLast Go.Proofs.YtkplejkkafcipaaW.PrintMore
set_option linter.unusedVariables false
set_option linter.unusedSimpArgs false

def mkB (j : Nat) : Int := ((IntKind.u64.wrap ((IntKind.u64.wrap (wrap64 ((wrap64 (1000003 * (wrap64 (1 + 7)))) + (j : Int)))) * 11400714819323198485)) / 72057594037927936) % 256
def marksB : List Int := (List.range 12).map mkB
theorem marksB_len : marksB.length = 12 := rfl
theorem mark_is (j : Nat) : storemankit_markByte.f 1 (j : Int) = some (mkB j) := rfl
theorem wrapI {x : Int} (h0 : -9223372036854775808 ≤ x) (h1 : x ≤ 9223372036854775807) : wrap64 x = x := by unfold wrap64; omega
theorem lentB_l0 (l : List Int) (hl : l.length ≤ 140737488351232) : ∀ (n i k : Nat), i + n = 12 → n < k → storemankit_LentBytes.l0 k l (l ++ (List.range i).map mkB) i = some (l ++ marksB) := by
  intro n
  induction n with
  | zero =>
    intro i k hi hk
    obtain ⟨k, rfl⟩ : ∃ j, k = j + 1 := ⟨k - 1, by omega⟩
    obtain rfl : i = 12 := by omega
    simp only [storemankit_LentBytes.l0]
    rw [if_neg (by omega), if_pos (by simp; omega)]
    rfl
  | succ n ih =>
    intro i k hi hk
    obtain ⟨k, rfl⟩ : ∃ j, k = j + 1 := ⟨k - 1, by omega⟩
    simp only [storemankit_LentBytes.l0]
    rw [if_pos (by omega), mark_is, Option.bind_some, if_pos (by simp; omega), wrapI (by omega) (by omega)]
    have e : l ++ (List.range i).map mkB ++ [mkB i] = l ++ (List.range (i + 1)).map mkB := by rw [List.range_succ, List.map_append, List.append_assoc]; rfl
    rw [e]
    exact ih (i + 1) k (by omega) (by omega)
theorem lentB_ev (l : List Int) (hl : l.length ≤ 140737488351232) : Ev (fun k => storemankit_LentBytes.f k l) (l ++ marksB) := by
  refine ⟨13, fun k hk => ?_⟩
  show storemankit_LentBytes.f k l = _
  unfold storemankit_LentBytes.f
  rw [wrapI (by omega) (by omega), if_pos (by omega), if_pos (by omega), Option.bind_some, if_pos (by simp; omega)]
  have := lentB_l0 l hl 12 0 k (by omega) (by omega)
  simpa using this

/-! ### kinds -/
/-- What is only read, and of which more is known. -/
def ro {α : Type} (d : Kd α) (R : World → α → List Value → Prop) (hR : ∀ {w w1 : World} {x cs}, Below w.heap.size w w1 → R w x cs → R w1 x cs) : Kd α where
  sz := d.sz
  E := d.E
  K := fun w x cs => d.K w x cs ∧ R w x cs
  M := fun _ _ _ _ _ => False
  K_len := fun h => d.K_len h.1
  K_one := fun h => d.K_one h.1
  K_below := fun hb h => ⟨d.K_below hb h.1, hR hb h.2⟩
  K_of_M := fun h => h.elim
  M_mono := fun _ h => h
  M_bound := fun h => h.elim
  M_move := fun _ h => h
  M_lower := fun _ h => h
theorem ro_heap {α : Type} {d : Kd α} {R : World → α → List Value → Prop} {hR : ∀ {w w1 : World} {x cs}, Below w.heap.size w w1 → R w x cs → R w1 x cs} (hd : Kd.Heap d) (h : ∀ {w w1 : World} {x cs}, (∀ k, k < w.heap.size → w1.heap[k]? = w.heap[k]?) → R w x cs → R w1 x cs) : Kd.Heap (ro d R hR) :=
  ⟨fun hb hk => ⟨hd.K hb hk.1, h hb hk.2⟩⟩
theorem C_map {α β : Type} {d : Kd α} {d' : Kd β} (f : α → β) (hs : d'.sz = d.sz) {w : World} (hK : ∀ x cs, d.K w x cs → d'.K w (f x) cs) {A : Option Addr} {n : Nat} {xs : List α} (h : d.C w A n xs) : d'.C w A n (xs.map f) := by
  refine ⟨by rw [List.length_map]; exact h.1, h.2.1, fun hn => ?_⟩
  obtain ⟨ad, e, hc⟩ := h.2.2 hn
  refine ⟨ad, e, fun j p hj => ?_⟩
  rw [List.getElem?_map] at hj
  obtain ⟨x, hx, rfl⟩ := Option.map_eq_some_iff.1 hj
  obtain ⟨c, h1, h2, h3⟩ := hc j x hx
  exact ⟨c, by rw [hs]; exact h1, hK x c h2, by rw [hs]; exact h3⟩
/-- Bytes that are lent: with the marks behind them. -/
def LentB (w : World) (A : Option Addr) (c : Nat) (l : List Int) : Prop := (Kd.int .u8).C w A (l ++ marksB).length (l ++ marksB) ∧ (l ++ marksB).length ≤ c
theorem LentB.below {w w1 : World} {A : Option Addr} {c : Nat} {l : List Int} (h : LentB w A c l) (hb : Below w.heap.size w w1) : LentB w1 A c l := ⟨Kd.C_below h.1 hb, h.2⟩
theorem LentB.heap {w w1 : World} {A : Option Addr} {c : Nat} {l : List Int} (h : LentB w A c l) (hb : ∀ k, k < w.heap.size → w1.heap[k]? = w.heap[k]?) : LentB w1 A c l := ⟨(Kd.heap_int .u8).C hb h.1, h.2⟩
theorem LentB.C {w : World} {A : Option Addr} {c : Nat} {l : List Int} (h : LentB w A c l) : (Kd.int .u8).C w A l.length l := by
  have := Kd.C_take (m := l.length) h.1 (by simp)
  rwa [List.take_left' rfl] at this
theorem LentB.le {w : World} {A : Option Addr} {c : Nat} {l : List Int} (h : LentB w A c l) : l.length ≤ c := by
  have := h.2
  rw [List.length_append] at this
  omega
end Go.Proofs.Ytkplejkkafcipaa.PA
