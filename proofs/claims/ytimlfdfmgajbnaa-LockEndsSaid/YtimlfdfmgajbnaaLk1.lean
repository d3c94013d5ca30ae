/-
Sets of texts in memory: what is in them, how they are asked; which blocks a call may turn.
-/
import Derived.Test.YtimlfdfmgajbnaaMaps
import Derived.Test.YtimlfdfmgajbnaaPAx0
import Derived.Sort.KeysCollected
namespace Go.Proofs.Ytimlfdfmgajbnaa.PA
open Go.RowKit Go.Proofs.YtimlfdfmgajbnaaW.PrintWords Go.Proofs.YtimlfdfmgajbnaaW.PrintLast Go.Proofs.YtimlfdfmgajbnaaW.PrintMore
open Go.Proofs.Ytimlfdfmgajbnaa.Mp
set_option linter.unusedVariables false
set_option linter.unusedSimpArgs false

instance : DecidableEq ByteArray := fun a b => if h : a.data = b.data then .isTrue (by cases a; cases b; simp_all) else .isFalse (fun e => h (by rw [e]))
instance memDec (s : ByteArray) (S : List ByteArray) : Decidable (s ∈ S) := @List.instDecidableMemOfLawfulBEq _ (@instBEqOfDecidableEq _ _) (inferInstance) s S
/-! ### which blocks are turned -/
/-- Every block but those of F is as it was. -/
structure Chg (F : Nat → Prop) (w w' : World) : Prop where
  os : w'.os = w.os
  tape : w'.tape = w.tape
  output : w'.output = w.output
  size : w.heap.size ≤ w'.heap.size
  block : ∀ k, k < w.heap.size → ¬ F k → w'.heap[k]? = w.heap[k]?
theorem Chg.refl (F : Nat → Prop) (w : World) : Chg F w w := ⟨rfl, rfl, rfl, Nat.le_refl _, fun _ _ _ => rfl⟩
theorem Chg.trans {F G : Nat → Prop} {a b c : World} (h : Chg F a b) (k : Chg G b c) (hg : ∀ x, x < a.heap.size → G x → F x) : Chg F a c :=
  ⟨k.os.trans h.os, k.tape.trans h.tape, k.output.trans h.output, Nat.le_trans h.size k.size, fun i hi hf => (k.block i (Nat.lt_of_lt_of_le hi h.size) (fun g => hf (hg i hi g))).trans (h.block i hi hf)⟩
theorem Chg.mono {F G : Nat → Prop} {a b : World} (h : Chg F a b) (hg : ∀ x, x < a.heap.size → F x → G x) : Chg G a b :=
  ⟨h.os, h.tape, h.output, h.size, fun i hi hf => h.block i hi (fun q => hf (hg i hi q))⟩
theorem Chg.ofBelow {F : Nat → Prop} {a b : World} (h : Below a.heap.size a b) : Chg F a b := ⟨h.os, h.tape, h.output, h.size, fun i hi _ => h.block i hi⟩
theorem Chg.ofGrown {F : Nat → Prop} {a b : World} {row : Option Nat} (h : a.grownBy b row) (hr : ∀ k, some k = row → F k) : Chg F a b :=
  ⟨h.os, h.tape, h.output, h.size, fun i hi hf => h.block i hi (fun e => hf (hr i e))⟩
theorem Chg.below {F : Nat → Prop} {a b : World} {n : Nat} (h : Chg F a b) (hn : n ≤ a.heap.size) (hf : ∀ k, F k → n ≤ k) : Below n a b :=
  ⟨h.os, h.tape, h.output, h.size, fun i hi => h.block i (Nat.lt_of_lt_of_le hi hn) (fun q => absurd (hf i q) (Nat.not_le.2 hi))⟩
theorem Chg.step {F : Nat → Prop} {a b c : World} (h : Chg F a b) (k : Below b.heap.size b c) : Chg F a c := h.trans (Chg.ofBelow (F := fun _ => False) k) (fun _ _ q => q.elim)

/-! ### how many are in a map -/
theorem size_zero {D : DataW Value} (h : Maps.size D = 0) (kl : Lit) : at_ D kl = none := by
  cases D with
  | map es =>
    have : es = [] := List.length_eq_zero_iff.1 h
    subst this
    rfl
  | _ => rfl
theorem len_run {P : Program} {k : TypeId} {w : World} {b n : Nat} {f : Lit → Option Value} (h : MapIs P k w b n f) (K : Go.Maps.Keyed P k) : ∃ D : DataW Value, w.ownsMap P k rawR b n D ∧ (Maps.size D = 0 ↔ ∀ kl, f kl = none) := by
  obtain ⟨D, h, hf⟩ := h
  refine ⟨D, h, fun hz kl => by rw [← hf]; exact size_zero hz kl, fun hn => ?_⟩
  obtain ⟨es, hD, hk⟩ := h.keysOf
  cases es with
  | nil => rw [hD]; rfl
  | cons p es =>
    have h1 : Maps.has D p.1 = true := by
      rw [hD]
      refine List.any_eq_true.2 ⟨p, by simp, WideAt.sameKey_self ?_⟩
      obtain ⟨v, hv⟩ := hk p (by simp)
      exact K.key hv
    rw [has_at h K, hf, hn] at h1
    cases h1
/-! ### texts -/
def sLit (s : ByteArray) : Lit := .string s.data.toList
theorem sLit_inj {a b : ByteArray} (h : sLit a = sLit b) : a = b := by
  unfold sLit at h
  injection h with h
  cases a; cases b
  simp only [Array.toList_inj] at h
  rw [h]
theorem str_mk (s : ByteArray) : (⟨s.data.toList.toArray⟩ : ByteArray) = s := by cases s; simp
theorem key_s (s : ByteArray) (h : s.size ≤ 9223372036854775807) : keyOf Try.prog 9 (.string s) = some (sLit s) := Go.WideMaps.keyOf_string_mk Try.underlying9 h
theorem keyed9 : Go.Maps.Keyed Try.prog 9 := Go.Maps.string_keyed Try.underlying9
theorem keyed2 : Go.Maps.Keyed Try.prog 2 := Go.Maps.int_keyed Try.underlying2
theorem zero3 (w : World) : (zeroValue 3).run Try.prog w = .ok (.int .i64 0) w := by kernel_rfl
theorem zero55 (w : World) : (zeroValue 55).run Try.prog w = .ok (.pointer none) w := by kernel_rfl
/-- A set of texts, as a map holds it. -/
def setF (S : List ByteArray) : Lit → Option Value := fun kl => match kl with
  | .string b => if (⟨b.toArray⟩ : ByteArray) ∈ S then some (.int .i64 1) else none
  | _ => none
theorem setF_at (S : List ByteArray) (s : ByteArray) : setF S (sLit s) = if s ∈ S then some (.int .i64 1) else none := by
  unfold setF sLit
  simp only [str_mk]
theorem setF_congr {S T : List ByteArray} (h : ∀ s, s ∈ S ↔ s ∈ T) (kl : Lit) : setF S kl = setF T kl := by
  unfold setF
  cases kl <;> simp only [h]
theorem setF_nil (kl : Lit) : setF [] kl = none := by unfold setF; cases kl <;> simp
theorem setF_none (S : List ByteArray) : (∀ kl, setF S kl = none) ↔ S = [] := by
  constructor
  · intro h
    cases S with
    | nil => rfl
    | cons s S =>
      have := h (sLit s)
      rw [setF_at, if_pos (by simp)] at this
      cases this
  · rintro rfl kl; exact setF_nil kl
theorem setF_upd {S T : List ByteArray} {s : ByteArray} (h : ∀ x, x ∈ T ↔ x = s ∨ x ∈ S) (kl : Lit) : upd (setF S) (sLit s) (some (.int .i64 1)) kl = setF T kl := by
  unfold upd
  split
  · rename_i e
    rw [e, setF_at, if_pos ((h s).2 (.inl rfl))]
  · rename_i e
    cases kl with
    | string b =>
      have e1 : (⟨b.toArray⟩ : ByteArray) ≠ s := by
        rintro rfl
        exact e (by unfold sLit; simp)
      unfold setF
      simp only [h, e1, false_or]
    | _ => rfl
theorem setF_some {S : List ByteArray} {kl : Lit} {v : Value} (h : setF S kl = some v) : ∃ s ∈ S, kl = sLit s ∧ v = .int .i64 1 := by
  unfold setF at h
  cases kl with
  | string b =>
    simp only at h
    split at h
    · rename_i hm
      cases h
      exact ⟨_, hm, by unfold sLit; simp, rfl⟩
    · cases h
  | _ => cases h
abbrev SetIs (w : World) (b n : Nat) (S : List ByteArray) : Prop := MapIs Try.prog 9 w b n (setF S)
theorem SetIs.congr {w : World} {b n : Nat} {S T : List ByteArray} (h : SetIs w b n S) (e : ∀ s, s ∈ S ↔ s ∈ T) : SetIs w b n T := MapIs.congr h (setF_congr e)
abbrev star : ByteArray := ⟨#[42]⟩
/-- Does a name of one row meet one of another? -/
def meetB (A B : List ByteArray) : Bool := decide (A ≠ []) && decide (B ≠ []) && (decide (star ∈ A) || decide (star ∈ B) || A.any (fun n => decide (n ∈ B)))

theorem len_fact {w : World} {b n : Nat} {S : List ByteArray} (h : SetIs w b n S) : ∃ z : Nat, (∀ ty, (Builtin.len_ #[57] ty #[.map (some b)]).run Try.prog w = .ok (.int .i64 z) w) ∧ (z = 0 ↔ S = []) := by
  obtain ⟨D, hD, hz⟩ := len_run h keyed9
  exact ⟨_, fun ty => hD.len Try.underlying57 ty, hz.trans (setF_none S)⟩

/-! ### has -/
set_option maxHeartbeats 400000 in
theorem has_calls (b n : Nat) (S : List ByteArray) (s : ByteArray) (r : Bool) (w : World) (h : SetIs w b n S) (hs : s.size ≤ 9223372036854775807) (hr : r = decide (s ∈ S)) :
    Calls Try.prog 32 #[.map (some b), .string s] w fun e w' => e = .returned (.bool r) ∧ w = w' := by
  have HR := Aside0.mk hr
  have HM := Aside0.mk h
  have HK := Aside0.mk (key_s s hs)
  clear hr h hs
  by_cases hm : s ∈ S
  · have HV := Aside0.mk (show (setF S (sLit s)).getD (.int .i64 0) = .int .i64 1 by rw [setF_at, if_pos hm]; rfl)
    have HZ := Aside0.mk (HR.out.trans (decide_eq_true hm))
    clear hm
    go_enter Try.func32, Try.ntmps32
    go_wp2_with (at_lookup; refine lookup_event HM.out rfl _ _ rfl keyed9 Try.underlying57 (zero3 _) rfl rfl HK.out ?_; rw [HV.out])
    go_ret
    exact ⟨by rw [HZ.out]; rfl, rfl⟩
  · have HV := Aside0.mk (show (setF S (sLit s)).getD (.int .i64 0) = .int .i64 0 by rw [setF_at, if_neg hm]; rfl)
    have HZ := Aside0.mk (HR.out.trans (decide_eq_false hm))
    clear hm
    go_enter Try.func32, Try.ntmps32
    go_wp2_with (at_lookup; refine lookup_event HM.out rfl _ _ rfl keyed9 Try.underlying57 (zero3 _) rfl rfl HK.out ?_; rw [HV.out])
    go_ret
    exact ⟨by rw [HZ.out]; rfl, rfl⟩
end Go.Proofs.Ytimlfdfmgajbnaa.PA
