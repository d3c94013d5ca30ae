/-
The chapter's examples: what each step comes to.
-/
import Derived.Test.YtimlfdfmgajbnaaLk14
import Derived.Test.YtimlfdfmgajbnaaPAx1
namespace Go.Proofs.Ytimlfdfmgajbnaa.PA
open Go.RowKit Go.Proofs.YtimlfdfmgajbnaaW.PrintWords Go.Proofs.YtimlfdfmgajbnaaW.PrintLast Go.Proofs.YtimlfdfmgajbnaaW.PrintMore
open Go.Proofs.Ytimlfdfmgajbnaa.Mp
set_option linter.unusedVariables false
set_option linter.unusedSimpArgs false
abbrev tA : ByteArray := ⟨#[65]⟩
abbrev tB : ByteArray := ⟨#[66]⟩
def l1 : List S79 := [⟨1, [tA], [], 0⟩]
def l2 : List S79 := [⟨1, [tA], [], 0⟩, ⟨2, [], [tA, tB], 1⟩]
def l3 : List S79 := [⟨1, [tA], [], 0⟩, ⟨2, [], [tA, tB], 1⟩, ⟨3, [], [tB], 2⟩]
def l4 : List S79 := [⟨2, [], [tA, tB], 1⟩, ⟨3, [], [tB], 2⟩]
def l6 : List S79 := [⟨2, [tA, tB], [], 0⟩, ⟨3, [], [tB], 2⟩]
def m2 : List S79 := [⟨1, [tA], [], 0⟩, ⟨2, [tB], [], 0⟩]
def m3 : List S79 := [⟨1, [tA], [tB], 1⟩, ⟨2, [tB], [], 0⟩]
def m4 : List S79 := [⟨1, [tA], [tB], 1⟩, ⟨2, [tB], [tA], 2⟩]
def m5 : List S79 := [⟨1, [tA], [tB], 1⟩, ⟨2, [tB], [tA], 2⟩, ⟨4, [], [star], 3⟩]
theorem a1 : askL [] 0 1 [tA] = (l1, 0, true) := by kernel_rfl
theorem a2 : askL l1 0 2 [tA, tB] = (l2, 1, false) := by kernel_rfl
theorem a3 : askL l2 1 3 [tB] = (l3, 2, false) := by kernel_rfl
theorem a4 : freeL l3 1 = l4 := by kernel_rfl
theorem a5 : askL l4 2 3 [tB] = (l4, 2, false) := by kernel_rfl
theorem a6 : askL l4 2 2 [] = (l6, 2, true) := by kernel_rfl
theorem b2 : askL l1 0 2 [tB] = (m2, 0, true) := by kernel_rfl
theorem b3 : askL m2 0 1 [tB] = (m3, 1, false) := by kernel_rfl
theorem b4 : askL m3 1 2 [tA] = (m4, 2, false) := by kernel_rfl
theorem b5 : askL m4 2 4 [star] = (m5, 3, false) := by kernel_rfl
theorem hold6 : holdsL l6 2 = [tA, tB] := by kernel_rfl
theorem wait3 : waitsL l3 3 = [2] := by
  have : waitsL l3 3 = sortI [2] := by kernel_rfl
  rw [this]; unfold sortI; simp
theorem sort12 : sortI [1, 2] = [1, 2] := List.mergeSort_of_pairwise (by decide)
theorem wait5 : waitsL m5 4 = [1, 2] := by
  have : waitsL m5 4 = sortI [1, 2] := by kernel_rfl
  rw [this, sort12]
theorem wm1 : waitsL m4 1 = [2] := by
  have : waitsL m4 1 = sortI [2] := by kernel_rfl
  rw [this]; unfold sortI; simp
theorem wm2 : waitsL m4 2 = [1] := by
  have : waitsL m4 2 = sortI [1] := by kernel_rfl
  rw [this]; unfold sortI; simp
theorem reach4 {a b : Int} (h : ReachL m4 a b) : (a = 1 ∨ a = 2) → (b = 1 ∨ b = 2) := by
  induction h with
  | one h =>
    rintro (rfl | rfl)
    · rw [wm1] at h; exact .inr (by simpa using h)
    · rw [wm2] at h; exact .inl (by simpa using h)
  | step h _ ih =>
    rintro (rfl | rfl)
    · rw [wm1] at h; exact ih (.inr (by simpa using h))
    · rw [wm2] at h; exact ih (.inl (by simpa using h))
theorem r12 : ReachL m4 1 2 := .one (by rw [wm1]; simp)
theorem r21 : ReachL m4 2 1 := .one (by rw [wm2]; simp)
theorem r11 : ReachL m4 1 1 := .step (b := 2) (by rw [wm1]; simp) r21
theorem r22 : ReachL m4 2 2 := .step (b := 1) (by rw [wm2]; simp) r12
theorem round4 {out : List Int} (h : RoundL m4 out) : out = [1, 2] := by
  rcases h with ⟨_, hn⟩ | ⟨a, ha, hr, hmin, hs, hm⟩
  · exact absurd r11 (hn 1 (by simp [m4]))
  · have ha1 : a = 1 := by
      simp only [m4, List.map_cons, List.map_nil, List.mem_cons, List.not_mem_nil, or_false] at ha
      rcases ha with e | e
      · exact e
      · exact absurd r11 (hmin 1 (by simp [m4]) (by omega))
    subst ha1
    have hmem : ∀ x, x ∈ out ↔ x ∈ [1, 2] := fun x => by
      rw [hm]
      simp only [List.mem_cons, List.not_mem_nil, or_false]
      constructor
      · rintro ⟨h, _⟩; exact reach4 h (.inl rfl)
      · rintro (rfl | rfl)
        · exact ⟨r11, r11⟩
        · exact ⟨r12, r21⟩
    have hp : out.Perm [1, 2] := nodup_perm (hs.imp (fun h => Int.ne_of_lt h)) (by decide) hmem
    exact hp.eq_of_pairwise (le := fun x y => x < y) (fun a b _ _ h1 h2 => by omega) hs (by decide)
/-- Texts that a literal lays. -/
theorem lit_C (W : World) (xs : List ByteArray) (hm : xs.length ≤ 100) (hp : 0 < xs.length) : Kd.C Kd.string (W.alloc (.cells (xs.map Value.string).toArray 9 (0, 0))) (some ⟨W.heap.size, 0, none⟩) xs.length xs := by
  have h := World.ownsRow_lit (base := W.heap.size) (e := 9) (size := 1) W (xs.map Value.string).toArray xs.length (Nat.le_refl _) (by unfold maxLen; omega) (by simp)
  have hr : Kd.R Kd.string 9 (W.alloc (.cells (xs.map Value.string).toArray 9 (0, 0))) W.heap.size (fun _ => True) (.slice (some ⟨W.heap.size, 0, none⟩) xs.length xs.length) xs := Kd.R_of_own (by simpa [encs] using h) (fun _ _ => trivial)
  exact (Kd.R_reads' hr).2.2
theorem litI_C (W : World) (xs : List Int) (hm : xs.length ≤ 100) (hp : 0 < xs.length) : Kd.C (Kd.int .i64) (W.alloc (.cells (xs.map (Value.int .i64)).toArray 2 (0, 0))) (some ⟨W.heap.size, 0, none⟩) xs.length xs := by
  have h := World.ownsRow_lit (base := W.heap.size) (e := 2) (size := 1) W (xs.map (Value.int .i64)).toArray xs.length (Nat.le_refl _) (by unfold maxLen; omega) (by simp)
  have hr : Kd.R (Kd.int .i64) 2 (W.alloc (.cells (xs.map (Value.int .i64)).toArray 2 (0, 0))) W.heap.size (fun _ => True) (.slice (some ⟨W.heap.size, 0, none⟩) xs.length xs.length) xs := Kd.R_of_own (by simpa [encs] using h) (fun _ _ => trivial)
  exact (Kd.R_reads' hr).2.2
end Go.Proofs.Ytimlfdfmgajbnaa.PA
