/-
slices.Sorted(maps.Keys(..)): the keys of a set of texts, and of the works, rising; lock.Holds.
-/
import Derived.Test.YtimlfdfmgajbnaaLk9
import Derived.Shelf.SlIter.Nil
import Derived.Shelf.SlIterI.Nil
import Derived.Sort.Walk0
import Derived.Lib.SlKeysI
namespace Go.Proofs.Ytimlfdfmgajbnaa.PA
open Go.RowKit Go.Proofs.YtimlfdfmgajbnaaW.PrintWords Go.Proofs.YtimlfdfmgajbnaaW.PrintLast Go.Proofs.YtimlfdfmgajbnaaW.PrintMore
open Go.Proofs.Ytimlfdfmgajbnaa.Mp
open Go.Maps (Keyed)
set_option linter.unusedVariables false
set_option linter.unusedSimpArgs false
def layKeysS_ren : Go.Shelf.Ren := ⟨fun | 7 => 36 | 10 => 54 | n => n, fun | 23 => 57 | 26 => 9 | 3 => 3 | 28 => 65 | 0 => 0 | 27 => 64 | 33 => 60 | 4 => 4 | n => n, fun | n => n⟩
theorem layKeysS : Go.Proofs.SlLaysZ.n7 Try.prog layKeysS_ren := {
  mixed := by kernel_rfl
  f7 := ⟨Try.f36.name, by decide, Try.func36.trans (congrArg some (by kernel_rfl))⟩
  f10 := ⟨Try.f54.name, by decide, Try.func54.trans (congrArg some (by kernel_rfl))⟩
  t0 := Try.underlying0
  a0 := Try.isAgg0
  z0 := Try.sizeOf0
  v0 := Try.zeroValue0
  t4 := Try.underlying4
  a4 := Try.isAgg4
  z4 := Try.sizeOf4
  v4 := Try.zeroValue4
  t23 := Try.underlying57
  a23 := Try.isAgg57
  z23 := Try.sizeOf57
  v23 := Try.zeroValue57
  t26 := Try.underlying9
  a26 := Try.isAgg9
  z26 := Try.sizeOf9
  v26 := Try.zeroValue9
  t27 := Try.underlying64
  a27 := Try.isAgg64
  z27 := Try.sizeOf64
  v27 := Try.zeroValue64
  t28 := Try.underlying65
  a28 := Try.isAgg65
  z28 := Try.sizeOf65
  v28 := Try.zeroValue65
  t33 := Try.underlying60
  a33 := Try.isAgg60
  z33 := Try.sizeOf60
  v33 := Try.zeroValue60 }
def laySortedS_ren : Go.Shelf.Ren := ⟨fun | 6 => 35 | 8 => 52 | 9 => 53 | 11 => 61 | 13 => 59 | 12 => 62 | 23 => 73 | 24 => 74 | 14 => 75 | 15 => 76 | 16 => 77 | 17 => 78 | 18 => 79 | 19 => 80 | 20 => 81 | 21 => 82 | 22 => 83 | 25 => 90 | 26 => 85 | 27 => 86 | 28 => 91 | 29 => 92 | 30 => 93 | 31 => 95 | n => n, fun | 26 => 9 | 28 => 65 | 24 => 32 | 0 => 0 | 3 => 3 | 37 => 90 | 48 => 105 | 50 => 107 | 4 => 4 | 40 => 97 | 39 => 96 | 45 => 102 | 5 => 5 | 9 => 9 | 51 => 114 | 55 => 118 | 57 => 122 | 58 => 123 | 33 => 60 | n => n, fun | n => n⟩
theorem laySortedS : Go.Proofs.SlLaysZ.n6 Try.prog laySortedS_ren := {
  mixed := by kernel_rfl
  f6 := ⟨Try.f35.name, by decide, Try.func35.trans (congrArg some (by kernel_rfl))⟩
  f8 := ⟨Try.f52.name, by decide, Try.func52.trans (congrArg some (by kernel_rfl))⟩
  f11 := ⟨Try.f61.name, by decide, Try.func61.trans (congrArg some (by kernel_rfl))⟩
  t0 := Try.underlying0
  a0 := Try.isAgg0
  z0 := Try.sizeOf0
  v0 := Try.zeroValue0
  t24 := Try.underlying32
  a24 := Try.isAgg32
  z24 := Try.sizeOf32
  v24 := Try.zeroValue32
  t26 := Try.underlying9
  a26 := Try.isAgg9
  z26 := Try.sizeOf9
  v26 := Try.zeroValue9
  t28 := Try.underlying65
  a28 := Try.isAgg65
  z28 := Try.sizeOf65
  v28 := Try.zeroValue65
  i26 := by kernel_rfl }
def laySortS_ren : Go.Shelf.Ren := ⟨fun | 6 => 53 | 8 => 59 | 9 => 62 | 19 => 73 | 20 => 74 | 21 => 75 | 22 => 76 | 23 => 77 | 24 => 78 | 25 => 79 | 26 => 80 | 27 => 81 | 28 => 82 | 29 => 83 | 36 => 90 | 31 => 85 | 32 => 86 | 37 => 91 | 38 => 92 | 39 => 93 | 41 => 95 | n => n, fun | 27 => 32 | 29 => 9 | 3 => 3 | 32 => 90 | 26 => 32 | 0 => 0 | 44 => 105 | 46 => 107 | 4 => 4 | 36 => 97 | 35 => 96 | 41 => 102 | 5 => 5 | 9 => 9 | 53 => 114 | 57 => 118 | 63 => 122 | 64 => 123 | n => n, fun | n => n⟩
theorem laySortS : Go.Proofs.SlLaysM.n6 Try.prog laySortS_ren := {
  mixed := by kernel_rfl
  f6 := ⟨Try.f53.name, by decide, Try.func53.trans (congrArg some (by kernel_rfl))⟩
  f8 := Try.func59.trans (congrArg some (by kernel_rfl))
  f9 := ⟨Try.f62.name, by decide, Try.func62.trans (congrArg some (by kernel_rfl))⟩
  f19 := Try.func73.trans (congrArg some (by kernel_rfl))
  f20 := Try.func74.trans (congrArg some (by kernel_rfl))
  f21 := ⟨Try.f75.name, by decide, Try.func75.trans (congrArg some (by kernel_rfl))⟩
  f22 := ⟨Try.f76.name, by decide, Try.func76.trans (congrArg some (by kernel_rfl))⟩
  f23 := ⟨Try.f77.name, by decide, Try.func77.trans (congrArg some (by kernel_rfl))⟩
  f24 := ⟨Try.f78.name, by decide, Try.func78.trans (congrArg some (by kernel_rfl))⟩
  f25 := ⟨Try.f79.name, by decide, Try.func79.trans (congrArg some (by kernel_rfl))⟩
  f26 := ⟨Try.f80.name, by decide, Try.func80.trans (congrArg some (by kernel_rfl))⟩
  f27 := ⟨Try.f81.name, by decide, Try.func81.trans (congrArg some (by kernel_rfl))⟩
  f28 := ⟨Try.f82.name, by decide, Try.func82.trans (congrArg some (by kernel_rfl))⟩
  f29 := ⟨Try.f83.name, by decide, Try.func83.trans (congrArg some (by kernel_rfl))⟩
  f31 := Try.func85.trans (congrArg some (by kernel_rfl))
  f32 := Try.func86.trans (congrArg some (by kernel_rfl))
  f36 := ⟨Try.f90.name, by decide, Try.func90.trans (congrArg some (by kernel_rfl))⟩
  f37 := ⟨Try.f91.name, by decide, Try.func91.trans (congrArg some (by kernel_rfl))⟩
  f38 := ⟨Try.f92.name, by decide, Try.func92.trans (congrArg some (by kernel_rfl))⟩
  f39 := ⟨Try.f93.name, by decide, Try.func93.trans (congrArg some (by kernel_rfl))⟩
  f41 := ⟨Try.f95.name, by decide, Try.func95.trans (congrArg some (by kernel_rfl))⟩
  t0 := Try.underlying0
  a0 := Try.isAgg0
  z0 := Try.sizeOf0
  v0 := Try.zeroValue0
  t3 := Try.underlying3
  a3 := Try.isAgg3
  z3 := Try.sizeOf3
  v3 := Try.zeroValue3
  t4 := Try.underlying4
  a4 := Try.isAgg4
  z4 := Try.sizeOf4
  v4 := Try.zeroValue4
  t5 := Try.underlying5
  a5 := Try.isAgg5
  z5 := Try.sizeOf5
  v5 := Try.zeroValue5
  t9 := Try.underlying9
  a9 := Try.isAgg9
  z9 := Try.sizeOf9
  v9 := Try.zeroValue9
  t26 := Try.underlying32
  a26 := Try.isAgg32
  z26 := Try.sizeOf32
  v26 := Try.zeroValue32
  t27 := Try.underlying32
  a27 := Try.isAgg32
  z27 := Try.sizeOf32
  v27 := Try.zeroValue32
  t29 := Try.underlying9
  a29 := Try.isAgg9
  z29 := Try.sizeOf9
  v29 := Try.zeroValue9
  t32 := Try.underlying90
  a32 := Try.isAgg90
  z32 := Try.sizeOf90
  v32 := Try.zeroValue90
  t35 := Try.underlying96
  a35 := Try.isAgg96
  z35 := Try.sizeOf96
  v35 := Try.zeroValue96
  t36 := Try.underlying97
  a36 := Try.isAgg97
  z36 := Try.sizeOf97
  v36 := Try.zeroValue97
  t41 := Try.underlying102
  a41 := Try.isAgg102
  z41 := Try.sizeOf102
  v41 := Try.zeroValue102
  t44 := Try.underlying105
  a44 := Try.isAgg105
  z44 := Try.sizeOf105
  v44 := Try.zeroValue105
  t46 := Try.underlying107
  a46 := Try.isAgg107
  z46 := Try.sizeOf107
  v46 := Try.zeroValue107
  t53 := Try.underlying114
  a53 := Try.isAgg114
  z53 := Try.sizeOf114
  v53 := Try.zeroValue114
  t57 := Try.underlying118
  a57 := Try.isAgg118
  z57 := Try.sizeOf118
  v57 := Try.zeroValue118
  t63 := Try.underlying122
  a63 := Try.isAgg122
  z63 := Try.sizeOf122
  v63 := Try.zeroValue122
  t64 := Try.underlying123
  a64 := Try.isAgg123
  z64 := Try.sizeOf123
  v64 := Try.zeroValue123 }
def layKeysI_ren : Go.Shelf.Ren := ⟨fun | 7 => 38 | 10 => 56 | n => n, fun | 23 => 36 | 26 => 2 | 3 => 55 | 28 => 69 | 0 => 0 | 27 => 68 | 33 => 74 | 4 => 4 | n => n, fun | n => n⟩
theorem layKeysI : Go.Proofs.SlLaysZI.n7 Try.prog layKeysI_ren := {
  mixed := by kernel_rfl
  f7 := ⟨Try.f38.name, by decide, Try.func38.trans (congrArg some (by kernel_rfl))⟩
  f10 := ⟨Try.f56.name, by decide, Try.func56.trans (congrArg some (by kernel_rfl))⟩
  t0 := Try.underlying0
  a0 := Try.isAgg0
  z0 := Try.sizeOf0
  v0 := Try.zeroValue0
  t4 := Try.underlying4
  a4 := Try.isAgg4
  z4 := Try.sizeOf4
  v4 := Try.zeroValue4
  t23 := Try.underlying36
  a23 := Try.isAgg36
  z23 := Try.sizeOf36
  v23 := Try.zeroValue36
  t26 := Try.underlying2
  a26 := Try.isAgg2
  z26 := Try.sizeOf2
  v26 := Try.zeroValue2
  t27 := Try.underlying68
  a27 := Try.isAgg68
  z27 := Try.sizeOf68
  v27 := Try.zeroValue68
  t28 := Try.underlying69
  a28 := Try.isAgg69
  z28 := Try.sizeOf69
  v28 := Try.zeroValue69
  t33 := Try.underlying74
  a33 := Try.isAgg74
  z33 := Try.sizeOf74
  v33 := Try.zeroValue74 }
def laySortedI_ren : Go.Shelf.Ren := ⟨fun | 6 => 37 | 8 => 55 | 9 => 41 | 11 => 63 | 13 => 59 | 12 => 58 | 23 => 73 | 24 => 74 | 14 => 64 | 15 => 65 | 16 => 66 | 17 => 67 | 18 => 68 | 19 => 69 | 20 => 70 | 21 => 71 | 22 => 72 | 25 => 84 | 26 => 85 | 27 => 86 | 28 => 87 | 29 => 88 | 30 => 89 | 31 => 94 | n => n, fun | 26 => 2 | 28 => 69 | 24 => 43 | 0 => 0 | 3 => 3 | 37 => 90 | 48 => 105 | 50 => 107 | 4 => 4 | 40 => 97 | 39 => 96 | 45 => 102 | 5 => 5 | 9 => 9 | 51 => 114 | 55 => 118 | 57 => 122 | 58 => 123 | 33 => 74 | n => n, fun | n => n⟩
theorem laySortedI : Go.Proofs.SlLaysZI.n6 Try.prog laySortedI_ren := {
  mixed := by kernel_rfl
  f6 := ⟨Try.f37.name, by decide, Try.func37.trans (congrArg some (by kernel_rfl))⟩
  f8 := ⟨Try.f55.name, by decide, Try.func55.trans (congrArg some (by kernel_rfl))⟩
  f11 := ⟨Try.f63.name, by decide, Try.func63.trans (congrArg some (by kernel_rfl))⟩
  t0 := Try.underlying0
  a0 := Try.isAgg0
  z0 := Try.sizeOf0
  v0 := Try.zeroValue0
  t24 := Try.underlying43
  a24 := Try.isAgg43
  z24 := Try.sizeOf43
  v24 := Try.zeroValue43
  t26 := Try.underlying2
  a26 := Try.isAgg2
  z26 := Try.sizeOf2
  v26 := Try.zeroValue2
  t28 := Try.underlying69
  a28 := Try.isAgg69
  z28 := Try.sizeOf69
  v28 := Try.zeroValue69
  i26 := by kernel_rfl }
theorem sortsS (m : Nat) : AnyZ.SortsIn Try.prog laySortedS_ren Fence.wide m :=
  ⟨fun blk off cap ss W hH hblk hsz => callsIn_wide.2 (AnyM.slices_Sort_string laySortS blk off cap ss W hH hblk hsz), fun p cap W => callsIn_wide.2 (AnyM.slices_Sort_string_none laySortS p cap W)⟩
theorem sortsI (m : Nat) : AnyZI.SortsIn Try.prog laySortedI_ren Fence.wide m :=
  ⟨fun blk off cap ss W hH hblk hsz => callsIn_wide.2 (AnyM.slices_Sort_int laySort blk off cap ss W hH hblk hsz), fun p cap W => callsIn_wide.2 (AnyM.slices_Sort_int_none laySort p cap W)⟩
theorem keysS_calls (mb : Option Nat) (W : World) : Calls Try.prog 36 #[.map mb] W fun e w' => e = .returned (.func (.func 54) #[] #[.pointer (some ⟨W.heap.size, 0, none⟩)]) ∧ w' = W.alloc (.cells #[.map mb] 57) := callsIn_wide.1 (AnyZ.keys_in layKeysS Fence.wide 5 trivial rfl mb W)
theorem keysI_calls (mb : Option Nat) (W : World) : Calls Try.prog 38 #[.map mb] W fun e w' => e = .returned (.func (.func 56) #[] #[.pointer (some ⟨W.heap.size, 0, none⟩)]) ∧ w' = W.alloc (.cells #[.map mb] 36) := callsIn_wide.1 (AnyZI.keys_in layKeysI Fence.wide 5 trivial rfl mb W)
set_option maxHeartbeats 1000000 in
theorem sortedS_calls (b nn : Nat) (D0 : DataW Value) (w : World) (hown : w.ownsMap Try.prog 9 rawR b nn D0) (hmax : Go.Maps.size D0 ≤ maxLen) (hbytes : Go.Maps.size D0 * 16 ≤ 140737488355328) :
    Calls Try.prog 35 #[.func (.func 54) #[] #[.pointer (some ⟨w.heap.size, 0, none⟩)]] (w.alloc (.cells #[.map (some b)] 57)) fun e w' => ∃ (v : Value) (ss : List (List UInt8)), e = .returned v ∧ ss.Perm (strKeys D0) ∧
      w'.ownsRow (w.alloc (.cells #[.map (some b)] 57)).heap.size 9 1 v ss.length ((ss.mergeSort (fun x y => decide (x ≤ y))).map encStr) ∧ (v = .slice none 0 0 ↔ ss = []) ∧ Below (w.alloc (.cells #[.map (some b)] 57)).heap.size (w.alloc (.cells #[.map (some b)] 57)) w' := by
  have hbl := hown.lt
  have hseq : SeqGives Fence.wide 2 Try.prog 54 #[.pointer (some ⟨w.heap.size, 0, none⟩)] encStr (fun ss => ss.Perm (strKeys D0)) (Go.Maps.size D0) (w.alloc (.cells #[.map (some b)] 57)) :=
    AnyZ.keys_gives (ρ := layKeysS_ren) { layKeysS with } Fence.wide _ trivial rfl (by omega) w.heap.size b nn D0 _ (by simp) (by simp) (by
      obtain ⟨es, clock, hb, Ft, hs, hD⟩ := hown
      exact ⟨es, clock, (Below.heap_alloc _ _ b hbl).trans hb, Ft, hs, hD⟩)
  exact callsIn_wide.1 (AnyZ.sorted_in laySortedS Fence.wide 5 trivial trivial trivial trivial rfl (by omega) (sortsS _) (enters_of Try.func53 (by kernel_rfl) rfl) 54 #[.pointer (some ⟨w.heap.size, 0, none⟩)] trivial (enters_of Try.func54 (by kernel_rfl) rfl) _ _ hmax hbytes _ hseq)
set_option maxHeartbeats 1000000 in
theorem sortedI_calls (b nn : Nat) (D0 : DataW Value) (w : World) (hown : w.ownsMap Try.prog 2 rawR b nn D0) (hmax : Go.Maps.size D0 ≤ maxLen) (hbytes : Go.Maps.size D0 * 8 ≤ 140737488355328) :
    Calls Try.prog 37 #[.func (.func 56) #[] #[.pointer (some ⟨w.heap.size, 0, none⟩)]] (w.alloc (.cells #[.map (some b)] 36)) fun e w' => ∃ (v : Value) (ss : List Int), e = .returned v ∧ ss.Perm (intKeys D0) ∧
      w'.ownsRow (w.alloc (.cells #[.map (some b)] 36)).heap.size 2 1 v ss.length ((ss.mergeSort (fun x y => decide (x ≤ y))).map encZ) ∧ (v = .slice none 0 0 ↔ ss = []) ∧ Below (w.alloc (.cells #[.map (some b)] 36)).heap.size (w.alloc (.cells #[.map (some b)] 36)) w' := by
  have hbl := hown.lt
  have hseq : SeqGives Fence.wide 2 Try.prog 56 #[.pointer (some ⟨w.heap.size, 0, none⟩)] encZ (fun ss => ss.Perm (intKeys D0)) (Go.Maps.size D0) (w.alloc (.cells #[.map (some b)] 36)) :=
    AnyZI.keys_gives (ρ := layKeysI_ren) { layKeysI with } Fence.wide _ trivial rfl (by omega) w.heap.size b nn D0 _ (by simp) (by simp) (by
      obtain ⟨es, clock, hb, Ft, hs, hD⟩ := hown
      exact ⟨es, clock, (Below.heap_alloc _ _ b hbl).trans hb, Ft, hs, hD⟩)
  exact callsIn_wide.1 (AnyZI.sorted_in laySortedI Fence.wide 5 trivial trivial trivial trivial rfl (by omega) (sortsI _) (enters_of Try.func41 (by kernel_rfl) rfl) 56 #[.pointer (some ⟨w.heap.size, 0, none⟩)] trivial (enters_of Try.func56 (by kernel_rfl) rfl) _ _ hmax hbytes _ hseq)
/-! ### what the keys are -/
def SortedS (l : List ByteArray) : Prop := l.Pairwise (fun a b => Op.bytesLess a.toList b.toList = true)
theorem less_data (a b : ByteArray) : Op.bytesLess a.toList b.toList = decide (a.data.toList < b.data.toList) := by rw [bytesLess_eq, ByteArray.toList_eq, ByteArray.toList_eq]
theorem keys_of {w : World} {b n : Nat} {D : DataW Value} (hown : w.ownsMap Try.prog 9 rawR b n D) {S : List ByteArray} (hf : ∀ kl, at_ D kl = setF S kl) : (strKeys D).Nodup ∧ ∀ x, x ∈ strKeys D ↔ (⟨x.toArray⟩ : ByteArray) ∈ S := by
  obtain ⟨es, hD, hk⟩ := hown.keysOf
  obtain ⟨es2, hD2, ht⟩ := hown.tidy keyed9
  have e2 : es2 = es := by rw [hD] at hD2; injection hD2 with h; exact h.symm
  subst e2
  have hstr : ∀ p ∈ es2, p.1 = .string (strOf p.1) := fun p hp => by
    obtain ⟨v, hv⟩ := hk p hp
    obtain ⟨x, _, e, _⟩ := Go.Maps.keyOf_str Try.underlying9 hv
    rw [e]; rfl
  subst hD
  constructor
  · show (es2.map fun p => strOf p.1).Nodup
    unfold List.Nodup
    rw [List.pairwise_map]
    refine (List.Pairwise.and_mem.1 ht).imp ?_
    rintro p q ⟨hp, hq, hne⟩ e
    exact hne (by rw [hstr p hp, hstr q hq, e])
  · intro x
    have h1 := has_at hown keyed9 (.string x)
    rw [hf, show (Lit.string x) = sLit ⟨x.toArray⟩ from rfl, setF_at] at h1
    have h2 : Go.Maps.has (.map es2 : DataW Value) (sLit ⟨x.toArray⟩) = true ↔ x ∈ strKeys (.map es2 : DataW Value) := by
      show (es2.any fun p => p.1.sameKey (.string x)) = true ↔ x ∈ es2.map fun p => strOf p.1
      rw [List.any_eq_true, List.mem_map]
      constructor
      · rintro ⟨p, hp, h⟩; exact ⟨p, hp, by have := WideAt.sameKey_eq h; rw [this]; rfl⟩
      · rintro ⟨p, hp, rfl⟩; exact ⟨p, hp, by rw [← hstr p hp]; exact WideAt.sameKey_self (by obtain ⟨v, hv⟩ := hk p hp; exact keyed9.key hv)⟩
    rw [← h2, h1]
    split
    · rename_i h; simp [h]
    · rename_i h; simp [h]
theorem size_keys (D : DataW Value) : Go.Maps.size D = (strKeys D).length := by cases D <;> simp [Go.Maps.size, strKeys]
theorem sorted_keys {D : DataW Value} {S : List ByteArray} {ss : List (List UInt8)} (hp : ss.Perm (strKeys D)) (hn : (strKeys D).Nodup) (hm : ∀ x, x ∈ strKeys D ↔ (⟨x.toArray⟩ : ByteArray) ∈ S) (hS : SortedS S) : ss.mergeSort (fun x y => decide (x ≤ y)) = S.map (fun s => s.data.toList) := by
  have hle : ∀ a b c : List UInt8, decide (a ≤ b) = true → decide (b ≤ c) = true → decide (a ≤ c) = true := fun a b c h1 h2 => by simp only [decide_eq_true_eq] at *; exact List.le_trans h1 h2
  have htot : ∀ a b : List UInt8, (decide (a ≤ b) || decide (b ≤ a)) = true := fun a b => by simp only [Bool.or_eq_true, decide_eq_true_eq]; exact List.le_total a b
  have s1 := List.pairwise_mergeSort hle htot ss
  have hlt : ∀ a b : ByteArray, Op.bytesLess a.toList b.toList = true → a.data.toList < b.data.toList := fun a b h => by rw [less_data] at h; exact of_decide_eq_true h
  have s2 : (S.map (fun s => s.data.toList)).Pairwise (fun x y => decide (x ≤ y) = true) := by
    rw [List.pairwise_map]
    exact hS.imp (fun h => decide_eq_true (List.le_of_lt (hlt _ _ h)))
  have n2 : (S.map (fun s => s.data.toList)).Nodup := by
    unfold List.Nodup
    rw [List.pairwise_map]
    exact hS.imp (fun {a b} h e => by have := hlt _ _ h; rw [e] at this; exact List.lt_irrefl _ this)
  have hperm : (ss.mergeSort (fun x y => decide (x ≤ y))).Perm (S.map (fun s => s.data.toList)) := by
    refine ((List.mergeSort_perm ss _).trans hp).trans ((List.perm_ext_iff_of_nodup hn n2).2 (fun x => ?_))
    rw [hm, List.mem_map]
    constructor
    · intro h; exact ⟨_, h, by simp⟩
    · rintro ⟨s, hs, rfl⟩; rw [str_mk]; exact hs
  exact hperm.eq_of_pairwise (fun a b _ _ h1 h2 => by simp only [decide_eq_true_eq] at h1 h2; exact List.le_antisymm h1 h2) s1 s2
/-! ### Holds -/
def holdsQ (Q : List PW) (id : Int) : List ByteArray := match Q.find? (fun q => decide (q.2.f0 = id)) with
  | none => []
  | some q => q.2.f1
set_option maxHeartbeats 8000000 in
set_option maxRecDepth 100000 in
theorem holds_calls (lb mb mn : Nat) (last : Int) (Q : List PW) (id : Int) (w : World) (h : LockAt w lb mb mn last Q) (hid : (Lit.int .i64 id).wf = true) (hso : ∀ q ∈ Q, SortedS q.2.f1) (hbu : ∀ q ∈ Q, q.1.nh ≤ 1000000) :
    Calls Try.prog 15 #[.pointer (some ⟨lb, 0, none⟩), .int .i64 id] w fun e w' => ∃ v, e = .returned v ∧ Kd.R Kd.string 9 w' w.heap.size (fun _ => True) v (holdsQ Q id) ∧ Below w.heap.size w w' := by
  have hc := (l_cells h).1
  have hlook := h.m.lookup_run keyed2 Try.underlying36 (zero55 w) (key_i id hid)
  have HL := Aside0.mk h
  rw [worksF_at] at hlook
  cases hf : Q.find? (fun q => decide (q.2.f0 = id)) with
  | none =>
    rw [hf] at hlook
    simp only [Option.map_none, Option.getD_none] at hlook
    have HZ := Aside0.mk (show holdsQ Q id = [] by unfold holdsQ; rw [hf])
    have hn := eq_nil55 w none
    have HB := Aside0.mk (Below.refl w.heap.size w)
    clear h hid hso hbu hf
    go_enter Try.func15, Try.ntmps15
    go_wp2_with (first | (go_at_call 31; (with_reducible refine (made_yes lb mb mn last Q _ HL.out).mono ?_); rintro e w' ⟨rfl, rfl⟩))
    go_ret
    exact ⟨_, rfl, by rw [HZ.out]; exact Kd.R_nil _ _ _ _ _, HB.out⟩
  | some q =>
    have hq := List.mem_of_find?_eq_some hf
    rw [hf] at hlook
    simp only [Option.map_some, Option.getD_some] at hlook
    have hn := eq_nil55 w (some ⟨q.1.k, 0, none⟩)
    obtain ⟨c0, c1, c2⟩ := w_cells (h.wk q hq)
    obtain ⟨D, hD, hat⟩ := (h.wk q hq).h
    obtain ⟨k1, k2⟩ := keys_of hD hat
    have HZ := Aside0.mk (show holdsQ Q id = q.2.f1 by unfold holdsQ; rw [hf])
    have hsz : Go.Maps.size D ≤ 1000000 := Nat.le_trans hD.size_le (hbu q hq)
    have HS := Aside0.mk (sortedS_calls q.1.hb q.1.nh D w hD (by unfold maxLen; omega) (by omega))
    have HP := Aside0.mk (fun (ss : List (List UInt8)) (hp : ss.Perm (strKeys D)) => sorted_keys hp k1 k2 (hso q hq))
    have HLEN := Aside0.mk (fun (ss : List (List UInt8)) (hp : ss.Perm (strKeys D)) => (congrArg List.length (sorted_keys hp k1 k2 (hso q hq))))
    clear h hid hso hbu hf hq hD hat k1 k2 hsz c1 c2
    go_enter Try.func15, Try.ntmps15
    go_wp2_with (first | (go_at_call 31; (with_reducible refine (made_yes lb mb mn last Q _ HL.out).mono ?_); rintro e w' ⟨rfl, rfl⟩) | (go_at_call 36; (with_reducible refine (keysS_calls (some q.1.hb) _).mono ?_); rintro e w' ⟨rfl, rfl⟩) | (go_at_call 35; (with_reducible refine HS.out.mono ?_); rintro e w' ⟨v, ss, rfl, hp, hrow, _, hb⟩; have HPP := Aside0.mk hp; have HROW := Aside0.mk hrow; have HBB := Aside0.mk hb; clear hp hrow hb))
    go_ret
    have e1 := HP.out _ HPP.out
    have e2 := HLEN.out _ HPP.out
    rw [List.length_mergeSort, List.length_map] at e2
    refine ⟨_, rfl, ?_, below_step (below_alloc (Below.refl _ _) _) HBB.out⟩
    rw [HZ.out]
    refine Kd.R_lower (base := (w.alloc (.cells #[.map (some q.1.hb)] 57)).heap.size) (Kd.R_of_own ?_ (fun _ _ => trivial)) (below_size (below_alloc (Below.refl _ w) _))
    have hr := HROW.out
    rw [e1, e2, List.map_map] at hr
    have e3 : q.2.f1.map (encStr ∘ fun s => s.data.toList) = encs Value.string q.2.f1 := by
      unfold encs
      apply List.map_congr_left
      intro s _
      show Value.string ⟨s.data.toList.toArray⟩ = _
      rw [str_mk]
    rw [e3] at hr
    exact hr
end Go.Proofs.Ytimlfdfmgajbnaa.PA
