/-
slices.SortFunc of rows with the closure of delta.Apply: the same rows, by their keys.
-/
import Derived.Test.YtkplejkkafcipaaMath
import Derived.Test.YtkplejkkafcipaaHBytes
import Derived.Shelf.SlSortCmp.WholeK
import Derived.Shelf.SlSortCmp.NoneTotal
namespace Go.Proofs.Ytkplejkkafcipaa.PA
def sortRow_ren : Go.Shelf.Ren := ⟨fun | 6 => 37 | 15 => 47 | 14 => 46 | 28 => 57 | 29 => 58 | 20 => 49 | 21 => 50 | 22 => 51 | 23 => 52 | 24 => 53 | 25 => 54 | 26 => 55 | 27 => 56 | 46 => 59 | 47 => 60 | 48 => 61 | 49 => 62 | 50 => 63 | 57 => 64 | n => n, fun | 22 => 22 | 24 => 37 | 25 => 55 | 3 => 3 | 39 => 59 | 0 => 0 | 53 => 71 | 55 => 60 | 4 => 4 | 46 => 64 | 45 => 63 | 50 => 68 | 5 => 5 | 9 => 9 | 66 => 73 | 70 => 77 | 76 => 79 | 77 => 80 | n => n, fun | n => n⟩
theorem sortRow : Go.Proofs.SlLaysF0.n6 Try.prog sortRow_ren := {
  mixed := by kernel_rfl
  f6 := ⟨Try.f37.name, by decide, Try.func37.trans (congrArg some (by kernel_rfl))⟩
  f14 := ⟨Try.f46.name, by decide, Try.func46.trans (congrArg some (by kernel_rfl))⟩
  f15 := Try.func47.trans (congrArg some (by kernel_rfl))
  f20 := ⟨Try.f49.name, by decide, Try.func49.trans (congrArg some (by kernel_rfl))⟩
  f21 := ⟨Try.f50.name, by decide, Try.func50.trans (congrArg some (by kernel_rfl))⟩
  f22 := ⟨Try.f51.name, by decide, Try.func51.trans (congrArg some (by kernel_rfl))⟩
  f23 := ⟨Try.f52.name, by decide, Try.func52.trans (congrArg some (by kernel_rfl))⟩
  f24 := ⟨Try.f53.name, by decide, Try.func53.trans (congrArg some (by kernel_rfl))⟩
  f25 := ⟨Try.f54.name, by decide, Try.func54.trans (congrArg some (by kernel_rfl))⟩
  f26 := ⟨Try.f55.name, by decide, Try.func55.trans (congrArg some (by kernel_rfl))⟩
  f27 := ⟨Try.f56.name, by decide, Try.func56.trans (congrArg some (by kernel_rfl))⟩
  f28 := Try.func57.trans (congrArg some (by kernel_rfl))
  f29 := Try.func58.trans (congrArg some (by kernel_rfl))
  f46 := ⟨Try.f59.name, by decide, Try.func59.trans (congrArg some (by kernel_rfl))⟩
  f47 := Try.func60.trans (congrArg some (by kernel_rfl))
  f48 := Try.func61.trans (congrArg some (by kernel_rfl))
  f49 := ⟨Try.f62.name, by decide, Try.func62.trans (congrArg some (by kernel_rfl))⟩
  f50 := ⟨Try.f63.name, by decide, Try.func63.trans (congrArg some (by kernel_rfl))⟩
  f57 := ⟨Try.f64.name, by decide, Try.func64.trans (congrArg some (by kernel_rfl))⟩
  t0 := Try.underlying0
  a0 := Try.isAgg0
  z0 := Try.sizeOf0
  v0 := Try.zeroValue0
  t3 := Try.underlying3
  a3 := Try.isAgg3
  z3 := Try.sizeOf3
  v3 := Try.zeroValue3
  t4 := Try.underlying4
  a4 := Try.isAgg4
  z4 := Try.sizeOf4
  v4 := Try.zeroValue4
  t5 := Try.underlying5
  a5 := Try.isAgg5
  z5 := Try.sizeOf5
  v5 := Try.zeroValue5
  t9 := Try.underlying9
  a9 := Try.isAgg9
  z9 := Try.sizeOf9
  v9 := Try.zeroValue9
  t22 := Try.underlying22
  a22 := Try.isAgg22
  z22 := Try.sizeOf22
  v22 := Try.zeroValue22
  t25 := Try.underlying55
  a25 := Try.isAgg55
  z25 := Try.sizeOf55
  v25 := Try.zeroValue55
  t39 := Try.underlying59
  a39 := Try.isAgg59
  z39 := Try.sizeOf59
  v39 := Try.zeroValue59
  t45 := Try.underlying63
  a45 := Try.isAgg63
  z45 := Try.sizeOf63
  v45 := Try.zeroValue63
  t46 := Try.underlying64
  a46 := Try.isAgg64
  z46 := Try.sizeOf64
  v46 := Try.zeroValue64
  t50 := Try.underlying68
  a50 := Try.isAgg68
  z50 := Try.sizeOf68
  v50 := Try.zeroValue68
  t53 := Try.underlying71
  a53 := Try.isAgg71
  z53 := Try.sizeOf71
  v53 := Try.zeroValue71
  t55 := Try.underlying60
  a55 := Try.isAgg60
  z55 := Try.sizeOf60
  v55 := Try.zeroValue60
  t66 := Try.underlying73
  a66 := Try.isAgg73
  z66 := Try.sizeOf73
  v66 := Try.zeroValue73
  t70 := Try.underlying77
  a70 := Try.isAgg77
  z70 := Try.sizeOf77
  v70 := Try.zeroValue77
  t76 := Try.underlying79
  a76 := Try.isAgg79
  z76 := Try.sizeOf79
  v76 := Try.zeroValue79
  t77 := Try.underlying80
  a77 := Try.isAgg80
  z77 := Try.sizeOf80
  v77 := Try.zeroValue80 }
open Go.RowKit Go.Sort Go.Proofs.YtkplejkkafcipaaW.PrintWords Go.Proofs.YtkplejkkafcipaaW.PrintLast Go.Proofs.YtkplejkkafcipaaW.PrintMore
set_option linter.unusedVariables false
set_option linter.unusedSimpArgs false

/-- A row as the sort has it: its cells, and what they read as. -/
def SE (w : World) (g : Nat) : Type := { p : S37 × List Value // Kd.FK k37 w (fun k => k < w.heap.size ∧ k ≠ g) p.1 p.2 ∧ wfB p.1.f0 }
instance (w : World) (g : Nat) : Inhabited (SE w g) := ⟨⟨(z37, [.slice none 0 0, .slice none 0 0]), fun W' _ => k37_mk W' z37 (Nat.le_refl _) (Kd.C_nil _ W') (Nat.le_refl _) (Kd.C_nil _ W'), wfB_nil⟩⟩
def seEnc {w : World} {g : Nat} (x : SE w g) : List Value := x.1.2
def seCf {w : World} {g : Nat} (x y : SE w g) : Int := Lib.compareBytes (Lib.bytesOf x.1.1.f0) (Lib.bytesOf y.1.1.f0)
theorem se_lt {w : World} {g : Nat} (x y : SE w g) : ltOf seCf x y = lex x.1.1.f0 y.1.1.f0 := by
  unfold ltOf seCf
  rw [compare_is x.2.2 y.2.2]
  cases h : lex x.1.1.f0 y.1.1.f0 with
  | true => simp
  | false => cases k : lex y.1.1.f0 x.1.1.f0 <;> simp
theorem se_swo (w : World) (g : Nat) : SWO (ltOf (seCf (w := w) (g := g))) where
  irrefl x := by rw [se_lt]; exact lex_irrefl _
  trans x y z h1 h2 := by rw [se_lt] at *; exact lex_trans h1 h2
  ntrans x y z h1 h2 := by
    rw [se_lt] at *
    cases h : lex x.1.1.f0 z.1.1.f0 with
    | false => rfl
    | true =>
      rcases lex_cases x.1.1.f0 y.1.1.f0 with k | k | k
      · rw [k] at h1; cases h1
      · rw [k] at h; rw [h] at h2; cases h2
      · have := lex_trans k h; rw [this] at h2; cases h2
set_option maxHeartbeats 1000000 in
set_option maxRecDepth 100000 in
theorem closure_calls {w : World} {g : Nat} (x y : SE w g) (W : World) (hW : ∀ k, k < w.heap.size → k ≠ g → W.heap[k]? = w.heap[k]?) :
    Calls Try.prog 38 #[.agg (seEnc x).toArray, .agg (seEnc y).toArray] W fun e w' => e = .returned (.int .i64 (seCf x y)) ∧ ∃ q os', w' = grow (W.drewN q) os' := by
  obtain ⟨⟨x, cx⟩, hx, wx⟩ := x
  obtain ⟨⟨y, cy⟩, hy, wy⟩ := y
  obtain ⟨A0, c0, A1, c1, ex, l0, g0, l1, g1⟩ := k37_open (hx W (fun k hk _ => hW k hk.1 hk.2))
  obtain ⟨B0, d0, B1, d1, ey, m0, h0, m1, h1⟩ := k37_open (hy W (fun k hk _ => hW k hk.1 hk.2))
  simp only at ex ey
  subst ex ey
  show Calls Try.prog 38 #[.agg #[.slice A0 x.f0.length c0, .slice A1 x.f1.length c1], .agg #[.slice B0 y.f0.length d0, .slice B1 y.f1.length d1]] W fun e w' => e = .returned (.int .i64 (Lib.compareBytes (Lib.bytesOf x.f0) (Lib.bytesOf y.f0))) ∧ _
  have G0 := Aside0.mk g0
  have H0 := Aside0.mk h0
  have L0 := Aside0.mk l0
  have M0 := Aside0.mk m0
  clear g0 h0 l0 m0 g1 h1 l1 m1 hx hy wx wy hW
  have hu37 := Try.underlying37
  generalize hr : Lib.compareBytes (Lib.bytesOf x.f0) (Lib.bytesOf y.f0) = r
  have HR := Aside0.mk (show bytes_Compare.f x.f0 y.f0 = some r by unfold bytes_Compare.f; rw [hr])
  clear hr
  go_enter Try.func38, Try.ntmps38
  go_wp2_with ((with_reducible refine gate_callee (f := 25) rfl ?_); refine goesL_ (some 9) rfl rfl Try.func25 (by kernel_rfl) rfl #[.slice A0 x.f0.length c0, .slice B0 y.f0.length d0] rfl (by (try simp only [List.map_toArray, List.map_cons, List.map_nil]); first | done | rfl) ?_; (with_reducible refine (bytes_Compare.calls A0 c0 x.f0 B0 d0 y.f0 r _ (Kd.C_alloc (Kd.C_alloc G0.out _) _) L0.out (Kd.C_alloc (Kd.C_alloc H0.out _) _) M0.out HR.out).mono ?_); rintro e w' ⟨rfl, ⟨nd, rfl⟩⟩; refine ⟨_, rfl, ?_⟩)
  go_ret
  exact ⟨rfl, nd, _, by rw [alloc_eq_grow, alloc_eq_grow, grow_grow]; rfl⟩
theorem sorted_old {w : World} {g n : Nat} {dk : Array (SE w g)} {os : Array Obj} {k : Nat} (hk : k < w.heap.size) (hne : k ≠ g) : (sortWorldK seEnc 2 w g 0 n dk os).heap[k]? = w.heap[k]? := by
  unfold sortWorldK
  rw [heap_grow_old _ _ (by rw [size_putRowK]; exact hk)]
  simp [putRowK, putRow, mapBlock, Sort.ahead, Array.getElem?_modify, Ne.symm hne]
theorem se_lays (w : World) (g : Nat) (size : Nat) : CmpLays Try.prog 38 #[] (seEnc (w := w) (g := g)) 2 seCf g 0 size w :=
  fun m os dk _ x y => closure_calls x y _ (fun k hk hne => sorted_old hk hne)
theorem getD_get! {α : Type} [Inhabited α] (d : Array α) (i : Nat) (h : i < d.size) : d[i]! = d[i] := by simp [h]
set_option maxHeartbeats 1000000 in
/-- Sorted: the same rows, no later one less than an elder one. -/
theorem sortRows_calls {w0 W : World} (out : List S37) (v : Value) (ok : Nat → Prop) (HN : Kd.N k37 37 W w0.heap.size ok v out) (hw : ∀ r ∈ out, wfB r.f0) (hn : out.length ≤ 1000000000) (HB : Below w0.heap.size w0 W) :
    Calls Try.prog 37 #[v, .func (.func 38) #[] #[]] W fun e W' => e = .returned (.tuple #[]) ∧ ∃ (out' : List S37) (A : Option Addr) (c : Nat), v = .slice A out'.length c ∧ out'.length ≤ c ∧ out'.Perm out ∧ out'.Pairwise (fun a b => lex b.f0 a.f0 = false) ∧ Kd.C k37 W' A out'.length out' ∧ Below w0.heap.size w0 W' := by
  rcases Nat.eq_zero_or_pos out.length with h0 | hp
  · have : out = [] := List.length_eq_zero_iff.1 h0
    subst this
    obtain ⟨A, c, ev, hc, hC⟩ := Kd.N_reads HN
    subst ev
    have h := AnyF.slices_SortFunc_none sortRow A c (.func (.func 38) #[] #[]) W
    refine Calls.mono (show Calls Try.prog 37 _ _ _ from h) ?_
    rintro e W' ⟨he, rfl⟩
    exact ⟨he, [], A, c, rfl, hc, List.Perm.refl _, List.Pairwise.nil, hC, HB⟩
  · obtain ⟨g, cap, ev, hbase, hlt, cells, hblk⟩ := Kd.N_form HN hp
    subst ev
    have hcap := (Kd.N_reads' HN).2.1
    have el := fun (j : Nat) (hj : j < out.length) => Kd.N_elem HN z37 (j : Int) (by omega) (by omega)
    have el2 : ∀ j : Nat, ∃ x : SE W g, ∀ hj : j < out.length, x.1.1 = out[j] ∧ x.1.2.length = 2 ∧ (∀ i u, x.1.2[i]? = some u → W.cell? ⟨g, j * 2 + i, none⟩ = some u) ∧ ∀ i, W.frozen? ⟨g, j * 2 + i, none⟩ = false := by
      intro j
      by_cases hj : j < out.length
      · obtain ⟨c, h1, h2, h3, h4⟩ := el j hj
        have e1 : out.getD (j : Int).toNat z37 = out[j] := by simp [List.getD_eq_getElem?_getD, hj]
        rw [e1] at h2
        refine ⟨⟨(out[j], c), Kd.FK_mono (Kd.FK_bound h2) (fun k hk => ⟨hk.2, hk.1.2⟩), hw _ (List.getElem_mem _)⟩, fun _ => ⟨rfl, h1, ?_, ?_⟩⟩
        · intro i u hu
          exact h3 i u hu
        · intro i
          exact h4 i
      · exact ⟨default, fun h => absurd h hj⟩
    obtain ⟨F, hF⟩ := Classical.axiomOfChoice el2
    obtain ⟨d, hd⟩ : ∃ d : Array (SE W g), d = ((List.range out.length).map F).toArray := ⟨_, rfl⟩
    have hds : d.size = out.length := by rw [hd]; simp
    have hdj : ∀ j, j < out.length → d[j]! = F j := by
      intro j hj
      rw [getD_get! d j (by omega)]
      simp [hd]
    have hl : ∀ x : SE W g, (seEnc x).length = 2 := fun x => k37.K_len (Kd.FK_now x.2.1)
    have hH : HoldsK seEnc 2 W g 0 d := by
      intro t ht
      rw [size_flatK, hds] at ht
      have hj : t / 2 < out.length := by omega
      obtain ⟨_, h2, h3, h4⟩ := hF (t / 2) hj
      have e2 : t / 2 * 2 + t % 2 = t := by omega
      have ht2 : t % 2 < (F (t / 2)).1.2.length := by omega
      rw [get_flatK _ _ _ _ (by rw [hds]; exact ht), hdj _ hj]
      have h5 := h3 (t % 2) _ (List.getElem?_eq_getElem ht2)
      have h6 := h4 (t % 2)
      rw [e2] at h5 h6
      rw [Nat.zero_add]
      exact ⟨by rw [h5]; simp [seEnc, ht2], h6⟩
    have eg : ∀ args w, (callFunc 38 args).run Try.prog w = .ok (.enter 38 args) w := enters_of Try.func38 (by kernel_rfl) rfl
    have hcon := AnyQ.slices_SortFunc sortRow 2 Try.isAgg37 Try.sizeOf37 (seEnc (w := W) (g := g)) hl (fun x => k37.K_one (Kd.FK_now x.2.1)) seCf (se_swo W g) 38 #[] g 0 cap d W eg (se_lays W g d.size) hH hlt (by rw [hds]; omega)
    rw [hds] at hcon
    refine Calls.mono (show Calls Try.prog 37 _ _ _ from hcon) ?_
    rintro e W' ⟨he, d', n, os, hp', hs', rfl⟩
    have hlen' : (d'.toList.map (fun x => x.1.1)).length = out.length := by rw [List.length_map]; exact Array.length_toList.trans (hp'.1.trans hds)
    refine ⟨he, d'.toList.map (fun x => x.1.1), some ⟨g, 0, none⟩, cap, ?_, ?_, ?_, ?_, ?_, ?_⟩
    · rw [hlen']
    · rw [hlen']; exact hcap
    · have h1 := hp'.2.2
      have e1 : d'.extract 0 out.length = d' := by rw [← hds, ← hp'.1]; simp
      have e2 : d.extract 0 out.length = d := by rw [← hds]; simp
      rw [e1, e2] at h1
      have h2 := h1.map (fun x => x.1.1)
      have e3 : d.toList.map (fun x => x.1.1) = out := by
        apply List.ext_getElem
        · simp [hds]
        · intro j h5 h6
          simp only [List.getElem_map, Array.getElem_toList]
          have := hdj j h6
          rw [getD_get! d j (by omega)] at this
          rw [this, (hF j h6).1]
      rwa [e3] at h2
    · rw [List.pairwise_map, List.pairwise_iff_getElem]
      intro i j hi hj hij
      have h1 := hs' i j (Nat.zero_le _) hij (by rw [← hds, ← hp'.1]; simpa using hj)
      rw [se_lt] at h1
      rw [getD_get! d' j (by simpa using hj), getD_get! d' i (by simpa using hi)] at h1
      simpa using h1
    · have hH' := holdsK_sortWorldK_c seEnc 2 W g 0 d d' n os hH hlt hp'.1
      have hsz : (d'.toList.map (fun x => x.1.1)).length = d'.size := by simp
      refine ⟨rfl, by rw [hsz, hp'.1, hds]; omega, fun _ => ⟨_, rfl, fun j p hj => ?_⟩⟩
      have hjl : j < d'.size := by have := (List.getElem?_eq_some_iff.1 hj).1; simpa using this
      have ep : (d'[j]).1.1 = p := by
        rw [List.getElem?_map] at hj
        obtain ⟨x, hx, rfl⟩ := Option.map_eq_some_iff.1 hj
        have : d'.toList[j]? = some d'[j] := by simp [hjl]
        rw [this] at hx
        cases hx
        rfl
      refine ⟨(d'[j]).1.2, hl d'[j], ?_, ?_⟩
      · rw [← ep]
        exact d'[j].2.1 _ (fun k hk _ => sorted_old hk.1 hk.2)
      · intro i u hu
        have hi2 : i < 2 := by have := (List.getElem?_eq_some_iff.1 hu).1; have h7 := hl d'[j]; unfold seEnc at h7; omega
        have h3 := (hH' (j * 2 + i) (by rw [size_flatK]; omega)).1
        rw [get_flatK _ _ _ _ (by omega), show (j * 2 + i) / 2 = j by omega, show (j * 2 + i) % 2 = i by omega, getD_get! d' j hjl, Nat.zero_add] at h3
        have e5 : (⟨g, 0, none⟩ : Addr).add (j * 2 + i) = ⟨g, j * 2 + i, none⟩ := by unfold Addr.add; split <;> simp_all
        have e6 : k37.sz = 2 := rfl
        rw [e6, e5, h3]
        have h7 := (List.getElem?_eq_some_iff.1 hu)
        simp [seEnc, h7.1, h7.2]
    · refine HB.grown (row := some g) ⟨rfl, rfl, rfl, size_sortWorldK_c seEnc 2 W g 0 n d' os, fun k hk hne => sorted_old hk (fun e => hne (by rw [e]))⟩ HB.size (fun k hk => by cases hk; exact hbase)
end Go.Proofs.Ytkplejkkafcipaa.PA
