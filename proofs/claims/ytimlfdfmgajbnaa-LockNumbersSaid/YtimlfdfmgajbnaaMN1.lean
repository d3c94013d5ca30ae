/-
Texts of this session for the law of N, laid into one file (part 2 of 4).
-/
import Derived.Test.YtimlfdfmgajbnaaWWords
import Derived.Test.YtimlfdfmgajbnaaWLast
import Derived.Test.YtimlfdfmgajbnaaWMore
import Derived.Test.YtimlfdfmgajbnaaProg
import Derived.Below
import Derived.Deep.Draws
import Derived.Deep.AppendLies
import Derived.Maps.AppendAt
import Derived.OwnWalk
import Derived.Laws.BytesArg
import Derived.Laws.MakeOwn
import Derived.Laws.OwnMore
import Derived.Deep.OwnRows
import Derived.Tactics
import Derived.Lib.ConvBytes
import Derived.Laws.Slices
import Derived.WalkKit
import Derived.KernelRfl
import Derived.RowKit3
import Derived.Deep.LoopGhost
import Derived.Deep.QuietTactic
import Derived.BigQuiet
import Derived.WideLaws
import Derived.Deep.DeepCutAuto
import Derived.Deep.CutBlock
import Derived.Deep.RegionHeld3
import Derived.Laws.Rows
import Derived.Lib.AppendStr
import Derived.ArgAppend
import Derived.Laws.IdiomCopy
import Derived.OrdersHeld
import Derived.Laws.BitsLemmas
import Derived.RowKit
import Derived.Test.YtimlfdfmgajbnaaWTab
import Derived.Test.YtimlfdfmgajbnaaWFour
import Derived.Test.YtimlfdfmgajbnaaWQPut
import Derived.Test.YtimlfdfmgajbnaaWApart
import Derived.Test.YtimlfdfmgajbnaaWArr
import Derived.Test.YtimlfdfmgajbnaaWZeros
import Derived.Test.YtimlfdfmgajbnaaWFoot
import Derived.Test.YtimlfdfmgajbnaaWKept
import Derived.Test.YtimlfdfmgajbnaaWShare
import Derived.Test.YtimlfdfmgajbnaaWN
import Derived.Test.YtimlfdfmgajbnaaWFootNe
import Derived.Test.YtimlfdfmgajbnaaWAt
import Derived.Test.YtimlfdfmgajbnaaWEqStruct
import Derived.Test.YtimlfdfmgajbnaaWRepsOne
import Derived.Test.YtimlfdfmgajbnaaWInv
import Derived.Test.YtimlfdfmgajbnaaWInvWords
import Derived.Test.YtimlfdfmgajbnaaWGuard
import Derived.Test.YtimlfdfmgajbnaaWNEv
import Derived.Maps.OwnSet
import Derived.Maps.RangeWalk
import Derived.Sort.KeysCollected
import Derived.LaidEqlPtr
import Derived.Lib.Builder
import Derived.Sort.OwnSortedInts
import Derived.Shelf.SortM.Plain
import Derived.Shelf.SortM.SortNone
import Derived.Laws.Pointers
import Derived.WalkSpells
import Derived.IntWalk
import Derived.Shelf.SlIter.Nil
import Derived.Shelf.SlIterI.Nil
import Derived.Sort.Walk0
import Derived.Lib.SlKeysI
import Derived.Laws.EntriesVeiled
import Derived.Test.YtimlfdfmgajbnaaMN0
/-
slices.Sort of numbers: the same row holds them, sorted.
-/
namespace Go.Proofs.Ytimlfdfmgajbnaa.PA
open Go.RowKit Go.Proofs.YtimlfdfmgajbnaaW.PrintWords Go.Proofs.YtimlfdfmgajbnaaW.PrintLast Go.Proofs.YtimlfdfmgajbnaaW.PrintMore
open Go.Proofs.Ytimlfdfmgajbnaa.Mp
set_option linter.unusedVariables false
set_option linter.unusedSimpArgs false
def laySort_ren : Go.Shelf.Ren := ⟨fun | 5 => 41 | 8 => 59 | 7 => 58 | 19 => 73 | 20 => 74 | 10 => 64 | 11 => 65 | 12 => 66 | 13 => 67 | 14 => 68 | 15 => 69 | 16 => 70 | 17 => 71 | 18 => 72 | 30 => 84 | 31 => 85 | 32 => 86 | 33 => 87 | 34 => 88 | 35 => 89 | 40 => 94 | n => n, fun | 23 => 43 | 25 => 2 | 3 => 3 | 32 => 90 | 22 => 43 | 0 => 0 | 44 => 105 | 46 => 107 | 4 => 4 | 36 => 97 | 35 => 96 | 41 => 102 | 5 => 5 | 9 => 9 | 53 => 114 | 57 => 118 | 63 => 122 | 64 => 123 | n => n, fun | n => n⟩
theorem laySort : Go.Proofs.SlLaysM.n5 Try.prog laySort_ren := {
  mixed := by kernel_rfl
  f5 := ⟨Try.f41.name, by decide, Try.func41.trans (congrArg some (by kernel_rfl))⟩
  f7 := ⟨Try.f58.name, by decide, Try.func58.trans (congrArg some (by kernel_rfl))⟩
  f8 := Try.func59.trans (congrArg some (by kernel_rfl))
  f10 := ⟨Try.f64.name, by decide, Try.func64.trans (congrArg some (by kernel_rfl))⟩
  f11 := ⟨Try.f65.name, by decide, Try.func65.trans (congrArg some (by kernel_rfl))⟩
  f12 := ⟨Try.f66.name, by decide, Try.func66.trans (congrArg some (by kernel_rfl))⟩
  f13 := ⟨Try.f67.name, by decide, Try.func67.trans (congrArg some (by kernel_rfl))⟩
  f14 := ⟨Try.f68.name, by decide, Try.func68.trans (congrArg some (by kernel_rfl))⟩
  f15 := ⟨Try.f69.name, by decide, Try.func69.trans (congrArg some (by kernel_rfl))⟩
  f16 := ⟨Try.f70.name, by decide, Try.func70.trans (congrArg some (by kernel_rfl))⟩
  f17 := ⟨Try.f71.name, by decide, Try.func71.trans (congrArg some (by kernel_rfl))⟩
  f18 := ⟨Try.f72.name, by decide, Try.func72.trans (congrArg some (by kernel_rfl))⟩
  f19 := Try.func73.trans (congrArg some (by kernel_rfl))
  f20 := Try.func74.trans (congrArg some (by kernel_rfl))
  f30 := ⟨Try.f84.name, by decide, Try.func84.trans (congrArg some (by kernel_rfl))⟩
  f31 := Try.func85.trans (congrArg some (by kernel_rfl))
  f32 := Try.func86.trans (congrArg some (by kernel_rfl))
  f33 := ⟨Try.f87.name, by decide, Try.func87.trans (congrArg some (by kernel_rfl))⟩
  f34 := ⟨Try.f88.name, by decide, Try.func88.trans (congrArg some (by kernel_rfl))⟩
  f35 := ⟨Try.f89.name, by decide, Try.func89.trans (congrArg some (by kernel_rfl))⟩
  f40 := ⟨Try.f94.name, by decide, Try.func94.trans (congrArg some (by kernel_rfl))⟩
  t0 := Try.underlying0
  a0 := Try.isAgg0
  z0 := Try.sizeOf0
  v0 := Try.zeroValue0
  t3 := Try.underlying3
  a3 := Try.isAgg3
  z3 := Try.sizeOf3
  v3 := Try.zeroValue3
  t4 := Try.underlying4
  a4 := Try.isAgg4
  z4 := Try.sizeOf4
  v4 := Try.zeroValue4
  t5 := Try.underlying5
  a5 := Try.isAgg5
  z5 := Try.sizeOf5
  v5 := Try.zeroValue5
  t9 := Try.underlying9
  a9 := Try.isAgg9
  z9 := Try.sizeOf9
  v9 := Try.zeroValue9
  t22 := Try.underlying43
  a22 := Try.isAgg43
  z22 := Try.sizeOf43
  v22 := Try.zeroValue43
  t23 := Try.underlying43
  a23 := Try.isAgg43
  z23 := Try.sizeOf43
  v23 := Try.zeroValue43
  t25 := Try.underlying2
  a25 := Try.isAgg2
  z25 := Try.sizeOf2
  v25 := Try.zeroValue2
  t32 := Try.underlying90
  a32 := Try.isAgg90
  z32 := Try.sizeOf90
  v32 := Try.zeroValue90
  t35 := Try.underlying96
  a35 := Try.isAgg96
  z35 := Try.sizeOf96
  v35 := Try.zeroValue96
  t36 := Try.underlying97
  a36 := Try.isAgg97
  z36 := Try.sizeOf97
  v36 := Try.zeroValue97
  t41 := Try.underlying102
  a41 := Try.isAgg102
  z41 := Try.sizeOf102
  v41 := Try.zeroValue102
  t44 := Try.underlying105
  a44 := Try.isAgg105
  z44 := Try.sizeOf105
  v44 := Try.zeroValue105
  t46 := Try.underlying107
  a46 := Try.isAgg107
  z46 := Try.sizeOf107
  v46 := Try.zeroValue107
  t53 := Try.underlying114
  a53 := Try.isAgg114
  z53 := Try.sizeOf114
  v53 := Try.zeroValue114
  t57 := Try.underlying118
  a57 := Try.isAgg118
  z57 := Try.sizeOf118
  v57 := Try.zeroValue118
  t63 := Try.underlying122
  a63 := Try.isAgg122
  z63 := Try.sizeOf122
  v63 := Try.zeroValue122
  t64 := Try.underlying123
  a64 := Try.isAgg123
  z64 := Try.sizeOf123
  v64 := Try.zeroValue123 }
theorem sortI_length (l : List Int) : (sortI l).length = l.length := by unfold sortI; simp
theorem sortInts_calls (xs : List Int) (v : Value) (base : Nat) (ok : Nat → Prop) (w : World) (hr : Kd.R (Kd.int .i64) 2 w base ok v xs) (hn : xs.length < 4611686018427387904) :
    Calls Try.prog 41 #[v] w fun e w' => e = .returned (.tuple #[]) ∧ Kd.R (Kd.int .i64) 2 w' base ok v (sortI xs) ∧ w.grownBy w' v.ownBlock := by
  have hown := Kd.own_of_R hr
  rcases hown.2 with ⟨hv, hz⟩ | ⟨g, cap, cur, hv, hbase, hb, h1, h2, h3, h4⟩
  · subst hv
    have hx : xs = [] := List.length_eq_zero_iff.1 hz
    subst hx
    refine Calls.mono (show Calls Try.prog 41 #[.slice none 0 0] w _ from AnyM.slices_Sort_int_none laySort none 0 w) ?_
    rintro e w' ⟨he, rfl⟩
    have e0 : sortI [] = [] := by unfold sortI; simp
    rw [e0]
    exact ⟨he, hr, ⟨rfl, rfl, rfl, Nat.le_refl _, fun _ _ _ => rfl⟩⟩
  · subst hv
    have h4' : cur.toList.take xs.length = xs.map (Value.int .i64) := by simpa [encs] using h4
    refine Calls.mono (show Calls Try.prog 41 #[.slice (some ⟨g, 0, none⟩) xs.length cap] w _ from AnyM.slices_Sort_int laySort g 0 cap xs w (holds_of_blockI hb h4') (blk_lt hb) hn) ?_
    rintro e w' ⟨he, n, os, rfl⟩
    refine ⟨he, Kd.R_of_own ?_ (fun k hk => hr.1 k hk), grownBy_sortedI _⟩
    have hs := ownsRow_sortedI (w := w) (base := base) (g := g) (cap := cap) (n := n) (e := 2) (os := os) (cur := cur) (ss := xs) (ts := sortI xs) (sortI_length xs) hbase hb h1 h2 h3
    rw [sortI_length]
    exact hs
end Go.Proofs.Ytimlfdfmgajbnaa.PA
/-
lock.kept: the works that keep one, rising.
-/
namespace Go.Proofs.Ytimlfdfmgajbnaa.PA
open Go.RowKit Go.Proofs.YtimlfdfmgajbnaaW.PrintWords Go.Proofs.YtimlfdfmgajbnaaW.PrintLast Go.Proofs.YtimlfdfmgajbnaaW.PrintMore
open Go.Proofs.Ytimlfdfmgajbnaa.Mp
set_option linter.unusedVariables false
set_option linter.unusedSimpArgs false
set_option maxHeartbeats 8000000 in
set_option maxRecDepth 100000 in
theorem kept_calls (lb mb mn : Nat) (last : Int) (Q : List PW) (wk wm nw : Nat) (W : List ByteArray) (t : Int) (w : World) (h : LockAt w lb mb mn last Q) (hwk : ∃ c, w.heap[wk]? = some (.cells c 59 (0, 0))) (hw : SetIs w wm nw W) (hmn : mn ≤ 1000000) :
    Calls Try.prog 33 #[.pointer (some ⟨lb, 0, none⟩), .pointer (some ⟨wk, 0, none⟩), .map (some wm), .int .i64 t] w fun e w' => ∃ v, e = .returned v ∧ Kd.R (Kd.int .i64) 2 w' w.heap.size (fun _ => True) v (sortI (keptQ Q wk W t)) ∧ Below w.heap.size w w' := by
  obtain ⟨cw, hcw⟩ := hwk
  have HL := Aside0.mk h; have HW := Aside0.mk hw; have HK := Aside0.mk hcw; have HB := Aside0.mk (Below.refl w.heap.size w); have HMN := Aside0.mk hmn
  clear h hw hcw hmn
  go_enter Try.func33, Try.ntmps33
  go_wp2_with (first | ((with_reducible refine gate_dst (N := 5) rfl ?_); refine box_event ?hg (N := 5) ?hd (cs := #[.pointer (some ⟨wk, 0, none⟩)]) (t := 55) ?hr ?_; (case hd => rfl); (case hg => rfl); (case hr => first | (go_simp; done) | (go_simp; rfl)); intro g5 hg W1 hbox hb; have HBn := Aside0.mk (below_step HB.out hb); clear HB; have HB := HBn; clear HBn; have BK5 := Aside0.mk hbox; have G5 := Aside0.mk (by rw [hg]; exact Nat.le_refl _ : w.heap.size ≤ g5); clear hbox hb hg; have c5_0 : W1.cell? ⟨g5, 0, none⟩ = some (.pointer (some ⟨wk, 0, none⟩)) := (blk_cell BK5.out 0).trans rfl) | ((with_reducible refine gate_dst (N := 6) rfl ?_); refine box_event ?hg (N := 6) ?hd (cs := #[.map (some wm)]) (t := 57) ?hr ?_; (case hd => rfl); (case hg => rfl); (case hr => first | (go_simp; done) | (go_simp; rfl)); intro g6 hg W2 hbox hb; have hz := below_size HB.out; have HBn := Aside0.mk (below_step HB.out hb); clear HB; have HB := HBn; clear HBn; have nn_ := Aside0.mk (blk_below BK5.out hb); clear BK5; have BK5 := nn_; clear nn_; have BK6 := Aside0.mk hbox; have G6 := Aside0.mk (by rw [hg]; exact hz : w.heap.size ≤ g6); clear hbox hb hg hz; clear c5_0; have c5_0 : W2.cell? ⟨g5, 0, none⟩ = some (.pointer (some ⟨wk, 0, none⟩)) := (blk_cell BK5.out 0).trans rfl; have c6_0 : W2.cell? ⟨g6, 0, none⟩ = some (.map (some wm)) := (blk_cell BK6.out 0).trans rfl) | ((with_reducible refine gate_dst (N := 7) rfl ?_); refine box_event ?hg (N := 7) ?hd (cs := #[.int .i64 t]) (t := 3) ?hr ?_; (case hd => rfl); (case hg => rfl); (case hr => first | (go_simp; done) | (go_simp; rfl)); intro g7 hg W3 hbox hb; have hz := below_size HB.out; have HBn := Aside0.mk (below_step HB.out hb); clear HB; have HB := HBn; clear HBn; have nn_ := Aside0.mk (blk_below BK5.out hb); clear BK5; have BK5 := nn_; clear nn_; have nn_ := Aside0.mk (blk_below BK6.out hb); clear BK6; have BK6 := nn_; clear nn_; have BK7 := Aside0.mk hbox; have G7 := Aside0.mk (by rw [hg]; exact hz : w.heap.size ≤ g7); clear hbox hb hg hz; clear c5_0; have c5_0 : W3.cell? ⟨g5, 0, none⟩ = some (.pointer (some ⟨wk, 0, none⟩)) := (blk_cell BK5.out 0).trans rfl; clear c6_0; have c6_0 : W3.cell? ⟨g6, 0, none⟩ = some (.map (some wm)) := (blk_cell BK6.out 0).trans rfl; have c7_0 : W3.cell? ⟨g7, 0, none⟩ = some (.int .i64 t) := (blk_cell BK7.out 0).trans rfl; have cl := (by simp [World.cell?, (HL.out.below HB.out).l] : W3.cell? ⟨lb, 0, none⟩ = some (.map (some mb)))) | (at_range; refine range_event (HL.out.below HB.out).m rfl _ rfl keyed2 Try.underlying36 rfl ?_; intro ri hri W4 cnt hrg hcnt hg; have GR := Aside0.mk (by rw [hri]; exact below_size HB.out : w.heap.size ≤ ri); have HCN := Aside0.mk hcnt; have HRG := Aside0.mk hrg; have hN5 := blk_lt BK5.out; have hN6 := blk_lt BK6.out; have hN7 := blk_lt BK7.out; have HNE := Aside0.mk (show ri ≠ g5 ∧ ri ≠ g6 ∧ ri ≠ g7 from ⟨by omega, by omega, by omega⟩); have HBn := Aside0.mk (HB.out.grown hg (below_size HB.out) (fun k hk => by cases hk)); have B5 := Aside0.mk (blk_grown BK5.out hg (by intro h; cases h)); have B6 := Aside0.mk (blk_grown BK6.out hg (by intro h; cases h)); have B7 := Aside0.mk (blk_grown BK7.out hg (by intro h; cases h)); clear HB BK5 BK6 BK7 c5_0 c6_0 c7_0 cl hN5 hN6 hN7 hri hrg hcnt hg; have HB := HBn; clear HBn))
  go_frame
  go_loopw [10] (fun v10 wr => ∃ left cnt out, Aside0 (Ranges Try.prog 2 wr mb ri mn (worksF Q) left cnt) ∧ Aside0 (Kd.R (Kd.int .i64) 2 wr w.heap.size (fun k => w.heap.size ≤ k ∧ k ≠ ri ∧ k ≠ g5 ∧ k ≠ g6 ∧ k ≠ g7) v10 out) ∧ Aside0 (∀ n, n ∈ out ↔ ∃ q ∈ Q, q.2.f0 = n ∧ left (.int .i64 n) = false ∧ (decide (q.1.k ≠ wk) && keepB q.2.f1 q.2.f2 q.2.f3 W t) = true) ∧ Aside0 out.Nodup ∧ Aside0 (out.length + cnt ≤ mn) ∧ Aside0 (Below w.heap.size w wr) ∧ Aside0 (wr.heap[g5]? = some (.cells #[.pointer (some ⟨wk, 0, none⟩)] 55 (0, 0))) ∧ Aside0 (wr.heap[g6]? = some (.cells #[.map (some wm)] 57 (0, 0))) ∧ Aside0 (wr.heap[g7]? = some (.cells #[.int .i64 t] 3 (0, 0)))) (fun _ wr => wr.rangeLeft mb ri)
  case atStart => exact ⟨_, cnt, [], ⟨HRG.out⟩, ⟨Kd.R_nil _ _ _ _ _⟩, ⟨fun n => ⟨(fun h => by cases h), fun h => by obtain ⟨q, hq, rfl, hl, _⟩ := h; rw [worksF_mem HL.out.ids hq] at hl; cases hl⟩⟩, ⟨List.nodup_nil⟩, ⟨by rw [List.length_nil, Nat.zero_add]; exact HCN.out⟩, ⟨HB.out⟩, ⟨B5.out⟩, ⟨B6.out⟩, ⟨B7.out⟩⟩
  case round =>
    clear HRG HB B5 B6 B7
    obtain ⟨left, cnt, out, HRG, HN, HOUT, HND, HLE, HB, B5, B6, B7⟩ := hrel
    have HMS := Aside0.mk (HRG.out.left_eq)
    go_wp2_with (first | (at_next; refine next_event (Value.int .i64) (fun key kl hk => by obtain ⟨x, hx, _⟩ := Maps.keyOf_int_inv Try.underlying2 hk; exact ⟨x, hx⟩) HRG.out rfl _ rfl keyed2 rfl ?_ ?_))
    · intro hl0
      have HP := Aside0.mk (show sortI out = sortI (keptQ Q wk W t) from sortI_perm (nodup_perm HND.out (keptQ_nodup HL.out.ids wk W t) (fun n => by rw [HOUT.out n, keptQ_mem]; constructor; (rintro ⟨q, h1, h2, _, h3⟩; exact ⟨q, h1, h2, h3⟩); (rintro ⟨q, h1, h2, h3⟩; exact ⟨q, h1, h2, hl0 _, h3⟩))))
      clear hl0
      have HLN := Aside0.mk (show out.length < 4611686018427387904 by have := HLE.out; have := HMN.out; omega)
      go_wp2_with (first | (go_at_call 41; (with_reducible refine (sortInts_calls out u10 _ _ _ HN.out HLN.out).mono ?_); rintro e W3 ⟨rfl, hR, hg⟩; have HR := Aside0.mk (Kd.R_mono (ok' := fun _ => True) hR (fun _ _ => trivial)); have HBn := Aside0.mk (HB.out.grown hg (below_size HB.out) (fun k hk => Kd.R_base HN.out k hk)); clear HB hR hg; have HB := HBn; clear HBn))
      go_ret
      exact ⟨_, rfl, by rw [← HP.out]; exact HR.out, HB.out⟩
    · intro x v kl W2 cnt2 hkey hlk hf hrg hlt hg hen
      obtain ⟨x', ex, rfl, hwx⟩ := Maps.keyOf_int_inv Try.underlying2 hkey
      cases ex
      obtain ⟨q, hq, ekl, rfl⟩ := worksF_some hf
      obtain rfl : x = q.2.f0 := by injection ekl
      have HQ := Aside0.mk hq; have HLT := Aside0.mk hlt; have HLK := Aside0.mk hlk
      have hsz := hg.size
      have HNn := Aside0.mk (Kd.R_grown HN.out hg (fun k hk he => hk.2.1 (by cases he; rfl)))
      have HBn := Aside0.mk (HB.out.grown hg (below_size HB.out) (fun k hk => by cases hk; exact GR.out))
      have B5n := Aside0.mk (blk_grown B5.out hg (by intro h; cases h; exact HNE.out.1 rfl))
      have B6n := Aside0.mk (blk_grown B6.out hg (by intro h; cases h; exact HNE.out.2.1 rfl))
      have B7n := Aside0.mk (blk_grown B7.out hg (by intro h; cases h; exact HNE.out.2.2 rfl))
      clear HN HB B5 B6 B7 HRG
      have HN := HNn; have HB := HBn; have B5 := B5n; have B6 := B6n; have B7 := B7n; have HRG := Aside0.mk hrg
      clear HNn HBn B5n B6n B7n hrg hg hf hkey hlt ekl hwx hlk
      have HLW := Aside0.mk (HL.out.below HB.out)
      have HK1 := Aside0.mk ((HLW.out.wk q hq).k1 (b5 := g5) (b6 := g6) (b7 := g7) (wk := wk) (wm := wm) (nw := nw) (W := W) (t := t) (by simp [World.cell?, B5.out]) (by simp [World.cell?, B6.out]) (by simp [World.cell?, B7.out]) ⟨_, (HB.out.block wk (blk_lt HK.out)).trans HK.out⟩ (HW.out.below HB.out))
      clear hq
      cases hr : (decide (q.1.k ≠ wk) && keepB q.2.f1 q.2.f2 q.2.f3 W t) with
      | false =>
        have HR1 := Aside0.mk hr.symm
        have hmem : ∀ n, n ∈ out ↔ ∃ z ∈ Q, z.2.f0 = n ∧ (left (.int .i64 n) && !(Lit.int .i64 n).sameKey (.int .i64 q.2.f0)) = false ∧ (decide (z.1.k ≠ wk) && keepB z.2.f1 z.2.f2 z.2.f3 W t) = true := fun n => by
          rw [HOUT.out n]
          constructor
          · rintro ⟨z, h1, h2, h3, h4⟩; exact ⟨z, h1, h2, by rw [h3]; rfl, h4⟩
          · rintro ⟨z, h1, h2, h3, h4⟩
            refine ⟨z, h1, h2, ?_, h4⟩
            cases h5 : left (.int .i64 n) with
            | false => rfl
            | true =>
              rw [h5] at h3
              have h6 : n = q.2.f0 := by simpa [Lit.sameKey] using h3
              have h7 : z = q := ids_inj HL.out.ids h1 HQ.out (h2.trans h6)
              rw [h7, hr] at h4; cases h4
        have HMEM := Aside0.mk hmem; clear hmem hr
        go_wp2_with (first | (go_at_call 50; (with_reducible refine (kept1_calls g5 g6 g7 wk q.1.k q.1.hb q.1.wb wm q.1.nh q.1.nw nw q.2.f1 q.2.f2 W q.2.f3 t false _ HK1.out HR1.out).mono ?_); rintro e W3 ⟨rfl, hb⟩; have HNn := Aside0.mk (Kd.R_below HN.out hb); have HRGn := Aside0.mk (HRG.out.below hb); have B5n := Aside0.mk (blk_below B5.out hb); have B6n := Aside0.mk (blk_below B6.out hb); have B7n := Aside0.mk (blk_below B7.out hb); clear HN HRG B5 B6 B7 HLW HK1; have HBn := Aside0.mk (below_step HB.out hb); clear HB; have HB := HBn; clear HBn; have HN := HNn; have HRG := HRGn; have B5 := B5n; have B6 := B6n; have B7 := B7n; clear HNn HRGn B5n B6n B7n hb))
        go_roundw
        case rel => exact ⟨_, cnt2, out, ⟨HRG.out⟩, ⟨HN.out⟩, ⟨HMEM.out⟩, ⟨HND.out⟩, ⟨by have := HLE.out; have := HLT.out; omega⟩, ⟨HB.out⟩, ⟨B5.out⟩, ⟨B6.out⟩, ⟨B7.out⟩⟩
        case measure => rw [HRG.out.left_eq, HMS.out]; exact HLT.out
      | true =>
        have HR1 := Aside0.mk hr.symm
        have hmem : ∀ n, n ∈ out ++ [q.2.f0] ↔ ∃ z ∈ Q, z.2.f0 = n ∧ (left (.int .i64 n) && !(Lit.int .i64 n).sameKey (.int .i64 q.2.f0)) = false ∧ (decide (z.1.k ≠ wk) && keepB z.2.f1 z.2.f2 z.2.f3 W t) = true := fun n => by
          rw [List.mem_append, List.mem_singleton, HOUT.out n]
          constructor
          · rintro (⟨z, h1, h2, h3, h4⟩ | rfl)
            · exact ⟨z, h1, h2, by rw [h3]; rfl, h4⟩
            · exact ⟨q, HQ.out, rfl, by simp [Lit.sameKey], hr⟩
          · rintro ⟨z, h1, h2, h3, h4⟩
            cases h5 : left (.int .i64 n) with
            | false => exact .inl ⟨z, h1, h2, rfl, h4⟩
            | true =>
              rw [h5] at h3
              exact .inr (by simpa [Lit.sameKey] using h3)
        have hnd : (out ++ [q.2.f0]).Nodup := by
          refine List.nodup_append.2 ⟨HND.out, by simp, fun a ha b hb => ?_⟩
          rw [List.mem_singleton] at hb
          rintro rfl
          rw [hb] at ha
          obtain ⟨z, h1, h2, h3, h4⟩ := (HOUT.out _).1 ha
          rw [HLK.out] at h3; cases h3
        have HMEM := Aside0.mk hmem; have HND2 := Aside0.mk hnd; clear hmem hnd hr
        have LTo := Aside0.mk (Kd.R_lt HN.out); have LTr := Aside0.mk HRG.out.lt; have LT5 := Aside0.mk (blk_lt B5.out); have LT6 := Aside0.mk (blk_lt B6.out); have LT7 := Aside0.mk (blk_lt B7.out); have HSZ := Aside0.mk (below_size HB.out)
        go_wp2_with (first | (go_at_call 50; (with_reducible refine (kept1_calls g5 g6 g7 wk q.1.k q.1.hb q.1.wb wm q.1.nh q.1.nw nw q.2.f1 q.2.f2 W q.2.f3 t true _ HK1.out HR1.out).mono ?_); rintro e W3 ⟨rfl, hb⟩; have HZ2 := Aside0.mk hb.size; have HNn := Aside0.mk (Kd.R_below HN.out hb); have HRGn := Aside0.mk (HRG.out.below hb); have B5n := Aside0.mk (blk_below B5.out hb); have B6n := Aside0.mk (blk_below B6.out hb); have B7n := Aside0.mk (blk_below B7.out hb); clear HN HRG B5 B6 B7 HLW HK1; have HBn := Aside0.mk (below_step HB.out hb); clear HB; have HB := HBn; clear HBn; have HN := HNn; have HRG := HRGn; have B5 := B5n; have B6 := B6n; have B7 := B7n; clear HNn HRGn B5n B6n B7n hb) | ((with_reducible refine gate_builtin (b := .append) (xs := #[.tmp 27, .tmp 29]) rfl ?_); at_builtin; refine Kd.R_append (Kd.int .i64) (w0 := w) w.heap.size rfl (.tmp 27) (.tmp 29) 43 2 (.int .i64 0) 8 rfl Try.underlying43 info2 rfl (by decide) (by omega) u10 out q.2.f0 [.int .i64 q.2.f0] (fun k => w.heap.size ≤ k ∧ k ≠ ri ∧ k ≠ g5 ∧ k ≠ g6 ∧ k ≠ g7) (fun k => (fun k => w.heap.size ≤ k ∧ k ≠ ri ∧ k ≠ g5 ∧ k ≠ g6 ∧ k ≠ g7) k ∧ some k ≠ (u10 : Value).ownBlock) rfl rfl ?aP (fun _ hk => hk) ?aF ?aO ?aB ?aS ?aL ?_; (case aP => rfl); (case aB => exact HB.out); (case aF => exact fun k hk => ⟨Nat.le_trans (below_size HB.out) hk, fun he => by have := LTr.out; have := HZ2.out; omega, fun he => by have := LT5.out; have := HZ2.out; omega, fun he => by have := LT6.out; have := HZ2.out; omega, fun he => by have := LT7.out; have := HZ2.out; omega⟩); (case aO => exact HN.out); (case aS => exact below_size HB.out); (case aL => have := HLE.out; have := HMN.out; omega); intro v1 W5 ho hb hg hat; have HRGn := Aside0.mk (HRG.out.kept hg (fun he => by have h1 := HN.out.1 mb he.symm; have h2 := HL.out.m.lt; have h3 := h1.1; omega) (Kd.R_away HN.out (fun k hk => hk.2.1))); have B5n := Aside0.mk (blk_grown B5.out hg (Kd.R_away HN.out (fun k hk => hk.2.2.1))); have B6n := Aside0.mk (blk_grown B6.out hg (Kd.R_away HN.out (fun k hk => hk.2.2.2.1))); have B7n := Aside0.mk (blk_grown B7.out hg (Kd.R_away HN.out (fun k hk => hk.2.2.2.2))); clear HRG B5 B6 B7 HN HB; have HRG := HRGn; have B5 := B5n; have B6 := B6n; have B7 := B7n; have HN := Aside0.mk ho; have HB := Aside0.mk hb; clear ho hb hg hat HRGn B5n B6n B7n))
        go_roundw
        case rel => exact ⟨_, cnt2, _, ⟨HRG.out⟩, ⟨HN.out⟩, ⟨HMEM.out⟩, ⟨HND2.out⟩, ⟨by rw [List.length_append, List.length_singleton]; have := HLE.out; have := HLT.out; omega⟩, ⟨HB.out⟩, ⟨B5.out⟩, ⟨B6.out⟩, ⟨B7.out⟩⟩
        case measure => rw [HRG.out.left_eq, HMS.out]; exact HLT.out
end Go.Proofs.Ytimlfdfmgajbnaa.PA
/-
Locks: made, New, Free, Waits.
-/
namespace Go.Proofs.Ytimlfdfmgajbnaa.PA
open Go.RowKit Go.Proofs.YtimlfdfmgajbnaaW.PrintWords Go.Proofs.YtimlfdfmgajbnaaW.PrintLast Go.Proofs.YtimlfdfmgajbnaaW.PrintMore
open Go.Proofs.Ytimlfdfmgajbnaa.Mp
set_option linter.unusedVariables false
set_option linter.unusedSimpArgs false
theorem ne_nil25 (W : World) (p : Option Addr) : (binOp .neq 25 (.pointer p) (.pointer none)).run Try.prog W = .ok (.bool (!p.isNone)) W := run_neq_pointer_nil W 25 p (by kernel_rfl)
theorem eq_nil55 (W : World) (p : Option Addr) : (binOp .eql 55 (.pointer p) (.pointer none)).run Try.prog W = .ok (.bool p.isNone) W := run_eql_pointer_nil W 55 p (by kernel_rfl)
theorem ne_nil36 (W : World) (m : Option Nat) : (binOp .neq 36 (.map m) (.map none)).run Try.prog W = .ok (.bool (!m.isNone)) W := run_neq_map_nil W 36 2 55 m Try.underlying36
theorem l_cells {w : World} {lb mb mn : Nat} {last : Int} {Q : List PW} (h : LockAt w lb mb mn last Q) : w.cell? ⟨lb, 0, none⟩ = some (.map (some mb)) ∧ w.cell? ⟨lb, 1, none⟩ = some (.int .i64 last) := by
  constructor <;> simp [World.cell?, h.l]
theorem w_cells {w : World} {q : PW} (h : WorkAt w q) : w.cell? ⟨q.1.k, 0, none⟩ = some (.map (some q.1.hb)) ∧ w.cell? ⟨q.1.k, 1, none⟩ = some (.map (some q.1.wb)) ∧ w.cell? ⟨q.1.k, 2, none⟩ = some (.int .i64 q.2.f3) := by
  refine ⟨?_, ?_, ?_⟩ <;> simp [World.cell?, h.b]
theorem make_event {P : Program} {ops : Array Oper} {rest : List Oper} {o : Oper} {a : Act} {Q : Exit → Act → World → Prop} {W : World} (hg : o.guard = none) {t : TypeId} (ho : o.op = .makeMap t none) (k : TypeId) (h : ∀ b, b = W.heap.size → ∀ W', MapIs P k W' b 0 (fun _ => none) → Below W.heap.size W W' → wpList P ops Q rest (a.put o.dst (.map (some b))) W') : wpList P ops Q (o :: rest) a W := by
  refine Kd.event_run hg (v := .map (some W.heap.size)) (w1 := W.alloc (.map #[] 0)) ?_ (h _ rfl _ (made P k W) (below_alloc (Below.refl _ _) _))
  unfold execOp
  simp only [ho]
  simp [run_makeMap, Result.andThen]
/-! ### made -/
theorem made_yes (lb mb mn : Nat) (last : Int) (Q : List PW) (w : World) (h : LockAt w lb mb mn last Q) : Calls Try.prog 31 #[.pointer (some ⟨lb, 0, none⟩)] w fun e w' => e = .returned (.bool true) ∧ w = w' := by
  have hc := (l_cells h).1
  clear h
  have h1 := ne_nil25 w (some ⟨lb, 0, none⟩)
  have h2 := ne_nil36 w (some mb)
  go_enter Try.func31, Try.ntmps31
  go_wp2
  go_ret
  exact ⟨rfl, rfl⟩
/-! ### New -/
theorem worksF_nil (kl : Lit) : worksF [] kl = none := by unfold worksF; split <;> rfl
set_option maxHeartbeats 400000 in
theorem new_calls (w : World) : Calls Try.prog 10 #[] w fun e w' => ∃ lb mb, e = .returned (.pointer (some ⟨lb, 0, none⟩)) ∧ LockAt w' lb mb 0 0 [] ∧ Below w.heap.size w w' ∧ w.heap.size ≤ lb ∧ w.heap.size ≤ mb := by
  have HB := Aside0.mk (Below.refl w.heap.size w)
  go_enter Try.func10, Try.ntmps10
  go_wp2_with (first | ((with_reducible refine gate_dst (N := 1) rfl ?_); refine make_event rfl rfl 2 ?_; intro bm hbm W2 hm hb; have GM := Aside0.mk (by rw [hbm]; exact Nat.le_refl _ : w.heap.size ≤ bm); have HM := Aside0.mk hm; clear HB; have HB := Aside0.mk hb; clear hm hb hbm) | ((with_reducible refine gate_dst (N := 3) rfl ?_); refine box_event ?hg (N := 3) ?hd (cs := #[.map (some bm), .int .i64 0]) (t := 38) ?hr ?_; (case hd => rfl); (case hg => rfl); (case hr => first | (go_simp; done) | (go_simp; rfl)); intro g hg W3 hbox hb; have GL := Aside0.mk (by rw [hg]; exact HB.out.size : w.heap.size ≤ g); have HMn := Aside0.mk (HM.out.below hb); clear HM; have HM := HMn; clear HMn; have HBn := Aside0.mk (below_step HB.out hb); clear HB; have HB := HBn; clear HBn; have BK := Aside0.mk hbox; clear hg hbox hb))
  go_ret
  exact ⟨g, bm, rfl, ⟨BK.out, HM.out.congr (fun kl => (worksF_nil kl).symm), (fun q hq => by cases hq), List.nodup_nil, List.nodup_nil, by simp [mapsOf], (fun q hq => by cases hq)⟩, HB.out, GL.out, GM.out⟩
/-! ### Free -/
def freeQ (Q : List PW) (id : Int) : List PW := Q.filter (fun q => decide (q.2.f0 ≠ id))
theorem worksF_free {Q : List PW} (hn : (idsOf Q).Nodup) (id : Int) (kl : Lit) : upd (worksF Q) (.int .i64 id) none kl = worksF (freeQ Q id) kl := by
  unfold upd
  split
  · rename_i e
    rw [e, worksF_none]
    intro q hq
    simpa using (List.mem_filter.1 hq).2
  · rename_i e
    cases h : worksF (freeQ Q id) kl with
    | some v =>
      obtain ⟨q, hq, rfl, rfl⟩ := worksF_some h
      exact worksF_mem hn (List.mem_filter.1 hq).1
    | none =>
      cases h2 : worksF Q kl with
      | none => rfl
      | some v =>
        obtain ⟨q, hq, rfl, rfl⟩ := worksF_some h2
        have h3 : q ∈ freeQ Q id := List.mem_filter.2 ⟨hq, by simp; intro e2; exact e (by rw [e2])⟩
        have hn2 : (idsOf (freeQ Q id)).Nodup := hn.sublist (List.Sublist.map _ List.filter_sublist)
        rw [worksF_mem hn2 h3] at h
        cases h
theorem sub_flatMap {Q R : List PW} (h : R.Sublist Q) (f : PW → List Nat) : (R.flatMap f).Sublist (Q.flatMap f) := by
  induction h with
  | slnil => exact List.Sublist.slnil
  | cons a _ ih => rw [List.flatMap_cons]; exact ih.trans (List.sublist_append_right _ _)
  | cons_cons a _ ih => rw [List.flatMap_cons, List.flatMap_cons]; exact (List.Sublist.refl _).append ih
theorem maps_sub {mb : Nat} {Q R : List PW} (h : R.Sublist Q) (hm : (mapsOf mb Q).Nodup) : (mapsOf mb R).Nodup := hm.sublist ((sub_flatMap h _).cons_cons mb)
theorem maps_ne {mb : Nat} {Q : List PW} (hm : (mapsOf mb Q).Nodup) {q : PW} (hq : q ∈ Q) : mb ≠ q.1.hb ∧ mb ≠ q.1.wb := by
  obtain ⟨h1, _⟩ := List.nodup_cons.1 hm
  exact ⟨fun e => h1 (List.mem_flatMap.2 ⟨q, hq, by simp [e]⟩), fun e => h1 (List.mem_flatMap.2 ⟨q, hq, by simp [e]⟩)⟩
theorem free_at {w w' : World} {lb mb mn mn' : Nat} {last : Int} {Q : List PW} {id : Int} (h : LockAt w lb mb mn last Q) (hm : MapIs Try.prog 2 w' mb mn' (upd (worksF Q) (.int .i64 id) none)) (hg : w.grownBy w' (some mb)) : LockAt w' lb mb mn' last (freeQ Q id) := by
  have hs : (freeQ Q id).Sublist Q := List.filter_sublist
  refine ⟨(hg.block lb (blk_lt h.l) (fun e => cells_ne_map h.l h.m (by injection e))).trans h.l, hm.congr (worksF_free h.ids id), fun q hq => ?_, h.ids.sublist (hs.map _), h.ks.sublist (hs.map _), maps_sub hs h.maps, fun q hq => h.wf q (hs.subset hq)⟩
  have hq' := hs.subset hq
  have hw := h.wk q hq'
  have hne := maps_ne h.maps hq'
  exact hw.at (hg.block _ (blk_lt hw.b) (fun e => cells_ne_map hw.b h.m (by injection e))) (hg.block _ hw.h.lt (fun e => hne.1 (by injection e with e; exact e.symm))) (hg.block _ hw.w.lt (fun e => hne.2 (by injection e with e; exact e.symm)))
set_option maxHeartbeats 400000 in
theorem free_calls (lb mb mn : Nat) (last : Int) (Q : List PW) (id : Int) (w : World) (h : LockAt w lb mb mn last Q) (hid : (Lit.int .i64 id).wf = true) :
    Calls Try.prog 13 #[.pointer (some ⟨lb, 0, none⟩), .int .i64 id] w fun e w' => e = .returned (.tuple #[]) ∧ LockAt w' lb mb mn last (freeQ Q id) ∧ w.grownBy w' (some mb) := by
  have hc := (l_cells h).1
  have HL := Aside0.mk h
  have HI := Aside0.mk hid
  clear h hid
  go_enter Try.func13, Try.ntmps13
  go_wp2_with (first | (go_at_call 31; (with_reducible refine (made_yes lb mb mn last Q _ HL.out).mono ?_); rintro e w' ⟨rfl, rfl⟩) | (at_delete; refine delete_event HL.out.m rfl _ _ rfl keyed2 Try.underlying36 rfl rfl (key_i id HI.out) ?_; intro W2 hm hg; have HL2 := Aside0.mk (free_at HL.out hm hg); have HG := Aside0.mk hg; clear hm hg))
  go_end0
  exact ⟨rfl, HL2.out, HG.out⟩
/-! ### Waits -/
def waitsQ (Q : List PW) (id : Int) : List Int := match Q.find? (fun q => decide (q.2.f0 = id)) with
  | none => []
  | some q => if q.2.f3 = 0 then [] else sortI (keptQ Q q.1.k q.2.f2 q.2.f3)
set_option maxHeartbeats 8000000 in
set_option maxRecDepth 100000 in
theorem waits_calls (lb mb mn : Nat) (last : Int) (Q : List PW) (id : Int) (w : World) (h : LockAt w lb mb mn last Q) (hid : (Lit.int .i64 id).wf = true) (hmn : mn ≤ 1000000) :
    Calls Try.prog 16 #[.pointer (some ⟨lb, 0, none⟩), .int .i64 id] w fun e w' => ∃ v, e = .returned v ∧ Kd.R (Kd.int .i64) 2 w' w.heap.size (fun _ => True) v (waitsQ Q id) ∧ Below w.heap.size w w' := by
  have hc := (l_cells h).1
  have hlook := h.m.lookup_run keyed2 Try.underlying36 (zero55 w) (key_i id hid)
  have HL := Aside0.mk h; have HMN := Aside0.mk hmn
  have HB := Aside0.mk (Below.refl w.heap.size w)
  rw [worksF_at] at hlook
  cases hf : Q.find? (fun q => decide (q.2.f0 = id)) with
  | none =>
    rw [hf] at hlook
    simp only [Option.map_none, Option.getD_none] at hlook
    have HZ := Aside0.mk (show waitsQ Q id = [] by unfold waitsQ; rw [hf])
    have hn := eq_nil55 w none
    clear h hid hmn hf
    go_enter Try.func16, Try.ntmps16
    go_wp2_with (first | (go_at_call 31; (with_reducible refine (made_yes lb mb mn last Q _ HL.out).mono ?_); rintro e w' ⟨rfl, rfl⟩))
    go_ret
    exact ⟨_, rfl, by rw [HZ.out]; exact Kd.R_nil _ _ _ _ _, HB.out⟩
  | some q =>
    have hq := List.mem_of_find?_eq_some hf
    rw [hf] at hlook
    simp only [Option.map_some, Option.getD_some] at hlook
    have hn := eq_nil55 w (some ⟨q.1.k, 0, none⟩)
    obtain ⟨c0, c1, c2⟩ := w_cells (h.wk q hq)
    by_cases ht : q.2.f3 = 0
    · have HZ := Aside0.mk (show waitsQ Q id = [] by unfold waitsQ; rw [hf]; simp [ht])
      have ht0 : (q.2.f3 == 0) = true := by rw [ht]; rfl
      clear h hid hmn hf hq ht
      go_enter Try.func16, Try.ntmps16
      go_wp2_with (first | (go_at_call 31; (with_reducible refine (made_yes lb mb mn last Q _ HL.out).mono ?_); rintro e w' ⟨rfl, rfl⟩))
      go_ret
      exact ⟨_, rfl, by rw [HZ.out]; exact Kd.R_nil _ _ _ _ _, HB.out⟩
    · have HZ := Aside0.mk (show waitsQ Q id = sortI (keptQ Q q.1.k q.2.f2 q.2.f3) by unfold waitsQ; rw [hf]; simp [ht])
      have ht0 : (q.2.f3 == 0) = false := by rw [beq_eq_false_iff_ne]; exact ht
      have HQ := Aside0.mk hq
      clear h hid hmn hf hq ht
      go_enter Try.func16, Try.ntmps16
      go_wp2_with (first | (go_at_call 31; (with_reducible refine (made_yes lb mb mn last Q _ HL.out).mono ?_); rintro e w' ⟨rfl, rfl⟩))
      refine start_ (n := 12) (S := (fun w' => w'.cell? ⟨q.1.k, 1, none⟩ = some (.map (some q.1.wb)) ∧ w'.cell? ⟨q.1.k, 2, none⟩ = some (.int .i64 q.2.f3))) (ds := []) (Sh.m 0 12) (by kernel_rfl) rfl rfl ⟨c1, c2⟩ (fun hHeld => ?_)
      (have HBn := Aside0.mk (below_drew1 HB.out); clear HB; have HB := HBn; clear HBn; have HL1 := Aside0.mk (HL.out.below (below_drew1 (Below.refl _ w))); have hw1 : w.heap.size = w.drew.heap.size := rfl; have HW1 := Aside0.mk hw1; clear hw1 hlook hn hc c0 c1 c2; generalize w.drew = W1 at HB HL1 HW1 hHeld ⊢)
      refine pure_ (i := 0) (N := some 36) (v := ?_) (a' := ?_) (Sh.m 1 11) rfl rfl (by kernel_rfl) (fun _ _ _ h => h) (Or.inl ⟨by rfl, ?_⟩) ?_ ?_
      rotate_left
      · intro w'
        go_simp
        with_reducible rfl
      rotate_left
      · simp only [Act.put, List.setIfInBounds_toArray, List.set_cons_zero, List.set_cons_succ, i64_w, i32_w]
        rfl
      refine pure_ (i := 1) (N := some 37) (v := ?_) (a' := ?_) (Sh.m 2 10) rfl rfl (by kernel_rfl) (fun _ _ _ h => h) (Or.inl ⟨by rfl, ?_⟩) ?_ ?_
      rotate_left
      · intro w'
        go_simp
        with_reducible rfl
      rotate_left
      · simp only [Act.put, List.setIfInBounds_toArray, List.set_cons_zero, List.set_cons_succ, i64_w, i32_w]
        rfl
      refine pure_ (i := 2) (N := some 38) (v := ?_) (a' := ?_) (Sh.m 3 9) rfl rfl (by kernel_rfl) (fun _ _ _ h => h) (Or.inl ⟨by rfl, ?_⟩) ?_ ?_
      rotate_left
      · intro w'
        go_simp
        with_reducible rfl
      rotate_left
      · simp only [Act.put, List.setIfInBounds_toArray, List.set_cons_zero, List.set_cons_succ, i64_w, i32_w]
        rfl
      refine pure_ (i := 3) (N := some 39) (v := ?_) (a' := ?_) (Sh.m 4 8) rfl rfl (by kernel_rfl) (fun _ _ _ h => h) (Or.inl ⟨by rfl, ?_⟩) ?_ ?_
      rotate_left
      · intro w'
        go_simp
        with_reducible rfl
      rotate_left
      · simp only [Act.put, List.setIfInBounds_toArray, List.set_cons_zero, List.set_cons_succ, i64_w, i32_w]
        rfl
      refine pure_ (i := 4) (N := some 40) (v := ?_) (a' := ?_) (Sh.m 5 7) rfl rfl (by kernel_rfl) (fun _ _ _ h => h) (Or.inl ⟨by rfl, ?_⟩) ?_ ?_
      rotate_left
      · intro w'
        go_simp
        with_reducible rfl
      rotate_left
      · simp only [Act.put, List.setIfInBounds_toArray, List.set_cons_zero, List.set_cons_succ, i64_w, i32_w]
        rfl
      refine take_ (i := 5) (N := some 41) (v := ?_) (a' := ?_) (Sh.m 6 6) rfl rfl (by kernel_rfl) (fun _ _ _ h => h) (Or.inl ⟨by rfl, ?_⟩) hHeld ?_ ?_
      rotate_left
      · rintro w' ⟨s0, s1⟩
        go_simp
        with_reducible rfl
      rotate_left
      · simp only [Act.put, List.setIfInBounds_toArray, List.set_cons_zero, List.set_cons_succ, i64_w, i32_w]
        rfl
      refine pure_ (i := 6) (N := some 42) (v := ?_) (a' := ?_) (Sh.m 7 5) rfl rfl (by kernel_rfl) (fun _ _ _ h => h) (Or.inl ⟨by rfl, ?_⟩) ?_ ?_
      rotate_left
      · intro w'
        go_simp
        with_reducible rfl
      rotate_left
      · simp only [Act.put, List.setIfInBounds_toArray, List.set_cons_zero, List.set_cons_succ, i64_w, i32_w]
        rfl
      refine pure_ (i := 7) (N := some 43) (v := ?_) (a' := ?_) (Sh.m 8 4) rfl rfl (by kernel_rfl) (fun _ _ _ h => h) (Or.inl ⟨by rfl, ?_⟩) ?_ ?_
      rotate_left
      · intro w'
        go_simp
        with_reducible rfl
      rotate_left
      · simp only [Act.put, List.setIfInBounds_toArray, List.set_cons_zero, List.set_cons_succ, i64_w, i32_w]
        rfl
      refine pure_ (i := 8) (N := some 44) (v := ?_) (a' := ?_) (Sh.m 9 3) rfl rfl (by kernel_rfl) (fun _ _ _ h => h) (Or.inl ⟨by rfl, ?_⟩) ?_ ?_
      rotate_left
      · intro w'
        go_simp
        with_reducible rfl
      rotate_left
      · simp only [Act.put, List.setIfInBounds_toArray, List.set_cons_zero, List.set_cons_succ, i64_w, i32_w]
        rfl
      refine take_ (i := 9) (N := some 45) (v := ?_) (a' := ?_) (Sh.m 10 2) rfl rfl (by kernel_rfl) (fun _ _ _ h => h) (Or.inl ⟨by rfl, ?_⟩) hHeld ?_ ?_
      rotate_left
      · rintro w' ⟨s0, s1⟩
        go_simp
        with_reducible rfl
      rotate_left
      · simp only [Act.put, List.setIfInBounds_toArray, List.set_cons_zero, List.set_cons_succ, i64_w, i32_w]
        rfl
      refine one_ (i := 10) (N := some 46) (Sh.m 11 1) rfl rfl (by kernel_rfl) (by decide) (fun K hK => ?_)
      refine goes_ Try.func33 (by kernel_rfl) rfl #[.pointer (some ⟨lb, 0, none⟩), .pointer (some ⟨q.1.k, 0, none⟩), .map (some q.1.wb), .int .i64 q.2.f3] (by rfl) rfl rfl (by (try simp only [List.map_toArray, List.map_cons, List.map_nil]); first | done | rfl) ?_
      with_reducible refine (kept_calls lb mb mn last Q q.1.k q.1.wb q.1.nw q.2.f2 q.2.f3 _ HL1.out ⟨_, (HL1.out.wk q HQ.out).b⟩ (HL1.out.wk q HQ.out).w HMN.out).mono ?_
      rintro e W2 ⟨v, rfl, hR, hb⟩
      refine ⟨_, rfl, ?_⟩
      have HBn := Aside0.mk (below_step HB.out hb); clear HB; have HB := HBn; clear HBn
      have HR := Aside0.mk (Kd.R_lower hR (Nat.le_of_eq HW1.out))
      obtain ⟨k0, k1⟩ := hHeld
      refine hK.out _ _ ⟨cell_keep k0 hb, cell_keep k1 hb⟩ (fun hHeld => ?_)
      clear hK K
      refine norm_ (a' := ?_) ?_ ?_
      rotate_left
      · show Act.put _ (some 46) _ = _
        simp only [Act.put, List.setIfInBounds_toArray, List.set_cons_zero, List.set_cons_succ, i64_w, i32_w]
        rfl
      refine pure_ (i := 11) (N := some 4) (v := ?_) (a' := ?_) (Sh.m 12 0) rfl rfl (by kernel_rfl) (fun _ _ _ h => h) (Or.inl ⟨by rfl, ?_⟩) ?_ ?_
      rotate_left
      · intro w'
        go_simp
        with_reducible rfl
      rotate_left
      · simp only [Act.put, List.setIfInBounds_toArray, List.set_cons_zero, List.set_cons_succ, i64_w, i32_w]
        rfl
      refine done_ (by kernel_rfl) ?_
      go_wp2
      go_ret
      exact ⟨_, rfl, by rw [HZ.out]; exact HR.out, HB.out⟩
end Go.Proofs.Ytimlfdfmgajbnaa.PA
/-
maps.Copy of sets of texts; what a work that asks comes to; one work's places turned.
-/
namespace Go.Proofs.Ytimlfdfmgajbnaa.PA
open Go.RowKit Go.Proofs.YtimlfdfmgajbnaaW.PrintWords Go.Proofs.YtimlfdfmgajbnaaW.PrintLast Go.Proofs.YtimlfdfmgajbnaaW.PrintMore
open Go.Proofs.Ytimlfdfmgajbnaa.Mp
set_option linter.unusedVariables false
set_option linter.unusedSimpArgs false
/-! ### maps.Copy -/
set_option maxHeartbeats 8000000 in
set_option maxRecDepth 100000 in
theorem copy_calls (a na b nb : Nat) (A B : List ByteArray) (w : World) (ha : SetIs w a na A) (hb : SetIs w b nb B) (hab : a ≠ b) (hn : na + nb ≤ 1000000) :
    Calls Try.prog 34 #[.map (some a), .map (some b)] w fun e w' => e = .returned (.tuple #[]) ∧ ∃ n T, SetIs w' a n T ∧ (∀ x, x ∈ T ↔ x ∈ A ∨ x ∈ B) ∧ n ≤ na + nb ∧ Chg (fun k => k = a) w w' := by
  have HA := Aside0.mk ha
  have HB := Aside0.mk hb
  have HLA := Aside0.mk ha.lt
  have HLB := Aside0.mk hb.lt
  have HNE := Aside0.mk hab
  have HNN := Aside0.mk hn
  clear ha hb hab hn
  go_enter Try.func34, Try.ntmps34
  go_wp2_with (first | (at_range; refine range_event HB.out rfl _ rfl keyed9 Try.underlying57 rfl ?_; intro ri hri W2 cnt hrg hcnt hg; have HRI := Aside0.mk (by rw [hri]; exact Nat.le_refl _ : w.heap.size ≤ ri); have HCN := Aside0.mk hcnt; have HRG := Aside0.mk hrg; have HA2 := Aside0.mk (HA.out.kept hg (fun h => by cases h)); have HC := Aside0.mk (Chg.ofGrown (F := fun k => k = a) hg (fun k h => by cases h)); clear HA HB hri hrg hcnt hg))
  go_frame
  go_loopw [4, 5] (fun v4 v5 wr => ∃ left cnt m S, Aside0 (Ranges Try.prog 9 wr b ri nb (setF B) left cnt) ∧ Aside0 (SetIs wr a m S) ∧ Aside0 (∀ x, x ∈ S ↔ x ∈ A ∨ (x ∈ B ∧ left (sLit x) = false)) ∧ Aside0 (m + cnt ≤ na + nb) ∧ Aside0 (Chg (fun k => k = a) w wr)) (fun _ _ wr => wr.rangeLeft b ri)
  case atStart => exact ⟨_, cnt, na, A, ⟨HRG.out⟩, ⟨HA2.out⟩, ⟨fun x => ⟨.inl, fun h => by rcases h with h | ⟨h, hl⟩; exact h; rw [setF_at, if_pos h] at hl; cases hl⟩⟩, ⟨by have := HCN.out; omega⟩, ⟨HC.out⟩⟩
  case round =>
    clear HRG HA2 HC
    obtain ⟨left, cnt, m, S, HRG, HA, HS, HLE, HC⟩ := hrel
    have HMS := Aside0.mk (HRG.out.left_eq)
    go_wp2_with (first | (at_next; refine next_event (fun x : List UInt8 => Value.string ⟨x.toArray⟩) (fun key kl hk => by obtain ⟨x, hx, _⟩ := Maps.keyOf_str Try.underlying9 hk; exact ⟨x, hx⟩) HRG.out rfl _ rfl keyed9 rfl ?_ ?_))
    · intro hl0
      have HZ := Aside0.mk (show ∀ x, x ∈ S ↔ x ∈ A ∨ x ∈ B from fun x => by rw [HS.out x, hl0]; simp)
      clear hl0
      go_wp2
      go_end0
      exact ⟨rfl, m, S, HA.out, HZ.out, by have := HLE.out; omega, HC.out⟩
    · intro x v kl W2 cnt2 hkey hlk hf hrg hlt hg hen
      obtain ⟨rfl, hsz⟩ := key_str hkey
      obtain ⟨s, hs, ekl, rfl⟩ := setF_some hf
      obtain rfl := sLit_inj ekl
      have HKY := Aside0.mk hkey
      have HLT := Aside0.mk hlt
      have HLR := Aside0.mk HRG.out.lt
      have HCn := Aside0.mk (HC.out.trans (Chg.ofGrown (F := fun k => k = ri) hg (fun k h => by injection h)) (fun k hk e => absurd HRI.out (by rw [← e]; exact Nat.not_le.2 hk)))
      have HA2 := Aside0.mk (HA.out.kept hg (fun h => by injection h with h; have h1 := HRI.out; have h2 := HLA.out; omega))
      have HRGn := Aside0.mk hrg
      have HM := Aside0.mk (show ∀ y, y ∈ (⟨x.toArray⟩ :: S : List ByteArray) ↔ y ∈ A ∨ (y ∈ B ∧ (left (sLit y) && !(sLit y).sameKey (sLit ⟨x.toArray⟩)) = false) by
        intro y
        rw [List.mem_cons, HS.out y]
        by_cases e : y = ⟨x.toArray⟩
        · rw [e]
          have h4 : (sLit ⟨x.toArray⟩).sameKey (sLit ⟨x.toArray⟩) = true := (same_sLit _ _).2 rfl
          rw [h4]
          simp [hs]
        · have h4 : (sLit y).sameKey (sLit ⟨x.toArray⟩) = false := by rw [← Bool.not_eq_true]; exact fun h => e ((same_sLit _ _).1 h)
          rw [h4]
          simp [e])
      clear HA HC HRG hg hrg hlt hsz hf hkey hlk hs ekl
      have HA := HA2
      have HC := HCn
      have HRG := HRGn
      clear HA2 HCn HRGn
      go_wp2_with (first | (at_mapUpdate; refine update_event HA.out rfl _ _ _ rfl keyed9 Try.underlying57 (by have := HLE.out; have := HNN.out; unfold maxLen; omega) rfl rfl rfl HKY.out ?_; intro W3 hm hg; have HRGn := Aside0.mk (HRG.out.kept hg (fun h => by injection h with h; exact HNE.out h.symm) (fun h => by injection h with h; have h1 := HRI.out; have h2 := HLA.out; omega)); have HCn := Aside0.mk (HC.out.trans (Chg.ofGrown (F := fun k => k = a) hg (fun k h => by injection h)) (fun k hk e => e)); have HAn := Aside0.mk (MapIs.congr hm (setF_upd (T := ⟨x.toArray⟩ :: S) (fun y => List.mem_cons))); clear HA HRG HC hm hg; have HA := HAn; have HRG := HRGn; have HC := HCn; clear HAn HRGn HCn))
      go_roundw
      case rel => exact ⟨_, _, _, _, _, _, _, _, _, _, ⟨_, cnt2, m + 1, _, ⟨HRG.out⟩, ⟨HA.out⟩, ⟨HM.out⟩, ⟨by have := HLE.out; have := HLT.out; omega⟩, ⟨HC.out⟩⟩, rfl⟩
      case measure => rw [HRG.out.left_eq, HMS.out]; exact HLT.out
/-! ### what is asked for -/
/-- A text in its place among rising ones, once. -/
def putS : List ByteArray → ByteArray → List ByteArray
  | [], s => [s]
  | x :: l, s => if Op.bytesLess x.data.toList s.data.toList = true then x :: putS l s else if x.data.toList = s.data.toList then x :: l else s :: x :: l
theorem toList_inj {a b : ByteArray} (h : a.toList = b.toList) : a = b := by
  have h1 : a.data.toList = b.data.toList := by rw [← ByteArray.toList_eq, ← ByteArray.toList_eq, h]
  exact Go.WideShapes.bytes_inj h1
theorem mem_putS : ∀ {l : List ByteArray} {s x : ByteArray}, x ∈ putS l s ↔ x = s ∨ x ∈ l
  | [], s, x => by simp [putS]
  | y :: l, s, x => by
    unfold putS
    split
    · rw [List.mem_cons, mem_putS, List.mem_cons]
      constructor
      · rintro (h | h | h)
        · exact .inr (.inl h)
        · exact .inl h
        · exact .inr (.inr h)
      · rintro (h | h | h)
        · exact .inr (.inl h)
        · exact .inl h
        · exact .inr (.inr h)
    · split
      · rename_i h
        have e := Go.WideShapes.bytes_inj h
        rw [e]
        simp only [List.mem_cons]
        constructor
        · intro h; exact .inr h
        · rintro (h | h)
          · exact .inl h
          · exact h
      · simp only [List.mem_cons]
/-- What one that holds some names and waits for some waits for if it asks for more. -/
def wantsS (H W : List ByteArray) (ns : List ByteArray) : List ByteArray := ns.foldl (fun W n => if n ∈ H ∨ star ∈ H then W else putS W n) W
theorem wantsS_snoc (H W ns : List ByteArray) (n : ByteArray) : wantsS H W (ns ++ [n]) = if n ∈ H ∨ star ∈ H then wantsS H W ns else putS (wantsS H W ns) n := by unfold wantsS; rw [List.foldl_append]; rfl
def joinS (H W : List ByteArray) : List ByteArray := W.foldl putS H
theorem mem_joinS : ∀ {W H : List ByteArray} {x : ByteArray}, x ∈ joinS H W ↔ x ∈ H ∨ x ∈ W
  | [], H, x => by simp [joinS]
  | y :: W, H, x => by
    show x ∈ joinS (putS H y) W ↔ _
    rw [mem_joinS, mem_putS, List.mem_cons]
    constructor
    · rintro ((h | h) | h)
      · exact .inr (.inl h)
      · exact .inl h
      · exact .inr (.inr h)
    · rintro (h | h | h)
      · exact .inl (.inr h)
      · exact .inl (.inl h)
      · exact .inr h
/-! ### one work's places turned -/
def replQ (Q : List PW) (q' : PW) : List PW := Q.map (fun x => if x.2.f0 = q'.2.f0 then q' else x)
theorem mem_replQ {Q : List PW} {q q' x : PW} (hq : q ∈ Q) (hid : q'.2.f0 = q.2.f0) : x ∈ replQ Q q' ↔ x = q' ∨ (x ∈ Q ∧ x.2.f0 ≠ q.2.f0) := by
  unfold replQ
  rw [List.mem_map]
  constructor
  · rintro ⟨y, hy, rfl⟩
    split
    · exact .inl rfl
    · rename_i h; exact .inr ⟨hy, fun e => h (e.trans hid.symm)⟩
  · rintro (rfl | ⟨h1, h2⟩)
    · exact ⟨q, hq, by rw [if_pos hid.symm]⟩
    · exact ⟨x, h1, by rw [if_neg (fun e => h2 (e.trans hid))]⟩
theorem ids_replQ (Q : List PW) (q' : PW) : idsOf (replQ Q q') = idsOf Q := by
  unfold idsOf replQ
  rw [List.map_map]
  apply List.map_congr_left
  intro x hx
  simp only [Function.comp]
  split
  · rename_i h; exact h.symm
  · rfl
theorem ks_replQ {Q : List PW} {q q' : PW} (hn : (idsOf Q).Nodup) (hq : q ∈ Q) (hid : q'.2.f0 = q.2.f0) (hk : q'.1.k = q.1.k) : (replQ Q q').map (fun x => x.1.k) = Q.map (fun x => x.1.k) := by
  unfold replQ
  rw [List.map_map]
  apply List.map_congr_left
  intro x hx
  simp only [Function.comp]
  split
  · rename_i h
    have : x = q := ids_inj hn hx hq (h.trans hid)
    rw [this, hk]
  · rfl
theorem find_replQ {Q : List PW} {q q' : PW} (hn : (idsOf Q).Nodup) (hq : q ∈ Q) (hid : q'.2.f0 = q.2.f0) (hk : q'.1.k = q.1.k) (kl : Lit) : worksF (replQ Q q') kl = worksF Q kl := by
  have hn' : (idsOf (replQ Q q')).Nodup := by rw [ids_replQ]; exact hn
  cases h : worksF Q kl with
  | some v =>
    obtain ⟨x, hx, rfl, rfl⟩ := worksF_some h
    by_cases e : x.2.f0 = q.2.f0
    · have ex : x = q := ids_inj hn hx hq e
      rw [e, ← hid, worksF_mem hn' ((mem_replQ hq hid).2 (.inl rfl)), ex]
      unfold ptr
      rw [hk]
    · exact worksF_mem hn' ((mem_replQ hq hid).2 (.inr ⟨hx, e⟩))
  | none =>
    cases h2 : worksF (replQ Q q') kl with
    | none => rfl
    | some v =>
      obtain ⟨x, hx, rfl, rfl⟩ := worksF_some h2
      rcases (mem_replQ hq hid).1 hx with rfl | ⟨hx, _⟩
      · rw [hid, worksF_mem hn hq] at h; cases h
      · rw [worksF_mem hn hx] at h; cases h
theorem maps_apart {mb : Nat} : ∀ {Q : List PW}, (mapsOf mb Q).Nodup → (idsOf Q).Nodup → ∀ {x q : PW}, x ∈ Q → q ∈ Q → x.2.f0 ≠ q.2.f0 → x.1.hb ≠ q.1.hb ∧ x.1.hb ≠ q.1.wb ∧ x.1.wb ≠ q.1.hb ∧ x.1.wb ≠ q.1.wb := by
  intro Q hm
  have hm' := (List.nodup_cons.1 hm).2
  clear hm
  induction Q with
  | nil => intro _ x q hx; cases hx
  | cons y Q ih =>
    intro hn x q hx hq hne
    obtain ⟨h1, h2⟩ := List.nodup_cons.1 hn
    rw [List.flatMap_cons] at hm'
    obtain ⟨m1, m2, m3⟩ := List.nodup_append.1 hm'
    have far : ∀ z ∈ Q, y.1.hb ≠ z.1.hb ∧ y.1.hb ≠ z.1.wb ∧ y.1.wb ≠ z.1.hb ∧ y.1.wb ≠ z.1.wb := fun z hz => by
      have a1 : z.1.hb ∈ Q.flatMap (fun q => [q.1.hb, q.1.wb]) := List.mem_flatMap.2 ⟨z, hz, by simp⟩
      have a2 : z.1.wb ∈ Q.flatMap (fun q => [q.1.hb, q.1.wb]) := List.mem_flatMap.2 ⟨z, hz, by simp⟩
      exact ⟨m3 _ (by simp) _ a1, m3 _ (by simp) _ a2, m3 _ (by simp) _ a1, m3 _ (by simp) _ a2⟩
    rcases List.mem_cons.1 hx with ex | hx' <;> rcases List.mem_cons.1 hq with eq | hq'
    · rw [ex, eq] at hne; exact absurd rfl hne
    · rw [ex]; exact far q hq'
    · rw [eq]
      have := far x hx'
      exact ⟨this.1.symm, this.2.2.1.symm, this.2.1.symm, this.2.2.2.symm⟩
    · exact ih m2 h2 hx' hq' hne
theorem hb_ne_wb {mb : Nat} {Q : List PW} (hm : (mapsOf mb Q).Nodup) {q : PW} (hq : q ∈ Q) : q.1.hb ≠ q.1.wb := by
  have hm' := (List.nodup_cons.1 hm).2
  clear hm
  induction Q with
  | nil => cases hq
  | cons y Q ih =>
    rw [List.flatMap_cons] at hm'
    obtain ⟨m1, m2, m3⟩ := List.nodup_append.1 hm'
    rcases List.mem_cons.1 hq with e | hq'
    · rw [e]; simpa using m1
    · exact ih hq' m2
theorem maps_replQ {mb : Nat} {q q' : PW} (hhb : q'.1.hb = q.1.hb) (hid : q'.2.f0 = q.2.f0) : ∀ {Q : List PW}, (mapsOf mb Q).Nodup → (idsOf Q).Nodup → q ∈ Q → (q'.1.wb = q.1.wb ∨ q'.1.wb ∉ mapsOf mb Q) → (mapsOf mb (replQ Q q')).Nodup := by
  intro Q hm hn hq hwb
  have key : ∀ {R : List PW}, (R.flatMap (fun q => [q.1.hb, q.1.wb])).Nodup → (idsOf R).Nodup → (∀ x ∈ R, x.2.f0 = q.2.f0 → x = q) → (q'.1.wb = q.1.wb ∨ q'.1.wb ∉ R.flatMap (fun q => [q.1.hb, q.1.wb])) → ((replQ R q').flatMap (fun q => [q.1.hb, q.1.wb])).Nodup ∧ ∀ k, k ∈ (replQ R q').flatMap (fun q => [q.1.hb, q.1.wb]) → k ∈ R.flatMap (fun q => [q.1.hb, q.1.wb]) ∨ (k = q'.1.wb ∧ q ∈ R) := by
    intro R
    induction R with
    | nil => intro _ _ _ _; exact ⟨List.nodup_nil, fun k h => by cases h⟩
    | cons y R ih =>
      intro hm hn he hw
      obtain ⟨h1, h2⟩ := List.nodup_cons.1 hn
      rw [List.flatMap_cons] at hm hw
      obtain ⟨m1, m2, m3⟩ := List.nodup_append.1 hm
      have hw2 : q'.1.wb = q.1.wb ∨ q'.1.wb ∉ R.flatMap (fun q => [q.1.hb, q.1.wb]) := hw.imp id (fun h hh => h (List.mem_append.2 (.inr hh)))
      obtain ⟨i1, i2⟩ := ih m2 h2 (fun x hx => he x (by simp [hx])) hw2
      have hmem : ∀ z ∈ R, z.1.hb ∈ R.flatMap (fun q => [q.1.hb, q.1.wb]) ∧ z.1.wb ∈ R.flatMap (fun q => [q.1.hb, q.1.wb]) := fun z hz => ⟨List.mem_flatMap.2 ⟨z, hz, by simp⟩, List.mem_flatMap.2 ⟨z, hz, by simp⟩⟩
      show (((if y.2.f0 = q'.2.f0 then q' else y) :: replQ R q').flatMap _).Nodup ∧ ∀ k, k ∈ ((if y.2.f0 = q'.2.f0 then q' else y) :: replQ R q').flatMap _ → _
      rw [List.flatMap_cons]
      split
      · rename_i e
        have ey : y = q := he y (by simp) (e.trans hid)
        subst ey
        have hnr : y ∉ R := fun h => h1 (List.mem_map.2 ⟨y, h, rfl⟩)
        have i2' : ∀ k, k ∈ (replQ R q').flatMap (fun q => [q.1.hb, q.1.wb]) → k ∈ R.flatMap (fun q => [q.1.hb, q.1.wb]) := fun k hk => (i2 k hk).elim id (fun h => absurd h.2 hnr)
        have hyb : y.1.hb ≠ y.1.wb := by simpa using m1
        have hq'w : q'.1.wb = y.1.wb ∨ (q'.1.wb ≠ y.1.hb ∧ q'.1.wb ∉ R.flatMap (fun q => [q.1.hb, q.1.wb])) := hw.imp id (fun h => ⟨fun e => h (List.mem_append.2 (.inl (by simp [e]))), fun hh => h (List.mem_append.2 (.inr hh))⟩)
        constructor
        · refine List.nodup_append.2 ⟨?_, i1, ?_⟩
          · rw [hhb]
            rcases hq'w with h | h
            · rw [h]; exact m1
            · simpa using fun e => h.1 e.symm
          · intro a ha b hb
            have hb' := i2' b hb
            simp only [List.mem_cons, List.not_mem_nil, or_false] at ha
            rcases ha with rfl | rfl
            · rw [hhb]; exact m3 _ (by simp) _ hb'
            · rcases hq'w with h | h
              · rw [h]; exact m3 _ (by simp) _ hb'
              · rintro rfl; exact h.2 hb'
        · intro k hk
          rcases List.mem_append.1 hk with h | h
          · simp only [List.mem_cons, List.not_mem_nil, or_false] at h
            rcases h with rfl | rfl
            · exact .inl (List.mem_append.2 (.inl (by simp [hhb])))
            · exact .inr ⟨rfl, by simp⟩
          · exact .inl (List.mem_append.2 (.inr (i2' k h)))
      · constructor
        · refine List.nodup_append.2 ⟨m1, i1, fun a ha b hb => ?_⟩
          rcases i2 b hb with h | ⟨rfl, hqR⟩
          · exact m3 a ha b h
          · rcases hw with h | h
            · rw [h]; exact m3 a ha _ (hmem q hqR).2
            · rintro rfl; exact h (List.mem_append.2 (.inl ha))
        · intro k hk
          rcases List.mem_append.1 hk with h | h
          · exact .inl (List.mem_append.2 (.inl h))
          · rcases i2 k h with h | ⟨h, hq⟩
            · exact .inl (List.mem_append.2 (.inr h))
            · exact .inr ⟨h, by simp [hq]⟩
  obtain ⟨h1, h2⟩ := List.nodup_cons.1 hm
  obtain ⟨k1, k2⟩ := key h2 hn (fun x hx e => ids_inj hn hx hq e) (hwb.imp id (fun h hh => h (List.mem_cons.2 (.inr hh))))
  refine List.nodup_cons.2 ⟨fun h => ?_, k1⟩
  rcases k2 _ h with h | ⟨h, _⟩
  · exact h1 h
  · rcases hwb with e | e
    · rw [e] at h; exact h1 (List.mem_flatMap.2 ⟨q, hq, by simp [h]⟩)
    · exact e (by rw [← h]; simp [mapsOf])
theorem mem_maps_foot {lb mb : Nat} {Q : List PW} {k : Nat} (h : k ∈ mapsOf mb Q) : k ∈ footOf lb mb Q := by
  rcases List.mem_cons.1 h with rfl | h
  · simp [footOf]
  · obtain ⟨q, hq, h⟩ := List.mem_flatMap.1 h
    simp only [List.mem_cons, List.not_mem_nil, or_false] at h
    rcases h with rfl | rfl
    · exact (mem_foot hq).2.1
    · exact (mem_foot hq).2.2
theorem k_ne {w : World} {lb mb mn : Nat} {last : Int} {Q : List PW} (h : LockAt w lb mb mn last Q) {x q : PW} (hx : x ∈ Q) (hq : q ∈ Q) (hne : x.2.f0 ≠ q.2.f0) : x.1.k ≠ q.1.k := by
  have hk := h.ks
  have hn := h.ids
  clear h
  induction Q with
  | nil => cases hx
  | cons y Q ih =>
    obtain ⟨a1, a2⟩ := List.nodup_cons.1 hk
    obtain ⟨b1, b2⟩ := List.nodup_cons.1 hn
    rcases List.mem_cons.1 hx with ex | hx' <;> rcases List.mem_cons.1 hq with eq | hq'
    · rw [ex, eq] at hne; exact absurd rfl hne
    · rw [ex]; exact fun e => a1 (List.mem_map.2 ⟨q, hq', e.symm⟩)
    · rw [eq]; exact fun e => a1 (List.mem_map.2 ⟨x, hx', e⟩)
    · exact ih hx' hq' a2 b2
theorem lb_ne {w : World} {lb mb mn : Nat} {last : Int} {Q : List PW} (h : LockAt w lb mb mn last Q) {q : PW} (hq : q ∈ Q) : lb ≠ q.1.k := blk_ne h.l (h.wk q hq).b (by decide)
/-- One work has other places, or holds and waits for something else. -/
theorem LockAt.repl {w w' : World} {lb mb mn : Nat} {last last' : Int} {Q : List PW} {q q' : PW} (h : LockAt w lb mb mn last Q) (hq : q ∈ Q) (hk : q'.1.k = q.1.k) (hid : q'.2.f0 = q.2.f0) (hw : WorkAt w' q') (hl : w'.heap[lb]? = some (.cells #[.map (some mb), .int .i64 last'] 38 (0, 0)))
    (hc : Chg (fun k => k = lb ∨ k = q.1.k ∨ k = q.1.hb ∨ k = q.1.wb) w w') (hhb : q'.1.hb = q.1.hb) (hwb : q'.1.wb = q.1.wb ∨ w.heap.size ≤ q'.1.wb) : LockAt w' lb mb mn last' (replQ Q q') := by
  have hmb : w'.heap[mb]? = w.heap[mb]? := hc.block mb h.m.lt (by
    have hne := maps_ne h.maps hq
    rintro (e | e | e | e)
    · exact cells_ne_map h.l h.m e.symm
    · exact cells_ne_map (h.wk q hq).b h.m e.symm
    · exact hne.1 e
    · exact hne.2 e)
  refine ⟨hl, (h.m.at hmb).congr (fun kl => (find_replQ h.ids hq hid hk kl).symm), fun x hx => ?_, by rw [ids_replQ]; exact h.ids, by rw [ks_replQ h.ids hq hid hk]; exact h.ks, ?_, fun x hx => ?_⟩
  · rcases (mem_replQ hq hid).1 hx with rfl | ⟨hx', hne⟩
    · exact hw
    · have hxw := h.wk x hx'
      have hqw := h.wk q hq
      have ap := maps_apart h.maps h.ids hx' hq hne
      refine hxw.at (hc.block _ (blk_lt hxw.b) ?_) (hc.block _ hxw.h.lt ?_) (hc.block _ hxw.w.lt ?_)
      · rintro (e | e | e | e)
        · exact lb_ne h hx' e.symm
        · exact k_ne h hx' hq hne e
        · exact cells_ne_map hxw.b hqw.h e
        · exact cells_ne_map hxw.b hqw.w e
      · rintro (e | e | e | e)
        · exact cells_ne_map h.l hxw.h e.symm
        · exact cells_ne_map hqw.b hxw.h e.symm
        · exact ap.1 e
        · exact ap.2.1 e
      · rintro (e | e | e | e)
        · exact cells_ne_map h.l hxw.w e.symm
        · exact cells_ne_map hqw.b hxw.w e.symm
        · exact ap.2.2.1 e
        · exact ap.2.2.2 e
  · refine maps_replQ hhb hid h.maps h.ids hq (hwb.imp id (fun hlt hm => ?_))
    have := h.lt _ (mem_maps_foot (lb := lb) hm)
    omega
  · rcases (mem_replQ hq hid).1 hx with rfl | ⟨hx', _⟩
    · rw [hid]; exact h.wf q hq
    · exact h.wf x hx'
end Go.Proofs.Ytimlfdfmgajbnaa.PA
/-
What asking comes to, on works told as data; a work that comes new.
-/
namespace Go.Proofs.Ytimlfdfmgajbnaa.PA
open Go.RowKit Go.Proofs.YtimlfdfmgajbnaaW.PrintWords Go.Proofs.YtimlfdfmgajbnaaW.PrintLast Go.Proofs.YtimlfdfmgajbnaaW.PrintMore
open Go.Proofs.Ytimlfdfmgajbnaa.Mp
set_option linter.unusedVariables false
set_option linter.unusedSimpArgs false
theorem wrapI {x : Int} (h0 : -9223372036854775808 ≤ x) (h1 : x ≤ 9223372036854775807) : wrap64 x = x := by unfold wrap64; omega
theorem add_block (ad : Addr) (i : Nat) : (ad.add i).block = ad.block := by unfold Addr.add; split <;> rfl
def newW (id : Int) : S79 := ⟨id, [], [], 0⟩
def getL (L : List S79) (id : Int) : S79 := (L.find? (fun x => decide (x.f0 = id))).getD (newW id)
def withL (L : List S79) (id : Int) : List S79 := match L.find? (fun x => decide (x.f0 = id)) with | some _ => L | none => L ++ [newW id]
def keptL (L : List S79) (id : Int) (W : List ByteArray) (t : Int) : List Int := (L.filter (fun x => decide (x.f0 ≠ id) && keepB x.f1 x.f2 x.f3 W t)).map (fun x => x.f0)
def setL (L : List S79) (x' : S79) : List S79 := L.map (fun x => if x.f0 = x'.f0 then x' else x)
def turnS (last : Int) (x : S79) : Int := if x.f3 = 0 then last + 1 else x.f3
def mxI (a b : Int) : Int := if a < b then b else a
/-- What asking for some names comes to: all works, the last turn, is it granted? -/
def askL (L : List S79) (last id : Int) (ns : List ByteArray) : List S79 × Int × Bool :=
  let q := getL L id
  let W := wantsS q.f1 q.f2 ns
  let t := turnS last q
  if keptL (withL L id) id W t = [] then (setL (withL L id) ⟨id, joinS q.f1 W, [], 0⟩, last, true) else (setL (withL L id) ⟨id, q.f1, W, t⟩, mxI last t, false)
theorem askL_yes (L : List S79) (last id : Int) (ns : List ByteArray) {W : List ByteArray} {t : Int} (hW : W = wantsS (getL L id).f1 (getL L id).f2 ns) (ht : t = turnS last (getL L id)) (hk : keptL (withL L id) id W t = []) : askL L last id ns = (setL (withL L id) ⟨id, joinS (getL L id).f1 W, [], 0⟩, last, true) := by
  subst hW ht
  unfold askL
  simp only
  rw [if_pos hk]
theorem askL_no (L : List S79) (last id : Int) (ns : List ByteArray) {W : List ByteArray} {t : Int} (hW : W = wantsS (getL L id).f1 (getL L id).f2 ns) (ht : t = turnS last (getL L id)) (hk : keptL (withL L id) id W t ≠ []) : askL L last id ns = (setL (withL L id) ⟨id, (getL L id).f1, W, t⟩, mxI last t, false) := by
  subst hW ht
  unfold askL
  simp only
  rw [if_neg hk]
def datQ (Q : List PW) : List S79 := Q.map (fun q => q.2)
theorem ids_dat (Q : List PW) : (datQ Q).map (fun x => x.f0) = idsOf Q := by unfold datQ idsOf; rw [List.map_map]; rfl
theorem find_dat (Q : List PW) (id : Int) : (datQ Q).find? (fun x => decide (x.f0 = id)) = (Q.find? (fun q => decide (q.2.f0 = id))).map (fun q => q.2) := by
  unfold datQ
  rw [List.find?_map]
  rfl
theorem dat_repl (Q : List PW) (q' : PW) : datQ (replQ Q q') = setL (datQ Q) q'.2 := by
  unfold datQ replQ setL
  rw [List.map_map, List.map_map]
  apply List.map_congr_left
  intro x _
  simp only [Function.comp]
  split <;> rfl
theorem setL_setL (L : List S79) (x y : S79) (h : x.f0 = y.f0) : setL (setL L x) y = setL L y := by
  unfold setL
  rw [List.map_map]
  apply List.map_congr_left
  intro z _
  simp only [Function.comp]
  by_cases e : z.f0 = x.f0
  · rw [if_pos e, if_pos h, if_pos (e.trans h)]
  · rw [if_neg e, if_neg (fun e2 => e (e2.trans h.symm))]
theorem kept_dat {w : World} {lb mb mn : Nat} {last : Int} {Q : List PW} (h : LockAt w lb mb mn last Q) {q : PW} (hq : q ∈ Q) (W : List ByteArray) (t : Int) : keptQ Q q.1.k W t = keptL (datQ Q) q.2.f0 W t := by
  unfold keptQ keptL datQ
  rw [List.filter_map, List.map_map]
  have e : Q.filter (fun x => decide (x.1.k ≠ q.1.k) && keepB x.2.f1 x.2.f2 x.2.f3 W t) = Q.filter ((fun x : S79 => decide (x.f0 ≠ q.2.f0) && keepB x.f1 x.f2 x.f3 W t) ∘ fun q : PW => q.2) := by
    apply List.filter_congr
    intro x hx
    simp only [Function.comp]
    by_cases e : x.2.f0 = q.2.f0
    · rw [ids_inj h.ids hx hq e]; simp
    · have h1 := k_ne h hx hq e
      rw [decide_eq_true h1, decide_eq_true e]
  rw [e]
  rfl
theorem keptL_set (L : List S79) (x' : S79) (W : List ByteArray) (t : Int) : keptL (setL L x') x'.f0 W t = keptL L x'.f0 W t := by
  unfold keptL setL
  induction L with
  | nil => rfl
  | cons y L ih =>
    rw [List.map_cons]
    by_cases e : y.f0 = x'.f0
    · rw [if_pos e, List.filter_cons, List.filter_cons]
      simp only [e, ne_eq, not_true_eq_false, decide_false, Bool.false_and, Bool.false_eq_true, if_false]
      exact ih
    · rw [if_neg e, List.filter_cons, List.filter_cons]
      split
      · rw [List.map_cons, List.map_cons, ih]
      · exact ih
theorem worksF_add {Q : List PW} {p : PW} (hid : ∀ q ∈ Q, q.2.f0 ≠ p.2.f0) (kl : Lit) : upd (worksF Q) (.int .i64 p.2.f0) (some (ptr p.1)) kl = worksF (Q ++ [p]) kl := by
  unfold upd
  split
  · rename_i e
    rw [e, worksF_at, List.find?_append, List.find?_eq_none.2 (fun q hq => by simpa using hid q hq)]
    simp
  · rename_i e
    unfold worksF
    split
    · rename_i n
      rw [List.find?_append]
      have : ¬ p.2.f0 = n := fun h => e (by rw [h])
      simp [this]
    · rfl
theorem LockAt.add {w w' : World} {lb mb mn mn' : Nat} {last : Int} {Q : List PW} (h : LockAt w lb mb mn last Q) (p : PW) (hid : ∀ q ∈ Q, q.2.f0 ≠ p.2.f0) (hwf : (Lit.int .i64 p.2.f0).wf = true) (hw : WorkAt w' p)
    (hm : MapIs Try.prog 2 w' mb mn' (upd (worksF Q) (.int .i64 p.2.f0) (some (ptr p.1)))) (hg : w.grownBy w' (some mb)) (hk : p.1.k ∉ footOf lb mb Q) (hh : p.1.hb ∉ footOf lb mb Q) (hb : p.1.wb ∉ footOf lb mb Q) (hne : p.1.hb ≠ p.1.wb) : LockAt w' lb mb mn' last (Q ++ [p]) := by
  refine ⟨(hg.block lb (blk_lt h.l) (fun e => cells_ne_map h.l h.m (by injection e))).trans h.l, hm.congr (worksF_add hid), fun q hq => ?_, ?_, ?_, ?_, fun q hq => ?_⟩
  · rcases List.mem_append.1 hq with hq | hq
    · have hw := h.wk q hq
      have hne := maps_ne h.maps hq
      exact hw.at (hg.block _ (blk_lt hw.b) (fun e => cells_ne_map hw.b h.m (by injection e))) (hg.block _ hw.h.lt (fun e => hne.1 (by injection e with e; exact e.symm))) (hg.block _ hw.w.lt (fun e => hne.2 (by injection e with e; exact e.symm)))
    · rw [List.mem_singleton.1 hq]; exact hw
  · unfold idsOf
    rw [List.map_append]
    refine List.nodup_append.2 ⟨h.ids, by simp, fun a ha b hb e => ?_⟩
    obtain ⟨q, hq, rfl⟩ := List.mem_map.1 ha
    simp only [List.map_cons, List.map_nil, List.mem_singleton] at hb
    exact hid q hq (e.trans hb)
  · rw [List.map_append]
    refine List.nodup_append.2 ⟨h.ks, by simp, fun a ha b hb e => ?_⟩
    obtain ⟨q, hq, rfl⟩ := List.mem_map.1 ha
    simp only [List.map_cons, List.map_nil, List.mem_singleton] at hb
    exact hk (by rw [← hb, ← e]; exact (mem_foot hq).1)
  · unfold mapsOf
    rw [List.flatMap_append, ← List.cons_append]
    refine List.nodup_append.2 ⟨h.maps, by simpa using hne, fun a ha b hb' e => ?_⟩
    have ha' : a ∈ footOf lb mb Q := mem_maps_foot ha
    simp only [List.flatMap_cons, List.flatMap_nil, List.append_nil, List.mem_cons, List.not_mem_nil, or_false] at hb'
    rcases hb' with rfl | rfl
    · exact hh (by rw [← e]; exact ha')
    · exact hb (by rw [← e]; exact ha')
  · rcases List.mem_append.1 hq with hq | hq
    · exact h.wf q hq
    · rw [List.mem_singleton.1 hq]; exact hwf
theorem foot_repl {lb mb : Nat} {Q : List PW} {q q' : PW} (hq : q ∈ Q) (hid : q'.2.f0 = q.2.f0) {k : Nat} (h : k ∈ footOf lb mb (replQ Q q')) : k ∈ footOf lb mb Q ∨ k = q'.1.k ∨ k = q'.1.hb ∨ k = q'.1.wb := by
  rcases List.mem_cons.1 h with rfl | h
  · exact .inl (by simp [footOf])
  rcases List.mem_cons.1 h with rfl | h
  · exact .inl (by simp [footOf])
  obtain ⟨x, hx, hk⟩ := List.mem_flatMap.1 h
  rcases (mem_replQ hq hid).1 hx with rfl | ⟨hx, _⟩
  · simp only [List.mem_cons, List.not_mem_nil, or_false] at hk
    exact .inr hk
  · exact .inl (List.mem_cons.2 (.inr (List.mem_cons.2 (.inr (List.mem_flatMap.2 ⟨x, hx, hk⟩)))))
theorem Chg.cell {F : Nat → Prop} {w w' : World} (h : Chg F w w') {a : Addr} {v : Value} (hc : w.cell? a = some v) (hf : ¬ F a.block) : w'.cell? a = some v := by
  have hlt := World.block_lt_of_cell? w _ hc
  rw [World.cell?_of_block (h.block _ hlt hf)]
  exact hc
theorem getL_id (L : List S79) (id : Int) : (getL L id).f0 = id := by
  unfold getL
  cases h : L.find? (fun x => decide (x.f0 = id)) with
  | none => rfl
  | some x => have := List.find?_some h; simpa using this
theorem Chg.setCell (W : World) (g i : Nat) (u : Value) : Chg (fun k => k = g) W (W.setCell ⟨g, i, none⟩ u) :=
  ⟨rfl, rfl, rfl, by simp [World.setCell], fun k _ hf => Below.heap_setCell W ⟨g, i, none⟩ u k hf⟩
theorem ask_end {w Wm W6 : World} {lb mb mn1 : Nat} {last last' : Int} {Q Q1 : List PW} {q q1 q2 : PW} {N : Nat} (hL : LockAt Wm lb mb mn1 last (replQ Q1 q1)) (hq : q ∈ Q1) (hid1 : q1.2.f0 = q.2.f0) (hk1 : q1.1.k = q.1.k) (hh1 : q1.1.hb = q.1.hb) (hw1 : q1.1.wb = q.1.wb)
    (hid2 : q2.2.f0 = q.2.f0) (hk2 : q2.1.k = q.1.k) (hh2 : q2.1.hb = q.1.hb) (hw2 : q2.1.wb = q.1.wb ∨ Wm.heap.size ≤ q2.1.wb) (hW : WorkAt W6 q2) (hl : W6.heap[lb]? = some (.cells #[.map (some mb), .int .i64 last'] 38 (0, 0)))
    (hc : Chg (fun k => k = lb ∨ k = q.1.k ∨ k = q.1.hb ∨ k = q.1.wb) Wm W6) (hcw : Chg (fun k => k ∈ footOf lb mb Q) w Wm) (hft : ∀ k ∈ footOf lb mb Q1, k ∈ footOf lb mb Q ∨ w.heap.size ≤ k) (hbu : ∀ x ∈ Q1, x.1.nh + x.1.nw ≤ N) (hb2 : q2.1.nh + q2.1.nw ≤ N) :
    LockAt W6 lb mb mn1 last' (replQ (replQ Q1 q1) q2) ∧ datQ (replQ (replQ Q1 q1) q2) = setL (datQ Q1) q2.2 ∧ (∀ x ∈ replQ (replQ Q1 q1) q2, x.1.nh + x.1.nw ≤ N) ∧ Chg (fun k => k ∈ footOf lb mb Q) w W6 ∧ ∀ k ∈ footOf lb mb (replQ (replQ Q1 q1) q2), k ∈ footOf lb mb Q ∨ w.heap.size ≤ k := by
  have hm1 : q1 ∈ replQ Q1 q1 := (mem_replQ hq hid1).2 (.inl rfl)
  have hid21 : q2.2.f0 = q1.2.f0 := hid2.trans hid1.symm
  have fq := mem_foot (lb := lb) (mb := mb) hq
  refine ⟨hL.repl hm1 (hk2.trans hk1.symm) hid21 hW hl (hc.mono (fun k _ h => by rw [hk1, hh1, hw1]; exact h)) (hh2.trans hh1.symm) (hw2.imp (fun h => h.trans hw1.symm) id), ?_, ?_, ?_, ?_⟩
  · rw [dat_repl, dat_repl, setL_setL _ _ _ hid21.symm]
  · intro x hx
    rcases (mem_replQ hm1 hid21).1 hx with rfl | ⟨hx, hne⟩
    · exact hb2
    · rcases (mem_replQ hq hid1).1 hx with rfl | ⟨hx, _⟩
      · exact absurd rfl hne
      · exact hbu x hx
  · refine hcw.trans hc (fun k hk h => ?_)
    have : k ∈ footOf lb mb Q1 := by
      rcases h with rfl | rfl | rfl | rfl
      · simp [footOf]
      · exact fq.1
      · exact fq.2.1
      · exact fq.2.2
    rcases hft k this with h | h
    · exact h
    · exact absurd hk (Nat.not_lt.2 h)
  · intro k hk
    have hq1 : ∀ k, k ∈ footOf lb mb (replQ Q1 q1) → k ∈ footOf lb mb Q ∨ w.heap.size ≤ k := fun k hk => by
      rcases foot_repl hq hid1 hk with h | rfl | rfl | rfl
      · exact hft k h
      · rw [hk1]; exact hft _ fq.1
      · rw [hh1]; exact hft _ fq.2.1
      · rw [hw1]; exact hft _ fq.2.2
    rcases foot_repl hm1 hid21 hk with h | rfl | rfl | rfl
    · exact hq1 k h
    · rw [hk2]; exact hft _ fq.1
    · rw [hh2]; exact hft _ fq.2.1
    · rcases hw2 with h | h
      · rw [h]; exact hft _ fq.2.2
      · exact .inr (Nat.le_trans hcw.size h)
end Go.Proofs.Ytimlfdfmgajbnaa.PA
/-
lock.Ask: it comes to what askL says.
-/
namespace Go.Proofs.Ytimlfdfmgajbnaa.PA
open Go.RowKit Go.Proofs.YtimlfdfmgajbnaaW.PrintWords Go.Proofs.YtimlfdfmgajbnaaW.PrintLast Go.Proofs.YtimlfdfmgajbnaaW.PrintMore
open Go.Proofs.Ytimlfdfmgajbnaa.Mp
attribute [local go_sem] max2_int min2_int max_two min_two max_three min_three max_four min_four   -- for this text's walks alone
set_option linter.unusedVariables false
set_option linter.unusedSimpArgs false
/-- What Ask leaves. -/
def AskPost (lb mb : Nat) (last : Int) (Q : List PW) (id : Int) (ns : List ByteArray) (B : Nat) (w : World) (e : Ending) (w' : World) : Prop := ∃ mn' Q', e = .returned (.bool (askL (datQ Q) last id ns).2.2) ∧ LockAt w' lb mb mn' (askL (datQ Q) last id ns).2.1 Q' ∧ datQ Q' = (askL (datQ Q) last id ns).1 ∧ mn' ≤ B + 1 + ns.length ∧ (∀ x ∈ Q', x.1.nh + x.1.nw ≤ B + 1 + ns.length) ∧ Chg (fun k => k ∈ footOf lb mb Q) w w' ∧ ∀ k ∈ footOf lb mb Q', k ∈ footOf lb mb Q ∨ w.heap.size ≤ k
set_option maxHeartbeats 16000000 in
set_option maxRecDepth 100000 in
theorem ask_calls (lb mb mn : Nat) (last : Int) (Q : List PW) (id : Int) (A0 : Option Addr) (c0 : Nat) (ns : List ByteArray) (B : Nat) (w : World) (h : LockAt w lb mb mn last Q) (hid : (Lit.int .i64 id).wf = true) (hmn : mn ≤ B) (hbu : ∀ x ∈ Q, x.1.nh + x.1.nw ≤ B) (hbn : B + ns.length ≤ 100000) (hla : 0 ≤ last ∧ last ≤ 1000000)
    (hr : Kd.C Kd.string w A0 ns.length ns) (hc0 : ns.length ≤ c0) (hsz : ∀ s ∈ ns, s.size ≤ 9223372036854775807) (hfar : 0 < ns.length → ∀ ad, A0 = some ad → ad.block ∉ footOf lb mb Q) :
    Calls Try.prog 14 #[.pointer (some ⟨lb, 0, none⟩), .int .i64 id, .slice A0 ns.length c0] w (AskPost lb mb last Q id ns B w) := by
  have hc := (l_cells h).1
  have hlook := h.m.lookup_run keyed2 Try.underlying36 (zero55 w) (key_i id hid)
  rw [worksF_at] at hlook
  obtain ⟨po, hpo⟩ : ∃ po : Option Addr, po = (Q.find? (fun q => decide (q.2.f0 = id))).map (fun q => ⟨q.1.k, 0, none⟩) := ⟨_, rfl⟩
  have hpo2 : ((Q.find? (fun q => decide (q.2.f0 = id))).map (fun q => ptr q.1)).getD (.pointer none) = .pointer po := by rw [hpo]; cases Q.find? (fun q => decide (q.2.f0 = id)) <;> rfl
  rw [hpo2] at hlook
  have HPO := Aside0.mk hpo
  have hn := eq_nil55 w po
  clear hpo hpo2
  have HL := Aside0.mk h; have HI := Aside0.mk hid; have HMN := Aside0.mk hmn; have HBU := Aside0.mk hbu; have HR := Aside0.mk hr; have HC0 := Aside0.mk hc0; have HSZ := Aside0.mk hsz; have HFAR := Aside0.mk hfar; have HBN := Aside0.mk hbn; have HLA := Aside0.mk hla
  have hlen : (ns.length : Int) ≤ 1000000 := by omega
  have hl1 : IntKind.i64.wrap (last + 1) = last + 1 := by have := hla; exact IntWalk.i64_in _ (by omega)
  clear hr hsz hfar hla
  go_enter Try.func14, Try.ntmps14
  go_upto_if 21 with (first | (go_at_call 31; (with_reducible refine (made_yes lb mb mn last Q _ HL.out).mono ?_); rintro e w' ⟨rfl, rfl⟩))
  go_cut [7] (fun v7 wc => ∃ (q : PW) (Q1 : List PW) (mn1 : Nat), v7 = .pointer (some ⟨q.1.k, 0, none⟩) ∧ Aside0 (LockAt wc lb mb mn1 last Q1) ∧ Aside0 (q ∈ Q1 ∧ q.2.f0 = id) ∧ Aside0 (datQ Q1 = withL (datQ Q) id ∧ q.2 = getL (datQ Q) id) ∧ Aside0 (mn1 ≤ B + 1) ∧ Aside0 (∀ x ∈ Q1, x.1.nh + x.1.nw ≤ B) ∧ Aside0 (Chg (fun k => k ∈ footOf lb mb Q) w wc) ∧ Aside0 (∀ k ∈ footOf lb mb Q1, k ∈ footOf lb mb Q ∨ w.heap.size ≤ k))
  case first =>
    cases hf : Q.find? (fun q => decide (q.2.f0 = id)) with
    | some q =>
      have hq := List.mem_of_find?_eq_some hf
      have hqi : q.2.f0 = id := by simpa using List.find?_some hf
      obtain rfl : po = some ⟨q.1.k, 0, none⟩ := by rw [HPO.out, hf]; rfl
      have HQ := Aside0.mk (show q ∈ Q ∧ q.2.f0 = id from ⟨hq, hqi⟩)
      have HD := Aside0.mk (show datQ Q = withL (datQ Q) id ∧ q.2 = getL (datQ Q) id by unfold withL getL; rw [find_dat, hf]; exact ⟨rfl, rfl⟩)
      clear hq hqi hf
      go_wp2
      go_meet
      case rel => exact ⟨q, Q, mn, rfl, ⟨HL.out⟩, ⟨HQ.out⟩, ⟨HD.out⟩, ⟨by have := HMN.out; omega⟩, ⟨HBU.out⟩, ⟨Chg.refl _ _⟩, ⟨fun k hk => .inl hk⟩⟩
    | none =>
      obtain rfl : po = none := by rw [HPO.out, hf]; rfl
      have HD := Aside0.mk (show (datQ Q).find? (fun x => decide (x.f0 = id)) = none by rw [find_dat, hf]; rfl)
      have HNO := Aside0.mk (show ∀ q ∈ Q, q.2.f0 ≠ id from fun q hq => by simpa using List.find?_eq_none.1 hf q hq)
      clear hf
      go_wp2_with (first | ((with_reducible refine gate_dst (N := 22) rfl ?_); refine make_event rfl rfl 9 ?_; intro b1 hb1 W2 hm hb; have G1 := Aside0.mk (by rw [hb1]; exact Nat.le_refl _ : w.heap.size ≤ b1); have HM1 := Aside0.mk hm; have HB := Aside0.mk hb; clear hm hb hb1) | ((with_reducible refine gate_dst (N := 23) rfl ?_); refine make_event rfl rfl 9 ?_; intro b2 hb2 W3 hm hb; have G2 := Aside0.mk (by rw [hb2]; exact HB.out.size : w.heap.size ≤ b2); have G12 := Aside0.mk (by rw [hb2]; exact Nat.ne_of_lt HM1.out.lt : b1 ≠ b2); have HM1n := Aside0.mk (HM1.out.below hb); clear HM1; have HM1 := HM1n; clear HM1n; have HM2 := Aside0.mk hm; have HBn := Aside0.mk (below_step HB.out hb); clear HB; have HB := HBn; clear HBn; clear hm hb hb2) | ((with_reducible refine gate_dst (N := 25) rfl ?_); refine box_event ?hg (N := 25) ?hd (cs := #[.map (some b1), .map (some b2), .int .i64 0]) (t := 59) ?hr ?_; (case hd => rfl); (case hg => rfl); (case hr => first | (go_simp; done) | (go_simp; rfl)); intro gk hg W4 hbox hb; have G3 := Aside0.mk (by rw [hg]; exact HB.out.size : w.heap.size ≤ gk); have HM1n := Aside0.mk (HM1.out.below hb); have HM2n := Aside0.mk (HM2.out.below hb); clear HM1 HM2; have HM1 := HM1n; have HM2 := HM2n; clear HM1n HM2n; have BK := Aside0.mk hbox; have HBn := Aside0.mk (below_step HB.out hb); clear HB; have HB := HBn; clear HBn; clear hg hbox hb; have cl := (by simp [World.cell?, (HL.out.below HB.out).l] : W4.cell? ⟨lb, 0, none⟩ = some (.map (some mb)))) | (at_mapUpdate; refine update_event (HL.out.below HB.out).m rfl _ _ _ rfl keyed2 Try.underlying36 (by have := HMN.out; have := HBN.out; unfold maxLen; omega) rfl rfl rfl (key_i id HI.out) ?_; intro W5 hm hg; have HM := Aside0.mk hm; have HG := Aside0.mk hg; have HM1n := Aside0.mk (HM1.out.kept hg (fun e => by injection e with e; have h1 := G1.out; have h2 := HL.out.m.lt; omega)); have HM2n := Aside0.mk (HM2.out.kept hg (fun e => by injection e with e; have h1 := G2.out; have h2 := HL.out.m.lt; omega)); have BKn := Aside0.mk (blk_grown BK.out hg (fun e => by injection e with e; have h1 := G3.out; have h2 := HL.out.m.lt; omega)); clear hm hg cl))
      go_meet
      case rel =>
        have hlt : ∀ k, w.heap.size ≤ k → k ∉ footOf lb mb Q := fun k hk hm => absurd (HL.out.lt k hm) (Nat.not_lt.2 hk)
        refine ⟨(⟨gk, b1, b2, 0, 0⟩, newW id), Q ++ [(⟨gk, b1, b2, 0, 0⟩, newW id)], mn + 1, rfl, ⟨?_⟩, ⟨by simp, rfl⟩, ⟨by unfold datQ withL; unfold datQ at HD; rw [HD.out, List.map_append]; rfl, by unfold getL; rw [HD.out]; rfl⟩, ⟨by have := HMN.out; omega⟩, ⟨?_⟩, ⟨?_⟩, ⟨?_⟩⟩
        · exact (HL.out.below HB.out).add (⟨gk, b1, b2, 0, 0⟩, newW id) HNO.out HI.out ⟨BKn.out, MapIs.congr HM1n.out (fun kl => (setF_nil kl).symm), MapIs.congr HM2n.out (fun kl => (setF_nil kl).symm)⟩ HM.out HG.out (hlt _ G3.out) (hlt _ G1.out) (hlt _ G2.out) G12.out
        · intro x hx; rcases List.mem_append.1 hx with h | h; exact HBU.out x h; rw [List.mem_singleton.1 h]; exact Nat.zero_le B
        · exact (Chg.ofBelow HB.out).trans (Chg.ofGrown (F := (fun k => k ∈ footOf lb mb Q)) HG.out (fun k e => by injection e with e; rw [e]; simp [footOf])) (fun k _ h => h)
        · intro k hk; unfold footOf at hk; rw [List.flatMap_append] at hk; simp only [List.mem_cons, List.mem_append, List.flatMap_cons, List.flatMap_nil, List.append_nil, List.not_mem_nil, or_false] at hk; rcases hk with e | e | e | e | e | e
          · exact .inl (by simp [footOf, e])
          · exact .inl (by simp [footOf, e])
          · exact .inl (by unfold footOf; simp only [List.mem_cons]; exact .inr (.inr e))
          · exact .inr (by rw [e]; exact G3.out)
          · exact .inr (by rw [e]; exact G1.out)
          · exact .inr (by rw [e]; exact G2.out)
  case rest =>
    obtain ⟨q, Q1, mn1, rfl, HL1, HQ, HD, HMN1, HBU1, HCH, HFT⟩ := hcut
    clear hlook hc hn HPO HL HMN HBU
    have hA := fun (W' : World) (hC : Chg (fun k => k = q.1.wb) wc W') => (HL1.out.wk q HQ.out.1).b
    clear hA
    have HW1 := Aside0.mk (HL1.out.wk q HQ.out.1)
    have HWB := Aside0.mk (show q.1.k ≠ q.1.wb from cells_ne_map HW1.out.b HW1.out.w); have HHB := Aside0.mk (hb_ne_wb HL1.out.maps HQ.out.1)
    have HSW := Aside0.mk HW1.out.w
    have HLS := Aside0.mk HW1.out.w.lt
    go_wp2
    go_loopw [9, 34] (fun v9 v34 wr => ∃ (i m : Nat) (W : List ByteArray), i ≤ ns.length ∧ v34 = .int .i64 i ∧ Aside0 (W = wantsS q.2.f1 q.2.f2 (ns.take i)) ∧ Aside0 (SetIs wr q.1.wb m W) ∧ Aside0 (m ≤ q.1.nw + i) ∧ Aside0 (Chg (fun k => k = q.1.wb) wc wr)) (fun _ v34 _ => ns.length - (intOf v34).toNat)
    case atStart => exact ⟨0, q.1.nw, q.2.f2, Nat.zero_le _, rfl, ⟨rfl⟩, ⟨HSW.out⟩, ⟨by omega⟩, ⟨Chg.refl _ _⟩⟩
    case round =>
      obtain ⟨i, m, W, hi, rfl, HEQ, HS, HM, HC⟩ := hrel
      have hcell : ∀ j, wr.cell? ⟨q.1.k, j, none⟩ = wc.cell? ⟨q.1.k, j, none⟩ := fun j => World.cell?_of_block (HC.out.block _ (blk_lt HW1.out.b) HWB.out)
      obtain ⟨z0, z1, z2⟩ := w_cells HW1.out
      have c0 := (hcell 0).trans z0
      have c1 := (hcell 1).trans z1
      have c2 := (hcell 2).trans z2
      clear hcell z0 z1 z2
      have HH := Aside0.mk (HW1.out.h.at (HC.out.block _ HW1.out.h.lt HHB.out))
      by_cases hlt : i < ns.length
      · have hd1 : decide ((i : Int) < (ns.length : Int)) = true := decide_eq_true (by omega)
        have hd2 : decide (0 ≤ (i : Int)) = true := decide_eq_true (by omega)
        obtain ⟨ad, e0, hx⟩ := Kd.at_string HR.out (i : Int) (by omega) (by omega)
        cases e0
        obtain ⟨s, hs⟩ : ∃ s, s = ns[i] := ⟨_, rfl⟩
        have es : rdOf ByteArray.empty ns (i : Int) = s := by rw [hs]; simp [rdOf, hlt]
        rw [es, Int.toNat_natCast] at hx
        have hx0 := hx
        replace hx := HCH.out.cell hx (fun hF => HFAR.out (Nat.lt_of_le_of_lt (Nat.zero_le _) hlt) ad rfl (by have hF2 : (ad.add i).block ∈ footOf lb mb Q := hF; rw [add_block] at hF2; exact hF2))
        have hx2 := HC.out.cell hx (fun e => by rcases HFT.out q.1.wb (mem_foot HQ.out.1).2.2 with hh | hh; exact HFAR.out (Nat.lt_of_le_of_lt (Nat.zero_le _) hlt) ad rfl (by have e2 : (ad.add i).block = q.1.wb := e; rw [add_block] at e2; rw [e2]; exact hh); exact absurd (World.block_lt_of_cell? w _ hx0) (by rw [show (ad.add i).block = q.1.wb from e]; exact Nat.not_lt.2 hh))
        have HZS := Aside0.mk (show s.size ≤ 9223372036854775807 from HSZ.out s (by rw [hs]; exact List.getElem_mem _))
        have HTK := Aside0.mk (show wantsS q.2.f1 q.2.f2 (ns.take (i + 1)) = if s ∈ q.2.f1 ∨ star ∈ q.2.f1 then W else putS W s by rw [List.take_succ_eq_append_getElem hlt, wantsS_snoc, ← HEQ.out, ← hs])
        clear hx hs es
        clear hx0
        by_cases hm1 : s ∈ q.2.f1
        · have HH1 := Aside0.mk (decide_eq_true hm1).symm
          have HTN := Aside0.mk (show W = wantsS q.2.f1 q.2.f2 (ns.take (i + 1)) by rw [HTK.out, if_pos (.inl hm1)])
          clear hm1 HTK
          go_wp2_with (first | (go_at_call 32; (with_reducible refine (has_calls q.1.hb q.1.nh q.2.f1 s true _ HH.out HZS.out HH1.out).mono ?_); rintro e w' ⟨rfl, rfl⟩))
          go_roundw
          case rel => exact ⟨i + 1, m, W, by omega, by first | rfl | (rw [wrapI (by omega) (by omega)]; rfl), ⟨HTN.out⟩, ⟨HS.out⟩, ⟨by have := HM.out; omega⟩, ⟨HC.out⟩⟩
          case measure => simp [intOf, wrapI]; omega
        have HH1 := Aside0.mk (decide_eq_false hm1).symm
        by_cases hm2 : star ∈ q.2.f1
        · have HH2 := Aside0.mk (decide_eq_true hm2).symm
          have HTN := Aside0.mk (show W = wantsS q.2.f1 q.2.f2 (ns.take (i + 1)) by rw [HTK.out, if_pos (.inr hm2)])
          clear hm1 hm2 HTK
          go_wp2_with (first | (go_at_call 32; (with_reducible refine (has_calls q.1.hb q.1.nh q.2.f1 s false _ HH.out HZS.out HH1.out).mono ?_); rintro e w' ⟨rfl, rfl⟩) | (go_at_call 32; (with_reducible refine (has_calls q.1.hb q.1.nh q.2.f1 star true _ HH.out star_size HH2.out).mono ?_); rintro e w' ⟨rfl, rfl⟩))
          go_roundw
          case rel => exact ⟨i + 1, m, W, by omega, by first | rfl | (rw [wrapI (by omega) (by omega)]; rfl), ⟨HTN.out⟩, ⟨HS.out⟩, ⟨by have := HM.out; omega⟩, ⟨HC.out⟩⟩
          case measure => simp [intOf, wrapI]; omega
        · have HH2 := Aside0.mk (decide_eq_false hm2).symm
          have HTN := Aside0.mk (show putS W s = wantsS q.2.f1 q.2.f2 (ns.take (i + 1)) by rw [HTK.out, if_neg (by rintro (h | h); exact hm1 h; exact hm2 h)])
          clear hm1 hm2 HTK
          go_wp2_with (first | (go_at_call 32; (with_reducible refine (has_calls q.1.hb q.1.nh q.2.f1 s false _ HH.out HZS.out HH1.out).mono ?_); rintro e w' ⟨rfl, rfl⟩) | (go_at_call 32; (with_reducible refine (has_calls q.1.hb q.1.nh q.2.f1 star false _ HH.out star_size HH2.out).mono ?_); rintro e w' ⟨rfl, rfl⟩) | (at_mapUpdate; refine update_event HS.out rfl _ _ _ rfl keyed9 Try.underlying57 (by have := HM.out; have := HBU1.out q HQ.out.1; have := HBN.out; unfold maxLen; omega) rfl rfl rfl (key_s s HZS.out) ?_; intro W5 hm hg; have HSn := Aside0.mk (MapIs.congr hm (setF_upd (T := putS W s) (fun y => mem_putS))); have HCn := Aside0.mk (HC.out.trans (Chg.ofGrown (F := fun k => k = q.1.wb) hg (fun k h => by injection h)) (fun k hk e => e)); clear HS HC HH hm hg c0 c1 c2 hx2; have HS := HSn; have HC := HCn; clear HSn HCn))
          go_roundw
          case rel => exact ⟨i + 1, m + 1, putS W s, by omega, by first | rfl | (rw [wrapI (by omega) (by omega)]; rfl), ⟨HTN.out⟩, ⟨HS.out⟩, ⟨by have := HM.out; omega⟩, ⟨HC.out⟩⟩
          case measure => simp [intOf, wrapI]; omega
      · have hie : i = ns.length := by omega
        subst hie
        rw [List.take_length] at HEQ
        have hd1 : decide ((ns.length : Int) < (ns.length : Int)) = false := decide_eq_false (by omega)
        clear hlt hi
        obtain ⟨q1, hq1⟩ : ∃ q1 : PW, q1 = (⟨q.1.k, q.1.hb, q.1.wb, q.1.nh, m⟩, ⟨id, q.2.f1, W, q.2.f3⟩) := ⟨_, rfl⟩
        have hid1 : q1.2.f0 = q.2.f0 := by rw [hq1]; exact HQ.out.2.symm
        have HWR := Aside0.mk (show WorkAt wr q1 by rw [hq1]; exact ⟨(HC.out.block _ (blk_lt HW1.out.b) HWB.out).trans HW1.out.b, HH.out, HS.out⟩)
        have hlb : lb ≠ q.1.wb := cells_ne_map HL1.out.l HW1.out.w
        have HL2 := Aside0.mk (HL1.out.repl (q' := q1) HQ.out.1 (by rw [hq1]) hid1 HWR.out ((HC.out.block lb (blk_lt HL1.out.l) hlb).trans HL1.out.l) (HC.out.mono (fun k _ e => .inr (.inr (.inr e)))) (by rw [hq1]) (.inl (by rw [hq1])))
        have HQ1 := Aside0.mk (show q1 ∈ replQ Q1 q1 from (mem_replQ HQ.out.1 hid1).2 (.inl rfl))
        have HCW := Aside0.mk (show Chg (fun k => k ∈ footOf lb mb Q) w wr from HCH.out.trans HC.out (fun k hk e => by rcases HFT.out q.1.wb (mem_foot HQ.out.1).2.2 with hh | hh; rw [e]; exact hh; rw [e] at hk; exact absurd hk (Nat.not_lt.2 hh)))
        obtain ⟨t, ht⟩ : ∃ t, t = turnS last q.2 := ⟨_, rfl⟩
        have HKE := Aside0.mk (show keptQ (replQ Q1 q1) q.1.k W t = keptL (withL (datQ Q) id) id W t by
          have e1 := kept_dat HL2.out HQ1.out W t
          have e2 : q1.1.k = q.1.k := by rw [hq1]
          have e3 : q1.2.f0 = id := by rw [hq1]
          rw [e2, e3] at e1
          rw [e1, dat_repl, HD.out.1]
          have e4 := keptL_set (withL (datQ Q) id) q1.2 W t
          rw [e3] at e4
          exact e4)
        have HKB := Aside0.mk (show wr.heap[q.1.k]? = some (.cells #[.map (some q.1.hb), .map (some q.1.wb), .int .i64 q.2.f3] 59 (0, 0)) from (HC.out.block _ (blk_lt HW1.out.b) HWB.out).trans HW1.out.b)
        have HSQ := Aside0.mk (show SetIs wr q.1.wb m W from HS.out)
        have HBQ := Aside0.mk (show q.1.nh + m ≤ B + ns.length by have h1 := HM.out; have h2 := HBU1.out q HQ.out.1; omega)
        have HTT := Aside0.mk ht
        have HMN2 := Aside0.mk (show mn1 ≤ 1000000 by have h1 := HMN1.out; have h2 := HBN.out; omega)
        have cL := (l_cells HL2.out).2
        have hl2 : wrap64 (last + 1) = last + 1 := wrapI (by have := HLA.out; omega) (by have := HLA.out; omega)
        have HTE := Aside0.mk (show W = wantsS q.2.f1 q.2.f2 ns from HEQ.out)
        have HNL := Aside0.mk hlb
        obtain ⟨wx, hwx⟩ : ∃ wx, wx = wr := ⟨_, rfl⟩
        go_upto_if 64 with (fail)
        go_cut [10] (fun v10 w2 => v10 = .int .i64 t ∧ Aside0 (w2 = wr))
        case first =>
          by_cases h0 : q.2.f3 = 0
          · have hb0 : (q.2.f3 == 0) = true := by rw [h0]; rfl
            have HT2 := Aside0.mk (show t = last + 1 by rw [HTT.out]; unfold turnS; rw [if_pos h0])
            clear h0 ht
            go_wp2
            go_meet
            case rel => exact ⟨by rw [HT2.out], ⟨rfl⟩⟩
          · have hb0 : (q.2.f3 == 0) = false := by rw [beq_eq_false_iff_ne]; exact h0
            have HT2 := Aside0.mk (show t = q.2.f3 by rw [HTT.out]; unfold turnS; rw [if_neg h0])
            clear h0 ht
            go_wp2
            go_meet
            case rel => exact ⟨by rw [HT2.out], ⟨rfl⟩⟩
        case rest =>
          obtain ⟨rfl, hw2⟩ := hcut
          have hw3 := hw2.out
          subst hw3
          clear hw2 hwx hl1 hl2 ht hd1 hlen
          obtain ⟨K, hK⟩ : ∃ K, K = sortI (keptQ (replQ Q1 q1) q.1.k W t) := ⟨_, rfl⟩
          have HK := Aside0.mk hK
          have hKL : K.length = (keptL (withL (datQ Q) id) id W t).length := by rw [hK, sortI_length, HKE.out]
          clear hK
          by_cases hk : keptL (withL (datQ Q) id) id W t = []
          · have hz : K.length = 0 := by rw [hKL, hk]; rfl
            obtain rfl : K = [] := List.length_eq_zero_iff.1 hz
            have HAS := Aside0.mk (show askL (datQ Q) last id ns = (setL (withL (datQ Q) id) ⟨id, joinS q.2.f1 W, [], 0⟩, last, true) by have e := askL_yes (datQ Q) last id ns (W := W) (t := t) (by rw [← HD.out.2]; exact HTE.out) (by rw [← HD.out.2]; exact HTT.out) hk; rw [← HD.out.2] at e; exact e)
            clear hk hz hKL
            go_wp2_with (first | (go_at_call 33; (with_reducible refine (kept_calls lb mb mn1 last (replQ Q1 q1) q.1.k q.1.wb m W t _ HL2.out ⟨_, HKB.out⟩ HSQ.out HMN2.out).mono ?_); rintro e W2 ⟨v, rfl, hR, hb⟩; rw [← HK.out] at hR; obtain ⟨Av, cv, ev⟩ := Kd.R_slice hR; subst ev; have HB2 := Aside0.mk hb; clear hR hb c0 c1 c2 cL; have HL3 := Aside0.mk (HL2.out.below HB2.out); have HB3 := Aside0.mk (blk_below HKB.out HB2.out); have c0 := (blk_cell HB3.out 0).trans rfl; have c1 := (blk_cell HB3.out 1).trans rfl))
            refine start_ (n := 9) (S := (fun w' => w'.cell? ⟨q.1.k, 0, none⟩ = some (.map (some q.1.hb)) ∧ w'.cell? ⟨q.1.k, 1, none⟩ = some (.map (some q.1.wb)))) (ds := []) (Sh.m 0 9) (by kernel_rfl) rfl rfl ⟨c0, c1⟩ (fun hHeld => ?_)
            (have HL4 := Aside0.mk (HL3.out.below (below_drew1 (Below.refl _ W2))); have HB4 := Aside0.mk (blk_drew HB3.out); have HC2 := Aside0.mk (HCW.out.trans (Chg.ofBelow (F := fun _ => False) (below_drew1 HB2.out)) (fun _ _ h => h.elim)); clear c0 c1 HL3 HB3; generalize W2.drew = W3 at HL4 HB4 HC2 hHeld ⊢)
            have HSH4 := Aside0.mk (show SetIs W3 q.1.hb q.1.nh q.2.f1 by have := (HL4.out.wk q1 HQ1.out).h; rw [hq1] at this; exact this)
            have HSW4 := Aside0.mk (show SetIs W3 q.1.wb m W by have := (HL4.out.wk q1 HQ1.out).w; rw [hq1] at this; exact this)
            have HHW := Aside0.mk HHB.out
            have HNM := Aside0.mk (show q.1.nh + m ≤ 1000000 by have h1 := HBQ.out; have h2 := HBN.out; omega)
            refine pure_ (i := 0) (N := some 93) (v := ?_) (a' := ?_) (Sh.m 1 8) rfl rfl (by kernel_rfl) (fun _ _ _ h => h) (Or.inl ⟨by rfl, ?_⟩) ?_ ?_
            rotate_left
            · intro w'
              go_simp
              with_reducible rfl
            rotate_left
            · simp only [Act.put, List.setIfInBounds_toArray, List.set_cons_zero, List.set_cons_succ, i64_w, i32_w]
              rfl
            refine pure_ (i := 1) (N := some 94) (v := ?_) (a' := ?_) (Sh.m 2 7) rfl rfl (by kernel_rfl) (fun _ _ _ h => h) (Or.inl ⟨by rfl, ?_⟩) ?_ ?_
            rotate_left
            · intro w'
              go_simp
              with_reducible rfl
            rotate_left
            · simp only [Act.put, List.setIfInBounds_toArray, List.set_cons_zero, List.set_cons_succ, i64_w, i32_w]
              rfl
            refine pure_ (i := 2) (N := some 95) (v := ?_) (a' := ?_) (Sh.m 3 6) rfl rfl (by kernel_rfl) (fun _ _ _ h => h) (Or.inl ⟨by rfl, ?_⟩) ?_ ?_
            rotate_left
            · intro w'
              go_simp
              with_reducible rfl
            rotate_left
            · simp only [Act.put, List.setIfInBounds_toArray, List.set_cons_zero, List.set_cons_succ, i64_w, i32_w]
              rfl
            refine take_ (i := 3) (N := some 96) (v := ?_) (a' := ?_) (Sh.m 4 5) rfl rfl (by kernel_rfl) (fun _ _ _ h => h) (Or.inl ⟨by rfl, ?_⟩) hHeld ?_ ?_
            rotate_left
            · rintro w' ⟨s0, s1⟩
              go_simp
              with_reducible rfl
            rotate_left
            · simp only [Act.put, List.setIfInBounds_toArray, List.set_cons_zero, List.set_cons_succ, i64_w, i32_w]
              rfl
            refine pure_ (i := 4) (N := some 97) (v := ?_) (a' := ?_) (Sh.m 5 4) rfl rfl (by kernel_rfl) (fun _ _ _ h => h) (Or.inl ⟨by rfl, ?_⟩) ?_ ?_
            rotate_left
            · intro w'
              go_simp
              with_reducible rfl
            rotate_left
            · simp only [Act.put, List.setIfInBounds_toArray, List.set_cons_zero, List.set_cons_succ, i64_w, i32_w]
              rfl
            refine pure_ (i := 5) (N := some 98) (v := ?_) (a' := ?_) (Sh.m 6 3) rfl rfl (by kernel_rfl) (fun _ _ _ h => h) (Or.inl ⟨by rfl, ?_⟩) ?_ ?_
            rotate_left
            · intro w'
              go_simp
              with_reducible rfl
            rotate_left
            · simp only [Act.put, List.setIfInBounds_toArray, List.set_cons_zero, List.set_cons_succ, i64_w, i32_w]
              rfl
            refine pure_ (i := 6) (N := some 99) (v := ?_) (a' := ?_) (Sh.m 7 2) rfl rfl (by kernel_rfl) (fun _ _ _ h => h) (Or.inl ⟨by rfl, ?_⟩) ?_ ?_
            rotate_left
            · intro w'
              go_simp
              with_reducible rfl
            rotate_left
            · simp only [Act.put, List.setIfInBounds_toArray, List.set_cons_zero, List.set_cons_succ, i64_w, i32_w]
              rfl
            refine take_ (i := 7) (N := some 100) (v := ?_) (a' := ?_) (Sh.m 8 1) rfl rfl (by kernel_rfl) (fun _ _ _ h => h) (Or.inl ⟨by rfl, ?_⟩) hHeld ?_ ?_
            rotate_left
            · rintro w' ⟨s0, s1⟩
              go_simp
              with_reducible rfl
            rotate_left
            · simp only [Act.put, List.setIfInBounds_toArray, List.set_cons_zero, List.set_cons_succ, i64_w, i32_w]
              rfl
            refine one_ (i := 8) (N := some 101) (Sh.m 9 0) rfl rfl (by kernel_rfl) (by decide) (fun K hK => ?_)
            refine goes_ Try.func34 (by kernel_rfl) rfl #[.map (some q.1.hb), .map (some q.1.wb)] (by rfl) rfl rfl (by (try simp only [List.map_toArray, List.map_cons, List.map_nil]); first | done | rfl) ?_
            with_reducible refine (copy_calls q.1.hb q.1.nh q.1.wb m q.2.f1 W _ HSH4.out HSW4.out HHW.out HNM.out).mono ?_
            rintro e W2_ ⟨rfl, hpost⟩
            refine ⟨_, rfl, ?_⟩
            obtain ⟨n, T, hT, hTm, hn, hch⟩ := hpost
            have HT := Aside0.mk hT; have HTM := Aside0.mk hTm; have HN := Aside0.mk hn; have HCC := Aside0.mk hch; clear hT hTm hn hch
            have HK4 := Aside0.mk (show W2_.heap[q.1.k]? = some (.cells #[.map (some q.1.hb), .map (some q.1.wb), .int .i64 q.2.f3] 59 (0, 0)) from (HCC.out.block _ (blk_lt HB4.out) (cells_ne_map HB4.out HSH4.out)).trans HB4.out)
            clear hHeld
            refine hK.out _ _ ⟨(blk_cell HK4.out 0).trans rfl, (blk_cell HK4.out 1).trans rfl⟩ (fun hHeld => ?_)
            clear hK K
            refine norm_ (a' := ?_) ?_ ?_
            rotate_left
            · show Act.put _ (some 101) _ = _
              simp only [Act.put, List.setIfInBounds_toArray, List.set_cons_zero, List.set_cons_succ, i64_w, i32_w]
              rfl
            refine done_ (by kernel_rfl) ?_
            go_wp2_with (first | ((with_reducible refine gate_dst (N := 104) rfl ?_); refine make_event rfl rfl 9 ?_; intro b3 hb3 W5 hm hb; have GB3 := Aside0.mk (by rw [hb3]; exact Nat.le_refl _ : W2_.heap.size ≤ b3); have HM3 := Aside0.mk hm; have HK5 := Aside0.mk (blk_below HK4.out hb); have HB5 := Aside0.mk hb; have d1 := (blk_cell HK5.out 1).trans rfl; have d2 := (blk_cell HK5.out 2).trans rfl; have e1 := blk_frozen HK5.out 1; have e2 := blk_frozen HK5.out 2; clear hm hb hb3))
            go_ret
            have hbk := cells_ne_map HK5.out HM3.out
            have hhk := cells_ne_map HK4.out HT.out
            have HW6 : WorkAt ((W5.setCell ⟨q.1.k, 1, none⟩ (.map (some b3))).setCell ⟨q.1.k, 2, none⟩ (.int .i64 0)) ((⟨q.1.k, q.1.hb, b3, n, 0⟩, ⟨id, joinS q.2.f1 W, [], 0⟩) : PW) := by
              refine ⟨?_, ?_, ?_⟩
              · have e := blk_set (blk_set HK5.out 1 (.map (some b3))) 2 (.int .i64 0)
                simpa using e
              · refine MapIs.at (SetIs.congr HT.out (T := joinS q.2.f1 W) (fun x => by rw [HTM.out, mem_joinS])) ?_
                rw [Below.heap_setCell _ ⟨q.1.k, 2, none⟩ _ q.1.hb (Ne.symm hhk), Below.heap_setCell _ ⟨q.1.k, 1, none⟩ _ q.1.hb (Ne.symm hhk)]
                exact HB5.out.block _ HT.out.lt
              · refine MapIs.at (MapIs.congr HM3.out (fun kl => (setF_nil kl).symm)) ?_
                rw [Below.heap_setCell _ ⟨q.1.k, 2, none⟩ _ b3 (Ne.symm hbk), Below.heap_setCell _ ⟨q.1.k, 1, none⟩ _ b3 (Ne.symm hbk)]
            have hlk := lb_ne HL4.out HQ1.out
            have hlh := cells_ne_map HL4.out.l HSH4.out
            have hk1 : q1.1.k = q.1.k := by rw [hq1]
            rw [hk1] at hlk
            have hl5 : ((W5.setCell ⟨q.1.k, 1, none⟩ (.map (some b3))).setCell ⟨q.1.k, 2, none⟩ (.int .i64 0)).heap[lb]? = some (.cells #[.map (some mb), .int .i64 last] 38 (0, 0)) := by
              rw [Below.heap_setCell _ ⟨q.1.k, 2, none⟩ _ lb hlk, Below.heap_setCell _ ⟨q.1.k, 1, none⟩ _ lb hlk]
              have e1 := HCC.out.block lb (blk_lt HL4.out.l) hlh
              rw [HB5.out.block lb (Nat.lt_of_lt_of_le (blk_lt HL4.out.l) HCC.out.size), e1]
              exact HL4.out.l
            have hch : Chg (fun k => k = lb ∨ k = q.1.k ∨ k = q.1.hb ∨ k = q.1.wb) W3 ((W5.setCell ⟨q.1.k, 1, none⟩ (.map (some b3))).setCell ⟨q.1.k, 2, none⟩ (.int .i64 0)) := by
              refine Chg.trans (F := fun k => k = lb ∨ k = q.1.k ∨ k = q.1.hb ∨ k = q.1.wb) (HCC.out.mono (fun k _ e => .inr (.inr (.inl e)))) (Chg.trans (F := fun k => k = q.1.k) (Chg.ofBelow HB5.out) (Chg.trans (Chg.setCell _ _ _ _) (Chg.setCell _ _ _ _) (fun k _ e => e)) (fun k _ e => e)) (fun k _ e => .inr (.inl e))
            obtain ⟨r1, r2, r3, r4, r5⟩ := ask_end (N := B + 1 + ns.length) (q2 := (⟨q.1.k, q.1.hb, b3, n, 0⟩, ⟨id, joinS q.2.f1 W, [], 0⟩)) HL4.out HQ.out.1 hid1 hk1 (by rw [hq1]) (by rw [hq1]) (by exact HQ.out.2.symm) rfl rfl (.inr (Nat.le_trans HCC.out.size GB3.out)) HW6 hl5 hch HC2.out HFT.out (fun x hx => by have := HBU1.out x hx; omega) (by have h1 := HN.out; have h2 := HBQ.out; show n + 0 ≤ _; omega)
            exact ⟨mn1, _, by rw [HAS.out]; rfl, by rw [HAS.out]; exact r1, by rw [HAS.out, r2, HD.out.1], by have := HMN1.out; omega, r3, r4, r5⟩
          · have hne : K ≠ [] := fun e => hk (List.length_eq_zero_iff.1 (by rw [← hKL, e]; rfl))
            obtain ⟨kx, K2, hK2⟩ := List.exists_cons_of_ne_nil hne
            subst hK2
            have HAS := Aside0.mk (show askL (datQ Q) last id ns = (setL (withL (datQ Q) id) ⟨id, q.2.f1, W, t⟩, mxI last t, false) by have e := askL_no (datQ Q) last id ns (W := W) (t := t) (by rw [← HD.out.2]; exact HTE.out) (by rw [← HD.out.2]; exact HTT.out) hk; rw [← HD.out.2] at e; exact e)
            clear hk hne hKL
            by_cases hmx : last < t
            · have hmv : mxI last t = t := by unfold mxI; rw [if_pos hmx]
              have HMV := Aside0.mk hmv; clear hmv
              go_wp2_with (first | (go_at_call 33; (with_reducible refine (kept_calls lb mb mn1 last (replQ Q1 q1) q.1.k q.1.wb m W t _ HL2.out ⟨_, HKB.out⟩ HSQ.out HMN2.out).mono ?_); rintro e W2 ⟨v, rfl, hR, hb⟩; rw [← HK.out] at hR; obtain ⟨Av, cv, ev⟩ := Kd.R_slice hR; subst ev; have HB2 := Aside0.mk hb; clear hR hb c0 c1 c2 cL; have HL3 := Aside0.mk (HL2.out.below HB2.out); have HB3 := Aside0.mk (blk_below HKB.out HB2.out); have d2 := (blk_cell HB3.out 2).trans rfl; have e2 := blk_frozen HB3.out 2; have HB6 := Aside0.mk HL3.out.l; have d1 := (blk_cell HB6.out 1).trans rfl; have e1 := blk_frozen HB6.out 1; have hn1 : lb ≠ q.1.k := lb_ne HL1.out HQ.out.1; have hn2 := Ne.symm hn1))
              go_ret
              have hwq := HL3.out.wk q1 HQ1.out
              rw [hq1] at hwq
              have hh : lb ≠ q.1.hb := cells_ne_map HB6.out hwq.h
              have hw : lb ≠ q.1.wb := cells_ne_map HB6.out hwq.w
              have kh : q.1.k ≠ q.1.hb := cells_ne_map HB3.out hwq.h
              have kw : q.1.k ≠ q.1.wb := cells_ne_map HB3.out hwq.w
              have hk1 : q1.1.k = q.1.k := by rw [hq1]
              have HW6 : WorkAt ((W2.setCell ⟨q.1.k, 2, none⟩ (.int .i64 t)).setCell ⟨lb, 1, none⟩ (.int .i64 t)) ((⟨q.1.k, q.1.hb, q.1.wb, q.1.nh, m⟩, ⟨id, q.2.f1, W, t⟩) : PW) := by
                refine ⟨?_, ?_, ?_⟩
                · have e := blk_far (blk_set HB3.out 2 (.int .i64 t)) (p := ⟨lb, 1, none⟩) hn2 (.int .i64 t)
                  simpa using e
                · refine MapIs.at hwq.h ?_
                  rw [Below.heap_setCell _ ⟨lb, 1, none⟩ _ q.1.hb (Ne.symm hh), Below.heap_setCell _ ⟨q.1.k, 2, none⟩ _ q.1.hb (Ne.symm kh)]
                · refine MapIs.at hwq.w ?_
                  rw [Below.heap_setCell _ ⟨lb, 1, none⟩ _ q.1.wb (Ne.symm hw), Below.heap_setCell _ ⟨q.1.k, 2, none⟩ _ q.1.wb (Ne.symm kw)]
              have hl5 : ((W2.setCell ⟨q.1.k, 2, none⟩ (.int .i64 t)).setCell ⟨lb, 1, none⟩ (.int .i64 t)).heap[lb]? = some (.cells #[.map (some mb), .int .i64 t] 38 (0, 0)) := by
                have e := blk_set (blk_far HB6.out (p := ⟨q.1.k, 2, none⟩) hn1 (.int .i64 t)) 1 (.int .i64 t)
                simpa using e
              have hch : Chg (fun k => k = lb ∨ k = q.1.k ∨ k = q.1.hb ∨ k = q.1.wb) W2 ((W2.setCell ⟨q.1.k, 2, none⟩ (.int .i64 t)).setCell ⟨lb, 1, none⟩ (.int .i64 t)) := Chg.trans (F := fun k => k = lb ∨ k = q.1.k ∨ k = q.1.hb ∨ k = q.1.wb) ((Chg.setCell _ _ _ _).mono (fun k _ e => .inr (.inl e))) (Chg.setCell _ _ _ _) (fun k _ e => .inl e)
              have hcw2 := HCW.out.trans (Chg.ofBelow (F := fun _ => False) HB2.out) (fun _ _ h => h.elim)
              obtain ⟨r1, r2, r3, r4, r5⟩ := ask_end (N := B + 1 + ns.length) (q2 := (⟨q.1.k, q.1.hb, q.1.wb, q.1.nh, m⟩, ⟨id, q.2.f1, W, t⟩)) HL3.out HQ.out.1 hid1 hk1 (by rw [hq1]) (by rw [hq1]) (by exact HQ.out.2.symm) rfl rfl (.inl rfl) HW6 hl5 hch hcw2 HFT.out (fun x hx => by have := HBU1.out x hx; omega) (by have h2 := HBQ.out; show q.1.nh + m ≤ _; omega)
              exact ⟨mn1, _, by rw [HAS.out]; rfl, by rw [HAS.out]; show LockAt _ _ _ _ (mxI last t) _; rw [HMV.out]; exact r1, by rw [HAS.out, r2, HD.out.1], by have := HMN1.out; omega, r3, r4, r5⟩
            · have hmv : mxI last t = last := by unfold mxI; rw [if_neg hmx]
              have HMV := Aside0.mk hmv; clear hmv
              go_wp2_with (first | (go_at_call 33; (with_reducible refine (kept_calls lb mb mn1 last (replQ Q1 q1) q.1.k q.1.wb m W t _ HL2.out ⟨_, HKB.out⟩ HSQ.out HMN2.out).mono ?_); rintro e W2 ⟨v, rfl, hR, hb⟩; rw [← HK.out] at hR; obtain ⟨Av, cv, ev⟩ := Kd.R_slice hR; subst ev; have HB2 := Aside0.mk hb; clear hR hb c0 c1 c2 cL; have HL3 := Aside0.mk (HL2.out.below HB2.out); have HB3 := Aside0.mk (blk_below HKB.out HB2.out); have d2 := (blk_cell HB3.out 2).trans rfl; have e2 := blk_frozen HB3.out 2; have HB6 := Aside0.mk HL3.out.l; have d1 := (blk_cell HB6.out 1).trans rfl; have e1 := blk_frozen HB6.out 1; have hn1 : lb ≠ q.1.k := lb_ne HL1.out HQ.out.1; have hn2 := Ne.symm hn1))
              go_ret
              have hwq := HL3.out.wk q1 HQ1.out
              rw [hq1] at hwq
              have hh : lb ≠ q.1.hb := cells_ne_map HB6.out hwq.h
              have hw : lb ≠ q.1.wb := cells_ne_map HB6.out hwq.w
              have kh : q.1.k ≠ q.1.hb := cells_ne_map HB3.out hwq.h
              have kw : q.1.k ≠ q.1.wb := cells_ne_map HB3.out hwq.w
              have hk1 : q1.1.k = q.1.k := by rw [hq1]
              have HW6 : WorkAt ((W2.setCell ⟨q.1.k, 2, none⟩ (.int .i64 t)).setCell ⟨lb, 1, none⟩ (.int .i64 last)) ((⟨q.1.k, q.1.hb, q.1.wb, q.1.nh, m⟩, ⟨id, q.2.f1, W, t⟩) : PW) := by
                refine ⟨?_, ?_, ?_⟩
                · have e := blk_far (blk_set HB3.out 2 (.int .i64 t)) (p := ⟨lb, 1, none⟩) hn2 (.int .i64 last)
                  simpa using e
                · refine MapIs.at hwq.h ?_
                  rw [Below.heap_setCell _ ⟨lb, 1, none⟩ _ q.1.hb (Ne.symm hh), Below.heap_setCell _ ⟨q.1.k, 2, none⟩ _ q.1.hb (Ne.symm kh)]
                · refine MapIs.at hwq.w ?_
                  rw [Below.heap_setCell _ ⟨lb, 1, none⟩ _ q.1.wb (Ne.symm hw), Below.heap_setCell _ ⟨q.1.k, 2, none⟩ _ q.1.wb (Ne.symm kw)]
              have hl5 : ((W2.setCell ⟨q.1.k, 2, none⟩ (.int .i64 t)).setCell ⟨lb, 1, none⟩ (.int .i64 last)).heap[lb]? = some (.cells #[.map (some mb), .int .i64 last] 38 (0, 0)) := by
                have e := blk_set (blk_far HB6.out (p := ⟨q.1.k, 2, none⟩) hn1 (.int .i64 t)) 1 (.int .i64 last)
                simpa using e
              have hch : Chg (fun k => k = lb ∨ k = q.1.k ∨ k = q.1.hb ∨ k = q.1.wb) W2 ((W2.setCell ⟨q.1.k, 2, none⟩ (.int .i64 t)).setCell ⟨lb, 1, none⟩ (.int .i64 last)) := Chg.trans (F := fun k => k = lb ∨ k = q.1.k ∨ k = q.1.hb ∨ k = q.1.wb) ((Chg.setCell _ _ _ _).mono (fun k _ e => .inr (.inl e))) (Chg.setCell _ _ _ _) (fun k _ e => .inl e)
              have hcw2 := HCW.out.trans (Chg.ofBelow (F := fun _ => False) HB2.out) (fun _ _ h => h.elim)
              obtain ⟨r1, r2, r3, r4, r5⟩ := ask_end (N := B + 1 + ns.length) (q2 := (⟨q.1.k, q.1.hb, q.1.wb, q.1.nh, m⟩, ⟨id, q.2.f1, W, t⟩)) HL3.out HQ.out.1 hid1 hk1 (by rw [hq1]) (by rw [hq1]) (by exact HQ.out.2.symm) rfl rfl (.inl rfl) HW6 hl5 hch hcw2 HFT.out (fun x hx => by have := HBU1.out x hx; omega) (by have h2 := HBQ.out; show q.1.nh + m ≤ _; omega)
              exact ⟨mn1, _, by rw [HAS.out]; rfl, by rw [HAS.out]; show LockAt _ _ _ _ (mxI last t) _; rw [HMV.out]; exact r1, by rw [HAS.out, r2, HD.out.1], by have := HMN1.out; omega, r3, r4, r5⟩
end Go.Proofs.Ytimlfdfmgajbnaa.PA
/-
slices.Sorted(maps.Keys(..)): the keys of a set of texts, and of the works, rising; lock.Holds.
-/
namespace Go.Proofs.Ytimlfdfmgajbnaa.PA
open Go.RowKit Go.Proofs.YtimlfdfmgajbnaaW.PrintWords Go.Proofs.YtimlfdfmgajbnaaW.PrintLast Go.Proofs.YtimlfdfmgajbnaaW.PrintMore
open Go.Proofs.Ytimlfdfmgajbnaa.Mp
open Go.Maps (Keyed)
set_option linter.unusedVariables false
set_option linter.unusedSimpArgs false
def layKeysS_ren : Go.Shelf.Ren := ⟨fun | 7 => 36 | 10 => 54 | n => n, fun | 23 => 57 | 26 => 9 | 3 => 3 | 28 => 65 | 0 => 0 | 27 => 64 | 33 => 60 | 4 => 4 | n => n, fun | n => n⟩
theorem layKeysS : Go.Proofs.SlLaysZ.n7 Try.prog layKeysS_ren := {
  mixed := by kernel_rfl
  f7 := ⟨Try.f36.name, by decide, Try.func36.trans (congrArg some (by kernel_rfl))⟩
  f10 := ⟨Try.f54.name, by decide, Try.func54.trans (congrArg some (by kernel_rfl))⟩
  t0 := Try.underlying0
  a0 := Try.isAgg0
  z0 := Try.sizeOf0
  v0 := Try.zeroValue0
  t4 := Try.underlying4
  a4 := Try.isAgg4
  z4 := Try.sizeOf4
  v4 := Try.zeroValue4
  t23 := Try.underlying57
  a23 := Try.isAgg57
  z23 := Try.sizeOf57
  v23 := Try.zeroValue57
  t26 := Try.underlying9
  a26 := Try.isAgg9
  z26 := Try.sizeOf9
  v26 := Try.zeroValue9
  t27 := Try.underlying64
  a27 := Try.isAgg64
  z27 := Try.sizeOf64
  v27 := Try.zeroValue64
  t28 := Try.underlying65
  a28 := Try.isAgg65
  z28 := Try.sizeOf65
  v28 := Try.zeroValue65
  t33 := Try.underlying60
  a33 := Try.isAgg60
  z33 := Try.sizeOf60
  v33 := Try.zeroValue60 }
def laySortedS_ren : Go.Shelf.Ren := ⟨fun | 6 => 35 | 8 => 52 | 9 => 53 | 11 => 61 | 13 => 59 | 12 => 62 | 23 => 73 | 24 => 74 | 14 => 75 | 15 => 76 | 16 => 77 | 17 => 78 | 18 => 79 | 19 => 80 | 20 => 81 | 21 => 82 | 22 => 83 | 25 => 90 | 26 => 85 | 27 => 86 | 28 => 91 | 29 => 92 | 30 => 93 | 31 => 95 | n => n, fun | 26 => 9 | 28 => 65 | 24 => 32 | 0 => 0 | 3 => 3 | 37 => 90 | 48 => 105 | 50 => 107 | 4 => 4 | 40 => 97 | 39 => 96 | 45 => 102 | 5 => 5 | 9 => 9 | 51 => 114 | 55 => 118 | 57 => 122 | 58 => 123 | 33 => 60 | n => n, fun | n => n⟩
theorem laySortedS : Go.Proofs.SlLaysZ.n6 Try.prog laySortedS_ren := {
  mixed := by kernel_rfl
  f6 := ⟨Try.f35.name, by decide, Try.func35.trans (congrArg some (by kernel_rfl))⟩
  f8 := ⟨Try.f52.name, by decide, Try.func52.trans (congrArg some (by kernel_rfl))⟩
  f11 := ⟨Try.f61.name, by decide, Try.func61.trans (congrArg some (by kernel_rfl))⟩
  t0 := Try.underlying0
  a0 := Try.isAgg0
  z0 := Try.sizeOf0
  v0 := Try.zeroValue0
  t24 := Try.underlying32
  a24 := Try.isAgg32
  z24 := Try.sizeOf32
  v24 := Try.zeroValue32
  t26 := Try.underlying9
  a26 := Try.isAgg9
  z26 := Try.sizeOf9
  v26 := Try.zeroValue9
  t28 := Try.underlying65
  a28 := Try.isAgg65
  z28 := Try.sizeOf65
  v28 := Try.zeroValue65
  i26 := by kernel_rfl }
def laySortS_ren : Go.Shelf.Ren := ⟨fun | 6 => 53 | 8 => 59 | 9 => 62 | 19 => 73 | 20 => 74 | 21 => 75 | 22 => 76 | 23 => 77 | 24 => 78 | 25 => 79 | 26 => 80 | 27 => 81 | 28 => 82 | 29 => 83 | 36 => 90 | 31 => 85 | 32 => 86 | 37 => 91 | 38 => 92 | 39 => 93 | 41 => 95 | n => n, fun | 27 => 32 | 29 => 9 | 3 => 3 | 32 => 90 | 26 => 32 | 0 => 0 | 44 => 105 | 46 => 107 | 4 => 4 | 36 => 97 | 35 => 96 | 41 => 102 | 5 => 5 | 9 => 9 | 53 => 114 | 57 => 118 | 63 => 122 | 64 => 123 | n => n, fun | n => n⟩
theorem laySortS : Go.Proofs.SlLaysM.n6 Try.prog laySortS_ren := {
  mixed := by kernel_rfl
  f6 := ⟨Try.f53.name, by decide, Try.func53.trans (congrArg some (by kernel_rfl))⟩
  f8 := Try.func59.trans (congrArg some (by kernel_rfl))
  f9 := ⟨Try.f62.name, by decide, Try.func62.trans (congrArg some (by kernel_rfl))⟩
  f19 := Try.func73.trans (congrArg some (by kernel_rfl))
  f20 := Try.func74.trans (congrArg some (by kernel_rfl))
  f21 := ⟨Try.f75.name, by decide, Try.func75.trans (congrArg some (by kernel_rfl))⟩
  f22 := ⟨Try.f76.name, by decide, Try.func76.trans (congrArg some (by kernel_rfl))⟩
  f23 := ⟨Try.f77.name, by decide, Try.func77.trans (congrArg some (by kernel_rfl))⟩
  f24 := ⟨Try.f78.name, by decide, Try.func78.trans (congrArg some (by kernel_rfl))⟩
  f25 := ⟨Try.f79.name, by decide, Try.func79.trans (congrArg some (by kernel_rfl))⟩
  f26 := ⟨Try.f80.name, by decide, Try.func80.trans (congrArg some (by kernel_rfl))⟩
  f27 := ⟨Try.f81.name, by decide, Try.func81.trans (congrArg some (by kernel_rfl))⟩
  f28 := ⟨Try.f82.name, by decide, Try.func82.trans (congrArg some (by kernel_rfl))⟩
  f29 := ⟨Try.f83.name, by decide, Try.func83.trans (congrArg some (by kernel_rfl))⟩
  f31 := Try.func85.trans (congrArg some (by kernel_rfl))
  f32 := Try.func86.trans (congrArg some (by kernel_rfl))
  f36 := ⟨Try.f90.name, by decide, Try.func90.trans (congrArg some (by kernel_rfl))⟩
  f37 := ⟨Try.f91.name, by decide, Try.func91.trans (congrArg some (by kernel_rfl))⟩
  f38 := ⟨Try.f92.name, by decide, Try.func92.trans (congrArg some (by kernel_rfl))⟩
  f39 := ⟨Try.f93.name, by decide, Try.func93.trans (congrArg some (by kernel_rfl))⟩
  f41 := ⟨Try.f95.name, by decide, Try.func95.trans (congrArg some (by kernel_rfl))⟩
  t0 := Try.underlying0
  a0 := Try.isAgg0
  z0 := Try.sizeOf0
  v0 := Try.zeroValue0
  t3 := Try.underlying3
  a3 := Try.isAgg3
  z3 := Try.sizeOf3
  v3 := Try.zeroValue3
  t4 := Try.underlying4
  a4 := Try.isAgg4
  z4 := Try.sizeOf4
  v4 := Try.zeroValue4
  t5 := Try.underlying5
  a5 := Try.isAgg5
  z5 := Try.sizeOf5
  v5 := Try.zeroValue5
  t9 := Try.underlying9
  a9 := Try.isAgg9
  z9 := Try.sizeOf9
  v9 := Try.zeroValue9
  t26 := Try.underlying32
  a26 := Try.isAgg32
  z26 := Try.sizeOf32
  v26 := Try.zeroValue32
  t27 := Try.underlying32
  a27 := Try.isAgg32
  z27 := Try.sizeOf32
  v27 := Try.zeroValue32
  t29 := Try.underlying9
  a29 := Try.isAgg9
  z29 := Try.sizeOf9
  v29 := Try.zeroValue9
  t32 := Try.underlying90
  a32 := Try.isAgg90
  z32 := Try.sizeOf90
  v32 := Try.zeroValue90
  t35 := Try.underlying96
  a35 := Try.isAgg96
  z35 := Try.sizeOf96
  v35 := Try.zeroValue96
  t36 := Try.underlying97
  a36 := Try.isAgg97
  z36 := Try.sizeOf97
  v36 := Try.zeroValue97
  t41 := Try.underlying102
  a41 := Try.isAgg102
  z41 := Try.sizeOf102
  v41 := Try.zeroValue102
  t44 := Try.underlying105
  a44 := Try.isAgg105
  z44 := Try.sizeOf105
  v44 := Try.zeroValue105
  t46 := Try.underlying107
  a46 := Try.isAgg107
  z46 := Try.sizeOf107
  v46 := Try.zeroValue107
  t53 := Try.underlying114
  a53 := Try.isAgg114
  z53 := Try.sizeOf114
  v53 := Try.zeroValue114
  t57 := Try.underlying118
  a57 := Try.isAgg118
  z57 := Try.sizeOf118
  v57 := Try.zeroValue118
  t63 := Try.underlying122
  a63 := Try.isAgg122
  z63 := Try.sizeOf122
  v63 := Try.zeroValue122
  t64 := Try.underlying123
  a64 := Try.isAgg123
  z64 := Try.sizeOf123
  v64 := Try.zeroValue123 }
def layKeysI_ren : Go.Shelf.Ren := ⟨fun | 7 => 38 | 10 => 56 | n => n, fun | 23 => 36 | 26 => 2 | 3 => 55 | 28 => 69 | 0 => 0 | 27 => 68 | 33 => 74 | 4 => 4 | n => n, fun | n => n⟩
theorem layKeysI : Go.Proofs.SlLaysZI.n7 Try.prog layKeysI_ren := {
  mixed := by kernel_rfl
  f7 := ⟨Try.f38.name, by decide, Try.func38.trans (congrArg some (by kernel_rfl))⟩
  f10 := ⟨Try.f56.name, by decide, Try.func56.trans (congrArg some (by kernel_rfl))⟩
  t0 := Try.underlying0
  a0 := Try.isAgg0
  z0 := Try.sizeOf0
  v0 := Try.zeroValue0
  t4 := Try.underlying4
  a4 := Try.isAgg4
  z4 := Try.sizeOf4
  v4 := Try.zeroValue4
  t23 := Try.underlying36
  a23 := Try.isAgg36
  z23 := Try.sizeOf36
  v23 := Try.zeroValue36
  t26 := Try.underlying2
  a26 := Try.isAgg2
  z26 := Try.sizeOf2
  v26 := Try.zeroValue2
  t27 := Try.underlying68
  a27 := Try.isAgg68
  z27 := Try.sizeOf68
  v27 := Try.zeroValue68
  t28 := Try.underlying69
  a28 := Try.isAgg69
  z28 := Try.sizeOf69
  v28 := Try.zeroValue69
  t33 := Try.underlying74
  a33 := Try.isAgg74
  z33 := Try.sizeOf74
  v33 := Try.zeroValue74 }
def laySortedI_ren : Go.Shelf.Ren := ⟨fun | 6 => 37 | 8 => 55 | 9 => 41 | 11 => 63 | 13 => 59 | 12 => 58 | 23 => 73 | 24 => 74 | 14 => 64 | 15 => 65 | 16 => 66 | 17 => 67 | 18 => 68 | 19 => 69 | 20 => 70 | 21 => 71 | 22 => 72 | 25 => 84 | 26 => 85 | 27 => 86 | 28 => 87 | 29 => 88 | 30 => 89 | 31 => 94 | n => n, fun | 26 => 2 | 28 => 69 | 24 => 43 | 0 => 0 | 3 => 3 | 37 => 90 | 48 => 105 | 50 => 107 | 4 => 4 | 40 => 97 | 39 => 96 | 45 => 102 | 5 => 5 | 9 => 9 | 51 => 114 | 55 => 118 | 57 => 122 | 58 => 123 | 33 => 74 | n => n, fun | n => n⟩
theorem laySortedI : Go.Proofs.SlLaysZI.n6 Try.prog laySortedI_ren := {
  mixed := by kernel_rfl
  f6 := ⟨Try.f37.name, by decide, Try.func37.trans (congrArg some (by kernel_rfl))⟩
  f8 := ⟨Try.f55.name, by decide, Try.func55.trans (congrArg some (by kernel_rfl))⟩
  f11 := ⟨Try.f63.name, by decide, Try.func63.trans (congrArg some (by kernel_rfl))⟩
  t0 := Try.underlying0
  a0 := Try.isAgg0
  z0 := Try.sizeOf0
  v0 := Try.zeroValue0
  t24 := Try.underlying43
  a24 := Try.isAgg43
  z24 := Try.sizeOf43
  v24 := Try.zeroValue43
  t26 := Try.underlying2
  a26 := Try.isAgg2
  z26 := Try.sizeOf2
  v26 := Try.zeroValue2
  t28 := Try.underlying69
  a28 := Try.isAgg69
  z28 := Try.sizeOf69
  v28 := Try.zeroValue69
  i26 := by kernel_rfl }
theorem sortsS (m : Nat) : AnyZ.SortsIn Try.prog laySortedS_ren Fence.wide m :=
  ⟨fun blk off cap ss W hH hblk hsz => callsIn_wide.2 (AnyM.slices_Sort_string laySortS blk off cap ss W hH hblk hsz), fun p cap W => callsIn_wide.2 (AnyM.slices_Sort_string_none laySortS p cap W)⟩
theorem sortsI (m : Nat) : AnyZI.SortsIn Try.prog laySortedI_ren Fence.wide m :=
  ⟨fun blk off cap ss W hH hblk hsz => callsIn_wide.2 (AnyM.slices_Sort_int laySort blk off cap ss W hH hblk hsz), fun p cap W => callsIn_wide.2 (AnyM.slices_Sort_int_none laySort p cap W)⟩
theorem keysS_calls (mb : Option Nat) (W : World) : Calls Try.prog 36 #[.map mb] W fun e w' => e = .returned (.func (.func 54) #[] #[.pointer (some ⟨W.heap.size, 0, none⟩)]) ∧ w' = W.alloc (.cells #[.map mb] 57) := callsIn_wide.1 (AnyZ.keys_in layKeysS Fence.wide 5 trivial rfl mb W)
theorem keysI_calls (mb : Option Nat) (W : World) : Calls Try.prog 38 #[.map mb] W fun e w' => e = .returned (.func (.func 56) #[] #[.pointer (some ⟨W.heap.size, 0, none⟩)]) ∧ w' = W.alloc (.cells #[.map mb] 36) := callsIn_wide.1 (AnyZI.keys_in layKeysI Fence.wide 5 trivial rfl mb W)
set_option maxHeartbeats 1000000 in
theorem sortedS_calls (b nn : Nat) (D0 : DataW Value) (w : World) (hown : w.ownsMap Try.prog 9 rawR b nn D0) (hmax : Go.Maps.size D0 ≤ maxLen) (hbytes : Go.Maps.size D0 * 16 ≤ 140737488355328) :
    Calls Try.prog 35 #[.func (.func 54) #[] #[.pointer (some ⟨w.heap.size, 0, none⟩)]] (w.alloc (.cells #[.map (some b)] 57)) fun e w' => ∃ (v : Value) (ss : List (List UInt8)), e = .returned v ∧ ss.Perm (strKeys D0) ∧
      w'.ownsRow (w.alloc (.cells #[.map (some b)] 57)).heap.size 9 1 v ss.length ((ss.mergeSort (fun x y => decide (x ≤ y))).map encStr) ∧ (v = .slice none 0 0 ↔ ss = []) ∧ Below (w.alloc (.cells #[.map (some b)] 57)).heap.size (w.alloc (.cells #[.map (some b)] 57)) w' := by
  have hbl := hown.lt
  have hseq : SeqGives Fence.wide 2 Try.prog 54 #[.pointer (some ⟨w.heap.size, 0, none⟩)] encStr (fun ss => ss.Perm (strKeys D0)) (Go.Maps.size D0) (w.alloc (.cells #[.map (some b)] 57)) :=
    AnyZ.keys_gives (ρ := layKeysS_ren) { layKeysS with } Fence.wide _ trivial rfl (by omega) w.heap.size b nn D0 _ (by simp) (by simp) (by
      obtain ⟨es, clock, hb, Ft, hs, hD⟩ := hown
      exact ⟨es, clock, (Below.heap_alloc _ _ b hbl).trans hb, Ft, hs, hD⟩)
  exact callsIn_wide.1 (AnyZ.sorted_in laySortedS Fence.wide 5 trivial trivial trivial trivial rfl (by omega) (sortsS _) (enters_of Try.func53 (by kernel_rfl) rfl) 54 #[.pointer (some ⟨w.heap.size, 0, none⟩)] trivial (enters_of Try.func54 (by kernel_rfl) rfl) _ _ hmax hbytes _ hseq)
set_option maxHeartbeats 1000000 in
theorem sortedI_calls (b nn : Nat) (D0 : DataW Value) (w : World) (hown : w.ownsMap Try.prog 2 rawR b nn D0) (hmax : Go.Maps.size D0 ≤ maxLen) (hbytes : Go.Maps.size D0 * 8 ≤ 140737488355328) :
    Calls Try.prog 37 #[.func (.func 56) #[] #[.pointer (some ⟨w.heap.size, 0, none⟩)]] (w.alloc (.cells #[.map (some b)] 36)) fun e w' => ∃ (v : Value) (ss : List Int), e = .returned v ∧ ss.Perm (intKeys D0) ∧
      w'.ownsRow (w.alloc (.cells #[.map (some b)] 36)).heap.size 2 1 v ss.length ((ss.mergeSort (fun x y => decide (x ≤ y))).map encZ) ∧ (v = .slice none 0 0 ↔ ss = []) ∧ Below (w.alloc (.cells #[.map (some b)] 36)).heap.size (w.alloc (.cells #[.map (some b)] 36)) w' := by
  have hbl := hown.lt
  have hseq : SeqGives Fence.wide 2 Try.prog 56 #[.pointer (some ⟨w.heap.size, 0, none⟩)] encZ (fun ss => ss.Perm (intKeys D0)) (Go.Maps.size D0) (w.alloc (.cells #[.map (some b)] 36)) :=
    AnyZI.keys_gives (ρ := layKeysI_ren) { layKeysI with } Fence.wide _ trivial rfl (by omega) w.heap.size b nn D0 _ (by simp) (by simp) (by
      obtain ⟨es, clock, hb, Ft, hs, hD⟩ := hown
      exact ⟨es, clock, (Below.heap_alloc _ _ b hbl).trans hb, Ft, hs, hD⟩)
  exact callsIn_wide.1 (AnyZI.sorted_in laySortedI Fence.wide 5 trivial trivial trivial trivial rfl (by omega) (sortsI _) (enters_of Try.func41 (by kernel_rfl) rfl) 56 #[.pointer (some ⟨w.heap.size, 0, none⟩)] trivial (enters_of Try.func56 (by kernel_rfl) rfl) _ _ hmax hbytes _ hseq)
/-! ### what the keys are -/
def SortedS (l : List ByteArray) : Prop := l.Pairwise (fun a b => Op.bytesLess a.toList b.toList = true)
theorem less_data (a b : ByteArray) : Op.bytesLess a.toList b.toList = decide (a.data.toList < b.data.toList) := by rw [bytesLess_eq, ByteArray.toList_eq, ByteArray.toList_eq]
theorem keys_of {w : World} {b n : Nat} {D : DataW Value} (hown : w.ownsMap Try.prog 9 rawR b n D) {S : List ByteArray} (hf : ∀ kl, at_ D kl = setF S kl) : (strKeys D).Nodup ∧ ∀ x, x ∈ strKeys D ↔ (⟨x.toArray⟩ : ByteArray) ∈ S := by
  obtain ⟨es, hD, hk⟩ := hown.keysOf
  obtain ⟨es2, hD2, ht⟩ := hown.tidy keyed9
  have e2 : es2 = es := by rw [hD] at hD2; injection hD2 with h; exact h.symm
  subst e2
  have hstr : ∀ p ∈ es2, p.1 = .string (strOf p.1) := fun p hp => by
    obtain ⟨v, hv⟩ := hk p hp
    obtain ⟨x, _, e, _⟩ := Go.Maps.keyOf_str Try.underlying9 hv
    rw [e]; rfl
  subst hD
  constructor
  · show (es2.map fun p => strOf p.1).Nodup
    unfold List.Nodup
    rw [List.pairwise_map]
    refine (List.Pairwise.and_mem.1 ht).imp ?_
    rintro p q ⟨hp, hq, hne⟩ e
    exact hne (by rw [hstr p hp, hstr q hq, e])
  · intro x
    have h1 := has_at hown keyed9 (.string x)
    rw [hf, show (Lit.string x) = sLit ⟨x.toArray⟩ from rfl, setF_at] at h1
    have h2 : Go.Maps.has (.map es2 : DataW Value) (sLit ⟨x.toArray⟩) = true ↔ x ∈ strKeys (.map es2 : DataW Value) := by
      show (es2.any fun p => p.1.sameKey (.string x)) = true ↔ x ∈ es2.map fun p => strOf p.1
      rw [List.any_eq_true, List.mem_map]
      constructor
      · rintro ⟨p, hp, h⟩; exact ⟨p, hp, by have := WideAt.sameKey_eq h; rw [this]; rfl⟩
      · rintro ⟨p, hp, rfl⟩; exact ⟨p, hp, by rw [← hstr p hp]; exact WideAt.sameKey_self (by obtain ⟨v, hv⟩ := hk p hp; exact keyed9.key hv)⟩
    rw [← h2, h1]
    split
    · rename_i h; simp [h]
    · rename_i h; simp [h]
theorem sorted_keys {D : DataW Value} {S : List ByteArray} {ss : List (List UInt8)} (hp : ss.Perm (strKeys D)) (hn : (strKeys D).Nodup) (hm : ∀ x, x ∈ strKeys D ↔ (⟨x.toArray⟩ : ByteArray) ∈ S) (hS : SortedS S) : ss.mergeSort (fun x y => decide (x ≤ y)) = S.map (fun s => s.data.toList) := by
  have hle : ∀ a b c : List UInt8, decide (a ≤ b) = true → decide (b ≤ c) = true → decide (a ≤ c) = true := fun a b c h1 h2 => by simp only [decide_eq_true_eq] at *; exact List.le_trans h1 h2
  have htot : ∀ a b : List UInt8, (decide (a ≤ b) || decide (b ≤ a)) = true := fun a b => by simp only [Bool.or_eq_true, decide_eq_true_eq]; exact List.le_total a b
  have s1 := List.pairwise_mergeSort hle htot ss
  have hlt : ∀ a b : ByteArray, Op.bytesLess a.toList b.toList = true → a.data.toList < b.data.toList := fun a b h => by rw [less_data] at h; exact of_decide_eq_true h
  have s2 : (S.map (fun s => s.data.toList)).Pairwise (fun x y => decide (x ≤ y) = true) := by
    rw [List.pairwise_map]
    exact hS.imp (fun h => decide_eq_true (List.le_of_lt (hlt _ _ h)))
  have n2 : (S.map (fun s => s.data.toList)).Nodup := by
    unfold List.Nodup
    rw [List.pairwise_map]
    exact hS.imp (fun {a b} h e => by have := hlt _ _ h; rw [e] at this; exact List.lt_irrefl _ this)
  have hperm : (ss.mergeSort (fun x y => decide (x ≤ y))).Perm (S.map (fun s => s.data.toList)) := by
    refine ((List.mergeSort_perm ss _).trans hp).trans ((List.perm_ext_iff_of_nodup hn n2).2 (fun x => ?_))
    rw [hm, List.mem_map]
    constructor
    · intro h; exact ⟨_, h, by simp⟩
    · rintro ⟨s, hs, rfl⟩; rw [str_mk]; exact hs
  exact hperm.eq_of_pairwise (fun a b _ _ h1 h2 => by simp only [decide_eq_true_eq] at h1 h2; exact List.le_antisymm h1 h2) s1 s2
/-! ### Holds -/
def holdsQ (Q : List PW) (id : Int) : List ByteArray := match Q.find? (fun q => decide (q.2.f0 = id)) with
  | none => []
  | some q => q.2.f1
set_option maxHeartbeats 8000000 in
set_option maxRecDepth 100000 in
theorem holds_calls (lb mb mn : Nat) (last : Int) (Q : List PW) (id : Int) (w : World) (h : LockAt w lb mb mn last Q) (hid : (Lit.int .i64 id).wf = true) (hso : ∀ q ∈ Q, SortedS q.2.f1) (hbu : ∀ q ∈ Q, q.1.nh ≤ 1000000) :
    Calls Try.prog 15 #[.pointer (some ⟨lb, 0, none⟩), .int .i64 id] w fun e w' => ∃ v, e = .returned v ∧ Kd.R Kd.string 9 w' w.heap.size (fun _ => True) v (holdsQ Q id) ∧ Below w.heap.size w w' := by
  have hc := (l_cells h).1
  have hlook := h.m.lookup_run keyed2 Try.underlying36 (zero55 w) (key_i id hid)
  have HL := Aside0.mk h
  rw [worksF_at] at hlook
  cases hf : Q.find? (fun q => decide (q.2.f0 = id)) with
  | none =>
    rw [hf] at hlook
    simp only [Option.map_none, Option.getD_none] at hlook
    have HZ := Aside0.mk (show holdsQ Q id = [] by unfold holdsQ; rw [hf])
    have hn := eq_nil55 w none
    have HB := Aside0.mk (Below.refl w.heap.size w)
    clear h hid hso hbu hf
    go_enter Try.func15, Try.ntmps15
    go_wp2_with (first | (go_at_call 31; (with_reducible refine (made_yes lb mb mn last Q _ HL.out).mono ?_); rintro e w' ⟨rfl, rfl⟩))
    go_ret
    exact ⟨_, rfl, by rw [HZ.out]; exact Kd.R_nil _ _ _ _ _, HB.out⟩
  | some q =>
    have hq := List.mem_of_find?_eq_some hf
    rw [hf] at hlook
    simp only [Option.map_some, Option.getD_some] at hlook
    have hn := eq_nil55 w (some ⟨q.1.k, 0, none⟩)
    obtain ⟨c0, c1, c2⟩ := w_cells (h.wk q hq)
    obtain ⟨D, hD, hat⟩ := (h.wk q hq).h
    obtain ⟨k1, k2⟩ := keys_of hD hat
    have HZ := Aside0.mk (show holdsQ Q id = q.2.f1 by unfold holdsQ; rw [hf])
    have hsz : Go.Maps.size D ≤ 1000000 := Nat.le_trans hD.size_le (hbu q hq)
    have HS := Aside0.mk (sortedS_calls q.1.hb q.1.nh D w hD (by unfold maxLen; omega) (by omega))
    have HP := Aside0.mk (fun (ss : List (List UInt8)) (hp : ss.Perm (strKeys D)) => sorted_keys hp k1 k2 (hso q hq))
    have HLEN := Aside0.mk (fun (ss : List (List UInt8)) (hp : ss.Perm (strKeys D)) => (congrArg List.length (sorted_keys hp k1 k2 (hso q hq))))
    clear h hid hso hbu hf hq hD hat k1 k2 hsz c1 c2
    go_enter Try.func15, Try.ntmps15
    go_wp2_with (first | (go_at_call 31; (with_reducible refine (made_yes lb mb mn last Q _ HL.out).mono ?_); rintro e w' ⟨rfl, rfl⟩) | (go_at_call 36; (with_reducible refine (keysS_calls (some q.1.hb) _).mono ?_); rintro e w' ⟨rfl, rfl⟩) | (go_at_call 35; (with_reducible refine HS.out.mono ?_); rintro e w' ⟨v, ss, rfl, hp, hrow, _, hb⟩; have HPP := Aside0.mk hp; have HROW := Aside0.mk hrow; have HBB := Aside0.mk hb; clear hp hrow hb))
    go_ret
    have e1 := HP.out _ HPP.out
    have e2 := HLEN.out _ HPP.out
    rw [List.length_mergeSort, List.length_map] at e2
    refine ⟨_, rfl, ?_, below_step (below_alloc (Below.refl _ _) _) HBB.out⟩
    rw [HZ.out]
    refine Kd.R_lower (base := (w.alloc (.cells #[.map (some q.1.hb)] 57)).heap.size) (Kd.R_of_own ?_ (fun _ _ => trivial)) (below_size (below_alloc (Below.refl _ w) _))
    have hr := HROW.out
    rw [e1, e2, List.map_map] at hr
    have e3 : q.2.f1.map (encStr ∘ fun s => s.data.toList) = encs Value.string q.2.f1 := by
      unfold encs
      apply List.map_congr_left
      intro s _
      show Value.string ⟨s.data.toList.toArray⟩ = _
      rw [str_mk]
    rw [e3] at hr
    exact hr
end Go.Proofs.Ytimlfdfmgajbnaa.PA
/-
The works by which one is kept by way of others: lock.beyond.
-/
namespace Go.Proofs.Ytimlfdfmgajbnaa.PA
open Go.RowKit Go.Proofs.YtimlfdfmgajbnaaW.PrintWords Go.Proofs.YtimlfdfmgajbnaaW.PrintLast Go.Proofs.YtimlfdfmgajbnaaW.PrintMore
open Go.Proofs.Ytimlfdfmgajbnaa.Mp
set_option linter.unusedVariables false
set_option linter.unusedSimpArgs false
/-! ### sets of numbers -/
def setI (S : List Int) : Lit → Option Value := fun kl => match kl with
  | .int .i64 n => if n ∈ S then some (.int .i64 1) else none
  | _ => none
theorem setI_at (S : List Int) (n : Int) : setI S (.int .i64 n) = if n ∈ S then some (.int .i64 1) else none := rfl
theorem setI_nil (kl : Lit) : setI [] kl = none := by unfold setI; split <;> simp
theorem setI_upd (S : List Int) (n : Int) (kl : Lit) : upd (setI S) (.int .i64 n) (some (.int .i64 1)) kl = setI (n :: S) kl := by
  unfold upd
  split
  · rename_i e
    rw [e, setI_at, if_pos (by simp)]
  · rename_i e
    unfold setI
    split
    · rename_i m
      have : m ≠ n := fun h => e (by rw [h])
      simp [this]
    · rfl
theorem setI_some {S : List Int} {kl : Lit} {v : Value} (h : setI S kl = some v) : ∃ n ∈ S, kl = .int .i64 n ∧ v = .int .i64 1 := by
  unfold setI at h
  split at h
  · rename_i n
    split at h
    · rename_i hn
      cases h
      exact ⟨n, hn, rfl, rfl⟩
    · cases h
  · cases h
theorem zero3' (w : World) : (zeroValue 3).run Try.prog w = .ok (.int .i64 0) w := by kernel_rfl
set_option maxHeartbeats 400000 in
theorem has64_calls (b m : Nat) (S : List Int) (n : Int) (r : Bool) (w : World) (h : MapIs Try.prog 2 w b m (setI S)) (hn : (Lit.int .i64 n).wf = true) (hr : r = decide (n ∈ S)) :
    Calls Try.prog 40 #[.map (some b), .int .i64 n] w fun e w' => e = .returned (.bool r) ∧ w = w' := by
  have HR := Aside0.mk hr
  have HM := Aside0.mk h
  have HK := Aside0.mk (key_i n hn)
  clear hr h hn
  by_cases hm : n ∈ S
  · have HV := Aside0.mk (show (setI S (.int .i64 n)).getD (.int .i64 0) = .int .i64 1 by rw [setI_at, if_pos hm]; rfl)
    have HZ := Aside0.mk (HR.out.trans (decide_eq_true hm))
    clear hm
    go_enter Try.func40, Try.ntmps40
    go_wp2_with (at_lookup; refine lookup_event HM.out rfl _ _ rfl keyed2 Try.underlying72 (zero3' _) rfl rfl HK.out ?_; rw [HV.out])
    go_ret
    exact ⟨by rw [HZ.out]; rfl, rfl⟩
  · have HV := Aside0.mk (show (setI S (.int .i64 n)).getD (.int .i64 0) = .int .i64 0 by rw [setI_at, if_neg hm]; rfl)
    have HZ := Aside0.mk (HR.out.trans (decide_eq_false hm))
    clear hm
    go_enter Try.func40, Try.ntmps40
    go_wp2_with (at_lookup; refine lookup_event HM.out rfl _ _ rfl keyed2 Try.underlying72 (zero3' _) rfl rfl HK.out ?_; rw [HV.out])
    go_ret
    exact ⟨by rw [HZ.out]; rfl, rfl⟩
/-! ### who is come by -/
inductive Reach (Q : List PW) : Int → Int → Prop
  | one {a b : Int} : b ∈ waitsQ Q a → Reach Q a b
  | step {a b c : Int} : b ∈ waitsQ Q a → Reach Q b c → Reach Q a c
structure Dfs (Q : List PW) (id : Int) (S S' : List Int) : Prop where
  sub : ∀ x ∈ S, x ∈ S'
  sound : ∀ x ∈ S', x ∈ S ∨ Reach Q id x
  here : ∀ o ∈ waitsQ Q id, o ∈ S'
  clos : ∀ x ∈ S', x ∉ S → ∀ o ∈ waitsQ Q x, o ∈ S'
theorem Dfs.all {Q : List PW} {id : Int} {S' : List Int} (h : Dfs Q id [] S') (x : Int) : x ∈ S' ↔ Reach Q id x := by
  constructor
  · intro hx
    rcases h.sound x hx with h | h
    · cases h
    · exact h
  · intro hr
    have key : ∀ {a c : Int}, Reach Q a c → (∀ o ∈ waitsQ Q a, o ∈ S') → c ∈ S' := by
      intro a c hac
      induction hac with
      | one hb => intro hw; exact hw _ hb
      | step hb _ ih => intro hw; exact ih (h.clos _ (hw _ hb) (by simp))
    exact key hr h.here
theorem mem_sortI {l : List Int} {x : Int} : x ∈ sortI l ↔ x ∈ l := by unfold sortI; simp
theorem waits_ids {Q : List PW} {id o : Int} (h : o ∈ waitsQ Q id) : ∃ q ∈ Q, q.2.f0 = o := by
  unfold waitsQ at h
  split at h
  · cases h
  · split at h
    · cases h
    · rw [mem_sortI, keptQ_mem] at h
      obtain ⟨q, hq, e, _⟩ := h
      exact ⟨q, hq, e⟩
theorem waits_len (Q : List PW) (id : Int) : (waitsQ Q id).length ≤ Q.length := by
  unfold waitsQ
  split
  · simp
  · split
    · simp
    · rw [sortI_length]
      unfold keptQ
      rw [List.length_map]
      exact List.length_filter_le _ _
/-- What the walk through the works has: locks, its three variables, those that were seen. -/
structure Look (w : World) (lb mb mn : Nat) (last : Int) (Q : List PW) (b1 b2 b3 sb m : Nat) (S : List Int) : Prop where
  L : LockAt w lb mb mn last Q
  far : sb ∉ footOf lb mb Q
  c1 : w.heap[b1]? = some (.cells #[.pointer (some ⟨lb, 0, none⟩)] 25 (0, 0))
  c2 : w.heap[b2]? = some (.cells #[.map (some sb)] 72 (0, 0))
  c3 : w.heap[b3]? = some (.cells #[.func (.func 57) #[] #[.pointer (some ⟨b1, 0, none⟩), .pointer (some ⟨b2, 0, none⟩), .pointer (some ⟨b3, 0, none⟩)]] 40 (0, 0))
  hS : MapIs Try.prog 2 w sb m (setI S)
  hm : m ≤ S.length
  nd : S.Nodup
  sub : ∀ x ∈ S, x ∈ idsOf Q
theorem Look.chg {w w' : World} {lb mb mn : Nat} {last : Int} {Q : List PW} {b1 b2 b3 sb m m' : Nat} {S S' : List Int} (h : Look w lb mb mn last Q b1 b2 b3 sb m S) (hc : Chg (fun k => k = sb) w w') (hS : MapIs Try.prog 2 w' sb m' (setI S')) (hm : m' ≤ S'.length) (nd : S'.Nodup) (sub : ∀ x ∈ S', x ∈ idsOf Q) : Look w' lb mb mn last Q b1 b2 b3 sb m' S' :=
  ⟨h.L.at (fun k hk => hc.block k (h.L.lt k hk) (fun e => h.far (by rw [← e]; exact hk))), h.far, (hc.block _ (blk_lt h.c1) (cells_ne_map h.c1 h.hS)).trans h.c1, (hc.block _ (blk_lt h.c2) (cells_ne_map h.c2 h.hS)).trans h.c2, (hc.block _ (blk_lt h.c3) (cells_ne_map h.c3 h.hS)).trans h.c3, hS, hm, nd, sub⟩
def LookPost (Q : List PW) (sb : Nat) (S : List Int) (id : Int) (w : World) (e : Ending) (w' : World) : Prop := e = .returned (.tuple #[]) ∧ ∃ m' S', MapIs Try.prog 2 w' sb m' (setI S') ∧ m' ≤ S'.length ∧ S'.Nodup ∧ (∀ x ∈ S', x ∈ idsOf Q) ∧ Dfs Q id S S' ∧ Chg (fun k => k = sb) w w'
def unseen (Q : List PW) (S : List Int) : Nat := ((idsOf Q).filter (fun x => decide (x ∉ S))).length
theorem unseen_lt {Q : List PW} {S : List Int} {o : Int} (ho : o ∈ idsOf Q) (hn : o ∉ S) : unseen Q (o :: S) < unseen Q S := by
  unfold unseen
  generalize idsOf Q = l at ho
  induction l with
  | nil => cases ho
  | cons a l ih =>
    have mono : ∀ l : List Int, (l.filter (fun x => decide (x ∉ o :: S))).length ≤ (l.filter (fun x => decide (x ∉ S))).length := by
      intro l
      induction l with
      | nil => simp
      | cons b l ih =>
        rw [List.filter_cons, List.filter_cons]
        by_cases h1 : b ∈ S
        · simp [h1]; simpa using ih
        · by_cases h2 : b = o
          · simp [h1, h2, hn]; have := ih; simp at this; omega
          · simp [h1, h2]; simpa using ih
    rw [List.filter_cons, List.filter_cons]
    by_cases e : a = o
    · have := mono l
      simp [e, hn] at this ⊢
      omega
    · have hl : o ∈ l := by rcases List.mem_cons.1 ho with h | h; exact absurd h.symm e; exact h
      have := ih hl
      by_cases h1 : a ∈ S
      · simp [h1] at this ⊢; exact this
      · simp [h1, e] at this ⊢; exact this
theorem unseen_mono {Q : List PW} {S T : List Int} (h : ∀ x ∈ S, x ∈ T) : unseen Q T ≤ unseen Q S := by
  unfold unseen
  induction idsOf Q with
  | nil => simp
  | cons a l ih =>
    rw [List.filter_cons, List.filter_cons]
    by_cases h1 : a ∈ S
    · simp [h1, h a h1]; simpa using ih
    · by_cases h2 : a ∈ T
      · simp [h1, h2]; simp at ih; omega
      · simp [h1, h2]; simpa using ih
theorem cell_ne_map {P : Program} {w : World} {a : Addr} {v : Value} {b n : Nat} {kt : TypeId} {f : Lit → Option Value} (h : w.cell? a = some v) (hb : MapIs P kt w b n f) : a.block ≠ b := by
  intro e
  obtain ⟨D, ⟨es, clock, h2, _⟩, _⟩ := hb
  unfold World.cell? at h
  rw [e, h2] at h
  cases h
theorem nodup_len {l m : List Int} (h : l.Nodup) (hs : ∀ x ∈ l, x ∈ m) : l.length ≤ m.length := by
  induction l generalizing m with
  | nil => simp
  | cons a l ih =>
    obtain ⟨h1, h2⟩ := List.nodup_cons.1 h
    have ha := hs a (by simp)
    have hm : ∀ x ∈ l, x ∈ m.erase a := fun x hx => (List.mem_erase_of_ne (fun e => h1 (by rw [← e]; exact hx))).2 (hs x (by simp [hx]))
    have := ih h2 hm
    rw [List.length_erase_of_mem ha] at this
    have hp : 0 < m.length := List.length_pos_of_mem ha
    simp
    omega
set_option maxHeartbeats 8000000 in
set_option maxRecDepth 100000 in
theorem look_step (lb mb mn : Nat) (last : Int) (Q : List PW) (b1 b2 b3 sb m : Nat) (S : List Int) (id : Int) (w : World) (h : Look w lb mb mn last Q b1 b2 b3 sb m S) (hid : (Lit.int .i64 id).wf = true) (hmn : mn ≤ 1000000) (hq : Q.length ≤ 1000000)
    (IH : ∀ (m' : Nat) (S' : List Int) (o : Int) (w' : World), unseen Q S' < unseen Q S → (Lit.int .i64 o).wf = true → Look w' lb mb mn last Q b1 b2 b3 sb m' S' → Calls Try.prog 57 #[.int .i64 o, .pointer (some ⟨b1, 0, none⟩), .pointer (some ⟨b2, 0, none⟩), .pointer (some ⟨b3, 0, none⟩)] w' (LookPost Q sb S' o w')) :
    Calls Try.prog 57 #[.int .i64 id, .pointer (some ⟨b1, 0, none⟩), .pointer (some ⟨b2, 0, none⟩), .pointer (some ⟨b3, 0, none⟩)] w (LookPost Q sb S id w) := by
  have HL := Aside0.mk h
  have HI := Aside0.mk hid
  have HMN := Aside0.mk hmn
  have HQ := Aside0.mk hq
  have HIH := Aside0.mk IH
  have d1 := (blk_cell h.c1 0).trans rfl
  clear h hid hmn IH hq
  go_enter Try.func57, Try.ntmps57
  go_wp2_with (first | (go_at_call 16; (with_reducible refine (waits_calls lb mb mn last Q id _ HL.out.L HI.out HMN.out).mono ?_); rintro e w1 ⟨v, rfl, hR, hb⟩; obtain ⟨Av, cv, ev⟩ := Kd.R_slice hR; subst ev; have HRD := Aside0.mk (Kd.R_reads' hR).2.2; have HB := Aside0.mk hb; clear hR hb d1))
  have HL1 := Aside0.mk (HL.out.chg (Chg.ofBelow HB.out) (HL.out.hS.below HB.out) HL.out.hm HL.out.nd HL.out.sub)
  obtain ⟨xs, hxs⟩ : ∃ xs, xs = waitsQ Q id := ⟨_, rfl⟩
  rw [← hxs] at HRD ⊢
  have HXS := Aside0.mk hxs
  have hxl : xs.length ≤ 1000000 := by rw [hxs]; exact Nat.le_trans (waits_len Q id) HQ.out
  clear hxs
  go_loopw [6, 11] (fun v6 v11 wr => ∃ (i m1 : Nat) (S1 : List Int), i ≤ xs.length ∧ v11 = .int .i64 i ∧ Aside0 (Look wr lb mb mn last Q b1 b2 b3 sb m1 S1) ∧ Aside0 (∀ x ∈ S, x ∈ S1) ∧ Aside0 (∀ x ∈ S1, x ∈ S ∨ Reach Q id x) ∧ Aside0 (∀ x ∈ xs.take i, x ∈ S1) ∧ Aside0 (∀ x ∈ S1, x ∉ S → ∀ o ∈ waitsQ Q x, o ∈ S1) ∧ Aside0 (Chg (fun k => k = sb) w1 wr)) (fun _ v11 _ => xs.length - (intOf v11).toNat)
  case atStart => exact ⟨0, m, S, Nat.zero_le _, rfl, ⟨HL1.out⟩, ⟨fun x h => h⟩, ⟨fun x h => .inl h⟩, ⟨fun x h => by simp at h⟩, ⟨fun x h hn => absurd h hn⟩, ⟨Chg.refl _ _⟩⟩
  case round =>
    obtain ⟨i, m1, S1, hi, rfl, HLK, HSUB, HSND, HTK, HCL, HC⟩ := hrel
    by_cases hlt : i < xs.length
    · have hd1 : decide ((i : Int) < (xs.length : Int)) = true := decide_eq_true (by omega)
      have hd2 : decide (0 ≤ (i : Int)) = true := decide_eq_true (by omega)
      obtain ⟨ad, e0, hx⟩ := Kd.at_int HRD.out (i : Int) (by omega) (by omega)
      cases e0
      obtain ⟨o, ho⟩ : ∃ o, o = xs[i] := ⟨_, rfl⟩
      have eo : rd xs (i : Int) = o := by rw [ho]; simp [rd, hlt]
      rw [eo, Int.toNat_natCast] at hx
      have hx2 := HC.out.cell hx (cell_ne_map hx HL1.out.hS)
      have hmem : o ∈ waitsQ Q id := by rw [← HXS.out, ho]; exact List.getElem_mem _
      obtain ⟨q, hq, hqo⟩ := waits_ids hmem
      have HO := Aside0.mk (show o ∈ idsOf Q from List.mem_map.2 ⟨q, hq, hqo⟩)
      have HOW := Aside0.mk (show (Lit.int .i64 o).wf = true by rw [← hqo]; exact HLK.out.L.wf q hq)
      have HMEM := Aside0.mk hmem
      have htk : xs.take (i + 1) = xs.take i ++ [o] := by rw [List.take_succ_eq_append_getElem hlt, ho]
      have HTE := Aside0.mk htk
      clear hx hq hqo eo ho hmem htk
      have d2 := (blk_cell HLK.out.c2 0).trans rfl
      have d3 := (blk_cell HLK.out.c3 0).trans rfl
      by_cases hs : o ∈ S1
      · have HH := Aside0.mk (decide_eq_true hs).symm
        have HT2 := Aside0.mk (show ∀ x ∈ xs.take (i + 1), x ∈ S1 from fun x hx => by
          rw [HTE.out] at hx
          rcases List.mem_append.1 hx with h | h
          · exact HTK.out x h
          · rw [List.mem_singleton.1 h]; exact hs)
        clear hs
        go_wp2_with (first | (go_at_call 40; (with_reducible refine (has64_calls sb m1 S1 o true _ HLK.out.hS HOW.out HH.out).mono ?_); rintro e w' ⟨rfl, rfl⟩))
        go_roundw
        case rel => exact ⟨i + 1, m1, S1, by omega, by first | rfl | (rw [wrapI (by omega) (by omega)]; rfl), ⟨HLK.out⟩, ⟨HSUB.out⟩, ⟨HSND.out⟩, ⟨HT2.out⟩, ⟨HCL.out⟩, ⟨HC.out⟩⟩
        case measure => simp [intOf, wrapI]; omega
      · have HH := Aside0.mk (decide_eq_false hs).symm
        have hun : unseen Q (o :: S1) < unseen Q S := Nat.lt_of_lt_of_le (unseen_lt HO.out hs) (unseen_mono HSUB.out)
        have HND := Aside0.mk (show (o :: S1).Nodup from List.nodup_cons.2 ⟨hs, HLK.out.nd⟩)
        have HSB := Aside0.mk (show ∀ x ∈ o :: S1, x ∈ idsOf Q from fun x hx => by rcases List.mem_cons.1 hx with e | h; rw [e]; exact HO.out; exact HLK.out.sub x h)
        have hlen : S1.length ≤ Q.length := by have := nodup_len HLK.out.nd HLK.out.sub; unfold idsOf at this; simpa using this
        have HMX := Aside0.mk (show m1 < maxLen by have h1 := HLK.out.hm; have h2 := HQ.out; unfold maxLen; omega)
        have HUN := Aside0.mk hun
        clear hs hun hlen
        go_wp2_with (first | (go_at_call 40; (with_reducible refine (has64_calls sb m1 S1 o false _ HLK.out.hS HOW.out HH.out).mono ?_); rintro e w' ⟨rfl, rfl⟩) | (at_mapUpdate; refine update_event HLK.out.hS rfl _ _ _ rfl keyed2 Try.underlying72 HMX.out rfl rfl rfl (key_i o HOW.out) ?_; intro W5 hm hg; have HC5 := Aside0.mk (Chg.ofGrown (F := fun k => k = sb) hg (fun k e => by injection e)); have HL5 := Aside0.mk (HLK.out.chg HC5.out (hm.congr (setI_upd S1 o)) (by have := HLK.out.hm; simp; omega) HND.out HSB.out); have HC6 := Aside0.mk (HC.out.trans HC5.out (fun k _ e => e)); clear hm hg d2 d3 hx2; have d3 := (blk_cell HL5.out.c3 0).trans rfl) | (go_at_call 57; (with_reducible refine (HIH.out (m1 + 1) (o :: S1) o _ HUN.out HOW.out HL5.out).mono ?_); rintro e W7 ⟨rfl, m7, S7, hS7, hm7, hn7, hs7, hdfs, hc7⟩; have HL7 := Aside0.mk (HL5.out.chg hc7 hS7 hm7 hn7 hs7); have HD7 := Aside0.mk hdfs; have HC7 := Aside0.mk (HC6.out.trans hc7 (fun k _ e => e)); clear hS7 hm7 hn7 hs7 hdfs hc7 d3))
        have R1 := Aside0.mk (show ∀ x ∈ S, x ∈ S7 from fun x hx => HD7.out.sub x (List.mem_cons.2 (.inr (HSUB.out x hx))))
        have R2 := Aside0.mk (show ∀ x ∈ S7, x ∈ S ∨ Reach Q id x from fun x hx => by
          rcases HD7.out.sound x hx with h | h
          · rcases List.mem_cons.1 h with e | h
            · rw [e]; exact .inr (Reach.one HMEM.out)
            · exact HSND.out x h
          · exact .inr (Reach.step HMEM.out h))
        have R3 := Aside0.mk (show ∀ x ∈ xs.take (i + 1), x ∈ S7 from fun x hx => by
          rw [HTE.out] at hx
          rcases List.mem_append.1 hx with h | h
          · exact HD7.out.sub x (List.mem_cons.2 (.inr (HTK.out x h)))
          · rw [List.mem_singleton.1 h]; exact HD7.out.sub o (by simp))
        have R4 := Aside0.mk (show ∀ x ∈ S7, x ∉ S → ∀ p ∈ waitsQ Q x, p ∈ S7 from fun x hx hn p hp => by
          by_cases e : x = o
          · rw [e] at hp; exact HD7.out.here p hp
          · by_cases h1 : x ∈ S1
            · exact HD7.out.sub p (List.mem_cons.2 (.inr (HCL.out x h1 hn p hp)))
            · exact HD7.out.clos x hx (fun h => by rcases List.mem_cons.1 h with h | h; exact e h; exact h1 h) p hp)
        go_roundw
        case rel => exact ⟨i + 1, m7, S7, by omega, by first | rfl | (rw [wrapI (by omega) (by omega)]; rfl), ⟨HL7.out⟩, ⟨R1.out⟩, ⟨R2.out⟩, ⟨R3.out⟩, ⟨R4.out⟩, ⟨HC7.out⟩⟩
        case measure => simp [intOf, wrapI]; omega
    · have hie : i = xs.length := by omega
      subst hie
      rw [List.take_length] at HTK
      have hd1 : decide ((xs.length : Int) < (xs.length : Int)) = false := decide_eq_false (by omega)
      clear hlt hi
      go_wp2
      go_end0
      exact ⟨rfl, m1, S1, HLK.out.hS, HLK.out.hm, HLK.out.nd, HLK.out.sub, ⟨HSUB.out, HSND.out, fun o ho => HTK.out o (by rw [HXS.out]; exact ho), HCL.out⟩, (Chg.ofBelow HB.out).trans HC.out (fun k _ e => e)⟩
theorem look_calls (lb mb mn : Nat) (last : Int) (Q : List PW) (b1 b2 b3 sb : Nat) (hmn : mn ≤ 1000000) (hq : Q.length ≤ 1000000) : ∀ (n m : Nat) (S : List Int) (id : Int) (w : World), unseen Q S ≤ n → (Lit.int .i64 id).wf = true → Look w lb mb mn last Q b1 b2 b3 sb m S → Calls Try.prog 57 #[.int .i64 id, .pointer (some ⟨b1, 0, none⟩), .pointer (some ⟨b2, 0, none⟩), .pointer (some ⟨b3, 0, none⟩)] w (LookPost Q sb S id w) := by
  intro n
  induction n with
  | zero => intro m S id w hu hid h; exact look_step lb mb mn last Q b1 b2 b3 sb m S id w h hid hmn hq (fun m' S' o w' hlt => absurd hlt (by omega))
  | succ n ih => intro m S id w hu hid h; exact look_step lb mb mn last Q b1 b2 b3 sb m S id w h hid hmn hq (fun m' S' o w' hlt ho hl => ih m' S' o w' (by omega) ho hl)
end Go.Proofs.Ytimlfdfmgajbnaa.PA
/-
lock.beyond: the works by which one is kept by way of others.
-/
namespace Go.Proofs.Ytimlfdfmgajbnaa.PA
open Go.RowKit Go.Proofs.YtimlfdfmgajbnaaW.PrintWords Go.Proofs.YtimlfdfmgajbnaaW.PrintLast Go.Proofs.YtimlfdfmgajbnaaW.PrintMore
open Go.Proofs.Ytimlfdfmgajbnaa.Mp
set_option linter.unusedVariables false
set_option linter.unusedSimpArgs false
def BeyondPost (Q : List PW) (id : Int) (w : World) (e : Ending) (w' : World) : Prop := ∃ sb m S, e = .returned (.map (some sb)) ∧ MapIs Try.prog 2 w' sb m (setI S) ∧ m ≤ S.length ∧ S.Nodup ∧ (∀ x ∈ S, x ∈ idsOf Q) ∧ (∀ x, x ∈ S ↔ Reach Q id x) ∧ Below w.heap.size w w' ∧ w.heap.size ≤ sb
set_option maxHeartbeats 8000000 in
set_option maxRecDepth 100000 in
theorem beyond_calls (lb mb mn : Nat) (last : Int) (Q : List PW) (id : Int) (w : World) (h : LockAt w lb mb mn last Q) (hid : (Lit.int .i64 id).wf = true) (hmn : mn ≤ 1000000) (hq : Q.length ≤ 1000000) :
    Calls Try.prog 39 #[.pointer (some ⟨lb, 0, none⟩), .int .i64 id] w (BeyondPost Q id w) := by
  have HL := Aside0.mk h
  have HI := Aside0.mk hid
  have HQ := Aside0.mk hq
  have HMN := Aside0.mk hmn
  clear h hid hq hmn
  go_enter Try.func39, Try.ntmps39
  go_upto_region 3 with (first | ((with_reducible refine gate_dst (N := 2) rfl ?_); refine box_event ?hg (N := 2) ?hd (cs := #[.pointer (some ⟨lb, 0, none⟩)]) (t := 25) ?hr ?_; (case hd => rfl); (case hg => rfl); (case hr => first | (go_simp; done) | (go_simp; rfl)); intro g1 hg W1 hbox hb; have B1 := Aside0.mk hbox; have HB := Aside0.mk hb; clear hg hbox hb) | ((with_reducible refine gate_dst (N := 7) rfl ?_); refine make_event rfl rfl 2 ?_; intro sb hsb W2 hm hb; have GS := Aside0.mk (by rw [hsb]; exact HB.out.size : w.heap.size ≤ sb); have HM := Aside0.mk hm; have B1n := Aside0.mk (blk_below B1.out hb); clear B1; have B1 := B1n; clear B1n; have HBn := Aside0.mk (below_step HB.out hb); clear HB; have HB := HBn; clear HBn; clear hm hb hsb) | ((with_reducible refine gate_dst (N := 5) rfl ?_); refine Mine.alloc_store ?hg (N := 5) ?hd (zs := [.map none]) [.map (some sb)] (t := 72) ?hr ?hg2 ?hn2 rfl ?hr2 ?_; (case hd => rfl); (case hg => rfl); (case hg2 => rfl); (case hn2 => rfl); (case hr => first | (go_simp; done) | (go_simp; rfl)); (case hr2 => simp only [Mine.putAll]; first | (go_simp; done) | (go_simp; rfl)); intro g2 hg W3 hbox hb; have B2 := Aside0.mk hbox; have B1n := Aside0.mk (blk_below B1.out hb); have HMn := Aside0.mk (HM.out.below hb); clear B1 HM; have B1 := B1n; have HM := HMn; clear B1n HMn; have HBn := Aside0.mk (below_step HB.out hb); clear HB; have HB := HBn; clear HBn; clear hg hbox hb) | ((with_reducible refine gate_dst (N := 6) rfl ?_); refine box_event ?hg (N := 6) ?hd (cs := #[.nilFunc]) (t := 40) ?hr ?_; (case hd => rfl); (case hg => rfl); (case hr => first | (go_simp; done) | (go_simp; rfl)); intro g3 hg W4 hbox hb; have B3 := Aside0.mk hbox; have G3 := Aside0.mk (by rw [hg]; exact HB.out.size : w.heap.size ≤ g3); have N1 := Aside0.mk (by rw [hg]; exact Nat.ne_of_lt (blk_lt B1.out) : g1 ≠ g3); have N2 := Aside0.mk (by rw [hg]; exact Nat.ne_of_lt (blk_lt B2.out) : g2 ≠ g3); have NS := Aside0.mk (by rw [hg]; exact Nat.ne_of_lt HM.out.lt : sb ≠ g3); have B1n := Aside0.mk (blk_below B1.out hb); have B2n := Aside0.mk (blk_below B2.out hb); have HMn := Aside0.mk (HM.out.below hb); clear B1 B2 HM; have B1 := B1n; have B2 := B2n; have HM := HMn; clear B1n B2n HMn; have HBn := Aside0.mk (below_step HB.out hb); clear HB; have HB := HBn; clear HBn; clear hg hbox hb; have z3 := (blk_cell B3.out 0).trans rfl; have z4 := blk_frozen B3.out 0))
  go_upto_region 4 with (fail)
  have HF4 := Aside0.mk (blk_set B3.out 0 (.func (.func 57) #[] #[.pointer (some ⟨g1, 0, none⟩), .pointer (some ⟨g2, 0, none⟩), .pointer (some ⟨g3, 0, none⟩)]))
  have HC4 := Aside0.mk (Chg.setCell W4 g3 0 (.func (.func 57) #[] #[.pointer (some ⟨g1, 0, none⟩), .pointer (some ⟨g2, 0, none⟩), .pointer (some ⟨g3, 0, none⟩)]))
  have HB4 := Aside0.mk ((Chg.ofBelow (F := fun k => k = g3) HB.out).trans HC4.out (fun k _ e => e) |>.below (Nat.le_refl _) (fun k e => by rw [e]; exact G3.out))
  generalize W4.setCell ⟨g3, 0, none⟩ (.func (.func 57) #[] #[.pointer (some ⟨g1, 0, none⟩), .pointer (some ⟨g2, 0, none⟩), .pointer (some ⟨g3, 0, none⟩)]) = W5 at HF4 HC4 HB4 ⊢
  have HLK := Aside0.mk (show Look W5 lb mb mn last Q g1 g2 g3 sb 0 [] from ⟨HL.out.below HB4.out, fun hm => absurd (HL.out.lt _ hm) (Nat.not_lt.2 GS.out), (HC4.out.block _ (blk_lt B1.out) N1.out).trans B1.out, (HC4.out.block _ (blk_lt B2.out) N2.out).trans B2.out, by simpa using HF4.out, (HM.out.at (HC4.out.block _ HM.out.lt NS.out)).congr (fun kl => (setI_nil kl).symm), Nat.le_refl _, List.nodup_nil, (fun x hx => by cases hx)⟩)
  have y3 := (blk_cell HLK.out.c3 0).trans rfl
  clear z3 z4
  go_wp2_with (first | (go_at_call 57; (with_reducible refine (look_calls lb mb mn last Q g1 g2 g3 sb HMN.out HQ.out (unseen Q []) 0 [] id _ (Nat.le_refl _) HI.out HLK.out).mono ?_); rintro e W7 ⟨rfl, m7, S7, hS7, hm7, hn7, hs7, hdfs, hc7⟩; have HL7 := Aside0.mk (HLK.out.chg hc7 hS7 hm7 hn7 hs7); have HD7 := Aside0.mk hdfs; have HC7 := Aside0.mk hc7; clear hS7 hm7 hn7 hs7 hdfs hc7 y3; have y2 := (blk_cell HL7.out.c2 0).trans rfl))
  go_ret
  exact ⟨sb, m7, S7, rfl, HL7.out.hS, HL7.out.hm, HL7.out.nd, HL7.out.sub, fun x => HD7.out.all x, (Chg.ofBelow (F := fun k => k = sb) HB4.out).trans HC7.out (fun k _ e => e) |>.below (Nat.le_refl _) (fun k e => by rw [e]; exact GS.out), GS.out⟩
end Go.Proofs.Ytimlfdfmgajbnaa.PA
/-
lock.Round: the works of a round of waiting.
-/
namespace Go.Proofs.Ytimlfdfmgajbnaa.PA
open Go.RowKit Go.Proofs.YtimlfdfmgajbnaaW.PrintWords Go.Proofs.YtimlfdfmgajbnaaW.PrintLast Go.Proofs.YtimlfdfmgajbnaaW.PrintMore
open Go.Proofs.Ytimlfdfmgajbnaa.Mp
set_option linter.unusedVariables false
set_option linter.unusedSimpArgs false
theorem keysI_of {w : World} {b n : Nat} {D : DataW Value} (hown : w.ownsMap Try.prog 2 rawR b n D) {Q : List PW} (hf : ∀ kl, at_ D kl = worksF Q kl) : (intKeys D).Nodup ∧ ∀ x, x ∈ intKeys D ↔ x ∈ idsOf Q := by
  obtain ⟨es, hD, hk⟩ := hown.keysOf
  obtain ⟨es2, hD2, ht⟩ := hown.tidy keyed2
  have e2 : es2 = es := by rw [hD] at hD2; injection hD2 with h; exact h.symm
  subst e2
  have hint : ∀ p ∈ es2, p.1 = .int .i64 (Go.intOf p.1) ∧ (Lit.int .i64 (Go.intOf p.1)).wf = true := fun p hp => by
    obtain ⟨v, hv⟩ := hk p hp
    obtain ⟨x, _, e, hw⟩ := Go.Maps.keyOf_int_inv Try.underlying2 hv
    rw [e]; exact ⟨rfl, hw⟩
  subst hD
  constructor
  · show (es2.map fun p => Go.intOf p.1).Nodup
    unfold List.Nodup
    rw [List.pairwise_map]
    refine (List.Pairwise.and_mem.1 ht).imp ?_
    rintro p q ⟨hp, hq, hne⟩ e
    exact hne (by rw [(hint p hp).1, (hint q hq).1, e])
  · intro x
    have h1 := has_at hown keyed2 (.int .i64 x)
    rw [hf] at h1
    have h2 : Go.Maps.has (.map es2 : DataW Value) (.int .i64 x) = true ↔ x ∈ intKeys (.map es2 : DataW Value) := by
      show (es2.any fun p => p.1.sameKey (.int .i64 x)) = true ↔ x ∈ es2.map fun p => Go.intOf p.1
      rw [List.any_eq_true, List.mem_map]
      constructor
      · rintro ⟨p, hp, h⟩; exact ⟨p, hp, by have := WideAt.sameKey_eq h; rw [this]; rfl⟩
      · rintro ⟨p, hp, rfl⟩; exact ⟨p, hp, by rw [← (hint p hp).1]; exact WideAt.sameKey_self (by obtain ⟨v, hv⟩ := hk p hp; exact keyed2.key hv)⟩
    rw [← h2, h1]
    constructor
    · intro h
      obtain ⟨v, hv⟩ := Option.isSome_iff_exists.1 h
      obtain ⟨q, hq, e, _⟩ := worksF_some hv
      injection e with _ e
      exact List.mem_map.2 ⟨q, hq, e.symm⟩
    · intro h
      obtain ⟨q, hq, e⟩ := List.mem_map.1 h
      cases hc : worksF Q (.int .i64 x) with
      | some v => rfl
      | none =>
        rw [worksF_at] at hc
        have := List.find?_eq_none.1 (Option.map_eq_none_iff.1 hc) q hq
        simp at this
        exact absurd e this
theorem sortI_lt {l : List Int} (h : l.Nodup) : (sortI l).Pairwise (fun x y => x < y) := by
  have s1 : (sortI l).Pairwise (fun x y => leI x y = true) := List.pairwise_mergeSort (fun a b c => by simp only [leI, decide_eq_true_eq]; omega) (fun a b => by simp only [leI, Bool.or_eq_true, decide_eq_true_eq]; omega) l
  have s2 : (sortI l).Nodup := (List.mergeSort_perm l leI).nodup_iff.2 h
  refine (List.Pairwise.and s1 s2).imp ?_
  rintro a b ⟨h1, h2⟩
  simp only [leI, decide_eq_true_eq] at h1
  omega
theorem sorted_ids {Q : List PW} {D : DataW Value} {ss : List Int} (hp : ss.Perm (intKeys D)) (hn : (intKeys D).Nodup) (hm : ∀ x, x ∈ intKeys D ↔ x ∈ idsOf Q) : (ss.mergeSort (fun x y => decide (x ≤ y))).Pairwise (fun x y => x < y) ∧ ∀ x, x ∈ ss.mergeSort (fun x y => decide (x ≤ y)) ↔ x ∈ idsOf Q :=
  ⟨sortI_lt (hp.nodup_iff.2 hn), fun x => by rw [List.mem_mergeSort, hp.mem_iff, hm]⟩
/-- These are the works of the first round. -/
def RoundIs (Q : List PW) (out : List Int) : Prop := (out = [] ∧ ∀ a ∈ idsOf Q, ¬ Reach Q a a) ∨ ∃ a ∈ idsOf Q, Reach Q a a ∧ (∀ b ∈ idsOf Q, b < a → ¬ Reach Q b b) ∧ out.Pairwise (fun x y => x < y) ∧ ∀ x, x ∈ out ↔ Reach Q a x ∧ Reach Q x a
def RoundPost (Q : List PW) (w : World) (e : Ending) (w' : World) : Prop := ∃ v out, e = .returned v ∧ Kd.R (Kd.int .i64) 2 w' w.heap.size (fun _ => True) v out ∧ RoundIs Q out ∧ Below w.heap.size w w'
set_option maxHeartbeats 16000000 in
set_option maxRecDepth 100000 in
theorem round_calls (lb mb mn : Nat) (last : Int) (Q : List PW) (w : World) (h : LockAt w lb mb mn last Q) (hmn : mn ≤ 1000000) (hq : Q.length ≤ 1000000) : Calls Try.prog 17 #[.pointer (some ⟨lb, 0, none⟩)] w (RoundPost Q w) := by
  obtain ⟨D, hD, hat⟩ := h.m
  obtain ⟨k1, k2⟩ := keysI_of hD hat
  have hc := (l_cells h).1
  have hsz : Go.Maps.size D ≤ 1000000 := Nat.le_trans hD.size_le hmn
  have HS := Aside0.mk (sortedI_calls mb mn D w hD (by unfold maxLen; omega) (by omega))
  have HP := Aside0.mk (fun (ss : List Int) (hp : ss.Perm (intKeys D)) => sorted_ids (Q := Q) hp k1 k2)
  have HL := Aside0.mk h; have HQ := Aside0.mk hq; have HMN := Aside0.mk hmn
  clear h hq hmn hD hat k1 k2 hsz
  go_enter Try.func17, Try.ntmps17
  go_wp2_with (first | (go_at_call 31; (with_reducible refine (made_yes lb mb mn last Q _ HL.out).mono ?_); rintro e w' ⟨rfl, rfl⟩) | (go_at_call 38; (with_reducible refine (keysI_calls (some mb) _).mono ?_); rintro e w' ⟨rfl, rfl⟩) | (go_at_call 37; (with_reducible refine HS.out.mono ?_); rintro e w1 ⟨v, ss, rfl, hp, hrow, _, hb⟩; obtain ⟨ks, hks⟩ : ∃ ks, ks = ss.mergeSort (fun x y => decide (x ≤ y)) := ⟨_, rfl⟩; have HKS := Aside0.mk (by rw [hks]; exact HP.out ss hp : ks.Pairwise (fun x y => x < y) ∧ ∀ x, x ∈ ks ↔ x ∈ idsOf Q); have hkl : ss.length = ks.length := (by rw [hks, List.length_mergeSort]); rw [← hks, hkl] at hrow; have hR : Kd.R (Kd.int .i64) 2 w1 (w.alloc (.cells #[.map (some mb)] 36)).heap.size (fun _ => True) v ks := Kd.R_of_own hrow (fun _ _ => trivial); obtain ⟨Av, cv, ev⟩ := Kd.R_slice hR; subst ev; have HRD := Aside0.mk (Kd.R_reads' hR).2.2; have HB := Aside0.mk (below_step (below_alloc (Below.refl _ w) _) hb); clear hR hb hrow hks hkl hp hc))
  have hkq : ks.length ≤ 1000000 := by have h1 := nodup_len (HKS.out.1.imp (fun {a b} (h : a < b) => Int.ne_of_lt h)) (fun x hx => (HKS.out.2 x).1 hx); have h2 := HQ.out; unfold idsOf at h1; rw [List.length_map] at h1; omega
  go_loopw [4, 5, 18] (fun v4 v5 v18 wr => ∃ i : Nat, i ≤ ks.length ∧ v18 = .int .i64 i ∧ Aside0 (∀ x ∈ ks.take i, ¬ Reach Q x x) ∧ Aside0 (Kd.C (Kd.int .i64) wr Av ks.length ks) ∧ Aside0 (Below w.heap.size w wr)) (fun _ _ v18 _ => ks.length - (intOf v18).toNat)
  case atStart => exact ⟨0, Nat.zero_le _, rfl, ⟨fun x h => by simp at h⟩, ⟨HRD.out⟩, ⟨HB.out⟩⟩
  case round =>
    clear HRD HB
    obtain ⟨i, hi, rfl, HNO, HRD, HB⟩ := hrel
    by_cases hlt : i < ks.length
    · have hd1 : decide ((i : Int) < (ks.length : Int)) = true := decide_eq_true (by omega)
      have hd2 : decide (0 ≤ (i : Int)) = true := decide_eq_true (by omega)
      obtain ⟨ad, e0, hx⟩ := Kd.at_int HRD.out (i : Int) (by omega) (by omega)
      cases e0
      obtain ⟨a, ha⟩ : ∃ a, a = ks[i] := ⟨_, rfl⟩
      have ea : rd ks (i : Int) = a := by rw [ha]; simp [rd, hlt]
      rw [ea, Int.toNat_natCast] at hx
      have HA := Aside0.mk (show a ∈ idsOf Q from (HKS.out.2 a).1 (by rw [ha]; exact List.getElem_mem _))
      have HAW := Aside0.mk (show (Lit.int .i64 a).wf = true by obtain ⟨q, hq, e⟩ := List.mem_map.1 HA.out; rw [← e]; exact HL.out.wf q hq)
      have HTE := Aside0.mk (show ks.take (i + 1) = ks.take i ++ [a] by rw [List.take_succ_eq_append_getElem hlt, ha])
      have HMIN := Aside0.mk (show ∀ b ∈ idsOf Q, b < a → ¬ Reach Q b b from fun b hb hlt2 => HNO.out b (by
        obtain ⟨j, hj, e⟩ := List.getElem_of_mem ((HKS.out.2 b).2 hb)
        have hji : j < i := by
          rcases Nat.lt_trichotomy j i with h | h | h
          · exact h
          · subst h; rw [e] at ha; omega
          · have := (List.pairwise_iff_getElem.1 HKS.out.1) i j hlt hj h; rw [e, ← ha] at this; omega
        rw [← e]; exact List.mem_take_iff_getElem.2 ⟨j, by omega, rfl⟩))
      clear ea ha
      by_cases hr : Reach Q a a
      · have HRR := Aside0.mk hr
        clear hr
        go_wp2_with (first | (go_at_call 39; (with_reducible refine (beyond_calls lb mb mn last Q a _ (HL.out.below HB.out) HAW.out HMN.out HQ.out).mono ?_); rintro e W1 ⟨sb1, m1, S1, rfl, hS, hm, hnd, hsub, hall, hb, hge⟩; have HGE := Aside0.mk (Nat.le_trans (below_size HB.out) hge : w.heap.size ≤ sb1); have HRDn := Aside0.mk (Kd.C_below HRD.out hb); clear HRD; have HRD := HRDn; clear HRDn; have HBn := Aside0.mk (below_step HB.out hb); clear HB; have HB := HBn; clear HBn; have HS1 := Aside0.mk hS; have HM1 := Aside0.mk hm; have HN1 := Aside0.mk hnd; have HSB1 := Aside0.mk hsub; have HAL1 := Aside0.mk hall; clear hS hm hnd hsub hall hb hge; have HH1 := Aside0.mk (decide_eq_true ((HAL1.out a).2 HRR.out)).symm; clear hx) | (go_at_call 40; (with_reducible refine (has64_calls sb1 m1 S1 a true _ HS1.out HAW.out HH1.out).mono ?_); rintro e w' ⟨rfl, rfl⟩) | (at_range; refine range_event HS1.out rfl _ rfl keyed2 Try.underlying72 rfl ?_; intro ri hri W4 cnt hrg hcnt hg; have GR := Aside0.mk (by rw [hri]; exact below_size HB.out : w.heap.size ≤ ri); have HCN := Aside0.mk hcnt; have HRG := Aside0.mk hrg; have HBn := Aside0.mk (HB.out.grown hg (below_size HB.out) (fun k hk => by cases hk)); clear HB HS1 hri hrg hcnt hg; have HB := HBn; clear HBn))
        go_frame
        obtain ⟨sb, hsb⟩ : ∃ sb, sb = sb1 := ⟨_, rfl⟩; obtain ⟨wo, hwo⟩ : ∃ wo : World, wo = wr := ⟨_, rfl⟩
        subst hsb
        clear hwo
        have HRG2 := HRG; have HB2 := HB; clear HRG HB HRD
        go_loopw [6, 7] (fun v6 v7 wq => ∃ left cnt out, Aside0 (Ranges Try.prog 2 wq sb ri m1 (setI S1) left cnt) ∧ Aside0 (Kd.R (Kd.int .i64) 2 wq w.heap.size (fun k => w.heap.size ≤ k ∧ k ≠ ri ∧ k ≠ sb) v6 out) ∧ Aside0 (∀ x, x ∈ out ↔ x ∈ S1 ∧ left (.int .i64 x) = false ∧ Reach Q x a) ∧ Aside0 out.Nodup ∧ Aside0 (out.length + cnt ≤ m1) ∧ Aside0 (Below w.heap.size w wq)) (fun _ _ wq => wq.rangeLeft sb ri)
        case atStart => exact ⟨_, cnt, [], ⟨HRG2.out⟩, ⟨Kd.R_nil _ _ _ _ _⟩, ⟨fun x => ⟨(fun h => by cases h), fun h => by have h2 := h.2.1; rw [setI_at, if_pos h.1] at h2; cases h2⟩⟩, ⟨List.nodup_nil⟩, ⟨by rw [List.length_nil, Nat.zero_add]; exact HCN.out⟩, ⟨HB2.out⟩⟩
        case round =>
          clear HRG2 HB2
          obtain ⟨left, cnt, out, HRG, HN, HOUT, HND, HLE, HB⟩ := hrel
          have HMS := Aside0.mk (HRG.out.left_eq)
          have HML := Aside0.mk (show m1 ≤ 1000000 by have h1 := HM1.out; have h2 := nodup_len HN1.out HSB1.out; unfold idsOf at h2; rw [List.length_map] at h2; have := HQ.out; omega)
          go_wp2_with (first | (at_next; refine next_event (Value.int .i64) (fun key kl hk => by obtain ⟨x, hx, _⟩ := Maps.keyOf_int_inv Try.underlying2 hk; exact ⟨x, hx⟩) HRG.out rfl _ rfl keyed2 rfl ?_ ?_))
          · intro hl0
            have HZ := Aside0.mk (show ∀ x, x ∈ out ↔ Reach Q a x ∧ Reach Q x a from fun x => by rw [HOUT.out x, HAL1.out x, hl0]; simp)
            clear hl0
            have HLN := Aside0.mk (show out.length < 4611686018427387904 by have := HLE.out; have := HML.out; omega)
            go_wp2_with (first | (go_at_call 41; (with_reducible refine (sortInts_calls out u6 _ _ _ HN.out HLN.out).mono ?_); rintro e W3 ⟨rfl, hR, hg⟩; have HR := Aside0.mk (Kd.R_mono (ok' := fun _ => True) hR (fun _ _ => trivial)); have HBn := Aside0.mk (HB.out.grown hg (below_size HB.out) (fun k hk => Kd.R_base HN.out k hk)); clear HB hR hg; have HB := HBn; clear HBn))
            go_ret
            exact ⟨_, sortI out, rfl, HR.out, .inr ⟨a, HA.out, HRR.out, HMIN.out, sortI_lt HND.out, fun x => by rw [mem_sortI]; exact HZ.out x⟩, HB.out⟩
          · intro x v kl W2 cnt2 hkey hlk hf hrg hlt3 hg hen
            obtain ⟨x', ex, rfl, hwx⟩ := Maps.keyOf_int_inv Try.underlying2 hkey
            cases ex
            obtain ⟨y, hy, ekl, rfl⟩ := setI_some hf
            obtain rfl : x = y := by injection ekl
            have HY := Aside0.mk hy; have HLT := Aside0.mk hlt3; have HLK := Aside0.mk hlk; have HXW := Aside0.mk hwx
            have HNn := Aside0.mk (Kd.R_grown HN.out hg (fun k hk he => hk.2.1 (by cases he; rfl)))
            have HBn := Aside0.mk (HB.out.grown hg (below_size HB.out) (fun k hk => by cases hk; exact GR.out))
            clear HN HB HRG
            have HN := HNn; have HB := HBn; have HRG := Aside0.mk hrg
            clear HNn HBn hrg hg hf hkey hlt3 ekl hwx hlk hy
            by_cases hrx : Reach Q x a
            · have HRX := Aside0.mk hrx
              have hmem : ∀ n, n ∈ out ++ [x] ↔ n ∈ S1 ∧ (left (.int .i64 n) && !(Lit.int .i64 n).sameKey (.int .i64 x)) = false ∧ Reach Q n a := fun n => by
                rw [List.mem_append, List.mem_singleton, HOUT.out n]
                constructor
                · rintro (⟨h1, h2, h3⟩ | h1)
                  · exact ⟨h1, by rw [h2]; rfl, h3⟩
                  · rw [h1]; exact ⟨HY.out, by simp [Lit.sameKey], hrx⟩
                · rintro ⟨h1, h2, h3⟩
                  cases h4 : left (.int .i64 n) with
                  | false => exact .inl ⟨h1, rfl, h3⟩
                  | true =>
                    rw [h4] at h2
                    exact .inr (by simpa [Lit.sameKey] using h2)
              have hnd : (out ++ [x]).Nodup := by
                refine List.nodup_append.2 ⟨HND.out, by simp, fun p hp q hq => ?_⟩
                rw [List.mem_singleton] at hq
                rintro rfl
                rw [hq] at hp
                have h2 := ((HOUT.out _).1 hp).2.1
                rw [HLK.out] at h2; cases h2
              have HMEM := Aside0.mk hmem; have HND2 := Aside0.mk hnd; clear hmem hnd hrx
              go_wp2_with (first | (go_at_call 39; (with_reducible refine (beyond_calls lb mb mn last Q x _ (HL.out.below HB.out) HXW.out HMN.out HQ.out).mono ?_); rintro e W2 ⟨sb2, m2, S2, rfl, hS, hm, hnd, hsub, hall, hb, hge⟩; have HNn := Aside0.mk (Kd.R_below HN.out hb); have HRGn := Aside0.mk (HRG.out.below hb); clear HN HRG; have HN := HNn; have HRG := HRGn; clear HNn HRGn; have HBn := Aside0.mk (below_step HB.out hb); clear HB; have HB := HBn; clear HBn; have HS2 := Aside0.mk hS; have HM2 := Aside0.mk hm; have HN2 := Aside0.mk hnd; have HSB2 := Aside0.mk hsub; have HAL2 := Aside0.mk hall; clear hS hm hnd hsub hall hb hge; have HH2 := Aside0.mk (decide_eq_true ((HAL2.out a).2 HRX.out)).symm) | (go_at_call 40; (with_reducible refine (has64_calls sb2 m2 S2 a true _ HS2.out HAW.out HH2.out).mono ?_); rintro e w' ⟨rfl, rfl⟩) | ((with_reducible refine gate_builtin (b := .append) (xs := #[.tmp 40, .tmp 42]) rfl ?_); at_builtin; refine Kd.R_append (Kd.int .i64) (w0 := w) w.heap.size rfl (.tmp 40) (.tmp 42) 43 2 (.int .i64 0) 8 rfl Try.underlying43 info2 rfl (by decide) (by omega) u6 out x [.int .i64 x] (fun k => w.heap.size ≤ k ∧ k ≠ ri ∧ k ≠ sb) (fun k => (fun k => w.heap.size ≤ k ∧ k ≠ ri ∧ k ≠ sb) k ∧ some k ≠ (u6 : Value).ownBlock) rfl rfl ?aP (fun _ hk => hk) ?aF ?aO ?aB ?aS ?aL ?_; (case aP => rfl); (case aB => exact HB.out); (case aF => exact fun k hk => ⟨Nat.le_trans (below_size HB.out) hk, fun he => by have := HRG.out.lt; omega, fun he => by have := HRG.out.is.lt; omega⟩); (case aO => exact HN.out); (case aS => exact below_size HB.out); (case aL => have := HLE.out; have := HML.out; omega); intro v1 W5 ho hb hg hat; have HRGn := Aside0.mk (HRG.out.kept hg (Kd.R_away HN.out (fun k hk => hk.2.2)) (Kd.R_away HN.out (fun k hk => hk.2.1))); clear HRG HN HB; have HRG := HRGn; have HN := Aside0.mk ho; have HB := Aside0.mk hb; clear ho hb hg hat HRGn))
              go_roundw
              case rel => exact ⟨_, cnt2, _, ⟨HRG.out⟩, ⟨HN.out⟩, ⟨HMEM.out⟩, ⟨HND2.out⟩, ⟨by rw [List.length_append, List.length_singleton]; have := HLE.out; have := HLT.out; omega⟩, ⟨HB.out⟩⟩
              case measure => rw [HRG.out.left_eq, HMS.out]; exact HLT.out
            · have HRX := Aside0.mk hrx
              have hmem : ∀ n, n ∈ out ↔ n ∈ S1 ∧ (left (.int .i64 n) && !(Lit.int .i64 n).sameKey (.int .i64 x)) = false ∧ Reach Q n a := fun n => by
                rw [HOUT.out n]
                constructor
                · rintro ⟨h1, h2, h3⟩; exact ⟨h1, by rw [h2]; rfl, h3⟩
                · rintro ⟨h1, h2, h3⟩
                  refine ⟨h1, ?_, h3⟩
                  cases h4 : left (.int .i64 n) with
                  | false => rfl
                  | true =>
                    rw [h4] at h2
                    have h5 : n = x := by simpa [Lit.sameKey] using h2
                    rw [h5] at h3; exact absurd h3 hrx
              have HMEM := Aside0.mk hmem; clear hmem hrx
              go_wp2_with (first | (go_at_call 39; (with_reducible refine (beyond_calls lb mb mn last Q x _ (HL.out.below HB.out) HXW.out HMN.out HQ.out).mono ?_); rintro e W2 ⟨sb2, m2, S2, rfl, hS, hm, hnd, hsub, hall, hb, hge⟩; have HNn := Aside0.mk (Kd.R_below HN.out hb); have HRGn := Aside0.mk (HRG.out.below hb); clear HN HRG; have HN := HNn; have HRG := HRGn; clear HNn HRGn; have HBn := Aside0.mk (below_step HB.out hb); clear HB; have HB := HBn; clear HBn; have HS2 := Aside0.mk hS; have HM2 := Aside0.mk hm; have HN2 := Aside0.mk hnd; have HSB2 := Aside0.mk hsub; have HAL2 := Aside0.mk hall; clear hS hm hnd hsub hall hb hge; have HH2 := Aside0.mk (decide_eq_false (fun h => HRX.out ((HAL2.out a).1 h))).symm) | (go_at_call 40; (with_reducible refine (has64_calls sb2 m2 S2 a false _ HS2.out HAW.out HH2.out).mono ?_); rintro e w' ⟨rfl, rfl⟩))
              go_roundw
              case rel => exact ⟨_, cnt2, out, ⟨HRG.out⟩, ⟨HN.out⟩, ⟨HMEM.out⟩, ⟨HND.out⟩, ⟨by have := HLE.out; have := HLT.out; omega⟩, ⟨HB.out⟩⟩
              case measure => rw [HRG.out.left_eq, HMS.out]; exact HLT.out
      · have HRR := Aside0.mk hr
        clear hr
        have HN2 := Aside0.mk (show ∀ x ∈ ks.take (i + 1), ¬ Reach Q x x from fun x hx => by rw [HTE.out] at hx; rcases List.mem_append.1 hx with h | h; exact HNO.out x h; rw [List.mem_singleton.1 h]; exact HRR.out)
        go_wp2_with (first | (go_at_call 39; (with_reducible refine (beyond_calls lb mb mn last Q a _ (HL.out.below HB.out) HAW.out HMN.out HQ.out).mono ?_); rintro e W1 ⟨sb1, m1, S1, rfl, hS, hm, hnd, hsub, hall, hb, hge⟩; have HGE := Aside0.mk (Nat.le_trans (below_size HB.out) hge : w.heap.size ≤ sb1); have HRDn := Aside0.mk (Kd.C_below HRD.out hb); clear HRD; have HRD := HRDn; clear HRDn; have HBn := Aside0.mk (below_step HB.out hb); clear HB; have HB := HBn; clear HBn; have HS1 := Aside0.mk hS; have HM1 := Aside0.mk hm; have HN1 := Aside0.mk hnd; have HSB1 := Aside0.mk hsub; have HAL1 := Aside0.mk hall; clear hS hm hnd hsub hall hb hge; have HH1 := Aside0.mk (decide_eq_false (fun h => HRR.out ((HAL1.out a).1 h))).symm; clear hx) | (go_at_call 40; (with_reducible refine (has64_calls sb1 m1 S1 a false _ HS1.out HAW.out HH1.out).mono ?_); rintro e w' ⟨rfl, rfl⟩))
        go_roundw
        case rel => exact ⟨i + 1, by omega, by first | rfl | (rw [wrapI (by omega) (by omega)]; rfl), ⟨HN2.out⟩, ⟨HRD.out⟩, ⟨HB.out⟩⟩
        case measure => simp [intOf, wrapI]; omega
    · have hie : i = ks.length := by omega
      subst hie
      rw [List.take_length] at HNO
      have hd1 : decide ((ks.length : Int) < (ks.length : Int)) = false := decide_eq_false (by omega)
      clear hlt hi
      go_wp2
      go_ret
      exact ⟨_, [], rfl, Kd.R_nil _ _ _ _ _, .inl ⟨rfl, fun a ha => HNO.out a ((HKS.out.2 a).2 ha)⟩, HB.out⟩
end Go.Proofs.Ytimlfdfmgajbnaa.PA
/-
Locks told as data alone: what each call answers and leaves.
-/
namespace Go.Proofs.Ytimlfdfmgajbnaa.PA
open Go.RowKit Go.Proofs.YtimlfdfmgajbnaaW.PrintWords Go.Proofs.YtimlfdfmgajbnaaW.PrintLast Go.Proofs.YtimlfdfmgajbnaaW.PrintMore
open Go.Proofs.Ytimlfdfmgajbnaa.Mp
set_option linter.unusedVariables false
set_option linter.unusedSimpArgs false
/-! ### what is told -/
def waitsL (L : List S79) (id : Int) : List Int := match L.find? (fun x => decide (x.f0 = id)) with
  | none => []
  | some x => if x.f3 = 0 then [] else sortI (keptL L id x.f2 x.f3)
def holdsL (L : List S79) (id : Int) : List ByteArray := match L.find? (fun x => decide (x.f0 = id)) with
  | none => []
  | some x => x.f1
def freeL (L : List S79) (id : Int) : List S79 := L.filter (fun x => decide (x.f0 ≠ id))
inductive ReachL (L : List S79) : Int → Int → Prop
  | one {a b : Int} : b ∈ waitsL L a → ReachL L a b
  | step {a b c : Int} : b ∈ waitsL L a → ReachL L b c → ReachL L a c
def RoundL (L : List S79) (out : List Int) : Prop := (out = [] ∧ ∀ a ∈ L.map (fun x => x.f0), ¬ ReachL L a a) ∨ ∃ a ∈ L.map (fun x => x.f0), ReachL L a a ∧ (∀ b ∈ L.map (fun x => x.f0), b < a → ¬ ReachL L b b) ∧ out.Pairwise (fun x y => x < y) ∧ ∀ x, x ∈ out ↔ ReachL L a x ∧ ReachL L x a
theorem waits_dat {w : World} {lb mb mn : Nat} {last : Int} {Q : List PW} (h : LockAt w lb mb mn last Q) (id : Int) : waitsQ Q id = waitsL (datQ Q) id := by
  unfold waitsQ waitsL
  rw [find_dat]
  cases hf : Q.find? (fun q => decide (q.2.f0 = id)) with
  | none => rfl
  | some q =>
    have hq := List.mem_of_find?_eq_some hf
    have hi : q.2.f0 = id := by simpa using List.find?_some hf
    simp only [Option.map_some]
    rw [kept_dat h hq, hi]
theorem holds_dat (Q : List PW) (id : Int) : holdsQ Q id = holdsL (datQ Q) id := by
  unfold holdsQ holdsL
  rw [find_dat]
  cases Q.find? (fun q => decide (q.2.f0 = id)) <;> rfl
theorem free_dat (Q : List PW) (id : Int) : datQ (freeQ Q id) = freeL (datQ Q) id := by
  unfold datQ freeQ freeL
  rw [List.filter_map]
  rfl
theorem reach_dat {w : World} {lb mb mn : Nat} {last : Int} {Q : List PW} (h : LockAt w lb mb mn last Q) (a b : Int) : Reach Q a b ↔ ReachL (datQ Q) a b := by
  constructor
  · intro hr
    induction hr with
    | one h1 => exact .one (by rw [← waits_dat h]; exact h1)
    | step h1 _ ih => exact .step (by rw [← waits_dat h]; exact h1) ih
  · intro hr
    induction hr with
    | one h1 => exact .one (by rw [waits_dat h]; exact h1)
    | step h1 _ ih => exact .step (by rw [waits_dat h]; exact h1) ih
theorem round_dat {w : World} {lb mb mn : Nat} {last : Int} {Q : List PW} (h : LockAt w lb mb mn last Q) {out : List Int} (hr : RoundIs Q out) : RoundL (datQ Q) out := by
  unfold RoundIs at hr
  unfold RoundL
  rw [ids_dat]
  simp only [reach_dat h] at hr
  exact hr
/-! ### rising texts -/
theorem less_trans {a b c : List UInt8} (h : Op.bytesLess a b = true) (k : Op.bytesLess b c = true) : Op.bytesLess a c = true := by
  rw [bytesLess_eq] at *
  exact decide_eq_true (List.lt_trans (of_decide_eq_true h) (of_decide_eq_true k))
theorem less_total {a b : List UInt8} (h : ¬ Op.bytesLess a b = true) (hne : a ≠ b) : Op.bytesLess b a = true := by
  rw [bytesLess_eq] at *
  have h1 : ¬ a < b := fun e => h (decide_eq_true e)
  refine decide_eq_true ?_
  rcases List.le_iff_lt_or_eq.1 (List.not_lt.1 h1) with e | e
  · exact e
  · exact absurd e.symm hne
theorem sorted_putS : ∀ {l : List ByteArray} (s : ByteArray), SortedS l → SortedS (putS l s)
  | [], s, _ => List.pairwise_singleton _ _
  | x :: l, s, h => by
    obtain ⟨p, q⟩ := List.pairwise_cons.1 h
    unfold putS
    split
    · rename_i hx
      refine List.pairwise_cons.2 ⟨fun y hy => ?_, sorted_putS s q⟩
      rcases mem_putS.1 hy with e | hy
      · rw [e, ByteArray.toList_eq, ByteArray.toList_eq]; exact hx
      · exact p y hy
    · rename_i hx
      split
      · exact h
      · rename_i hne
        have hs : Op.bytesLess s.toList x.toList = true := by rw [ByteArray.toList_eq, ByteArray.toList_eq]; exact less_total hx hne
        refine List.pairwise_cons.2 ⟨fun y hy => ?_, h⟩
        rcases List.mem_cons.1 hy with e | hy
        · rw [e]; exact hs
        · exact less_trans hs (p y hy)
theorem sorted_joinS : ∀ {W H : List ByteArray}, SortedS H → SortedS (joinS H W)
  | [], H, h => h
  | y :: W, H, h => by
    show SortedS (joinS (putS H y) W)
    exact sorted_joinS (sorted_putS y h)
/-! ### states that may be -/
/-- Turns are told, what is held rises. -/
structure OkL (L : List S79) (last : Int) (B : Nat) : Prop where
  h0 : 0 ≤ last
  h1 : last ≤ B
  t : ∀ x ∈ L, 0 ≤ x.f3 ∧ x.f3 ≤ last
  s : ∀ x ∈ L, SortedS x.f1
theorem mem_setL {L : List S79} {x y : S79} (h : y ∈ setL L x) : y = x ∨ y ∈ L := by
  obtain ⟨z, hz, rfl⟩ := List.mem_map.1 h
  split
  · exact .inl rfl
  · exact .inr hz
theorem mem_withL {L : List S79} {id : Int} {y : S79} (h : y ∈ withL L id) : y ∈ L ∨ y = newW id := by
  unfold withL at h
  split at h
  · exact .inl h
  · rcases List.mem_append.1 h with h | h
    · exact .inl h
    · exact .inr (List.mem_singleton.1 h)
theorem getL_cases (L : List S79) (id : Int) : getL L id ∈ L ∨ getL L id = newW id := by
  unfold getL
  cases h : L.find? (fun x => decide (x.f0 = id)) with
  | none => exact .inr rfl
  | some x => exact .inl (List.mem_of_find?_eq_some h)
theorem ask_ok {L : List S79} {last : Int} {B : Nat} (h : OkL L last B) (id : Int) (ns : List ByteArray) : OkL (askL L last id ns).1 (askL L last id ns).2.1 (B + 1 + ns.length) := by
  have hq : (0 ≤ (getL L id).f3 ∧ (getL L id).f3 ≤ last) ∧ SortedS (getL L id).f1 := by
    rcases getL_cases L id with hm | e
    · exact ⟨h.t _ hm, h.s _ hm⟩
    · rw [e]; exact ⟨⟨Int.le_refl _, h.h0⟩, List.Pairwise.nil⟩
  have hw : ∀ x ∈ withL L id, (0 ≤ x.f3 ∧ x.f3 ≤ last) ∧ SortedS x.f1 := fun x hx => by
    rcases mem_withL hx with hm | e
    · exact ⟨h.t _ hm, h.s _ hm⟩
    · rw [e]; exact ⟨⟨Int.le_refl _, h.h0⟩, List.Pairwise.nil⟩
  have ht : 0 ≤ turnS last (getL L id) ∧ turnS last (getL L id) ≤ last + 1 := by unfold turnS; split <;> omega
  have h0 := h.h0
  have h1 := h.h1
  by_cases hk : keptL (withL L id) id (wantsS (getL L id).f1 (getL L id).f2 ns) (turnS last (getL L id)) = []
  · rw [askL_yes L last id ns rfl rfl hk]
    refine ⟨h0, by show last ≤ _; omega, fun x hx => ?_, fun x hx => ?_⟩ <;> rcases mem_setL hx with rfl | hm
    · exact ⟨Int.le_refl _, h0⟩
    · exact (hw x hm).1
    · exact sorted_joinS hq.2
    · exact (hw x hm).2
  · rw [askL_no L last id ns rfl rfl hk]
    have hm : last ≤ mxI last (turnS last (getL L id)) ∧ turnS last (getL L id) ≤ mxI last (turnS last (getL L id)) ∧ mxI last (turnS last (getL L id)) ≤ last + 1 := by unfold mxI; split <;> omega
    refine ⟨by show 0 ≤ mxI _ _; omega, by show mxI _ _ ≤ _; omega, fun x hx => ?_, fun x hx => ?_⟩ <;> rcases mem_setL hx with rfl | hm2
    · exact ⟨ht.1, hm.2.1⟩
    · exact ⟨(hw x hm2).1.1, Int.le_trans (hw x hm2).1.2 hm.1⟩
    · exact hq.2
    · exact (hw x hm2).2
theorem free_ok {L : List S79} {last : Int} {B : Nat} (h : OkL L last B) (id : Int) : OkL (freeL L id) last B := ⟨h.h0, h.h1, fun x hx => h.t x (List.mem_filter.1 hx).1, fun x hx => h.s x (List.mem_filter.1 hx).1⟩
/-- Locks in memory that are these; F: where they lie. -/
structure LockSt (w : World) (lb : Nat) (F : List Nat) (last : Int) (L : List S79) (B : Nat) : Prop where
  at_ : ∃ mb mn Q, LockAt w lb mb mn last Q ∧ datQ Q = L ∧ mn ≤ B ∧ (∀ x ∈ Q, x.1.nh + x.1.nw ≤ B) ∧ Q.length ≤ B ∧ F = footOf lb mb Q
  ok : OkL L last B
theorem LockSt.lt {w : World} {lb : Nat} {F : List Nat} {last : Int} {L : List S79} {B : Nat} (h : LockSt w lb F last L B) : ∀ k ∈ F, k < w.heap.size := by
  obtain ⟨mb, mn, Q, hL, _, _, _, _, rfl⟩ := h.at_
  exact hL.lt
theorem LockSt.chg {G : Nat → Prop} {w w' : World} {lb : Nat} {F : List Nat} {last : Int} {L : List S79} {B : Nat} (h : LockSt w lb F last L B) (hc : Chg G w w') (hg : ∀ k ∈ F, ¬ G k) : LockSt w' lb F last L B := by
  have hlt := h.lt
  obtain ⟨mb, mn, Q, hL, h1, h2, h3, h4, rfl⟩ := h.at_
  exact ⟨⟨mb, mn, Q, hL.at (fun k hk => hc.block k (hlt k hk) (hg k hk)), h1, h2, h3, h4, rfl⟩, h.ok⟩
theorem LockSt.below {w w' : World} {lb : Nat} {F : List Nat} {last : Int} {L : List S79} {B : Nat} (h : LockSt w lb F last L B) (hb : Below w.heap.size w w') : LockSt w' lb F last L B := h.chg (Chg.ofBelow (F := fun _ => False) hb) (fun _ _ q => q)
theorem st_new (w : World) : Calls Try.prog 10 #[] w fun e w' => ∃ lb F, e = .returned (.pointer (some ⟨lb, 0, none⟩)) ∧ LockSt w' lb F 0 [] 0 ∧ Below w.heap.size w w' ∧ ∀ k ∈ F, w.heap.size ≤ k :=
  (new_calls w).mono fun e w' ⟨lb, mb, he, hL, hb, h1, h2⟩ => ⟨lb, footOf lb mb [], he, ⟨⟨mb, 0, [], hL, rfl, Nat.le_refl _, (fun x hx => by cases hx), Nat.le_refl _, rfl⟩, ⟨Int.le_refl _, Int.le_refl _, (fun x hx => by cases hx), (fun x hx => by cases hx)⟩⟩, hb, fun k hk => by
    simp only [footOf, List.flatMap_nil, List.mem_cons, List.not_mem_nil, or_false] at hk
    rcases hk with rfl | rfl
    · exact h1
    · exact h2⟩
theorem st_free {lb : Nat} {F : List Nat} {last : Int} {L : List S79} {B : Nat} {w : World} (id : Int) (h : LockSt w lb F last L B) (hid : (Lit.int .i64 id).wf = true) : Calls Try.prog 13 #[.pointer (some ⟨lb, 0, none⟩), .int .i64 id] w fun e w' => e = .returned (.tuple #[]) ∧ ∃ F', LockSt w' lb F' last (freeL L id) B ∧ (∀ k ∈ F', k ∈ F) ∧ Chg (fun k => k ∈ F) w w' := by
  have hok := h.ok
  obtain ⟨mb, mn, Q, hL, h1, h2, h3, h4, rfl⟩ := h.at_
  refine (free_calls lb mb mn last Q id w hL hid).mono fun e w' ⟨he, hL', hg⟩ => ⟨he, footOf lb mb (freeQ Q id), ⟨⟨mb, mn, freeQ Q id, hL', by rw [free_dat, h1], h2, fun x hx => h3 x (List.mem_filter.1 hx).1, Nat.le_trans (List.length_filter_le _ _) h4, rfl⟩, free_ok hok id⟩, fun k hk => ?_, Chg.ofGrown hg (fun k e => by injection e with e; rw [e]; simp [footOf])⟩
  unfold footOf at hk ⊢
  simp only [List.mem_cons] at hk ⊢
  rcases hk with e | e | e
  · exact .inl e
  · exact .inr (.inl e)
  · exact .inr (.inr ((sub_flatMap (List.filter_sublist) _).subset e))
theorem askL_len (L : List S79) (last id : Int) (ns : List ByteArray) : (askL L last id ns).1.length ≤ L.length + 1 := by
  unfold askL
  simp only
  have h : (withL L id).length ≤ L.length + 1 := by unfold withL; split <;> simp
  split <;> simpa [setL] using h
theorem st_ask0 {lb : Nat} {F : List Nat} {last : Int} {L : List S79} {B : Nat} {w : World} (id : Int) (A0 : Option Addr) (c0 : Nat) (ns : List ByteArray) (h : LockSt w lb F last L B) (hid : (Lit.int .i64 id).wf = true) (hbn : B + ns.length ≤ 100000)
    (hr : Kd.C Kd.string w A0 ns.length ns) (hc0 : ns.length ≤ c0) (hsz : ∀ s ∈ ns, s.size ≤ 9223372036854775807) (hfar : 0 < ns.length → ∀ ad, A0 = some ad → ad.block ∉ F) :
    Calls Try.prog 14 #[.pointer (some ⟨lb, 0, none⟩), .int .i64 id, .slice A0 ns.length c0] w fun e w' => e = .returned (.bool (askL L last id ns).2.2) ∧ ∃ F', LockSt w' lb F' (askL L last id ns).2.1 (askL L last id ns).1 (B + 1 + ns.length) ∧ (∀ k ∈ F', k ∈ F ∨ w.heap.size ≤ k) ∧ Chg (fun k => k ∈ F) w w' := by
  have hok := h.ok
  obtain ⟨mb, mn, Q, hL, h1, h2, h3, h4, rfl⟩ := h.at_
  have hl := hok.h0
  have hl2 := hok.h1
  subst h1
  refine (ask_calls lb mb mn last Q id A0 c0 ns B w hL hid h2 h3 hbn ⟨hl, by omega⟩ hr hc0 hsz hfar).mono fun e w' ⟨mn', Q', he, hL', hd, hm, hb, hc, hf⟩ => ⟨he, footOf lb mb Q', ⟨⟨mb, mn', Q', hL', hd, hm, hb, ?_, rfl⟩, ask_ok hok id ns⟩, hf, hc⟩
  have e1 := askL_len (datQ Q) last id ns
  rw [← hd] at e1
  unfold datQ at e1
  rw [List.length_map, List.length_map] at e1
  omega
theorem st_ask {lb : Nat} {F : List Nat} {last : Int} {L : List S79} {B : Nat} {w : World} (id : Int) (A0 : Option Addr) (c0 : Nat) (ns : List ByteArray) (h : LockSt w lb F last L B) (hid : (Lit.int .i64 id).wf = true) (hbn : B + ns.length ≤ 100000)
    (hr : Kd.C Kd.string w A0 ns.length ns) (hc0 : ns.length ≤ c0) (hsz : ∀ s ∈ ns, s.size ≤ 9223372036854775807) (hfar : ∀ ad, A0 = some ad → ad.block ∉ F) :
    Calls Try.prog 14 #[.pointer (some ⟨lb, 0, none⟩), .int .i64 id, .slice A0 ns.length c0] w fun e w' => e = .returned (.bool (askL L last id ns).2.2) ∧ ∃ F', LockSt w' lb F' (askL L last id ns).2.1 (askL L last id ns).1 (B + 1 + ns.length) ∧ (∀ k ∈ F', k ∈ F ∨ w.heap.size ≤ k) ∧ Chg (fun k => k ∈ F) w w' := st_ask0 id A0 c0 ns h hid hbn hr hc0 hsz (fun _ => hfar)
theorem st_waits {lb : Nat} {F : List Nat} {last : Int} {L : List S79} {B : Nat} {w : World} (id : Int) (h : LockSt w lb F last L B) (hid : (Lit.int .i64 id).wf = true) (hB : B ≤ 1000000) :
    Calls Try.prog 16 #[.pointer (some ⟨lb, 0, none⟩), .int .i64 id] w fun e w' => ∃ v, e = .returned v ∧ Kd.R (Kd.int .i64) 2 w' w.heap.size (fun _ => True) v (waitsL L id) ∧ Below w.heap.size w w' := by
  obtain ⟨mb, mn, Q, hL, h1, h2, h3, h4, rfl⟩ := h.at_
  rw [← h1, ← waits_dat hL]
  exact waits_calls lb mb mn last Q id w hL hid (by omega)
theorem st_holds {lb : Nat} {F : List Nat} {last : Int} {L : List S79} {B : Nat} {w : World} (id : Int) (h : LockSt w lb F last L B) (hid : (Lit.int .i64 id).wf = true) (hB : B ≤ 1000000) :
    Calls Try.prog 15 #[.pointer (some ⟨lb, 0, none⟩), .int .i64 id] w fun e w' => ∃ v, e = .returned v ∧ Kd.R Kd.string 9 w' w.heap.size (fun _ => True) v (holdsL L id) ∧ Below w.heap.size w w' := by
  have hok := h.ok
  obtain ⟨mb, mn, Q, hL, h1, h2, h3, h4, rfl⟩ := h.at_
  subst h1
  rw [← holds_dat]
  exact holds_calls lb mb mn last Q id w hL hid (fun q hq => hok.s q.2 (List.mem_map.2 ⟨q, hq, rfl⟩)) (fun q hq => by have := h3 q hq; omega)
theorem st_round {lb : Nat} {F : List Nat} {last : Int} {L : List S79} {B : Nat} {w : World} (h : LockSt w lb F last L B) (hB : B ≤ 1000000) :
    Calls Try.prog 17 #[.pointer (some ⟨lb, 0, none⟩)] w fun e w' => ∃ v out, e = .returned v ∧ Kd.R (Kd.int .i64) 2 w' w.heap.size (fun _ => True) v out ∧ RoundL L out ∧ Below w.heap.size w w' := by
  obtain ⟨mb, mn, Q, hL, h1, h2, h3, h4, rfl⟩ := h.at_
  subst h1
  exact (round_calls lb mb mn last Q w hL (by omega) (by omega)).mono fun e w' ⟨v, out, he, hR, hr, hb⟩ => ⟨v, out, he, hR, round_dat hL hr, hb⟩
end Go.Proofs.Ytimlfdfmgajbnaa.PA
/-
The chapter's examples: what each step comes to.
-/
namespace Go.Proofs.Ytimlfdfmgajbnaa.PA
open Go.RowKit Go.Proofs.YtimlfdfmgajbnaaW.PrintWords Go.Proofs.YtimlfdfmgajbnaaW.PrintLast Go.Proofs.YtimlfdfmgajbnaaW.PrintMore
open Go.Proofs.Ytimlfdfmgajbnaa.Mp
set_option linter.unusedVariables false
set_option linter.unusedSimpArgs false
abbrev tA : ByteArray := ⟨#[65]⟩
abbrev tB : ByteArray := ⟨#[66]⟩
def l1 : List S79 := [⟨1, [tA], [], 0⟩]
def l2 : List S79 := [⟨1, [tA], [], 0⟩, ⟨2, [], [tA, tB], 1⟩]
def l3 : List S79 := [⟨1, [tA], [], 0⟩, ⟨2, [], [tA, tB], 1⟩, ⟨3, [], [tB], 2⟩]
def l4 : List S79 := [⟨2, [], [tA, tB], 1⟩, ⟨3, [], [tB], 2⟩]
def l6 : List S79 := [⟨2, [tA, tB], [], 0⟩, ⟨3, [], [tB], 2⟩]
def m2 : List S79 := [⟨1, [tA], [], 0⟩, ⟨2, [tB], [], 0⟩]
def m3 : List S79 := [⟨1, [tA], [tB], 1⟩, ⟨2, [tB], [], 0⟩]
def m4 : List S79 := [⟨1, [tA], [tB], 1⟩, ⟨2, [tB], [tA], 2⟩]
def m5 : List S79 := [⟨1, [tA], [tB], 1⟩, ⟨2, [tB], [tA], 2⟩, ⟨4, [], [star], 3⟩]
theorem a1 : askL [] 0 1 [tA] = (l1, 0, true) := by kernel_rfl
theorem a2 : askL l1 0 2 [tA, tB] = (l2, 1, false) := by kernel_rfl
theorem a3 : askL l2 1 3 [tB] = (l3, 2, false) := by kernel_rfl
theorem a4 : freeL l3 1 = l4 := by kernel_rfl
theorem a5 : askL l4 2 3 [tB] = (l4, 2, false) := by kernel_rfl
theorem a6 : askL l4 2 2 [] = (l6, 2, true) := by kernel_rfl
theorem b2 : askL l1 0 2 [tB] = (m2, 0, true) := by kernel_rfl
theorem b3 : askL m2 0 1 [tB] = (m3, 1, false) := by kernel_rfl
theorem b4 : askL m3 1 2 [tA] = (m4, 2, false) := by kernel_rfl
theorem b5 : askL m4 2 4 [star] = (m5, 3, false) := by kernel_rfl
theorem hold6 : holdsL l6 2 = [tA, tB] := by kernel_rfl
theorem wait3 : waitsL l3 3 = [2] := by
  have : waitsL l3 3 = sortI [2] := by kernel_rfl
  rw [this]; unfold sortI; simp
theorem sort12 : sortI [1, 2] = [1, 2] := List.mergeSort_of_pairwise (by decide)
theorem wait5 : waitsL m5 4 = [1, 2] := by
  have : waitsL m5 4 = sortI [1, 2] := by kernel_rfl
  rw [this, sort12]
theorem wm1 : waitsL m4 1 = [2] := by
  have : waitsL m4 1 = sortI [2] := by kernel_rfl
  rw [this]; unfold sortI; simp
theorem wm2 : waitsL m4 2 = [1] := by
  have : waitsL m4 2 = sortI [1] := by kernel_rfl
  rw [this]; unfold sortI; simp
theorem reach4 {a b : Int} (h : ReachL m4 a b) : (a = 1 ∨ a = 2) → (b = 1 ∨ b = 2) := by
  induction h with
  | one h =>
    rintro (rfl | rfl)
    · rw [wm1] at h; exact .inr (by simpa using h)
    · rw [wm2] at h; exact .inl (by simpa using h)
  | step h _ ih =>
    rintro (rfl | rfl)
    · rw [wm1] at h; exact ih (.inr (by simpa using h))
    · rw [wm2] at h; exact ih (.inl (by simpa using h))
theorem r12 : ReachL m4 1 2 := .one (by rw [wm1]; simp)
theorem r21 : ReachL m4 2 1 := .one (by rw [wm2]; simp)
theorem r11 : ReachL m4 1 1 := .step (b := 2) (by rw [wm1]; simp) r21
theorem round4 {out : List Int} (h : RoundL m4 out) : out = [1, 2] := by
  rcases h with ⟨_, hn⟩ | ⟨a, ha, hr, hmin, hs, hm⟩
  · exact absurd r11 (hn 1 (by simp [m4]))
  · have ha1 : a = 1 := by
      simp only [m4, List.map_cons, List.map_nil, List.mem_cons, List.not_mem_nil, or_false] at ha
      rcases ha with e | e
      · exact e
      · exact absurd r11 (hmin 1 (by simp [m4]) (by omega))
    subst ha1
    have hmem : ∀ x, x ∈ out ↔ x ∈ [1, 2] := fun x => by
      rw [hm]
      simp only [List.mem_cons, List.not_mem_nil, or_false]
      constructor
      · rintro ⟨h, _⟩; exact reach4 h (.inl rfl)
      · rintro (rfl | rfl)
        · exact ⟨r11, r11⟩
        · exact ⟨r12, r21⟩
    have hp : out.Perm [1, 2] := nodup_perm (hs.imp (fun h => Int.ne_of_lt h)) (by decide) hmem
    exact hp.eq_of_pairwise (le := fun x y => x < y) (fun a b _ _ h1 h2 => by omega) hs (by decide)
/-- Texts that a literal lays. -/
theorem lit_C (W : World) (xs : List ByteArray) (hm : xs.length ≤ 100) (hp : 0 < xs.length) : Kd.C Kd.string (W.alloc (.cells (xs.map Value.string).toArray 9 (0, 0))) (some ⟨W.heap.size, 0, none⟩) xs.length xs := by
  have h := World.ownsRow_lit (base := W.heap.size) (e := 9) (size := 1) W (xs.map Value.string).toArray xs.length (Nat.le_refl _) (by unfold maxLen; omega) (by simp)
  have hr : Kd.R Kd.string 9 (W.alloc (.cells (xs.map Value.string).toArray 9 (0, 0))) W.heap.size (fun _ => True) (.slice (some ⟨W.heap.size, 0, none⟩) xs.length xs.length) xs := Kd.R_of_own (by simpa [encs] using h) (fun _ _ => trivial)
  exact (Kd.R_reads' hr).2.2
theorem litI_C (W : World) (xs : List Int) (hm : xs.length ≤ 100) (hp : 0 < xs.length) : Kd.C (Kd.int .i64) (W.alloc (.cells (xs.map (Value.int .i64)).toArray 2 (0, 0))) (some ⟨W.heap.size, 0, none⟩) xs.length xs := by
  have h := World.ownsRow_lit (base := W.heap.size) (e := 2) (size := 1) W (xs.map (Value.int .i64)).toArray xs.length (Nat.le_refl _) (by unfold maxLen; omega) (by simp)
  have hr : Kd.R (Kd.int .i64) 2 (W.alloc (.cells (xs.map (Value.int .i64)).toArray 2 (0, 0))) W.heap.size (fun _ => True) (.slice (some ⟨W.heap.size, 0, none⟩) xs.length xs.length) xs := Kd.R_of_own (by simpa [encs] using h) (fun _ _ => trivial)
  exact (Kd.R_reads' hr).2.2
end Go.Proofs.Ytimlfdfmgajbnaa.PA
/-
Rows that are the same are told to be.
-/
namespace Go.Proofs.Ytimlfdfmgajbnaa.PA
open Go.RowKit Go.Proofs.YtimlfdfmgajbnaaW.PrintWords Go.Proofs.YtimlfdfmgajbnaaW.PrintLast Go.Proofs.YtimlfdfmgajbnaaW.PrintMore
set_option linter.unusedVariables false
set_option linter.unusedSimpArgs false
theorem sameTexts_l0 (l : List ByteArray) (hl : l.length ≤ 1000000) : ∀ n i, i + n = l.length → ∀ k, n < k → storemankit_SameTexts.l0 k l l (i : Int) = some true := by
  intro n
  induction n with
  | zero =>
    intro i hi k hk
    obtain ⟨k, rfl⟩ : ∃ j, k = j + 1 := ⟨k - 1, by omega⟩
    simp only [storemankit_SameTexts.l0]
    rw [if_neg (by omega)]
  | succ n ih =>
    intro i hi k hk
    obtain ⟨k, rfl⟩ : ∃ j, k = j + 1 := ⟨k - 1, by omega⟩
    simp only [storemankit_SameTexts.l0]
    rw [if_pos (by omega), if_pos (by omega), if_pos (by omega)]
    simp only [if_true]
    rw [wrapI (by omega) (by omega)]
    exact ih (i + 1) (by omega) k (by omega)
theorem sameTexts_ev (l : List ByteArray) (hl : l.length ≤ 1000000) : storemankit_SameTexts.f (l.length + 1) l l = some true := by
  unfold storemankit_SameTexts.f
  rw [if_pos rfl]
  exact sameTexts_l0 l hl l.length 0 (by omega) _ (by omega)
theorem sameLongs_l0 (l : List Int) (hl : l.length ≤ 1000000) : ∀ n i, i + n = l.length → ∀ k, n < k → storemankit_SameLongs.l0 k l l (i : Int) = some true := by
  intro n
  induction n with
  | zero =>
    intro i hi k hk
    obtain ⟨k, rfl⟩ : ∃ j, k = j + 1 := ⟨k - 1, by omega⟩
    simp only [storemankit_SameLongs.l0]
    rw [if_neg (by omega)]
  | succ n ih =>
    intro i hi k hk
    obtain ⟨k, rfl⟩ : ∃ j, k = j + 1 := ⟨k - 1, by omega⟩
    simp only [storemankit_SameLongs.l0]
    rw [if_pos (by omega), if_pos (by omega), if_pos (by omega)]
    simp only [if_true]
    rw [wrapI (by omega) (by omega)]
    exact ih (i + 1) (by omega) k (by omega)
theorem sameLongs_ev (l : List Int) (hl : l.length ≤ 1000000) : storemankit_SameLongs.f (l.length + 1) l l = some true := by
  unfold storemankit_SameLongs.f
  rw [if_pos rfl]
  exact sameLongs_l0 l hl l.length 0 (by omega) _ (by omega)
end Go.Proofs.Ytimlfdfmgajbnaa.PA
/-
The chapter's examples hold: storemanlaw24.awake.
-/
namespace Go.Proofs.Ytimlfdfmgajbnaa.PA
open Go.RowKit Go.Proofs.YtimlfdfmgajbnaaW.PrintWords Go.Proofs.YtimlfdfmgajbnaaW.PrintLast Go.Proofs.YtimlfdfmgajbnaaW.PrintMore
set_option linter.unusedVariables false
set_option linter.unusedSimpArgs false
theorem eq_nil25 (W : World) (p : Option Addr) : (binOp .eql 25 (.pointer p) (.pointer none)).run Try.prog W = .ok (.bool p.isNone) W := run_eql_pointer_nil W 25 p (by kernel_rfl)
theorem szs {ns : List ByteArray} (h : ns.all (fun s => decide (s.size ≤ 10)) = true) : ∀ s ∈ ns, s.size ≤ 9223372036854775807 := fun s hs => by
  have := of_decide_eq_true (List.all_eq_true.1 h s hs)
  omega
/-- Locks of the call's own. -/
structure S1 (w W : World) (lb : Nat) (last : Int) (L : List S79) (B : Nat) (F : List Nat) : Prop where
  st : LockSt W lb F last L B
  hb : Below w.heap.size w W
  hf : ∀ k ∈ F, w.heap.size ≤ k
theorem S1.below {w W W' : World} {lb : Nat} {last : Int} {L : List S79} {B : Nat} {F : List Nat} (h : S1 w W lb last L B F) (hb : Below W.heap.size W W') : S1 w W' lb last L B F := ⟨h.st.below hb, below_step h.hb hb, h.hf⟩
theorem S1.next {w W Wa Wn : World} {lb : Nat} {last last' : Int} {L L' : List S79} {B B' : Nat} {F F' : List Nat} (h : S1 w W lb last L B F) (hb : Below W.heap.size W Wa) (hL : LockSt Wn lb F' last' L' B') (hF : ∀ k ∈ F', k ∈ F ∨ Wa.heap.size ≤ k) (hc : Chg (fun k => k ∈ F) Wa Wn) : S1 w Wn lb last' L' B' F' :=
  ⟨hL, (below_step h.hb hb).trans (hc.below (below_size (below_step h.hb hb)) h.hf), fun k hk => (hF k hk).elim (h.hf k) (Nat.le_trans (below_size (below_step h.hb hb)))⟩
/-- Two locks of the call's own, apart. -/
structure S2 (w W : World) (lb : Nat) (last : Int) (L : List S79) (B : Nat) (F : List Nat) (lb2 : Nat) (last2 : Int) (L2 : List S79) (B2 : Nat) (F2 : List Nat) : Prop where
  st : LockSt W lb F last L B
  hb : Below w.heap.size w W
  hf : ∀ k ∈ F, w.heap.size ≤ k
  st2 : LockSt W lb2 F2 last2 L2 B2
  hf2 : ∀ k ∈ F2, w.heap.size ≤ k
  ap : ∀ k ∈ F, k ∉ F2
theorem S2.swap {w W : World} {lb : Nat} {last : Int} {L : List S79} {B : Nat} {F : List Nat} {lb2 : Nat} {last2 : Int} {L2 : List S79} {B2 : Nat} {F2 : List Nat} (h : S2 w W lb last L B F lb2 last2 L2 B2 F2) : S2 w W lb2 last2 L2 B2 F2 lb last L B F := ⟨h.st2, h.hb, h.hf2, h.st, h.hf, fun k h1 h2 => h.ap k h2 h1⟩
theorem S1.more {w W Wn : World} {lb lb2 : Nat} {last last2 : Int} {L L2 : List S79} {B B2 : Nat} {F F2 : List Nat} (h : S1 w W lb last L B F) (hL : LockSt Wn lb2 F2 last2 L2 B2) (hb : Below W.heap.size W Wn) (hF : ∀ k ∈ F2, W.heap.size ≤ k) : S2 w Wn lb2 last2 L2 B2 F2 lb last L B F :=
  ⟨hL, below_step h.hb hb, fun k hk => Nat.le_trans (below_size h.hb) (hF k hk), h.st.below hb, h.hf, fun k h1 h2 => absurd (h.st.lt k h2) (Nat.not_lt.2 (hF k h1))⟩
theorem S2.below {w W W' : World} {lb : Nat} {last : Int} {L : List S79} {B : Nat} {F : List Nat} {lb2 : Nat} {last2 : Int} {L2 : List S79} {B2 : Nat} {F2 : List Nat} (h : S2 w W lb last L B F lb2 last2 L2 B2 F2) (hb : Below W.heap.size W W') : S2 w W' lb last L B F lb2 last2 L2 B2 F2 := ⟨h.st.below hb, below_step h.hb hb, h.hf, h.st2.below hb, h.hf2, h.ap⟩
theorem S2.next {w W Wa Wn : World} {lb : Nat} {last last' : Int} {L L' : List S79} {B B' : Nat} {F F' : List Nat} {lb2 : Nat} {last2 : Int} {L2 : List S79} {B2 : Nat} {F2 : List Nat} (h : S2 w W lb last L B F lb2 last2 L2 B2 F2) (hb : Below W.heap.size W Wa) (hL : LockSt Wn lb F' last' L' B') (hF : ∀ k ∈ F', k ∈ F ∨ Wa.heap.size ≤ k) (hc : Chg (fun k => k ∈ F) Wa Wn) : S2 w Wn lb last' L' B' F' lb2 last2 L2 B2 F2 :=
  ⟨hL, (below_step h.hb hb).trans (hc.below (below_size (below_step h.hb hb)) h.hf), fun k hk => (hF k hk).elim (h.hf k) (Nat.le_trans (below_size (below_step h.hb hb))), (h.st2.below hb).chg hc (fun k h2 h1 => h.ap k h1 h2), h.hf2, fun k h1 h2 => (hF k h1).elim (fun h3 => h.ap k h3 h2) (fun h3 => absurd ((h.st2.below hb).lt k h2) (Nat.not_lt.2 h3))⟩
set_option maxHeartbeats 16000000 in
set_option maxRecDepth 100000 in
theorem awake_calls (w : World) : Calls Try.prog 9 #[] w fun e w' => e = .returned (.bool true) ∧ Below w.heap.size w w' := by
  have HB0 := Aside0.mk (Below.refl w.heap.size w)
  go_enter Try.func9, Try.ntmps9
  go_wp2_with (first | (go_at_call 10; (with_reducible refine (st_new _).mono ?_); rintro e W0 ⟨lb, F0, rfl, hL, hb, hF⟩; have HS0 := Aside0.mk (show S1 w W0 lb 0 [] 0 F0 from ⟨hL, by have := HB0.out; exact hb, hF⟩); have hq := eq_nil25 W0 (some ⟨lb, 0, none⟩); clear HB0 hL hb hF) | (go_at_call 14; have hC : Kd.C Kd.string (W0.alloc (.cells #[.string ⟨#[65]⟩] 9 (0, 0))) (some ⟨W0.heap.size, 0, none⟩) 1 [tA] := lit_C W0 [tA] (by decide) (by decide); have hb0 := below_alloc (Below.refl W0.heap.size W0) (.cells #[.string ⟨#[65]⟩] 9 (0, 0)); have hp := st_ask 1 (some ⟨W0.heap.size, 0, none⟩) 1 [tA] (HS0.out.st.below hb0) rfl (by decide) hC (Nat.le_refl _) (szs rfl) (fun ad e h => by cases e; exact absurd (HS0.out.st.lt _ h) (Nat.lt_irrefl _)); rw [a1] at hp; simp only [List.length_cons, List.length_nil, Nat.reduceAdd, Nat.zero_add, Nat.add_zero] at hp; (with_reducible refine hp.mono ?_); rintro e W1 ⟨rfl, F1, hL, hF, hc⟩; have HS1 := Aside0.mk (HS0.out.next hb0 hL hF hc); clear HS0 hp hL hF hc hb0 hC) | (go_at_call 14; have hC : Kd.C Kd.string (W1.alloc (.cells #[.string ⟨#[65]⟩, .string ⟨#[66]⟩] 9 (0, 0))) (some ⟨W1.heap.size, 0, none⟩) 2 [tA, tB] := lit_C W1 [tA, tB] (by decide) (by decide); have hb0 := below_alloc (Below.refl W1.heap.size W1) (.cells #[.string ⟨#[65]⟩, .string ⟨#[66]⟩] 9 (0, 0)); have hp := st_ask 2 (some ⟨W1.heap.size, 0, none⟩) 2 [tA, tB] (HS1.out.st.below hb0) rfl (by decide) hC (Nat.le_refl _) (szs rfl) (fun ad e h => by cases e; exact absurd (HS1.out.st.lt _ h) (Nat.lt_irrefl _)); rw [a2] at hp; simp only [List.length_cons, List.length_nil, Nat.reduceAdd, Nat.zero_add, Nat.add_zero] at hp; (with_reducible refine hp.mono ?_); rintro e W2 ⟨rfl, F2, hL, hF, hc⟩; have HS2 := Aside0.mk (HS1.out.next hb0 hL hF hc); clear HS1 hp hL hF hc hb0 hC) | (go_at_call 14; have hC : Kd.C Kd.string (W2.alloc (.cells #[.string ⟨#[66]⟩] 9 (0, 0))) (some ⟨W2.heap.size, 0, none⟩) 1 [tB] := lit_C W2 [tB] (by decide) (by decide); have hb0 := below_alloc (Below.refl W2.heap.size W2) (.cells #[.string ⟨#[66]⟩] 9 (0, 0)); have hp := st_ask 3 (some ⟨W2.heap.size, 0, none⟩) 1 [tB] (HS2.out.st.below hb0) rfl (by decide) hC (Nat.le_refl _) (szs rfl) (fun ad e h => by cases e; exact absurd (HS2.out.st.lt _ h) (Nat.lt_irrefl _)); rw [a3] at hp; simp only [List.length_cons, List.length_nil, Nat.reduceAdd, Nat.zero_add, Nat.add_zero] at hp; (with_reducible refine hp.mono ?_); rintro e W3 ⟨rfl, F3, hL, hF, hc⟩; have HS3 := Aside0.mk (HS2.out.next hb0 hL hF hc); clear HS2 hp hL hF hc hb0 hC) | (go_at_call 16; (with_reducible refine ((wait3 ▸ st_waits 3 HS3.out.st rfl (by decide))).mono ?_); rintro e W4 ⟨v, rfl, hR, hb⟩; obtain ⟨A1, c1, ev⟩ := Kd.R_slice hR; subst ev; have HV1 := Aside0.mk (Kd.R_reads' hR).2.2; have HC1 := Aside0.mk (Kd.R_reads' hR).2.1; clear hR; have HS4 := Aside0.mk (HS3.out.below hb); clear HS3 hb) | (go_at_call 22; have hC : Kd.C (Kd.int .i64) (W4.alloc (.cells #[.int .i64 2] 2 (0, 0))) (some ⟨W4.heap.size, 0, none⟩) 1 ([2] : List Int) := litI_C W4 [2] (by decide) (by decide); have hb0 := below_alloc (Below.refl W4.heap.size W4) (.cells #[.int .i64 2] 2 (0, 0)); have hp := storemankit_SameLongs.calls 2 A1 c1 ([2] : List Int) (some ⟨W4.heap.size, 0, none⟩) 1 ([2] : List Int) true _ (Kd.C_below HV1.out hb0) HC1.out hC (Nat.le_refl _) (sameLongs_ev [2] (by decide)); simp only [List.length_cons, List.length_nil, Nat.reduceAdd, Nat.zero_add, Nat.add_zero] at hp; (with_reducible refine hp.mono ?_); rintro e W5 ⟨rfl, hd⟩; have hb := hd.below; have HS5 := Aside0.mk ((HS4.out.below hb0).below hb); clear HS4 hp hd hb hb0 hC) | (go_at_call 13; have hp := st_free 1 HS5.out.st rfl; rw [a4] at hp; (with_reducible refine hp.mono ?_); rintro e W6 ⟨rfl, F6, hL, hF, hc⟩; have HS6 := Aside0.mk (HS5.out.next (Below.refl _ _) hL (fun k hk => .inl (hF k hk)) hc); clear HS5 hp hL hF hc) | (go_at_call 10; have h_ := HS6.out; (with_reducible refine (st_new _).mono ?_); rintro e W7 ⟨mb, FM, rfl, hL, hb, hF⟩; have HS7 := Aside0.mk (h_.more hL hb hF); clear HS6 h_ hL hb hF) | (go_at_call 14; have hC : Kd.C Kd.string (W7.alloc (.cells #[.string ⟨#[65]⟩] 9 (0, 0))) (some ⟨W7.heap.size, 0, none⟩) 1 [tA] := lit_C W7 [tA] (by decide) (by decide); have hb0 := below_alloc (Below.refl W7.heap.size W7) (.cells #[.string ⟨#[65]⟩] 9 (0, 0)); have hp := st_ask 1 (some ⟨W7.heap.size, 0, none⟩) 1 [tA] (HS7.out.st.below hb0) rfl (by decide) hC (Nat.le_refl _) (szs rfl) (fun ad e h => by cases e; exact absurd (HS7.out.st.lt _ h) (Nat.lt_irrefl _)); rw [a1] at hp; simp only [List.length_cons, List.length_nil, Nat.reduceAdd, Nat.zero_add, Nat.add_zero] at hp; (with_reducible refine hp.mono ?_); rintro e W8 ⟨rfl, F8, hL, hF, hc⟩; have HS8 := Aside0.mk (HS7.out.next hb0 hL hF hc); clear HS7 hp hL hF hc hb0 hC) | (go_at_call 14; have hC : Kd.C Kd.string (W8.alloc (.cells #[.string ⟨#[66]⟩] 9 (0, 0))) (some ⟨W8.heap.size, 0, none⟩) 1 [tB] := lit_C W8 [tB] (by decide) (by decide); have hb0 := below_alloc (Below.refl W8.heap.size W8) (.cells #[.string ⟨#[66]⟩] 9 (0, 0)); have hp := st_ask 2 (some ⟨W8.heap.size, 0, none⟩) 1 [tB] (HS8.out.st.below hb0) rfl (by decide) hC (Nat.le_refl _) (szs rfl) (fun ad e h => by cases e; exact absurd (HS8.out.st.lt _ h) (Nat.lt_irrefl _)); rw [b2] at hp; simp only [List.length_cons, List.length_nil, Nat.reduceAdd, Nat.zero_add, Nat.add_zero] at hp; (with_reducible refine hp.mono ?_); rintro e W9 ⟨rfl, F9, hL, hF, hc⟩; have HS9 := Aside0.mk (HS8.out.next hb0 hL hF hc); clear HS8 hp hL hF hc hb0 hC) | (go_at_call 14; have hC : Kd.C Kd.string (W9.alloc (.cells #[.string ⟨#[66]⟩] 9 (0, 0))) (some ⟨W9.heap.size, 0, none⟩) 1 [tB] := lit_C W9 [tB] (by decide) (by decide); have hb0 := below_alloc (Below.refl W9.heap.size W9) (.cells #[.string ⟨#[66]⟩] 9 (0, 0)); have hp := st_ask 1 (some ⟨W9.heap.size, 0, none⟩) 1 [tB] (HS9.out.st.below hb0) rfl (by decide) hC (Nat.le_refl _) (szs rfl) (fun ad e h => by cases e; exact absurd (HS9.out.st.lt _ h) (Nat.lt_irrefl _)); rw [b3] at hp; simp only [List.length_cons, List.length_nil, Nat.reduceAdd, Nat.zero_add, Nat.add_zero] at hp; (with_reducible refine hp.mono ?_); rintro e W10 ⟨rfl, F10, hL, hF, hc⟩; have HS10 := Aside0.mk (HS9.out.next hb0 hL hF hc); clear HS9 hp hL hF hc hb0 hC) | (go_at_call 14; have hC : Kd.C Kd.string (W10.alloc (.cells #[.string ⟨#[65]⟩] 9 (0, 0))) (some ⟨W10.heap.size, 0, none⟩) 1 [tA] := lit_C W10 [tA] (by decide) (by decide); have hb0 := below_alloc (Below.refl W10.heap.size W10) (.cells #[.string ⟨#[65]⟩] 9 (0, 0)); have hp := st_ask 2 (some ⟨W10.heap.size, 0, none⟩) 1 [tA] (HS10.out.st.below hb0) rfl (by decide) hC (Nat.le_refl _) (szs rfl) (fun ad e h => by cases e; exact absurd (HS10.out.st.lt _ h) (Nat.lt_irrefl _)); rw [b4] at hp; simp only [List.length_cons, List.length_nil, Nat.reduceAdd, Nat.zero_add, Nat.add_zero] at hp; (with_reducible refine hp.mono ?_); rintro e W11 ⟨rfl, F11, hL, hF, hc⟩; have HS11 := Aside0.mk (S2.swap (HS10.out.next hb0 hL hF hc)); clear HS10 hp hL hF hc hb0 hC) | (go_at_call 14; have hC : Kd.C Kd.string (W11.alloc (.cells #[.string ⟨#[66]⟩] 9 (0, 0))) (some ⟨W11.heap.size, 0, none⟩) 1 [tB] := lit_C W11 [tB] (by decide) (by decide); have hb0 := below_alloc (Below.refl W11.heap.size W11) (.cells #[.string ⟨#[66]⟩] 9 (0, 0)); have hp := st_ask 3 (some ⟨W11.heap.size, 0, none⟩) 1 [tB] (HS11.out.st.below hb0) rfl (by decide) hC (Nat.le_refl _) (szs rfl) (fun ad e h => by cases e; exact absurd (HS11.out.st.lt _ h) (Nat.lt_irrefl _)); rw [a5] at hp; simp only [List.length_cons, List.length_nil, Nat.reduceAdd, Nat.zero_add, Nat.add_zero] at hp; (with_reducible refine hp.mono ?_); rintro e W12 ⟨rfl, F12, hL, hF, hc⟩; have HS12 := Aside0.mk (HS11.out.next hb0 hL hF hc); clear HS11 hp hL hF hc hb0 hC) | (go_at_call 14; have hb0 := Below.refl W12.heap.size W12; have hp := st_ask 2 none 0 ([] : List ByteArray) (HS12.out.st.below hb0) rfl (by decide) (Kd.C_nil _ _) (Nat.le_refl _) (fun s hs => by cases hs) (fun ad e h => by cases e); rw [a6] at hp; simp only [List.length_cons, List.length_nil, Nat.reduceAdd, Nat.zero_add, Nat.add_zero] at hp; (with_reducible refine hp.mono ?_); rintro e W13 ⟨rfl, F13, hL, hF, hc⟩; have HS13 := Aside0.mk (HS12.out.next hb0 hL hF hc); clear HS12 hp hL hF hc hb0) | (go_at_call 15; (with_reducible refine ((hold6 ▸ st_holds 2 HS13.out.st rfl (by decide))).mono ?_); rintro e W14 ⟨v, rfl, hR, hb⟩; obtain ⟨A2, c2, ev⟩ := Kd.R_slice hR; subst ev; have HV2 := Aside0.mk (Kd.R_reads' hR).2.2; have HC2 := Aside0.mk (Kd.R_reads' hR).2.1; clear hR; have HS14 := Aside0.mk (HS13.out.below hb); clear HS13 hb) | (go_at_call 21; have hC : Kd.C Kd.string (W14.alloc (.cells #[.string ⟨#[65]⟩, .string ⟨#[66]⟩] 9 (0, 0))) (some ⟨W14.heap.size, 0, none⟩) 2 ([tA, tB] : List ByteArray) := lit_C W14 [tA, tB] (by decide) (by decide); have hb0 := below_alloc (Below.refl W14.heap.size W14) (.cells #[.string ⟨#[65]⟩, .string ⟨#[66]⟩] 9 (0, 0)); have hp := storemankit_SameTexts.calls 3 A2 c2 ([tA, tB] : List ByteArray) (some ⟨W14.heap.size, 0, none⟩) 2 ([tA, tB] : List ByteArray) true _ (Kd.C_below HV2.out hb0) HC2.out hC (Nat.le_refl _) (sameTexts_ev [tA, tB] (by decide)); simp only [List.length_cons, List.length_nil, Nat.reduceAdd, Nat.zero_add, Nat.add_zero] at hp; (with_reducible refine hp.mono ?_); rintro e W15 ⟨rfl, hd⟩; have hb := hd.below; have HS15 := Aside0.mk (S2.swap ((HS14.out.below hb0).below hb)); clear HS14 hp hd hb hb0 hC) | (go_at_call 17; (with_reducible refine (st_round HS15.out.st (by decide)).mono ?_); rintro e W16 ⟨v, out, rfl, hR, hro, hb⟩; obtain rfl := round4 hro; clear hro; obtain ⟨A3, c3, ev⟩ := Kd.R_slice hR; subst ev; have HV3 := Aside0.mk (Kd.R_reads' hR).2.2; have HC3 := Aside0.mk (Kd.R_reads' hR).2.1; clear hR; have HS16 := Aside0.mk (HS15.out.below hb); clear HS15 hb) | (go_at_call 22; have hC : Kd.C (Kd.int .i64) (W16.alloc (.cells #[.int .i64 1, .int .i64 2] 2 (0, 0))) (some ⟨W16.heap.size, 0, none⟩) 2 ([1, 2] : List Int) := litI_C W16 [1, 2] (by decide) (by decide); have hb0 := below_alloc (Below.refl W16.heap.size W16) (.cells #[.int .i64 1, .int .i64 2] 2 (0, 0)); have hp := storemankit_SameLongs.calls 3 A3 c3 ([1, 2] : List Int) (some ⟨W16.heap.size, 0, none⟩) 2 ([1, 2] : List Int) true _ (Kd.C_below HV3.out hb0) HC3.out hC (Nat.le_refl _) (sameLongs_ev [1, 2] (by decide)); simp only [List.length_cons, List.length_nil, Nat.reduceAdd, Nat.zero_add, Nat.add_zero] at hp; (with_reducible refine hp.mono ?_); rintro e W17 ⟨rfl, hd⟩; have hb := hd.below; have HS17 := Aside0.mk ((HS16.out.below hb0).below hb); clear HS16 hp hd hb hb0 hC) | (go_at_call 14; have hC : Kd.C Kd.string (W17.alloc (.cells #[.string ⟨#[42]⟩] 9 (0, 0))) (some ⟨W17.heap.size, 0, none⟩) 1 [star] := lit_C W17 [star] (by decide) (by decide); have hb0 := below_alloc (Below.refl W17.heap.size W17) (.cells #[.string ⟨#[42]⟩] 9 (0, 0)); have hp := st_ask 4 (some ⟨W17.heap.size, 0, none⟩) 1 [star] (HS17.out.st.below hb0) rfl (by decide) hC (Nat.le_refl _) (szs rfl) (fun ad e h => by cases e; exact absurd (HS17.out.st.lt _ h) (Nat.lt_irrefl _)); rw [b5] at hp; simp only [List.length_cons, List.length_nil, Nat.reduceAdd, Nat.zero_add, Nat.add_zero] at hp; (with_reducible refine hp.mono ?_); rintro e W18 ⟨rfl, F18, hL, hF, hc⟩; have HS18 := Aside0.mk (HS17.out.next hb0 hL hF hc); clear HS17 hp hL hF hc hb0 hC) | (go_at_call 16; (with_reducible refine ((wait5 ▸ st_waits 4 HS18.out.st rfl (by decide))).mono ?_); rintro e W19 ⟨v, rfl, hR, hb⟩; obtain ⟨A4, c4, ev⟩ := Kd.R_slice hR; subst ev; have HV4 := Aside0.mk (Kd.R_reads' hR).2.2; have HC4 := Aside0.mk (Kd.R_reads' hR).2.1; clear hR; have HS19 := Aside0.mk (HS18.out.below hb); clear HS18 hb) | (go_at_call 22; have hC : Kd.C (Kd.int .i64) (W19.alloc (.cells #[.int .i64 1, .int .i64 2] 2 (0, 0))) (some ⟨W19.heap.size, 0, none⟩) 2 ([1, 2] : List Int) := litI_C W19 [1, 2] (by decide) (by decide); have hb0 := below_alloc (Below.refl W19.heap.size W19) (.cells #[.int .i64 1, .int .i64 2] 2 (0, 0)); have hp := storemankit_SameLongs.calls 3 A4 c4 ([1, 2] : List Int) (some ⟨W19.heap.size, 0, none⟩) 2 ([1, 2] : List Int) true _ (Kd.C_below HV4.out hb0) HC4.out hC (Nat.le_refl _) (sameLongs_ev [1, 2] (by decide)); simp only [List.length_cons, List.length_nil, Nat.reduceAdd, Nat.zero_add, Nat.add_zero] at hp; (with_reducible refine hp.mono ?_); rintro e W20 ⟨rfl, hd⟩; have hb := hd.below; have HS20 := Aside0.mk ((HS19.out.below hb0).below hb); clear HS19 hp hd hb hb0 hC))
  go_ret
  exact ⟨rfl, HS20.out.hb⟩
end Go.Proofs.Ytimlfdfmgajbnaa.PA
/-
Plain laws for LockOne: what great and meets tell; nobody holds what another holds.
-/
namespace Go.Proofs.Ytimlfdfmgajbnaa.PA
open Go.RowKit Go.Proofs.YtimlfdfmgajbnaaW.PrintWords Go.Proofs.YtimlfdfmgajbnaaW.PrintLast Go.Proofs.YtimlfdfmgajbnaaW.PrintMore
set_option linter.unusedVariables false
set_option linter.unusedSimpArgs false
theorem rd34 (l : List S34) (i : Nat) (h : i < l.length) : rd_T34 l (i : Int) = l[i] := by simp [rd_T34, h]
theorem rdS (l : List ByteArray) (i : Nat) (h : i < l.length) : rdOf ByteArray.empty l (i : Int) = l[i] := by simp [rdOf, h]
def namesIn (l : List S34) : Nat := (l.map (fun x => x.f2.length)).sum
def shortL (l : List S34) : Prop := ∀ x ∈ l, ∀ s ∈ x.f2, s.size ≤ 140737488351232
theorem great_l1 (l : List S34) (hl : l.length ≤ 60) (hn : ∀ x ∈ l, x.f2.length ≤ 140737488351232) (hs : shortL l) (i : Nat) (hi : i < l.length)
    (IH : ∀ c : Int, 0 ≤ c → c ≤ 100000000000000 → ∃ K r, (∀ k, K ≤ k → storemanlaw24_great.l0 k l c ((i + 1 : Nat) : Int) = some r) ∧ (r = false → c + namesIn (l.drop (i + 1)) ≤ 2000)) :
    ∀ n j, j + n = l[i].f2.length → ∀ c : Int, 0 ≤ c → c ≤ 100000000000000 → ∃ K r, (∀ k, K ≤ k → storemanlaw24_great.l1 k l c (i : Int) (j : Int) = some r) ∧ (r = false → c + n + namesIn (l.drop (i + 1)) ≤ 2000) := by
  intro n
  have hni := hn _ (List.getElem_mem hi)
  induction n with
  | zero =>
    intro j hj c h0 h1
    obtain ⟨K, r, h2, h3⟩ := IH c h0 h1
    refine ⟨K + 1, r, fun k hk => ?_, fun h => by have := h3 h; omega⟩
    obtain ⟨k, rfl⟩ : ∃ q, k = q + 1 := ⟨k - 1, by omega⟩
    simp only [storemanlaw24_great.l1]
    rw [if_pos (by omega), if_pos (by omega), rd34 l i hi, if_neg (by omega), wrapI (by omega) (by omega)]
    exact h2 k (by omega)
  | succ n ih =>
    intro j hj c h0 h1
    have hj2 : j < l[i].f2.length := by omega
    have hsz := hs _ (List.getElem_mem hi) _ (List.getElem_mem hj2)
    by_cases hc : c ≤ 2000
    · obtain ⟨K, r, h2, h3⟩ := ih (j + 1) (by omega) (c + 1 + ((l[i].f2[j]).size : Int) / 20) (by omega) (by omega)
      refine ⟨K + 1, r, fun k hk => ?_, fun h => by have := h3 h; omega⟩
      obtain ⟨k, rfl⟩ : ∃ q, k = q + 1 := ⟨k - 1, by omega⟩
      simp only [storemanlaw24_great.l1]
      rw [if_pos (by omega), if_pos (by omega), rd34 l i hi, if_pos (by omega), if_pos hc, if_pos (by omega), rdS _ j hj2, wrapI (x := c + 1) (by omega) (by omega), wrapI (x := ((l[i].f2[j]).size : Int) / 20) (by omega) (by omega), wrapI (x := c + 1 + ((l[i].f2[j]).size : Int) / 20) (by omega) (by omega), wrapI (x := (j : Int) + 1) (by omega) (by omega)]
      exact h2 k (by omega)
    · obtain ⟨K, r, h2, h3⟩ := IH c h0 h1
      refine ⟨K + 1, r, fun k hk => ?_, fun h => by have := h3 h; omega⟩
      obtain ⟨k, rfl⟩ : ∃ q, k = q + 1 := ⟨k - 1, by omega⟩
      simp only [storemanlaw24_great.l1]
      rw [if_pos (by omega), if_pos (by omega), rd34 l i hi, if_pos (by omega), if_neg hc, wrapI (by omega) (by omega)]
      exact h2 k (by omega)
theorem great_l0 (l : List S34) (hl : l.length ≤ 60) (hn : ∀ x ∈ l, x.f2.length ≤ 140737488351232) (hs : shortL l) : ∀ n i, i + n = l.length → ∀ c : Int, 0 ≤ c → c ≤ 100000000000000 → ∃ K r, (∀ k, K ≤ k → storemanlaw24_great.l0 k l c (i : Int) = some r) ∧ (r = false → c + namesIn (l.drop i) ≤ 2000) := by
  intro n
  induction n with
  | zero =>
    intro i hi c h0 h1
    refine ⟨2, decide (c > 2000), fun k hk => ?_, fun h => by rw [List.drop_eq_nil_of_le (by omega)]; have : ¬ c > 2000 := of_decide_eq_false h; simp [namesIn]; omega⟩
    obtain ⟨k, rfl⟩ : ∃ q, k = q + 2 := ⟨k - 2, by omega⟩
    simp only [storemanlaw24_great.l0]
    rw [if_neg (by omega)]
    simp only [storemanlaw24_great.j1]
    rw [if_neg (by simp)]
  | succ n ih =>
    intro i hi c h0 h1
    have hlt : i < l.length := by omega
    have hd : namesIn (l.drop i) = l[i].f2.length + namesIn (l.drop (i + 1)) := by rw [List.drop_eq_getElem_cons hlt]; unfold namesIn; rw [List.map_cons, List.sum_cons]
    by_cases hc : c ≤ 2000
    · obtain ⟨K, r, h2, h3⟩ := great_l1 l hl hn hs i hlt (fun c h0 h1 => ih (i + 1) (by omega) c h0 h1) l[i].f2.length 0 (by omega) c h0 h1
      refine ⟨K + 2, r, fun k hk => ?_, fun h => by have := h3 h; rw [hd]; omega⟩
      obtain ⟨k, rfl⟩ : ∃ q, k = q + 2 := ⟨k - 2, by omega⟩
      simp only [storemanlaw24_great.l0]
      rw [if_pos (by omega)]
      simp only [storemanlaw24_great.j1]
      rw [if_pos (by simpa using hc)]
      exact h2 k (by omega)
    · refine ⟨2, true, fun k hk => ?_, fun h => by cases h⟩
      obtain ⟨k, rfl⟩ : ∃ q, k = q + 2 := ⟨k - 2, by omega⟩
      simp only [storemanlaw24_great.l0]
      rw [if_pos (by omega)]
      simp only [storemanlaw24_great.j1]
      rw [if_neg (by simpa using hc), decide_eq_true (by omega)]
theorem great_ev (l : List S34) (hl : l.length ≤ 60) (hn : ∀ x ∈ l, x.f2.length ≤ 140737488351232) (hs : shortL l) : ∃ K r, storemanlaw24_great.f K l = some r ∧ (r = false → namesIn l ≤ 2000) := by
  obtain ⟨K, r, h1, h2⟩ := great_l0 l hl hn hs l.length 0 (by omega) 0 (by omega) (by omega)
  exact ⟨K, r, h1 K (Nat.le_refl _), fun h => by have := h2 h; rw [List.drop_zero] at this; omega⟩
/-! ### meets -/
def lawM (a b : List ByteArray) : Bool := a.any fun x => b.any fun y => decide (x = y) || decide (x = star) || decide (y = star)
theorem toList_eq_iff (a b : ByteArray) : a.toList = b.toList ↔ a = b := ⟨toList_inj, fun h => by rw [h]⟩
theorem lawM_iff {a b : List ByteArray} : lawM a b = true ↔ ∃ x ∈ a, ∃ y ∈ b, x = y ∨ x = star ∨ y = star := by
  unfold lawM
  rw [List.any_eq_true]
  constructor
  · rintro ⟨x, hx, h⟩
    obtain ⟨y, hy, h2⟩ := List.any_eq_true.1 h
    refine ⟨x, hx, y, hy, ?_⟩
    simp only [Bool.or_eq_true, decide_eq_true_eq] at h2
    rcases h2 with (h2 | h2) | h2
    · exact .inl h2
    · exact .inr (.inl h2)
    · exact .inr (.inr h2)
  · rintro ⟨x, hx, y, hy, h⟩
    refine ⟨x, hx, List.any_eq_true.2 ⟨y, hy, ?_⟩⟩
    simp only [Bool.or_eq_true, decide_eq_true_eq]
    rcases h with h | h | h
    · exact .inl (.inl h)
    · exact .inl (.inr h)
    · exact .inr h
/-! ### nobody holds what another holds -/
def Excl (L : List S79) : Prop := L.Pairwise (fun x y => lawM x.f1 y.f1 = false) ∧ (L.map (fun x => x.f0)).Nodup
theorem lawM_comm (a b : List ByteArray) : lawM a b = lawM b a := by
  have : ∀ a b, lawM a b = true → lawM b a = true := fun a b h => by
    obtain ⟨x, hx, y, hy, h⟩ := lawM_iff.1 h
    refine lawM_iff.2 ⟨y, hy, x, hx, ?_⟩
    rcases h with h | h | h
    · exact .inl h.symm
    · exact .inr (.inr h)
    · exact .inr (.inl h)
  cases h : lawM a b with
  | true => exact (this a b h).symm
  | false =>
    cases k : lawM b a with
    | true => rw [this b a k] at h; cases h
    | false => rfl
theorem Excl.two {L : List S79} (h : Excl L) {x y : S79} (hx : x ∈ L) (hy : y ∈ L) (hne : x.f0 ≠ y.f0) : lawM x.f1 y.f1 = false := by
  have h1 := h.1
  clear h
  induction L with
  | nil => cases hx
  | cons z L ih =>
    obtain ⟨p, q⟩ := List.pairwise_cons.1 h1
    rcases List.mem_cons.1 hx with ex | hx' <;> rcases List.mem_cons.1 hy with ey | hy'
    · rw [ex, ey] at hne; exact absurd rfl hne
    · rw [ex]; exact p y hy'
    · rw [ey, lawM_comm]; exact p x hx'
    · exact ih hx' hy' q
theorem withL_nodup {L : List S79} (h : (L.map (fun x => x.f0)).Nodup) (id : Int) : ((withL L id).map (fun x => x.f0)).Nodup := by
  unfold withL
  split
  · exact h
  · rename_i hf
    rw [List.map_append]
    refine List.nodup_append.2 ⟨h, by simp, fun a ha b hb e => ?_⟩
    obtain ⟨x, hx, rfl⟩ := List.mem_map.1 ha
    simp only [List.map_cons, List.map_nil, List.mem_singleton, newW] at hb
    have := List.find?_eq_none.1 hf x hx
    simp at this
    exact this (e.trans hb)
theorem setL_ids (L : List S79) (x : S79) : (setL L x).map (fun y => y.f0) = L.map (fun y => y.f0) := by
  unfold setL
  rw [List.map_map]
  apply List.map_congr_left
  intro y _
  simp only [Function.comp]
  split
  · rename_i h; exact h.symm
  · rfl
theorem getL_mem (L : List S79) (id : Int) : getL L id ∈ withL L id := by
  unfold getL withL
  cases h : L.find? (fun x => decide (x.f0 = id)) with
  | none => simp
  | some x => exact List.mem_of_find?_eq_some h
/-! ### behind an ask, behind a free -/
end Go.Proofs.Ytimlfdfmgajbnaa.PA
/-
Plain laws of the document's answer: what its small functions tell.
-/
namespace Go.Proofs.Ytimlfdfmgajbnaa.PA
open Go.RowKit Go.Proofs.YtimlfdfmgajbnaaW.PrintWords Go.Proofs.YtimlfdfmgajbnaaW.PrintLast Go.Proofs.YtimlfdfmgajbnaaW.PrintMore
set_option linter.unusedVariables false
set_option linter.unusedSimpArgs false
theorem rhas_l0 (l : List ByteArray) (s : ByteArray) (hl : l.length ≤ 9223372036854775807) : ∀ n i, i + n = l.length → ∀ k, n < k → storemanref24_has.l0 k l s (i : Int) = some (decide (s ∈ l.drop i)) := by
  intro n
  induction n with
  | zero =>
    intro i hi k hk
    obtain ⟨k, rfl⟩ : ∃ q, k = q + 1 := ⟨k - 1, by omega⟩
    simp only [storemanref24_has.l0]
    rw [if_neg (by omega), List.drop_eq_nil_of_le (by omega)]
    simp
  | succ n ih =>
    intro i hi k hk
    obtain ⟨k, rfl⟩ : ∃ q, k = q + 1 := ⟨k - 1, by omega⟩
    have hlt : i < l.length := by omega
    simp only [storemanref24_has.l0]
    rw [if_pos (by omega), if_pos (by omega), rdS l i hlt, List.drop_eq_getElem_cons hlt]
    by_cases h1 : l[i] = s
    · rw [if_pos (by rw [h1])]; simp [h1]
    · rw [if_neg (fun e => h1 ((toList_eq_iff _ _).1 e)), wrapI (by omega) (by omega)]
      refine (ih (i + 1) (by omega) k (by omega)).trans ?_
      have e : (s ∈ l[i] :: l.drop (i + 1)) ↔ s ∈ l.drop (i + 1) := ⟨fun h => (List.mem_cons.1 h).resolve_left (fun e => h1 e.symm), List.mem_cons_of_mem _⟩
      rw [decide_eq_decide.2 e]
theorem rhas_ev (l : List ByteArray) (s : ByteArray) (hl : l.length ≤ 9223372036854775807) (k : Nat) (hk : l.length < k) : storemanref24_has.f k l s = some (decide (s ∈ l)) := rhas_l0 l s hl l.length 0 (by omega) k hk
theorem rmeet_l0 (a b : List ByteArray) (ha : a.length ≤ 9223372036854775807) (hb : b.length ≤ 9223372036854775807) : ∀ n i, i + n = a.length → ∀ k, n + b.length + 1 < k → storemanref24_meet.l0 k a b (i : Int) = some ((a.drop i).any fun x => decide (x ∈ b)) := by
  intro n
  induction n with
  | zero =>
    intro i hi k hk
    obtain ⟨k, rfl⟩ : ∃ q, k = q + 1 := ⟨k - 1, by omega⟩
    simp only [storemanref24_meet.l0]
    rw [if_neg (by omega), List.drop_eq_nil_of_le (by omega)]
    rfl
  | succ n ih =>
    intro i hi k hk
    obtain ⟨k, rfl⟩ : ∃ q, k = q + 1 := ⟨k - 1, by omega⟩
    have hlt : i < a.length := by omega
    simp only [storemanref24_meet.l0]
    rw [if_pos (by omega), if_pos (by omega), rdS a i hlt, rhas_ev b _ hb k (by omega), Option.bind_some, List.drop_eq_getElem_cons hlt, List.any_cons]
    by_cases h1 : a[i] ∈ b
    · rw [if_pos (by simp [h1])]; simp [h1]
    · rw [if_neg (by simp [h1]), wrapI (by omega) (by omega)]
      refine (ih (i + 1) (by omega) k (by omega)).trans ?_
      simp [h1]
theorem rmeet_ev (a b : List ByteArray) (ha : a.length ≤ 9223372036854775807) (hb : b.length ≤ 9223372036854775807) (k : Nat) (hk : a.length + b.length + 4 < k) : storemanref24_meet.f k a b = some (meetB a b) := by
  obtain ⟨k, rfl⟩ : ∃ q, k = q + 1 := ⟨k - 1, by omega⟩
  obtain ⟨k, rfl⟩ : ∃ q, k = q + 1 := ⟨k - 1, by omega⟩
  unfold storemanref24_meet.f meetB
  by_cases h0 : a = []
  · rw [if_pos (by simp [h0])]
    simp [storemanref24_meet.j0, h0]
  · have hl0 : 0 < a.length := List.length_pos_iff.2 h0
    rw [if_neg (by omega)]
    by_cases h1 : b = []
    · simp [storemanref24_meet.j0, h1]
    · have hl1 : 0 < b.length := List.length_pos_iff.2 h1
      have e1 : ((b.length : Int) == 0) = false := beq_eq_false_iff_ne.2 (by omega)
      rw [e1]
      simp only [storemanref24_meet.j0, Bool.false_eq_true, if_false]
      rw [rhas_ev a _ ha _ (by omega), Option.bind_some, rhas_ev b _ hb _ (by omega), Option.bind_some]
      simp only [h0, h1, ne_eq, not_false_eq_true, decide_true, Bool.true_and]
      by_cases h2 : star ∈ a
      · rw [if_pos (by simpa using h2)]
        simp [storemanref24_meet.j1, h2]
      · rw [if_neg (by simpa using h2)]
        simp only [storemanref24_meet.j1]
        by_cases h3 : star ∈ b
        · rw [if_pos (by simpa using h3)]
          simp [h3]
        · rw [if_neg (by simpa using h3), (show storemanref24_meet.l0 k a b 0 = _ from rmeet_l0 a b ha hb a.length 0 (by omega) k (by omega))]
          simp [h2, h3]
theorem rkeeps_ev (x : S79) (W : List ByteArray) (t : Int) (h1 : x.f1.length ≤ 9223372036854775807) (h2 : x.f2.length ≤ 9223372036854775807) (hW : W.length ≤ 9223372036854775807) : ∃ k, storemanref24_keeps.f k x.f0 x.f1 x.f2 x.f3 W t = some (keepB x.f1 x.f2 x.f3 W t) := by
  refine ⟨x.f1.length + x.f2.length + W.length + 5, ?_⟩
  unfold storemanref24_keeps.f keepB
  rw [rmeet_ev x.f1 W h1 hW _ (by omega), Option.bind_some, rmeet_ev x.f2 W h2 hW _ (by omega), Option.bind_some]
  cases hm : meetB x.f1 W with
  | true => rw [if_pos rfl]; rfl
  | false =>
    rw [if_neg (by simp)]
    by_cases h3 : 0 < x.f3
    · rw [if_pos h3]
      by_cases h4 : x.f3 < t
      · rw [if_pos h4]; simp [h3, h4]
      · rw [if_neg h4]; simp [h4]
    · rw [if_neg h3]; simp [h3]
/-- A number in its place. -/
def insI : List Int → Int → List Int
  | [], n => [n]
  | x :: l, n => if x < n then x :: insI l n else if x = n then x :: l else n :: x :: l
theorem rdI (l : List Int) (i : Nat) (h : i < l.length) : rd l (i : Int) = l[i] := by
  unfold rd
  rw [Int.toNat_natCast, List.getD_eq_getElem?_getD, List.getElem?_eq_getElem h]
  rfl
theorem rrising_l0 (l : List Int) (s : Int) (hl : l.length < 1000000) : ∀ n i, i + n = l.length → ∀ k, n < k → storemanref24_rising.l0 k l s (i : Int) = some (l.take i ++ insI (l.drop i) s) := by
  intro n
  induction n with
  | zero =>
    intro i hi k hk
    obtain ⟨k, rfl⟩ : ∃ q, k = q + 1 := ⟨k - 1, by omega⟩
    simp only [storemanref24_rising.l0, Option.bind_some, Int.toNat_natCast]
    rw [if_neg (by omega), if_pos (by omega), if_pos (by omega), if_pos (by simp; omega), if_pos (by simp; omega), if_pos (by simp; omega), List.drop_eq_nil_of_le (show l.length ≤ i by omega)]
    simp [insI]
  | succ n ih =>
    intro i hi k hk
    obtain ⟨k, rfl⟩ : ∃ q, k = q + 1 := ⟨k - 1, by omega⟩
    have hlt : i < l.length := by omega
    simp only [storemanref24_rising.l0, Option.bind_some, Int.toNat_natCast]
    rw [if_pos (by omega), if_pos (by omega), rdI l i hlt]
    have hd := List.drop_eq_getElem_cons hlt
    by_cases h1 : l[i] < s
    · rw [if_pos h1, wrapI (by omega) (by omega)]
      refine (ih (i + 1) (by omega) k (by omega)).trans ?_
      rw [hd]
      have e : insI (l[i] :: l.drop (i + 1)) s = l[i] :: insI (l.drop (i + 1)) s := by
        rw [insI, if_pos h1]
      rw [e, List.take_succ_eq_append_getElem hlt, List.append_assoc]
      rfl
    · rw [if_neg h1]
      by_cases h2 : l[i] = s
      · rw [if_pos h2, hd]
        have e : insI (l[i] :: l.drop (i + 1)) s = l[i] :: l.drop (i + 1) := by
          rw [insI, if_neg h1, if_pos h2]
        rw [e, ← hd, List.take_append_drop]
      · rw [if_neg h2, if_pos (by omega), if_pos (by simp; omega), if_pos (by simp; omega), if_pos (by simp; omega), hd]
        have e : insI (l[i] :: l.drop (i + 1)) s = s :: l[i] :: l.drop (i + 1) := by
          rw [insI, if_neg h1, if_neg h2]
        rw [e]
        simp
theorem rrising_ev (l : List Int) (s : Int) (hl : l.length < 1000000) : ∃ k, storemanref24_rising.f k l s = some (insI l s) := ⟨l.length + 1, (rrising_l0 l s hl l.length 0 (by omega) _ (by omega)).trans (by simp)⟩
theorem ramong_l0 (l : List Int) (s : Int) (hl : l.length ≤ 9223372036854775807) : ∀ n i, i + n = l.length → ∀ k, n < k → storemanref24_among.l0 k l s (i : Int) = some (decide (s ∈ l.drop i)) := by
  intro n
  induction n with
  | zero =>
    intro i hi k hk
    obtain ⟨k, rfl⟩ : ∃ q, k = q + 1 := ⟨k - 1, by omega⟩
    simp only [storemanref24_among.l0]
    rw [if_neg (by omega), List.drop_eq_nil_of_le (by omega)]
    simp
  | succ n ih =>
    intro i hi k hk
    obtain ⟨k, rfl⟩ : ∃ q, k = q + 1 := ⟨k - 1, by omega⟩
    have hlt : i < l.length := by omega
    simp only [storemanref24_among.l0]
    rw [if_pos (by omega), if_pos (by omega), rdI l i hlt, List.drop_eq_getElem_cons hlt]
    by_cases h1 : l[i] = s
    · rw [if_pos h1]; simp [h1]
    · rw [if_neg h1, wrapI (by omega) (by omega)]
      refine (ih (i + 1) (by omega) k (by omega)).trans ?_
      have e : (s ∈ l[i] :: l.drop (i + 1)) ↔ s ∈ l.drop (i + 1) := ⟨fun h => (List.mem_cons.1 h).resolve_left (fun e => h1 e.symm), List.mem_cons_of_mem _⟩
      rw [decide_eq_decide.2 e]
theorem ramong_ev (l : List Int) (s : Int) (hl : l.length ≤ 9223372036854775807) : ∃ k, storemanref24_among.f k l s = some (decide (s ∈ l)) := ⟨l.length + 1, ramong_l0 l s hl l.length 0 (by omega) _ (by omega)⟩
/-! ### rising numbers -/
theorem mem_insI : ∀ {l : List Int} {n x : Int}, x ∈ insI l n ↔ x = n ∨ x ∈ l
  | [], n, x => by simp [insI]
  | y :: l, n, x => by
    unfold insI
    split
    · simp only [List.mem_cons, mem_insI (l := l)]
      constructor
      · rintro (h | h | h)
        · exact .inr (.inl h)
        · exact .inl h
        · exact .inr (.inr h)
      · rintro (h | h | h)
        · exact .inr (.inl h)
        · exact .inl h
        · exact .inr (.inr h)
    · split
      · rename_i h; subst h
        simp only [List.mem_cons]
        constructor
        · exact .inr
        · rintro (h | h)
          · exact .inl h
          · exact h
      · simp only [List.mem_cons]
def RisI (l : List Int) : Prop := l.Pairwise (fun x y => x < y)
theorem ris_insI : ∀ {l : List Int} {n : Int}, RisI l → RisI (insI l n)
  | [], n, _ => by unfold RisI insI; exact List.pairwise_singleton _ _
  | y :: l, n, h => by
    obtain ⟨h1, h2⟩ := List.pairwise_cons.1 h
    unfold insI
    split
    · rename_i hy
      exact List.pairwise_cons.2 ⟨fun z hz => (mem_insI.1 hz).elim (fun e => by omega) (fun hz => h1 z hz), ris_insI h2⟩
    · split
      · exact h
      · exact List.pairwise_cons.2 ⟨fun z hz => (List.mem_cons.1 hz).elim (fun e => by omega) (fun hz => by have := h1 z hz; omega), h⟩
theorem insI_len : ∀ (l : List Int) (n : Int), (insI l n).length ≤ l.length + 1 ∧ l.length ≤ (insI l n).length
  | [], n => by simp [insI]
  | y :: l, n => by
    unfold insI
    have := insI_len l n
    split
    · simp only [List.length_cons]; omega
    · split <;> simp only [List.length_cons] <;> omega
theorem ris_ext {l m : List Int} (hl : RisI l) (hm : RisI m) (h : ∀ x, x ∈ l ↔ x ∈ m) : l = m :=
  ((List.perm_ext_iff_of_nodup (hl.imp (fun h => by omega)) (hm.imp (fun h => by omega))).2 h).eq_of_pairwise (fun a b _ _ h1 h2 => by omega) hl hm
end Go.Proofs.Ytimlfdfmgajbnaa.PA
/-
The document's locks in memory, and what is found in them.
-/
namespace Go.Proofs.Ytimlfdfmgajbnaa.PA
open Go.RowKit Go.Proofs.YtimlfdfmgajbnaaW.PrintWords Go.Proofs.YtimlfdfmgajbnaaW.PrintLast Go.Proofs.YtimlfdfmgajbnaaW.PrintMore
set_option linter.unusedVariables false
set_option linter.unusedSimpArgs false
/-- The document's locks, as they are read. -/
structure Rd (w : World) (rb : Nat) (A : Option Addr) (c : Nat) (last : Int) (L : List S79) : Prop where
  b : w.heap[rb]? = some (.cells #[.slice A L.length c, .int .i64 last] 30 (0, 0))
  r : Kd.C k79 w A L.length L
  c : L.length ≤ c
theorem Rd.below {w w' : World} {rb : Nat} {A : Option Addr} {c : Nat} {last : Int} {L : List S79} (h : Rd w rb A c last L) (hb : Below w.heap.size w w') : Rd w' rb A c last L := ⟨blk_below h.b hb, Kd.C_below h.r hb, h.c⟩
theorem Rd.k0 {w : World} {rb : Nat} {A : Option Addr} {c : Nat} {last : Int} {L : List S79} (h : Rd w rb A c last L) : w.cell? ⟨rb, 0, none⟩ = some (.slice A L.length c) := (blk_cell h.b 0).trans rfl
theorem Rd.k1 {w : World} {rb : Nat} {A : Option Addr} {c : Nat} {last : Int} {L : List S79} (h : Rd w rb A c last L) : w.cell? ⟨rb, 1, none⟩ = some (.int .i64 last) := (blk_cell h.b 1).trans rfl
def idxFrom : List S79 → Int → Int → Int
  | [], _, _ => -1
  | x :: l, id, i => if x.f0 = id then i else idxFrom l id (i + 1)
def idxL (L : List S79) (id : Int) : Int := idxFrom L id 0
theorem rd79 (l : List S79) (i : Nat) (h : i < l.length) : rd_T79 l (i : Int) = l[i] := by simp [rd_T79, h]
theorem idxFrom_find : ∀ (l : List S79) (id i : Int), 0 ≤ i → (idxFrom l id i = -1 ∧ l.find? (fun x => decide (x.f0 = id)) = none) ∨ (∃ j : Nat, idxFrom l id i = i + j ∧ ∃ h : j < l.length, l.find? (fun x => decide (x.f0 = id)) = some l[j] ∧ l[j].f0 = id)
  | [], _, _, _ => .inl ⟨rfl, rfl⟩
  | x :: l, id, i, hi => by
    unfold idxFrom
    by_cases h : x.f0 = id
    · rw [if_pos h]
      exact .inr ⟨0, by omega, by simp, by simp [h], by simpa using h⟩
    · rw [if_neg h]
      rcases idxFrom_find l id (i + 1) (by omega) with ⟨h1, h2⟩ | ⟨j, h1, h2, h3, h4⟩
      · exact .inl ⟨h1, by rw [List.find?_cons_of_neg (by simpa using h)]; exact h2⟩
      · exact .inr ⟨j + 1, by rw [h1]; omega, by simp; omega, by rw [List.find?_cons_of_neg (by simpa using h)]; simpa using h3, by simpa using h4⟩
theorem idx_cases (L : List S79) (id : Int) : (idxL L id = -1 ∧ L.find? (fun x => decide (x.f0 = id)) = none) ∨ (∃ j : Nat, idxL L id = j ∧ ∃ h : j < L.length, L.find? (fun x => decide (x.f0 = id)) = some L[j] ∧ L[j].f0 = id) := by
  rcases idxFrom_find L id 0 (by omega) with h | ⟨j, h1, h2⟩
  · exact .inl h
  · exact .inr ⟨j, by unfold idxL; omega, h2⟩
set_option maxHeartbeats 1000000 in
theorem find_calls (rb : Nat) (A : Option Addr) (c : Nat) (last : Int) (L : List S79) (id : Int) (w : World) (h : Rd w rb A c last L) :
    Calls Try.prog 42 #[.pointer (some ⟨rb, 0, none⟩), .int .i64 id] w fun e w' => e = .returned (.int .i64 (idxL L id)) ∧ w = w' := by
  have k0 := h.k0
  have hm := Kd.C_max h.r
  have H := Aside0.mk h
  clear h
  go_enter Try.func42, Try.ntmps42
  go_wp2
  go_loop [5] (fun v5 => ∃ i : Nat, i ≤ L.length ∧ v5 = .int .i64 i ∧ Aside0 (idxL L id = idxFrom (L.drop i) id i)) (fun v5 => L.length - (intOf v5).toNat)
  case atStart => exact ⟨0, Nat.zero_le _, rfl, ⟨rfl⟩⟩
  case round =>
    obtain ⟨i, hi, rfl, HI⟩ := hrel
    by_cases hlt : i < L.length
    · have hd : decide ((i : Int) < (L.length : Int)) = true := decide_eq_true (by omega)
      obtain ⟨ad, A1, c1, A2, c2, e, x0, _⟩ := at_T79 H.out.r (i : Int) (by omega) (by omega)
      cases e
      rw [rd79 L i hlt, Int.toNat_natCast] at x0
      have HN := Aside0.mk (show idxFrom (L.drop i) id i = if L[i].f0 = id then (i : Int) else idxFrom (L.drop (i + 1)) id (i + 1) by rw [List.drop_eq_getElem_cons hlt]; rfl)
      by_cases hf : L[i].f0 = id
      · have HR := Aside0.mk (show idxL L id = (i : Int) by rw [HI.out, HN.out, if_pos hf])
        have hb : (L[i].f0 == id) = true := by rw [hf]; exact beq_self_eq_true id
        clear hf HN HI
        go_wp2
        go_ret
        exact ⟨by rw [HR.out]; rfl, rfl⟩
      · have HR := Aside0.mk (show idxL L id = idxFrom (L.drop (i + 1)) id ((i + 1 : Nat) : Int) by rw [HI.out, HN.out, if_neg hf]; rfl)
        have hb : (L[i].f0 == id) = false := beq_eq_false_iff_ne.2 hf
        clear hf HN HI
        go_wp2
        go_round
        case rel => exact ⟨i + 1, by omega, by first | rfl | go_num, HR⟩
        case measure => simp [intOf]; omega
    · have hd : decide ((i : Int) < (L.length : Int)) = false := decide_eq_false (by omega)
      have HR := Aside0.mk (show idxL L id = -1 by rw [HI.out, List.drop_eq_nil_of_le (by omega)]; rfl)
      go_wp2
      go_ret
      exact ⟨by rw [HR.out]; rfl, rfl⟩

end Go.Proofs.Ytimlfdfmgajbnaa.PA
/-
The document's locks: what is held, and who waits for whom.
-/
namespace Go.Proofs.Ytimlfdfmgajbnaa.PA
open Go.RowKit Go.Proofs.YtimlfdfmgajbnaaW.PrintWords Go.Proofs.YtimlfdfmgajbnaaW.PrintLast Go.Proofs.YtimlfdfmgajbnaaW.PrintMore
set_option linter.unusedVariables false
set_option linter.unusedSimpArgs false
/-- A work in its row. -/
structure El (w : World) (ad : Addr) (i : Nat) (x : S79) (A1 : Option Addr) (c1 : Nat) (A2 : Option Addr) (c2 : Nat) : Prop where
  f0 : w.cell? (ad.add (i * 4)) = some (.int .i64 x.f0)
  f1 : w.cell? ⟨(ad.add (i * 4)).block, (ad.add (i * 4)).off + 1, none⟩ = some (.slice A1 x.f1.length c1)
  f2 : w.cell? ⟨(ad.add (i * 4)).block, (ad.add (i * 4)).off + 2, none⟩ = some (.slice A2 x.f2.length c2)
  f3 : w.cell? ⟨(ad.add (i * 4)).block, (ad.add (i * 4)).off + 3, none⟩ = some (.int .i64 x.f3)
  l1 : x.f1.length ≤ c1
  g1 : Kd.string.C w A1 x.f1.length x.f1
  l2 : x.f2.length ≤ c2
  g2 : Kd.string.C w A2 x.f2.length x.f2
theorem El.below {w w' : World} {ad : Addr} {i : Nat} {x : S79} {A1 : Option Addr} {c1 : Nat} {A2 : Option Addr} {c2 : Nat} (h : El w ad i x A1 c1 A2 c2) (hb : Below w.heap.size w w') : El w' ad i x A1 c1 A2 c2 :=
  ⟨pw_cell_below hb h.f0, pw_cell_below hb h.f1, pw_cell_below hb h.f2, pw_cell_below hb h.f3, h.l1, Kd.C_below h.g1 hb, h.l2, Kd.C_below h.g2 hb⟩
theorem Rd.el {w : World} {rb : Nat} {A : Option Addr} {c : Nat} {last : Int} {L : List S79} (h : Rd w rb A c last L) (i : Nat) (hi : i < L.length) : ∃ ad A1 c1 A2 c2, A = some ad ∧ El w ad i L[i] A1 c1 A2 c2 := by
  obtain ⟨ad, A1, c1, A2, c2, e, x0, x1, x2, x3, x4, x5, x6, x7⟩ := at_T79 h.r (i : Int) (by omega) (by omega)
  rw [rd79 L i hi, Int.toNat_natCast] at *
  exact ⟨ad, A1, c1, A2, c2, e, x0, x1, x2, x3, x4, x5, x6, x7⟩
theorem Rd.el' {w : World} {rb : Nat} {ad : Addr} {c : Nat} {last : Int} {L : List S79} (h : Rd w rb (some ad) c last L) (i : Nat) (hi : i < L.length) : ∃ A1 c1 A2 c2, El w ad i L[i] A1 c1 A2 c2 := by
  obtain ⟨ad', A1, c1, A2, c2, e, x⟩ := h.el i hi
  cases e
  exact ⟨A1, c1, A2, c2, x⟩
/-- How many names there are. -/
def BndL (L : List S79) (B : Nat) : Prop := L.length ≤ B ∧ ∀ x ∈ L, x.f1.length + x.f2.length ≤ B
theorem holds_at {L : List S79} {id : Int} {x : S79} (h : L.find? (fun x => decide (x.f0 = id)) = some x) : holdsL L id = x.f1 := by unfold holdsL; rw [h]
theorem holds_no {L : List S79} {id : Int} (h : L.find? (fun x => decide (x.f0 = id)) = none) : holdsL L id = [] := by unfold holdsL; rw [h]
theorem waits_no {L : List S79} {id : Int} (h : L.find? (fun x => decide (x.f0 = id)) = none) : waitsL L id = [] := by unfold waitsL; rw [h]
theorem waits_zero {L : List S79} {id : Int} {x : S79} (h : L.find? (fun x => decide (x.f0 = id)) = some x) (h0 : x.f3 = 0) : waitsL L id = [] := by unfold waitsL; rw [h]; simp only; rw [if_pos h0]
theorem waits_at {L : List S79} {id : Int} {x : S79} (h : L.find? (fun x => decide (x.f0 = id)) = some x) (h0 : x.f3 ≠ 0) : waitsL L id = sortI (keptL L id x.f2 x.f3) := by unfold waitsL; rw [h]; simp only; rw [if_neg h0]
def RPost {α : Type} (d : Kd α) (T : Nat) (xs : List α) (w : World) (e : Ending) (w' : World) : Prop := ∃ v, e = .returned v ∧ Kd.R d T w' w.heap.size (fun _ => True) v xs ∧ Below w.heap.size w w'
set_option maxHeartbeats 1000000 in
theorem rholds_calls (rb : Nat) (A : Option Addr) (c : Nat) (last : Int) (L : List S79) (id : Int) (w : World) (h : Rd w rb A c last L) (hB : BndL L 1000000) :
    Calls Try.prog 28 #[.pointer (some ⟨rb, 0, none⟩), .int .i64 id] w (RPost Kd.string 9 (holdsL L id) w) := by
  have k0 := h.k0
  have hm := Kd.C_max h.r
  rcases idx_cases L id with ⟨h1, h2⟩ | ⟨j, h1, hj, h2, h3⟩
  · have HH := Aside0.mk (holds_no h2)
    have H := Aside0.mk h
    have HX := Aside0.mk h1
    clear h h1 h2 hB
    go_enter Try.func28, Try.ntmps28
    go_wp2_with (first | (go_at_call 42; have hp := find_calls rb A c last L id w H.out; rw [HX.out] at hp; (with_reducible refine hp.mono ?_); rintro e w1 ⟨rfl, rfl⟩; clear hp))
    go_ret
    exact ⟨_, rfl, by rw [HH.out]; exact Kd.R_nil _ _ _ _ _, Below.refl _ _⟩
  · have HH := Aside0.mk (holds_at h2)
    have HLB := Aside0.mk (hB.2 _ (List.getElem_mem hj))
    obtain ⟨ad, A1, c1, A2, c2, e, x⟩ := h.el j hj
    cases e
    have f1 := x.f1
    have H := Aside0.mk h; have HE := Aside0.mk x
    have HX := Aside0.mk h1
    have hlt : (j : Int) < (L.length : Int) := by omega
    clear h h1 h2 hB x h3
    go_enter Try.func28, Try.ntmps28
    go_wp2_with (first | (go_at_call 42; have hp := find_calls rb (some ad) c last L id w H.out; rw [HX.out] at hp; (with_reducible refine hp.mono ?_); rintro e w1 ⟨rfl, rfl⟩; clear hp) | ((with_reducible refine gate_dst (N := 11) rfl ?_); refine Kd.R_lit Kd.string _ 9 ?hg (N := 11) ?hd (xs := ([] : List ByteArray)) (inner := []) (ok := fun _ => True) (okp := fun _ => True) ?hr ?hp (fun _ hk => hk) trivial (Below.refl _ _) (Nat.le_refl _) (by simp) ?_; (case hd => rfl); (case hg => rfl); (case hr => first | (go_simp; done) | (go_simp; rfl)); (case hp => exact (Reps.none _ _)); intro v1 W1 hO hb hg_ hnew_; have HO := Aside0.mk hO; have HB := Aside0.mk hb; have HE1 := Aside0.mk (HE.out.below hb); replace k0 := (H.out.below hb).k0; replace f1 := HE1.out.f1; clear hg_ hnew_ hO hb) | ((with_reducible refine gate_builtin (b := .append) (xs := #[.tmp 11, .tmp 19]) rfl ?_); at_builtin; refine Kd.R_append_rows Kd.string (w0 := w) w.heap.size rfl (.tmp 11) (.tmp 19) 32 9 (.string ⟨#[]⟩) 16 rfl Try.underlying32 info9 rfl (by decide) (by omega) v1 [] L[j].f1 _ _ _ (fun _ => True) (fun _ => False) rfl rfl HO.out HE1.out.g1 (fun _ _ h => h) (fun _ h => h.elim) (fun _ _ => trivial) HB.out HB.out.size (by have := HLB.out; simp only [List.length_nil]; omega) ?_; intro v2 W2 ho hb hg hat; have HO2 := Aside0.mk ho; have HB2 := Aside0.mk hb; clear ho hb hg hat))
    go_ret
    exact ⟨_, rfl, by rw [HH.out]; exact HO2.out, HB2.out⟩
/-! ### who keeps one, in order -/
def condK (id : Int) (W : List ByteArray) (t : Int) (x : S79) : Bool := decide (x.f0 ≠ id) && keepB x.f1 x.f2 x.f3 W t
def risK (id : Int) (W : List ByteArray) (t : Int) (l : List S79) : List Int := l.foldl (fun o x => if condK id W t x = true then insI o x.f0 else o) []
theorem risK_snoc (id : Int) (W : List ByteArray) (t : Int) (l : List S79) (x : S79) : risK id W t (l ++ [x]) = if condK id W t x = true then insI (risK id W t l) x.f0 else risK id W t l := by unfold risK; rw [List.foldl_append]; rfl
theorem risK_len (id : Int) (W : List ByteArray) (t : Int) : ∀ (n : Nat) (l : List S79), l.length = n → (risK id W t l).length ≤ n
  | 0, l, h => by
    have : l = [] := List.length_eq_zero_iff.1 h
    subst this
    exact Nat.le_refl _
  | n + 1, l, h => by
    have hne : l ≠ [] := by intro e; subst e; cases h
    rw [← List.dropLast_concat_getLast hne, risK_snoc]
    have h1 := risK_len id W t n l.dropLast (by rw [List.length_dropLast]; omega)
    have h2 := insI_len (risK id W t l.dropLast) (l.getLast hne).f0
    split <;> omega
theorem risK_mem (id : Int) (W : List ByteArray) (t : Int) : ∀ (n : Nat) (l : List S79), l.length = n → ∀ y, (y ∈ risK id W t l ↔ ∃ x ∈ l, condK id W t x = true ∧ x.f0 = y) ∧ RisI (risK id W t l)
  | 0, l, h => by
    have : l = [] := List.length_eq_zero_iff.1 h
    subst this
    intro y
    exact ⟨⟨(fun h => by cases h), (fun ⟨x, hx, _⟩ => by cases hx)⟩, List.Pairwise.nil⟩
  | n + 1, l, h => by
    have hne : l ≠ [] := by intro e; subst e; cases h
    intro y
    have hl := List.dropLast_concat_getLast hne
    obtain ⟨h1, h3⟩ := risK_mem id W t n l.dropLast (by rw [List.length_dropLast]; omega) y
    rw [← hl, risK_snoc]
    split
    · rename_i hc
      refine ⟨?_, ris_insI h3⟩
      rw [mem_insI, h1]
      constructor
      · rintro (e | ⟨x, hx, h4⟩)
        · exact ⟨_, List.mem_append_right _ (List.mem_singleton_self _), hc, e.symm⟩
        · exact ⟨x, List.mem_append_left _ hx, h4⟩
      · rintro ⟨x, hx, h4, h5⟩
        rcases List.mem_append.1 hx with hx | hx
        · exact .inr ⟨x, hx, h4, h5⟩
        · rw [List.mem_singleton.1 hx] at h5
          exact .inl h5.symm
    · rename_i hc
      refine ⟨?_, h3⟩
      rw [h1]
      constructor
      · rintro ⟨x, hx, h4⟩
        exact ⟨x, List.mem_append_left _ hx, h4⟩
      · rintro ⟨x, hx, h4, h5⟩
        rcases List.mem_append.1 hx with hx | hx
        · exact ⟨x, hx, h4, h5⟩
        · rw [List.mem_singleton.1 hx] at h4
          exact absurd h4 hc
theorem ris_sort {l : List Int} (h : l.Nodup) : RisI (sortI l) := by
  have h1 : (sortI l).Pairwise (fun a b => leI a b = true) := List.pairwise_mergeSort (fun a b c => by unfold leI; simp; omega) (fun a b => by unfold leI; simp; omega) l
  have h2 : (sortI l).Nodup := (List.mergeSort_perm l leI).symm.nodup h
  unfold RisI
  exact (h1.and h2).imp (fun {a b} h => by obtain ⟨h3, h4⟩ := h; unfold leI at h3; simp at h3; omega)
theorem risK_all {L : List S79} (hn : (L.map (fun x => x.f0)).Nodup) (id : Int) (W : List ByteArray) (t : Int) : risK id W t L = sortI (keptL L id W t) := by
  refine ris_ext (risK_mem id W t _ L rfl 0).2 (ris_sort ?_) (fun x => ?_)
  · unfold keptL
    exact hn.sublist (List.Sublist.map _ List.filter_sublist)
  · rw [(risK_mem id W t _ L rfl x).1, mem_sortI]
    unfold keptL condK
    rw [List.mem_map]
    simp only [List.mem_filter]
    constructor
    · rintro ⟨y, h1, h2, h3⟩; exact ⟨y, ⟨h1, h2⟩, h3⟩
    · rintro ⟨y, ⟨h1, h2⟩, h3⟩; exact ⟨y, h1, h2, h3⟩
theorem ids_at {L : List S79} (hn : (L.map (fun x => x.f0)).Nodup) {i j : Nat} (hi : i < L.length) (hj : j < L.length) (h : L[i].f0 = L[j].f0) : i = j := by
  have h1 : (L.map (fun x => x.f0))[i]'(by simpa using hi) = (L.map (fun x => x.f0))[j]'(by simpa using hj) := by simpa using h
  exact (List.getElem_inj hn).1 h1
set_option maxHeartbeats 8000000 in
set_option maxRecDepth 100000 in
theorem rwaits_calls (rb : Nat) (A : Option Addr) (c : Nat) (last : Int) (L : List S79) (id : Int) (w : World) (h : Rd w rb A c last L) (hB : BndL L 100000) (hn : (L.map (fun x => x.f0)).Nodup) :
    Calls Try.prog 29 #[.pointer (some ⟨rb, 0, none⟩), .int .i64 id] w (RPost (Kd.int .i64) 2 (waitsL L id) w) := by
  have k0 := h.k0
  have hm := Kd.C_max h.r
  rcases idx_cases L id with ⟨h1, h2⟩ | ⟨j, h1, hj, h2, h3⟩
  · have HH := Aside0.mk (waits_no h2)
    have H := Aside0.mk h
    have HX := Aside0.mk h1
    clear h h1 h2 hB hn
    go_enter Try.func29, Try.ntmps29
    go_wp2_with (first | (go_at_call 42; have hp := find_calls rb A c last L id w H.out; rw [HX.out] at hp; (with_reducible refine hp.mono ?_); rintro e w1 ⟨rfl, rfl⟩; clear hp))
    go_ret
    exact ⟨_, rfl, by rw [HH.out]; exact Kd.R_nil _ _ _ _ _, Below.refl _ _⟩
  · obtain ⟨ad, A1, c1, A2, c2, e, x⟩ := h.el j hj
    cases e
    have f2 := x.f2
    have f3 := x.f3
    have H := Aside0.mk h; have HE := Aside0.mk x; have HX := Aside0.mk h1; have HBN := Aside0.mk hB; have HND := Aside0.mk hn; have HFJ := Aside0.mk h3
    have hlt : (j : Int) < (L.length : Int) := by omega
    have hd0 : decide ((j : Int) < 0) = false := decide_eq_false (by omega)
    by_cases hz : L[j].f3 = 0
    · have HH := Aside0.mk (waits_zero h2 hz)
      have hb : (L[j].f3 == 0) = true := by rw [hz]; rfl
      clear h h1 h2 hB x h3 hn hz
      go_enter Try.func29, Try.ntmps29
      go_wp2_with (first | (go_at_call 42; have hp := find_calls rb (some ad) c last L id w H.out; rw [HX.out] at hp; (with_reducible refine hp.mono ?_); rintro e w1 ⟨rfl, rfl⟩; clear hp))
      go_ret
      exact ⟨_, rfl, by rw [HH.out]; exact Kd.R_nil _ _ _ _ _, Below.refl _ _⟩
    · have HH := Aside0.mk ((waits_at h2 hz).trans (risK_all hn id L[j].f2 L[j].f3).symm)
      have hb : (L[j].f3 == 0) = false := beq_eq_false_iff_ne.2 hz
      clear h h1 h2 hB x h3 hn hz
      go_enter Try.func29, Try.ntmps29
      go_wp2_with (first | (go_at_call 42; have hp := find_calls rb (some ad) c last L id w H.out; rw [HX.out] at hp; (with_reducible refine hp.mono ?_); rintro e w1 ⟨rfl, rfl⟩; clear hp))
      go_loopw [6, 7] (fun v6 v7 wr => ∃ i : Nat, i ≤ L.length ∧ v7 = .int .i64 i ∧ Aside0 (Kd.R (Kd.int .i64) 2 wr w.heap.size (fun _ => True) v6 (risK id L[j].f2 L[j].f3 (L.take i))) ∧ Aside0 (Below w.heap.size w wr)) (fun _ v7 _ => L.length - (intOf v7).toNat)
      case atStart => exact ⟨0, Nat.zero_le _, rfl, ⟨Kd.R_nil _ _ _ _ _⟩, ⟨Below.refl _ _⟩⟩
      case round =>
        obtain ⟨i, hi, rfl, HO, HB⟩ := hrel
        have H1 := Aside0.mk (H.out.below HB.out); have HE1 := Aside0.mk (HE.out.below HB.out)
        replace k0 := H1.out.k0; replace f2 := HE1.out.f2; replace f3 := HE1.out.f3
        by_cases hl : i < L.length
        · have hd : decide ((i : Int) < (L.length : Int)) = true := decide_eq_true (by omega)
          obtain ⟨B1, b1, B2, b2, y⟩ := H1.out.el' i hl
          have HY := Aside0.mk y
          have y0 := y.f0; have y1 := y.f1; have y2 := y.f2; have y3 := y.f3
          clear y
          have HTK := Aside0.mk (show risK id L[j].f2 L[j].f3 (L.take (i + 1)) = if condK id L[j].f2 L[j].f3 L[i] = true then insI (risK id L[j].f2 L[j].f3 (L.take i)) L[i].f0 else risK id L[j].f2 L[j].f3 (L.take i) by rw [List.take_succ_eq_append_getElem hl, risK_snoc])
          by_cases hij : i = j
          · have HTN := Aside0.mk (show risK id L[j].f2 L[j].f3 (L.take i) = risK id L[j].f2 L[j].f3 (L.take (i + 1)) by rw [HTK.out, if_neg (by unfold condK; subst hij; rw [HFJ.out]; simp)])
            have hne : ((i : Int) != (j : Int)) = false := bne_eq_false_iff_eq.2 (by omega)
            clear HTK
            go_wp2
            go_quiet (fail)
            rw [HTN.out] at HO
            go_wp2
            go_roundw
            case rel => exact ⟨i + 1, by omega, by first | rfl | go_num, ⟨Kd.R_drewN HO.out _⟩, ⟨pw_below_drewN HB.out _⟩⟩
            case measure => simp [intOf]; omega
          · obtain ⟨KK, hK⟩ := rkeeps_ev L[i] L[j].f2 L[j].f3 (Kd.C_max HY.out.g1) (Kd.C_max HY.out.g2) (Kd.C_max HE1.out.g2)
            have hne : ((i : Int) != (j : Int)) = true := bne_iff_ne.2 (by omega)
            have hci : condK id L[j].f2 L[j].f3 L[i] = keepB L[i].f1 L[i].f2 L[i].f3 L[j].f2 L[j].f3 := by have e : decide (L[i].f0 ≠ id) = true := decide_eq_true (fun e => hij (ids_at HND.out hl hj (e.trans HFJ.out.symm))); unfold condK; rw [e, Bool.true_and]
            rw [hci] at HTK
            clear hij hci
            cases hkb : keepB L[i].f1 L[i].f2 L[i].f3 L[j].f2 L[j].f3 with
            | true =>
              rw [hkb] at HTK hK
              have HTN := Aside0.mk (HTK.out.trans (if_pos rfl))
              have HK := Aside0.mk hK
              clear hkb hK HTK
              go_wp2
              refine start_ (n := 29) (S := (fun w' => w'.cell? ⟨rb, 0, none⟩ = some (.slice (some ad) L.length c) ∧ w'.cell? (ad.add (i * 4)) = some (.int .i64 L[i].f0) ∧ w'.cell? ⟨(ad.add (i * 4)).block, (ad.add (i * 4)).off + 1, none⟩ = some (.slice B1 L[i].f1.length b1) ∧ w'.cell? ⟨(ad.add (i * 4)).block, (ad.add (i * 4)).off + 2, none⟩ = some (.slice B2 L[i].f2.length b2) ∧ w'.cell? ⟨(ad.add (i * 4)).block, (ad.add (i * 4)).off + 3, none⟩ = some (.int .i64 L[i].f3) ∧ w'.cell? ⟨(ad.add (j * 4)).block, (ad.add (j * 4)).off + 2, none⟩ = some (.slice A2 L[j].f2.length c2) ∧ w'.cell? ⟨(ad.add (j * 4)).block, (ad.add (j * 4)).off + 3, none⟩ = some (.int .i64 L[j].f3))) (ds := []) (Sh.m 0 29) (by kernel_rfl) rfl rfl ⟨k0, y0, y1, y2, y3, f2, f3⟩ (fun hHeld => ?_)
              (have nn_ := Aside0.mk (Kd.R_drew HO.out); clear HO; have HO := nn_; clear nn_; have nn_ := Aside0.mk (below_drew1 HB.out); clear HB; have HB := nn_; clear nn_; have nn_ := Aside0.mk (HY.out.below (below_drew1 (Below.refl _ _))); clear HY; have HY := nn_; clear nn_; have nn_ := Aside0.mk (HE1.out.below (below_drew1 (Below.refl _ _))); clear HE1; have HE1 := nn_; clear nn_; clear H1 k0 y0 y1 y2 y3 f2 f3; generalize wr.drew = W1 at HO HB HY HE1 hHeld ⊢)
              refine pure_ (i := 0) (N := some 33) (v := ?_) (a' := ?_) (Sh.m 1 28) rfl rfl (by kernel_rfl) (fun _ _ _ h => h) (Or.inl ⟨by rfl, ?_⟩) ?_ ?_
              rotate_left
              · intro w'
                go_simp
                with_reducible rfl
              rotate_left
              · simp only [Act.put, List.setIfInBounds_toArray, List.set_cons_zero, List.set_cons_succ, i64_w, i32_w]
                rfl
              refine pure_ (i := 1) (N := some 34) (v := ?_) (a' := ?_) (Sh.m 2 27) rfl rfl (by kernel_rfl) (fun _ _ _ h => h) (Or.inl ⟨by rfl, ?_⟩) ?_ ?_
              rotate_left
              · intro w'
                go_simp
                with_reducible rfl
              rotate_left
              · simp only [Act.put, List.setIfInBounds_toArray, List.set_cons_zero, List.set_cons_succ, i64_w, i32_w]
                rfl
              refine pure_ (i := 2) (N := some 35) (v := ?_) (a' := ?_) (Sh.m 3 26) rfl rfl (by kernel_rfl) (fun _ _ _ h => h) (Or.inl ⟨by rfl, ?_⟩) ?_ ?_
              rotate_left
              · intro w'
                go_simp
                with_reducible rfl
              rotate_left
              · simp only [Act.put, List.setIfInBounds_toArray, List.set_cons_zero, List.set_cons_succ, i64_w, i32_w]
                rfl
              refine pure_ (i := 3) (N := some 36) (v := ?_) (a' := ?_) (Sh.m 4 25) rfl rfl (by kernel_rfl) (fun _ _ _ h => h) (Or.inl ⟨by rfl, ?_⟩) ?_ ?_
              rotate_left
              · intro w'
                go_simp
                with_reducible rfl
              rotate_left
              · simp only [Act.put, List.setIfInBounds_toArray, List.set_cons_zero, List.set_cons_succ, i64_w, i32_w]
                rfl
              refine pure_ (i := 4) (N := some 37) (v := ?_) (a' := ?_) (Sh.m 5 24) rfl rfl (by kernel_rfl) (fun _ _ _ h => h) (Or.inl ⟨by rfl, ?_⟩) ?_ ?_
              rotate_left
              · intro w'
                go_simp
                with_reducible rfl
              rotate_left
              · simp only [Act.put, List.setIfInBounds_toArray, List.set_cons_zero, List.set_cons_succ, i64_w, i32_w]
                rfl
              refine pure_ (i := 5) (N := some 38) (v := ?_) (a' := ?_) (Sh.m 6 23) rfl rfl (by kernel_rfl) (fun _ _ _ h => h) (Or.inl ⟨by rfl, ?_⟩) ?_ ?_
              rotate_left
              · intro w'
                go_simp
                with_reducible rfl
              rotate_left
              · simp only [Act.put, List.setIfInBounds_toArray, List.set_cons_zero, List.set_cons_succ, i64_w, i32_w]
                rfl
              refine pure_ (i := 6) (N := some 39) (v := ?_) (a' := ?_) (Sh.m 7 22) rfl rfl (by kernel_rfl) (fun _ _ _ h => h) (Or.inl ⟨by rfl, ?_⟩) ?_ ?_
              rotate_left
              · intro w'
                go_simp
                with_reducible rfl
              rotate_left
              · simp only [Act.put, List.setIfInBounds_toArray, List.set_cons_zero, List.set_cons_succ, i64_w, i32_w]
                rfl
              refine take_ (i := 7) (N := some 40) (v := ?_) (a' := ?_) (Sh.m 8 21) rfl rfl (by kernel_rfl) (fun _ _ _ h => h) (Or.inl ⟨by rfl, ?_⟩) hHeld ?_ ?_
              rotate_left
              · rintro w' ⟨s0, s1, s2, s3, s4, s5, s6⟩
                go_simp
                with_reducible rfl
              rotate_left
              · simp only [Act.put, List.setIfInBounds_toArray, List.set_cons_zero, List.set_cons_succ, i64_w, i32_w]
                rfl
              refine pure_ (i := 8) (N := some 41) (v := ?_) (a' := ?_) (Sh.m 9 20) rfl rfl (by kernel_rfl) (fun _ _ _ h => h) (Or.inl ⟨by rfl, ?_⟩) ?_ ?_
              rotate_left
              · intro w'
                go_simp
                with_reducible rfl
              rotate_left
              · simp only [Act.put, List.setIfInBounds_toArray, List.set_cons_zero, List.set_cons_succ, i64_w, i32_w]
                rfl
              refine pure_ (i := 9) (N := some 42) (v := ?_) (a' := ?_) (Sh.m 10 19) rfl rfl (by kernel_rfl) (fun _ _ _ h => h) (Or.inl ⟨by rfl, ?_⟩) ?_ ?_
              rotate_left
              · intro w'
                go_simp
                with_reducible rfl
              rotate_left
              · simp only [Act.put, List.setIfInBounds_toArray, List.set_cons_zero, List.set_cons_succ, i64_w, i32_w]
                rfl
              refine take_ (i := 10) (N := some 43) (v := ?_) (a' := ?_) (Sh.m 11 18) rfl rfl (by kernel_rfl) (fun _ _ _ h => h) (Or.inl ⟨by rfl, ?_⟩) hHeld ?_ ?_
              rotate_left
              · rintro w' ⟨s0, s1, s2, s3, s4, s5, s6⟩
                go_simp
                with_reducible rfl
              rotate_left
              · simp only [Act.put, List.setIfInBounds_toArray, List.set_cons_zero, List.set_cons_succ, i64_w, i32_w]
                rfl
              refine pure_ (i := 11) (N := some 44) (v := ?_) (a' := ?_) (Sh.m 12 17) rfl rfl (by kernel_rfl) (fun _ _ _ h => h) (Or.inl ⟨by rfl, ?_⟩) ?_ ?_
              rotate_left
              · intro w'
                go_simp
                with_reducible rfl
              rotate_left
              · simp only [Act.put, List.setIfInBounds_toArray, List.set_cons_zero, List.set_cons_succ, i64_w, i32_w]
                rfl
              refine pure_ (i := 12) (N := some 45) (v := ?_) (a' := ?_) (Sh.m 13 16) rfl rfl (by kernel_rfl) (fun _ _ _ h => h) (Or.inl ⟨by rfl, ?_⟩) ?_ ?_
              rotate_left
              · intro w'
                go_simp
                with_reducible rfl
              rotate_left
              · simp only [Act.put, List.setIfInBounds_toArray, List.set_cons_zero, List.set_cons_succ, i64_w, i32_w]
                rfl
              refine pure_ (i := 13) (N := some 46) (v := ?_) (a' := ?_) (Sh.m 14 15) rfl rfl (by kernel_rfl) (fun _ _ _ h => h) (Or.inl ⟨by rfl, ?_⟩) ?_ ?_
              rotate_left
              · intro w'
                go_simp
                with_reducible rfl
              rotate_left
              · simp only [Act.put, List.setIfInBounds_toArray, List.set_cons_zero, List.set_cons_succ, i64_w, i32_w]
                rfl
              refine take_ (i := 14) (N := some 47) (v := ?_) (a' := ?_) (Sh.m 15 14) rfl rfl (by kernel_rfl) (fun _ _ _ h => h) (Or.inl ⟨by rfl, ?_⟩) hHeld ?_ ?_
              rotate_left
              · rintro w' ⟨s0, s1, s2, s3, s4, s5, s6⟩
                go_simp
                with_reducible rfl
              rotate_left
              · simp only [Act.put, List.setIfInBounds_toArray, List.set_cons_zero, List.set_cons_succ, i64_w, i32_w]
                rfl
              refine pure_ (i := 15) (N := some 48) (v := ?_) (a' := ?_) (Sh.m 16 13) rfl rfl (by kernel_rfl) (fun _ _ _ h => h) (Or.inl ⟨by rfl, ?_⟩) ?_ ?_
              rotate_left
              · intro w'
                go_simp
                with_reducible rfl
              rotate_left
              · simp only [Act.put, List.setIfInBounds_toArray, List.set_cons_zero, List.set_cons_succ, i64_w, i32_w]
                rfl
              refine pure_ (i := 16) (N := some 49) (v := ?_) (a' := ?_) (Sh.m 17 12) rfl rfl (by kernel_rfl) (fun _ _ _ h => h) (Or.inl ⟨by rfl, ?_⟩) ?_ ?_
              rotate_left
              · intro w'
                go_simp
                with_reducible rfl
              rotate_left
              · simp only [Act.put, List.setIfInBounds_toArray, List.set_cons_zero, List.set_cons_succ, i64_w, i32_w]
                rfl
              refine pure_ (i := 17) (N := some 50) (v := ?_) (a' := ?_) (Sh.m 18 11) rfl rfl (by kernel_rfl) (fun _ _ _ h => h) (Or.inl ⟨by rfl, ?_⟩) ?_ ?_
              rotate_left
              · intro w'
                go_simp
                with_reducible rfl
              rotate_left
              · simp only [Act.put, List.setIfInBounds_toArray, List.set_cons_zero, List.set_cons_succ, i64_w, i32_w]
                rfl
              refine take_ (i := 18) (N := some 51) (v := ?_) (a' := ?_) (Sh.m 19 10) rfl rfl (by kernel_rfl) (fun _ _ _ h => h) (Or.inl ⟨by rfl, ?_⟩) hHeld ?_ ?_
              rotate_left
              · rintro w' ⟨s0, s1, s2, s3, s4, s5, s6⟩
                go_simp
                with_reducible rfl
              rotate_left
              · simp only [Act.put, List.setIfInBounds_toArray, List.set_cons_zero, List.set_cons_succ, i64_w, i32_w]
                rfl
              refine pure_ (i := 19) (N := some 52) (v := ?_) (a' := ?_) (Sh.m 20 9) rfl rfl (by kernel_rfl) (fun _ _ _ h => h) (Or.inl ⟨by rfl, ?_⟩) ?_ ?_
              rotate_left
              · intro w'
                go_simp
                with_reducible rfl
              rotate_left
              · simp only [Act.put, List.setIfInBounds_toArray, List.set_cons_zero, List.set_cons_succ, i64_w, i32_w]
                rfl
              refine pure_ (i := 20) (N := some 53) (v := ?_) (a' := ?_) (Sh.m 21 8) rfl rfl (by kernel_rfl) (fun _ _ _ h => h) (Or.inl ⟨by rfl, ?_⟩) ?_ ?_
              rotate_left
              · intro w'
                go_simp
                with_reducible rfl
              rotate_left
              · simp only [Act.put, List.setIfInBounds_toArray, List.set_cons_zero, List.set_cons_succ, i64_w, i32_w]
                rfl
              refine pure_ (i := 21) (N := some 54) (v := ?_) (a' := ?_) (Sh.m 22 7) rfl rfl (by kernel_rfl) (fun _ _ _ h => h) (Or.inl ⟨by rfl, ?_⟩) ?_ ?_
              rotate_left
              · intro w'
                go_simp
                with_reducible rfl
              rotate_left
              · simp only [Act.put, List.setIfInBounds_toArray, List.set_cons_zero, List.set_cons_succ, i64_w, i32_w]
                rfl
              refine take_ (i := 22) (N := some 55) (v := ?_) (a' := ?_) (Sh.m 23 6) rfl rfl (by kernel_rfl) (fun _ _ _ h => h) (Or.inl ⟨by rfl, ?_⟩) hHeld ?_ ?_
              rotate_left
              · rintro w' ⟨s0, s1, s2, s3, s4, s5, s6⟩
                go_simp
                with_reducible rfl
              rotate_left
              · simp only [Act.put, List.setIfInBounds_toArray, List.set_cons_zero, List.set_cons_succ, i64_w, i32_w]
                rfl
              refine pure_ (i := 23) (N := some 56) (v := ?_) (a' := ?_) (Sh.m 24 5) rfl rfl (by kernel_rfl) (fun _ _ _ h => h) (Or.inl ⟨by rfl, ?_⟩) ?_ ?_
              rotate_left
              · intro w'
                go_simp
                with_reducible rfl
              rotate_left
              · simp only [Act.put, List.setIfInBounds_toArray, List.set_cons_zero, List.set_cons_succ, i64_w, i32_w]
                rfl
              refine pure_ (i := 24) (N := some 57) (v := ?_) (a' := ?_) (Sh.m 25 4) rfl rfl (by kernel_rfl) (fun _ _ _ h => h) (Or.inl ⟨by rfl, ?_⟩) ?_ ?_
              rotate_left
              · intro w'
                go_simp
                with_reducible rfl
              rotate_left
              · simp only [Act.put, List.setIfInBounds_toArray, List.set_cons_zero, List.set_cons_succ, i64_w, i32_w]
                rfl
              refine pure_ (i := 25) (N := some 58) (v := ?_) (a' := ?_) (Sh.m 26 3) rfl rfl (by kernel_rfl) (fun _ _ _ h => h) (Or.inl ⟨by rfl, ?_⟩) ?_ ?_
              rotate_left
              · intro w'
                go_simp
                with_reducible rfl
              rotate_left
              · simp only [Act.put, List.setIfInBounds_toArray, List.set_cons_zero, List.set_cons_succ, i64_w, i32_w]
                rfl
              refine take_ (i := 26) (N := some 59) (v := ?_) (a' := ?_) (Sh.m 27 2) rfl rfl (by kernel_rfl) (fun _ _ _ h => h) (Or.inl ⟨by rfl, ?_⟩) hHeld ?_ ?_
              rotate_left
              · rintro w' ⟨s0, s1, s2, s3, s4, s5, s6⟩
                go_simp
                with_reducible rfl
              rotate_left
              · simp only [Act.put, List.setIfInBounds_toArray, List.set_cons_zero, List.set_cons_succ, i64_w, i32_w]
                rfl
              refine one_ (i := 27) (N := some 60) (Sh.m 28 1) rfl rfl (by kernel_rfl) (by decide) (fun K hK => ?_)
              refine goes_ Try.func46 (by kernel_rfl) rfl #[.agg #[.int .i64 L[i].f0, .slice B1 L[i].f1.length b1, .slice B2 L[i].f2.length b2, .int .i64 L[i].f3], .slice A2 L[j].f2.length c2, .int .i64 L[j].f3] (by rfl) rfl rfl (by (try simp only [List.map_toArray, List.map_cons, List.map_nil]); first | done | rfl) ?_
              with_reducible refine (storemanref24_keeps.calls KK L[i].f0 B1 b1 L[i].f1 B2 b2 L[i].f2 L[i].f3 A2 c2 L[j].f2 L[j].f3 true _ HY.out.g1 HY.out.l1 HY.out.g2 HY.out.l2 HE1.out.g2 HE1.out.l2 HK.out).mono ?_
              rintro e W2 ⟨rfl, hb⟩
              refine ⟨_, rfl, ?_⟩
              obtain ⟨k0, y0, y1, y2, y3, f2, f3⟩ := hHeld
              have nn_ := Aside0.mk (Kd.R_below HO.out hb); clear HO; have HO := nn_; clear nn_
              have nn_ := Aside0.mk (below_step HB.out hb); clear HB; have HB := nn_; clear nn_
              refine hK.out _ _ ⟨pw_cell_below hb k0, pw_cell_below hb y0, pw_cell_below hb y1, pw_cell_below hb y2, pw_cell_below hb y3, pw_cell_below hb f2, pw_cell_below hb f3⟩ (fun hHeld => ?_)
              clear hK K
              refine norm_ (a' := ?_) ?_ ?_
              rotate_left
              · show Act.put _ (some 60) _ = _
                simp only [Act.put, List.setIfInBounds_toArray, List.set_cons_zero, List.set_cons_succ, i64_w, i32_w]
                rfl
              refine pure_ (i := 28) (N := some 61) (v := ?_) (a' := ?_) (Sh.m 29 0) rfl rfl (by kernel_rfl) (fun _ _ _ h => h) (Or.inl ⟨by rfl, ?_⟩) ?_ ?_
              rotate_left
              · intro w'
                go_simp
                with_reducible rfl
              rotate_left
              · simp only [Act.put, List.setIfInBounds_toArray, List.set_cons_zero, List.set_cons_succ, i64_w, i32_w]
                rfl
              refine done_ (by kernel_rfl) ?_
              obtain ⟨k0, y0, y1, y2, y3, f2, f3⟩ := hHeld
              obtain ⟨K2, hK2⟩ := rrising_ev (risK id L[j].f2 L[j].f3 (L.take i)) L[i].f0 (by have h1 := risK_len id L[j].f2 L[j].f3 i (L.take i) (by rw [List.length_take]; omega); have h2 := HBN.out.1; omega)
              have HK2 := Aside0.mk hK2
              clear hK2
              rw [← HTN.out] at HK2
              go_wp2_with (first | (go_at_call 47; have hp := storemanref24_rising.calls K2 (fun _ => True) u6 (risK id L[j].f2 L[j].f3 (L.take i)) L[i].f0 _ w _ HB.out HO.out HK2.out; (with_reducible refine hp.mono ?_); rintro e W3 ⟨v3, rfl, hR, hb, hk_⟩; have HR3 := Aside0.mk (Kd.R_mono (ok' := fun _ => True) hR (fun _ _ => trivial)); have HB3 := Aside0.mk hb; clear hp hR hb hk_))
              go_roundw
              case rel => exact ⟨i + 1, by omega, by first | rfl | go_num, HR3, HB3⟩
              case measure => simp [intOf]; omega
            | false =>
              rw [hkb] at HTK hK
              have HTN := Aside0.mk (HTK.out.trans (if_neg (by simp)))
              have HK := Aside0.mk hK
              clear hkb hK HTK
              go_wp2
              refine start_ (n := 29) (S := (fun w' => w'.cell? ⟨rb, 0, none⟩ = some (.slice (some ad) L.length c) ∧ w'.cell? (ad.add (i * 4)) = some (.int .i64 L[i].f0) ∧ w'.cell? ⟨(ad.add (i * 4)).block, (ad.add (i * 4)).off + 1, none⟩ = some (.slice B1 L[i].f1.length b1) ∧ w'.cell? ⟨(ad.add (i * 4)).block, (ad.add (i * 4)).off + 2, none⟩ = some (.slice B2 L[i].f2.length b2) ∧ w'.cell? ⟨(ad.add (i * 4)).block, (ad.add (i * 4)).off + 3, none⟩ = some (.int .i64 L[i].f3) ∧ w'.cell? ⟨(ad.add (j * 4)).block, (ad.add (j * 4)).off + 2, none⟩ = some (.slice A2 L[j].f2.length c2) ∧ w'.cell? ⟨(ad.add (j * 4)).block, (ad.add (j * 4)).off + 3, none⟩ = some (.int .i64 L[j].f3))) (ds := []) (Sh.m 0 29) (by kernel_rfl) rfl rfl ⟨k0, y0, y1, y2, y3, f2, f3⟩ (fun hHeld => ?_)
              (have nn_ := Aside0.mk (Kd.R_drew HO.out); clear HO; have HO := nn_; clear nn_; have nn_ := Aside0.mk (below_drew1 HB.out); clear HB; have HB := nn_; clear nn_; have nn_ := Aside0.mk (HY.out.below (below_drew1 (Below.refl _ _))); clear HY; have HY := nn_; clear nn_; have nn_ := Aside0.mk (HE1.out.below (below_drew1 (Below.refl _ _))); clear HE1; have HE1 := nn_; clear nn_; clear H1 k0 y0 y1 y2 y3 f2 f3; generalize wr.drew = W1 at HO HB HY HE1 hHeld ⊢)
              refine pure_ (i := 0) (N := some 33) (v := ?_) (a' := ?_) (Sh.m 1 28) rfl rfl (by kernel_rfl) (fun _ _ _ h => h) (Or.inl ⟨by rfl, ?_⟩) ?_ ?_
              rotate_left
              · intro w'
                go_simp
                with_reducible rfl
              rotate_left
              · simp only [Act.put, List.setIfInBounds_toArray, List.set_cons_zero, List.set_cons_succ, i64_w, i32_w]
                rfl
              refine pure_ (i := 1) (N := some 34) (v := ?_) (a' := ?_) (Sh.m 2 27) rfl rfl (by kernel_rfl) (fun _ _ _ h => h) (Or.inl ⟨by rfl, ?_⟩) ?_ ?_
              rotate_left
              · intro w'
                go_simp
                with_reducible rfl
              rotate_left
              · simp only [Act.put, List.setIfInBounds_toArray, List.set_cons_zero, List.set_cons_succ, i64_w, i32_w]
                rfl
              refine pure_ (i := 2) (N := some 35) (v := ?_) (a' := ?_) (Sh.m 3 26) rfl rfl (by kernel_rfl) (fun _ _ _ h => h) (Or.inl ⟨by rfl, ?_⟩) ?_ ?_
              rotate_left
              · intro w'
                go_simp
                with_reducible rfl
              rotate_left
              · simp only [Act.put, List.setIfInBounds_toArray, List.set_cons_zero, List.set_cons_succ, i64_w, i32_w]
                rfl
              refine pure_ (i := 3) (N := some 36) (v := ?_) (a' := ?_) (Sh.m 4 25) rfl rfl (by kernel_rfl) (fun _ _ _ h => h) (Or.inl ⟨by rfl, ?_⟩) ?_ ?_
              rotate_left
              · intro w'
                go_simp
                with_reducible rfl
              rotate_left
              · simp only [Act.put, List.setIfInBounds_toArray, List.set_cons_zero, List.set_cons_succ, i64_w, i32_w]
                rfl
              refine pure_ (i := 4) (N := some 37) (v := ?_) (a' := ?_) (Sh.m 5 24) rfl rfl (by kernel_rfl) (fun _ _ _ h => h) (Or.inl ⟨by rfl, ?_⟩) ?_ ?_
              rotate_left
              · intro w'
                go_simp
                with_reducible rfl
              rotate_left
              · simp only [Act.put, List.setIfInBounds_toArray, List.set_cons_zero, List.set_cons_succ, i64_w, i32_w]
                rfl
              refine pure_ (i := 5) (N := some 38) (v := ?_) (a' := ?_) (Sh.m 6 23) rfl rfl (by kernel_rfl) (fun _ _ _ h => h) (Or.inl ⟨by rfl, ?_⟩) ?_ ?_
              rotate_left
              · intro w'
                go_simp
                with_reducible rfl
              rotate_left
              · simp only [Act.put, List.setIfInBounds_toArray, List.set_cons_zero, List.set_cons_succ, i64_w, i32_w]
                rfl
              refine pure_ (i := 6) (N := some 39) (v := ?_) (a' := ?_) (Sh.m 7 22) rfl rfl (by kernel_rfl) (fun _ _ _ h => h) (Or.inl ⟨by rfl, ?_⟩) ?_ ?_
              rotate_left
              · intro w'
                go_simp
                with_reducible rfl
              rotate_left
              · simp only [Act.put, List.setIfInBounds_toArray, List.set_cons_zero, List.set_cons_succ, i64_w, i32_w]
                rfl
              refine take_ (i := 7) (N := some 40) (v := ?_) (a' := ?_) (Sh.m 8 21) rfl rfl (by kernel_rfl) (fun _ _ _ h => h) (Or.inl ⟨by rfl, ?_⟩) hHeld ?_ ?_
              rotate_left
              · rintro w' ⟨s0, s1, s2, s3, s4, s5, s6⟩
                go_simp
                with_reducible rfl
              rotate_left
              · simp only [Act.put, List.setIfInBounds_toArray, List.set_cons_zero, List.set_cons_succ, i64_w, i32_w]
                rfl
              refine pure_ (i := 8) (N := some 41) (v := ?_) (a' := ?_) (Sh.m 9 20) rfl rfl (by kernel_rfl) (fun _ _ _ h => h) (Or.inl ⟨by rfl, ?_⟩) ?_ ?_
              rotate_left
              · intro w'
                go_simp
                with_reducible rfl
              rotate_left
              · simp only [Act.put, List.setIfInBounds_toArray, List.set_cons_zero, List.set_cons_succ, i64_w, i32_w]
                rfl
              refine pure_ (i := 9) (N := some 42) (v := ?_) (a' := ?_) (Sh.m 10 19) rfl rfl (by kernel_rfl) (fun _ _ _ h => h) (Or.inl ⟨by rfl, ?_⟩) ?_ ?_
              rotate_left
              · intro w'
                go_simp
                with_reducible rfl
              rotate_left
              · simp only [Act.put, List.setIfInBounds_toArray, List.set_cons_zero, List.set_cons_succ, i64_w, i32_w]
                rfl
              refine take_ (i := 10) (N := some 43) (v := ?_) (a' := ?_) (Sh.m 11 18) rfl rfl (by kernel_rfl) (fun _ _ _ h => h) (Or.inl ⟨by rfl, ?_⟩) hHeld ?_ ?_
              rotate_left
              · rintro w' ⟨s0, s1, s2, s3, s4, s5, s6⟩
                go_simp
                with_reducible rfl
              rotate_left
              · simp only [Act.put, List.setIfInBounds_toArray, List.set_cons_zero, List.set_cons_succ, i64_w, i32_w]
                rfl
              refine pure_ (i := 11) (N := some 44) (v := ?_) (a' := ?_) (Sh.m 12 17) rfl rfl (by kernel_rfl) (fun _ _ _ h => h) (Or.inl ⟨by rfl, ?_⟩) ?_ ?_
              rotate_left
              · intro w'
                go_simp
                with_reducible rfl
              rotate_left
              · simp only [Act.put, List.setIfInBounds_toArray, List.set_cons_zero, List.set_cons_succ, i64_w, i32_w]
                rfl
              refine pure_ (i := 12) (N := some 45) (v := ?_) (a' := ?_) (Sh.m 13 16) rfl rfl (by kernel_rfl) (fun _ _ _ h => h) (Or.inl ⟨by rfl, ?_⟩) ?_ ?_
              rotate_left
              · intro w'
                go_simp
                with_reducible rfl
              rotate_left
              · simp only [Act.put, List.setIfInBounds_toArray, List.set_cons_zero, List.set_cons_succ, i64_w, i32_w]
                rfl
              refine pure_ (i := 13) (N := some 46) (v := ?_) (a' := ?_) (Sh.m 14 15) rfl rfl (by kernel_rfl) (fun _ _ _ h => h) (Or.inl ⟨by rfl, ?_⟩) ?_ ?_
              rotate_left
              · intro w'
                go_simp
                with_reducible rfl
              rotate_left
              · simp only [Act.put, List.setIfInBounds_toArray, List.set_cons_zero, List.set_cons_succ, i64_w, i32_w]
                rfl
              refine take_ (i := 14) (N := some 47) (v := ?_) (a' := ?_) (Sh.m 15 14) rfl rfl (by kernel_rfl) (fun _ _ _ h => h) (Or.inl ⟨by rfl, ?_⟩) hHeld ?_ ?_
              rotate_left
              · rintro w' ⟨s0, s1, s2, s3, s4, s5, s6⟩
                go_simp
                with_reducible rfl
              rotate_left
              · simp only [Act.put, List.setIfInBounds_toArray, List.set_cons_zero, List.set_cons_succ, i64_w, i32_w]
                rfl
              refine pure_ (i := 15) (N := some 48) (v := ?_) (a' := ?_) (Sh.m 16 13) rfl rfl (by kernel_rfl) (fun _ _ _ h => h) (Or.inl ⟨by rfl, ?_⟩) ?_ ?_
              rotate_left
              · intro w'
                go_simp
                with_reducible rfl
              rotate_left
              · simp only [Act.put, List.setIfInBounds_toArray, List.set_cons_zero, List.set_cons_succ, i64_w, i32_w]
                rfl
              refine pure_ (i := 16) (N := some 49) (v := ?_) (a' := ?_) (Sh.m 17 12) rfl rfl (by kernel_rfl) (fun _ _ _ h => h) (Or.inl ⟨by rfl, ?_⟩) ?_ ?_
              rotate_left
              · intro w'
                go_simp
                with_reducible rfl
              rotate_left
              · simp only [Act.put, List.setIfInBounds_toArray, List.set_cons_zero, List.set_cons_succ, i64_w, i32_w]
                rfl
              refine pure_ (i := 17) (N := some 50) (v := ?_) (a' := ?_) (Sh.m 18 11) rfl rfl (by kernel_rfl) (fun _ _ _ h => h) (Or.inl ⟨by rfl, ?_⟩) ?_ ?_
              rotate_left
              · intro w'
                go_simp
                with_reducible rfl
              rotate_left
              · simp only [Act.put, List.setIfInBounds_toArray, List.set_cons_zero, List.set_cons_succ, i64_w, i32_w]
                rfl
              refine take_ (i := 18) (N := some 51) (v := ?_) (a' := ?_) (Sh.m 19 10) rfl rfl (by kernel_rfl) (fun _ _ _ h => h) (Or.inl ⟨by rfl, ?_⟩) hHeld ?_ ?_
              rotate_left
              · rintro w' ⟨s0, s1, s2, s3, s4, s5, s6⟩
                go_simp
                with_reducible rfl
              rotate_left
              · simp only [Act.put, List.setIfInBounds_toArray, List.set_cons_zero, List.set_cons_succ, i64_w, i32_w]
                rfl
              refine pure_ (i := 19) (N := some 52) (v := ?_) (a' := ?_) (Sh.m 20 9) rfl rfl (by kernel_rfl) (fun _ _ _ h => h) (Or.inl ⟨by rfl, ?_⟩) ?_ ?_
              rotate_left
              · intro w'
                go_simp
                with_reducible rfl
              rotate_left
              · simp only [Act.put, List.setIfInBounds_toArray, List.set_cons_zero, List.set_cons_succ, i64_w, i32_w]
                rfl
              refine pure_ (i := 20) (N := some 53) (v := ?_) (a' := ?_) (Sh.m 21 8) rfl rfl (by kernel_rfl) (fun _ _ _ h => h) (Or.inl ⟨by rfl, ?_⟩) ?_ ?_
              rotate_left
              · intro w'
                go_simp
                with_reducible rfl
              rotate_left
              · simp only [Act.put, List.setIfInBounds_toArray, List.set_cons_zero, List.set_cons_succ, i64_w, i32_w]
                rfl
              refine pure_ (i := 21) (N := some 54) (v := ?_) (a' := ?_) (Sh.m 22 7) rfl rfl (by kernel_rfl) (fun _ _ _ h => h) (Or.inl ⟨by rfl, ?_⟩) ?_ ?_
              rotate_left
              · intro w'
                go_simp
                with_reducible rfl
              rotate_left
              · simp only [Act.put, List.setIfInBounds_toArray, List.set_cons_zero, List.set_cons_succ, i64_w, i32_w]
                rfl
              refine take_ (i := 22) (N := some 55) (v := ?_) (a' := ?_) (Sh.m 23 6) rfl rfl (by kernel_rfl) (fun _ _ _ h => h) (Or.inl ⟨by rfl, ?_⟩) hHeld ?_ ?_
              rotate_left
              · rintro w' ⟨s0, s1, s2, s3, s4, s5, s6⟩
                go_simp
                with_reducible rfl
              rotate_left
              · simp only [Act.put, List.setIfInBounds_toArray, List.set_cons_zero, List.set_cons_succ, i64_w, i32_w]
                rfl
              refine pure_ (i := 23) (N := some 56) (v := ?_) (a' := ?_) (Sh.m 24 5) rfl rfl (by kernel_rfl) (fun _ _ _ h => h) (Or.inl ⟨by rfl, ?_⟩) ?_ ?_
              rotate_left
              · intro w'
                go_simp
                with_reducible rfl
              rotate_left
              · simp only [Act.put, List.setIfInBounds_toArray, List.set_cons_zero, List.set_cons_succ, i64_w, i32_w]
                rfl
              refine pure_ (i := 24) (N := some 57) (v := ?_) (a' := ?_) (Sh.m 25 4) rfl rfl (by kernel_rfl) (fun _ _ _ h => h) (Or.inl ⟨by rfl, ?_⟩) ?_ ?_
              rotate_left
              · intro w'
                go_simp
                with_reducible rfl
              rotate_left
              · simp only [Act.put, List.setIfInBounds_toArray, List.set_cons_zero, List.set_cons_succ, i64_w, i32_w]
                rfl
              refine pure_ (i := 25) (N := some 58) (v := ?_) (a' := ?_) (Sh.m 26 3) rfl rfl (by kernel_rfl) (fun _ _ _ h => h) (Or.inl ⟨by rfl, ?_⟩) ?_ ?_
              rotate_left
              · intro w'
                go_simp
                with_reducible rfl
              rotate_left
              · simp only [Act.put, List.setIfInBounds_toArray, List.set_cons_zero, List.set_cons_succ, i64_w, i32_w]
                rfl
              refine take_ (i := 26) (N := some 59) (v := ?_) (a' := ?_) (Sh.m 27 2) rfl rfl (by kernel_rfl) (fun _ _ _ h => h) (Or.inl ⟨by rfl, ?_⟩) hHeld ?_ ?_
              rotate_left
              · rintro w' ⟨s0, s1, s2, s3, s4, s5, s6⟩
                go_simp
                with_reducible rfl
              rotate_left
              · simp only [Act.put, List.setIfInBounds_toArray, List.set_cons_zero, List.set_cons_succ, i64_w, i32_w]
                rfl
              refine one_ (i := 27) (N := some 60) (Sh.m 28 1) rfl rfl (by kernel_rfl) (by decide) (fun K hK => ?_)
              refine goes_ Try.func46 (by kernel_rfl) rfl #[.agg #[.int .i64 L[i].f0, .slice B1 L[i].f1.length b1, .slice B2 L[i].f2.length b2, .int .i64 L[i].f3], .slice A2 L[j].f2.length c2, .int .i64 L[j].f3] (by rfl) rfl rfl (by (try simp only [List.map_toArray, List.map_cons, List.map_nil]); first | done | rfl) ?_
              with_reducible refine (storemanref24_keeps.calls KK L[i].f0 B1 b1 L[i].f1 B2 b2 L[i].f2 L[i].f3 A2 c2 L[j].f2 L[j].f3 false _ HY.out.g1 HY.out.l1 HY.out.g2 HY.out.l2 HE1.out.g2 HE1.out.l2 HK.out).mono ?_
              rintro e W2 ⟨rfl, hb⟩
              refine ⟨_, rfl, ?_⟩
              obtain ⟨k0, y0, y1, y2, y3, f2, f3⟩ := hHeld
              have nn_ := Aside0.mk (Kd.R_below HO.out hb); clear HO; have HO := nn_; clear nn_
              have nn_ := Aside0.mk (below_step HB.out hb); clear HB; have HB := nn_; clear nn_
              refine hK.out _ _ ⟨pw_cell_below hb k0, pw_cell_below hb y0, pw_cell_below hb y1, pw_cell_below hb y2, pw_cell_below hb y3, pw_cell_below hb f2, pw_cell_below hb f3⟩ (fun hHeld => ?_)
              clear hK K
              refine norm_ (a' := ?_) ?_ ?_
              rotate_left
              · show Act.put _ (some 60) _ = _
                simp only [Act.put, List.setIfInBounds_toArray, List.set_cons_zero, List.set_cons_succ, i64_w, i32_w]
                rfl
              refine pure_ (i := 28) (N := some 61) (v := ?_) (a' := ?_) (Sh.m 29 0) rfl rfl (by kernel_rfl) (fun _ _ _ h => h) (Or.inl ⟨by rfl, ?_⟩) ?_ ?_
              rotate_left
              · intro w'
                go_simp
                with_reducible rfl
              rotate_left
              · simp only [Act.put, List.setIfInBounds_toArray, List.set_cons_zero, List.set_cons_succ, i64_w, i32_w]
                rfl
              refine done_ (by kernel_rfl) ?_
              obtain ⟨k0, y0, y1, y2, y3, f2, f3⟩ := hHeld
              rw [← HTN.out] at HO
              go_wp2
              go_roundw
              case rel => exact ⟨i + 1, by omega, by first | rfl | go_num, HO, HB⟩
              case measure => simp [intOf]; omega
        · obtain rfl : i = L.length := by omega
          have hd : decide ((L.length : Int) < (L.length : Int)) = false := decide_eq_false (by omega)
          rw [List.take_length] at HO
          go_wp2
          go_ret
          exact ⟨_, rfl, by rw [HH.out]; exact HO.out, HB.out⟩
end Go.Proofs.Ytimlfdfmgajbnaa.PA
/-
Plain laws for LockEnds: a round has two works at least; where there is none, some work is kept by nobody, and may have all it asked for.
-/
namespace Go.Proofs.Ytimlfdfmgajbnaa.PA
open Go.RowKit Go.Proofs.YtimlfdfmgajbnaaW.PrintWords Go.Proofs.YtimlfdfmgajbnaaW.PrintLast Go.Proofs.YtimlfdfmgajbnaaW.PrintMore
set_option linter.unusedVariables false
set_option linter.unusedSimpArgs false
def idsL (L : List S79) : List Int := L.map (fun x => x.f0)
theorem nd_len : ∀ (p q : List Int), p.Nodup → (∀ x ∈ p, x ∈ q) → p.length ≤ q.length
  | [], _, _, _ => Nat.zero_le _
  | a :: p, q, hn, hs => by
    obtain ⟨h1, h2⟩ := List.nodup_cons.1 hn
    have ha := hs a (by simp)
    have h3 := nd_len p (q.erase a) h2 (fun x hx => (List.mem_erase_of_ne (fun e => h1 (by rw [← e]; exact hx))).2 (hs x (by simp [hx])))
    rw [List.length_erase_of_mem ha] at h3
    have : 0 < q.length := List.length_pos_of_mem ha
    simp only [List.length_cons]
    omega
theorem waits_mem {L : List S79} {a b : Int} (h : b ∈ waitsL L a) : b ∈ idsL L ∧ b ≠ a := by
  unfold waitsL at h
  split at h
  · cases h
  · rename_i x hx
    split at h
    · cases h
    · unfold sortI at h
      rw [List.mem_mergeSort] at h
      unfold keptL at h
      obtain ⟨y, hy, rfl⟩ := List.mem_map.1 h
      obtain ⟨h1, h2⟩ := List.mem_filter.1 hy
      simp only [Bool.and_eq_true, decide_eq_true_eq] at h2
      exact ⟨List.mem_map.2 ⟨y, h1, rfl⟩, h2.1⟩
theorem ReachL.mem {L : List S79} {a b : Int} (h : ReachL L a b) : b ∈ idsL L := by
  induction h with
  | one h => exact (waits_mem h).1
  | step _ _ ih => exact ih
theorem ReachL.trans {L : List S79} {a b c : Int} (h : ReachL L a b) (k : ReachL L b c) : ReachL L a c := by
  induction h with
  | one h => exact .step h k
  | step h _ ih => exact .step h (ih k)
/-! ### who waits for nothing wants nothing -/
end Go.Proofs.Ytimlfdfmgajbnaa.PA
