/-
lock.kept: the works that keep one, rising.
-/
import Derived.Test.YtimlfdfmgajbnaaLkS
namespace Go.Proofs.Ytimlfdfmgajbnaa.PA
open Go.RowKit Go.Proofs.YtimlfdfmgajbnaaW.PrintWords Go.Proofs.YtimlfdfmgajbnaaW.PrintLast Go.Proofs.YtimlfdfmgajbnaaW.PrintMore
open Go.Proofs.Ytimlfdfmgajbnaa.Mp
set_option linter.unusedVariables false
set_option linter.unusedSimpArgs false
set_option maxHeartbeats 8000000 in
set_option maxRecDepth 100000 in
theorem kept_calls (lb mb mn : Nat) (last : Int) (Q : List PW) (wk wm nw : Nat) (W : List ByteArray) (t : Int) (w : World) (h : LockAt w lb mb mn last Q) (hwk : ∃ c, w.heap[wk]? = some (.cells c 59 (0, 0))) (hw : SetIs w wm nw W) (hmn : mn ≤ 1000000) :
    Calls Try.prog 33 #[.pointer (some ⟨lb, 0, none⟩), .pointer (some ⟨wk, 0, none⟩), .map (some wm), .int .i64 t] w fun e w' => ∃ v, e = .returned v ∧ Kd.R (Kd.int .i64) 2 w' w.heap.size (fun _ => True) v (sortI (keptQ Q wk W t)) ∧ Below w.heap.size w w' := by
  obtain ⟨cw, hcw⟩ := hwk
  have HL := Aside0.mk h; have HW := Aside0.mk hw; have HK := Aside0.mk hcw; have HB := Aside0.mk (Below.refl w.heap.size w); have HMN := Aside0.mk hmn
  clear h hw hcw hmn
  go_enter Try.func33, Try.ntmps33
  go_wp2_with (first | ((with_reducible refine gate_dst (N := 5) rfl ?_); refine box_event ?hg (N := 5) ?hd (cs := #[.pointer (some ⟨wk, 0, none⟩)]) (t := 55) ?hr ?_; (case hd => rfl); (case hg => rfl); (case hr => first | (go_simp; done) | (go_simp; rfl)); intro g5 hg W1 hbox hb; have HBn := Aside0.mk (below_step HB.out hb); clear HB; have HB := HBn; clear HBn; have BK5 := Aside0.mk hbox; have G5 := Aside0.mk (by rw [hg]; exact Nat.le_refl _ : w.heap.size ≤ g5); clear hbox hb hg; have c5_0 : W1.cell? ⟨g5, 0, none⟩ = some (.pointer (some ⟨wk, 0, none⟩)) := (blk_cell BK5.out 0).trans rfl) | ((with_reducible refine gate_dst (N := 6) rfl ?_); refine box_event ?hg (N := 6) ?hd (cs := #[.map (some wm)]) (t := 57) ?hr ?_; (case hd => rfl); (case hg => rfl); (case hr => first | (go_simp; done) | (go_simp; rfl)); intro g6 hg W2 hbox hb; have hz := below_size HB.out; have HBn := Aside0.mk (below_step HB.out hb); clear HB; have HB := HBn; clear HBn; have nn_ := Aside0.mk (blk_below BK5.out hb); clear BK5; have BK5 := nn_; clear nn_; have BK6 := Aside0.mk hbox; have G6 := Aside0.mk (by rw [hg]; exact hz : w.heap.size ≤ g6); clear hbox hb hg hz; clear c5_0; have c5_0 : W2.cell? ⟨g5, 0, none⟩ = some (.pointer (some ⟨wk, 0, none⟩)) := (blk_cell BK5.out 0).trans rfl; have c6_0 : W2.cell? ⟨g6, 0, none⟩ = some (.map (some wm)) := (blk_cell BK6.out 0).trans rfl) | ((with_reducible refine gate_dst (N := 7) rfl ?_); refine box_event ?hg (N := 7) ?hd (cs := #[.int .i64 t]) (t := 3) ?hr ?_; (case hd => rfl); (case hg => rfl); (case hr => first | (go_simp; done) | (go_simp; rfl)); intro g7 hg W3 hbox hb; have hz := below_size HB.out; have HBn := Aside0.mk (below_step HB.out hb); clear HB; have HB := HBn; clear HBn; have nn_ := Aside0.mk (blk_below BK5.out hb); clear BK5; have BK5 := nn_; clear nn_; have nn_ := Aside0.mk (blk_below BK6.out hb); clear BK6; have BK6 := nn_; clear nn_; have BK7 := Aside0.mk hbox; have G7 := Aside0.mk (by rw [hg]; exact hz : w.heap.size ≤ g7); clear hbox hb hg hz; clear c5_0; have c5_0 : W3.cell? ⟨g5, 0, none⟩ = some (.pointer (some ⟨wk, 0, none⟩)) := (blk_cell BK5.out 0).trans rfl; clear c6_0; have c6_0 : W3.cell? ⟨g6, 0, none⟩ = some (.map (some wm)) := (blk_cell BK6.out 0).trans rfl; have c7_0 : W3.cell? ⟨g7, 0, none⟩ = some (.int .i64 t) := (blk_cell BK7.out 0).trans rfl; have cl := (by simp [World.cell?, (HL.out.below HB.out).l] : W3.cell? ⟨lb, 0, none⟩ = some (.map (some mb)))) | (at_range; refine range_event (HL.out.below HB.out).m rfl _ rfl keyed2 Try.underlying36 rfl ?_; intro ri hri W4 cnt hrg hcnt hg; have GR := Aside0.mk (by rw [hri]; exact below_size HB.out : w.heap.size ≤ ri); have HCN := Aside0.mk hcnt; have HRG := Aside0.mk hrg; have hN5 := blk_lt BK5.out; have hN6 := blk_lt BK6.out; have hN7 := blk_lt BK7.out; have HNE := Aside0.mk (show ri ≠ g5 ∧ ri ≠ g6 ∧ ri ≠ g7 from ⟨by omega, by omega, by omega⟩); have HBn := Aside0.mk (HB.out.grown hg (below_size HB.out) (fun k hk => by cases hk)); have B5 := Aside0.mk (blk_grown BK5.out hg (by intro h; cases h)); have B6 := Aside0.mk (blk_grown BK6.out hg (by intro h; cases h)); have B7 := Aside0.mk (blk_grown BK7.out hg (by intro h; cases h)); clear HB BK5 BK6 BK7 c5_0 c6_0 c7_0 cl hN5 hN6 hN7 hri hrg hcnt hg; have HB := HBn; clear HBn))
  go_frame
  go_loopw [10] (fun v10 wr => ∃ left cnt out, Aside0 (Ranges Try.prog 2 wr mb ri mn (worksF Q) left cnt) ∧ Aside0 (Kd.R (Kd.int .i64) 2 wr w.heap.size (fun k => w.heap.size ≤ k ∧ k ≠ ri ∧ k ≠ g5 ∧ k ≠ g6 ∧ k ≠ g7) v10 out) ∧ Aside0 (∀ n, n ∈ out ↔ ∃ q ∈ Q, q.2.f0 = n ∧ left (.int .i64 n) = false ∧ (decide (q.1.k ≠ wk) && keepB q.2.f1 q.2.f2 q.2.f3 W t) = true) ∧ Aside0 out.Nodup ∧ Aside0 (out.length + cnt ≤ mn) ∧ Aside0 (Below w.heap.size w wr) ∧ Aside0 (wr.heap[g5]? = some (.cells #[.pointer (some ⟨wk, 0, none⟩)] 55 (0, 0))) ∧ Aside0 (wr.heap[g6]? = some (.cells #[.map (some wm)] 57 (0, 0))) ∧ Aside0 (wr.heap[g7]? = some (.cells #[.int .i64 t] 3 (0, 0)))) (fun _ wr => wr.rangeLeft mb ri)
  case atStart => exact ⟨_, cnt, [], ⟨HRG.out⟩, ⟨Kd.R_nil _ _ _ _ _⟩, ⟨fun n => ⟨(fun h => by cases h), fun h => by obtain ⟨q, hq, rfl, hl, _⟩ := h; rw [worksF_mem HL.out.ids hq] at hl; cases hl⟩⟩, ⟨List.nodup_nil⟩, ⟨by rw [List.length_nil, Nat.zero_add]; exact HCN.out⟩, ⟨HB.out⟩, ⟨B5.out⟩, ⟨B6.out⟩, ⟨B7.out⟩⟩
  case round =>
    clear HRG HB B5 B6 B7
    obtain ⟨left, cnt, out, HRG, HN, HOUT, HND, HLE, HB, B5, B6, B7⟩ := hrel
    have HMS := Aside0.mk (HRG.out.left_eq)
    go_wp2_with (first | (at_next; refine next_event (Value.int .i64) (fun key kl hk => by obtain ⟨x, hx, _⟩ := Maps.keyOf_int_inv Try.underlying2 hk; exact ⟨x, hx⟩) HRG.out rfl _ rfl keyed2 rfl ?_ ?_))
    · intro hl0
      have HP := Aside0.mk (show sortI out = sortI (keptQ Q wk W t) from sortI_perm (nodup_perm HND.out (keptQ_nodup HL.out.ids wk W t) (fun n => by rw [HOUT.out n, keptQ_mem]; constructor; (rintro ⟨q, h1, h2, _, h3⟩; exact ⟨q, h1, h2, h3⟩); (rintro ⟨q, h1, h2, h3⟩; exact ⟨q, h1, h2, hl0 _, h3⟩))))
      clear hl0
      have HLN := Aside0.mk (show out.length < 4611686018427387904 by have := HLE.out; have := HMN.out; omega)
      go_wp2_with (first | (go_at_call 41; (with_reducible refine (sortInts_calls out u10 _ _ _ HN.out HLN.out).mono ?_); rintro e W3 ⟨rfl, hR, hg⟩; have HR := Aside0.mk (Kd.R_mono (ok' := fun _ => True) hR (fun _ _ => trivial)); have HBn := Aside0.mk (HB.out.grown hg (below_size HB.out) (fun k hk => Kd.R_base HN.out k hk)); clear HB hR hg; have HB := HBn; clear HBn))
      go_ret
      exact ⟨_, rfl, by rw [← HP.out]; exact HR.out, HB.out⟩
    · intro x v kl W2 cnt2 hkey hlk hf hrg hlt hg hen
      obtain ⟨x', ex, rfl, hwx⟩ := Maps.keyOf_int_inv Try.underlying2 hkey
      cases ex
      obtain ⟨q, hq, ekl, rfl⟩ := worksF_some hf
      obtain rfl : x = q.2.f0 := by injection ekl
      have HQ := Aside0.mk hq; have HLT := Aside0.mk hlt; have HLK := Aside0.mk hlk
      have hsz := hg.size
      have HNn := Aside0.mk (Kd.R_grown HN.out hg (fun k hk he => hk.2.1 (by cases he; rfl)))
      have HBn := Aside0.mk (HB.out.grown hg (below_size HB.out) (fun k hk => by cases hk; exact GR.out))
      have B5n := Aside0.mk (blk_grown B5.out hg (by intro h; cases h; exact HNE.out.1 rfl))
      have B6n := Aside0.mk (blk_grown B6.out hg (by intro h; cases h; exact HNE.out.2.1 rfl))
      have B7n := Aside0.mk (blk_grown B7.out hg (by intro h; cases h; exact HNE.out.2.2 rfl))
      clear HN HB B5 B6 B7 HRG
      have HN := HNn; have HB := HBn; have B5 := B5n; have B6 := B6n; have B7 := B7n; have HRG := Aside0.mk hrg
      clear HNn HBn B5n B6n B7n hrg hg hf hkey hlt ekl hwx hlk
      have HLW := Aside0.mk (HL.out.below HB.out)
      have HK1 := Aside0.mk ((HLW.out.wk q hq).k1 (b5 := g5) (b6 := g6) (b7 := g7) (wk := wk) (wm := wm) (nw := nw) (W := W) (t := t) (by simp [World.cell?, B5.out]) (by simp [World.cell?, B6.out]) (by simp [World.cell?, B7.out]) ⟨_, (HB.out.block wk (blk_lt HK.out)).trans HK.out⟩ (HW.out.below HB.out))
      clear hq
      cases hr : (decide (q.1.k ≠ wk) && keepB q.2.f1 q.2.f2 q.2.f3 W t) with
      | false =>
        have HR1 := Aside0.mk hr.symm
        have hmem : ∀ n, n ∈ out ↔ ∃ z ∈ Q, z.2.f0 = n ∧ (left (.int .i64 n) && !(Lit.int .i64 n).sameKey (.int .i64 q.2.f0)) = false ∧ (decide (z.1.k ≠ wk) && keepB z.2.f1 z.2.f2 z.2.f3 W t) = true := fun n => by
          rw [HOUT.out n]
          constructor
          · rintro ⟨z, h1, h2, h3, h4⟩; exact ⟨z, h1, h2, by rw [h3]; rfl, h4⟩
          · rintro ⟨z, h1, h2, h3, h4⟩
            refine ⟨z, h1, h2, ?_, h4⟩
            cases h5 : left (.int .i64 n) with
            | false => rfl
            | true =>
              rw [h5] at h3
              have h6 : n = q.2.f0 := by simpa [Lit.sameKey] using h3
              have h7 : z = q := ids_inj HL.out.ids h1 HQ.out (h2.trans h6)
              rw [h7, hr] at h4; cases h4
        have HMEM := Aside0.mk hmem; clear hmem hr
        go_wp2_with (first | (go_at_call 50; (with_reducible refine (kept1_calls g5 g6 g7 wk q.1.k q.1.hb q.1.wb wm q.1.nh q.1.nw nw q.2.f1 q.2.f2 W q.2.f3 t false _ HK1.out HR1.out).mono ?_); rintro e W3 ⟨rfl, hb⟩; have HNn := Aside0.mk (Kd.R_below HN.out hb); have HRGn := Aside0.mk (HRG.out.below hb); have B5n := Aside0.mk (blk_below B5.out hb); have B6n := Aside0.mk (blk_below B6.out hb); have B7n := Aside0.mk (blk_below B7.out hb); clear HN HRG B5 B6 B7 HLW HK1; have HBn := Aside0.mk (below_step HB.out hb); clear HB; have HB := HBn; clear HBn; have HN := HNn; have HRG := HRGn; have B5 := B5n; have B6 := B6n; have B7 := B7n; clear HNn HRGn B5n B6n B7n hb))
        go_roundw
        case rel => exact ⟨_, cnt2, out, ⟨HRG.out⟩, ⟨HN.out⟩, ⟨HMEM.out⟩, ⟨HND.out⟩, ⟨by have := HLE.out; have := HLT.out; omega⟩, ⟨HB.out⟩, ⟨B5.out⟩, ⟨B6.out⟩, ⟨B7.out⟩⟩
        case measure => rw [HRG.out.left_eq, HMS.out]; exact HLT.out
      | true =>
        have HR1 := Aside0.mk hr.symm
        have hmem : ∀ n, n ∈ out ++ [q.2.f0] ↔ ∃ z ∈ Q, z.2.f0 = n ∧ (left (.int .i64 n) && !(Lit.int .i64 n).sameKey (.int .i64 q.2.f0)) = false ∧ (decide (z.1.k ≠ wk) && keepB z.2.f1 z.2.f2 z.2.f3 W t) = true := fun n => by
          rw [List.mem_append, List.mem_singleton, HOUT.out n]
          constructor
          · rintro (⟨z, h1, h2, h3, h4⟩ | rfl)
            · exact ⟨z, h1, h2, by rw [h3]; rfl, h4⟩
            · exact ⟨q, HQ.out, rfl, by simp [Lit.sameKey], hr⟩
          · rintro ⟨z, h1, h2, h3, h4⟩
            cases h5 : left (.int .i64 n) with
            | false => exact .inl ⟨z, h1, h2, rfl, h4⟩
            | true =>
              rw [h5] at h3
              exact .inr (by simpa [Lit.sameKey] using h3)
        have hnd : (out ++ [q.2.f0]).Nodup := by
          refine List.nodup_append.2 ⟨HND.out, by simp, fun a ha b hb => ?_⟩
          rw [List.mem_singleton] at hb
          rintro rfl
          rw [hb] at ha
          obtain ⟨z, h1, h2, h3, h4⟩ := (HOUT.out _).1 ha
          rw [HLK.out] at h3; cases h3
        have HMEM := Aside0.mk hmem; have HND2 := Aside0.mk hnd; clear hmem hnd hr
        have LTo := Aside0.mk (Kd.R_lt HN.out); have LTr := Aside0.mk HRG.out.lt; have LT5 := Aside0.mk (blk_lt B5.out); have LT6 := Aside0.mk (blk_lt B6.out); have LT7 := Aside0.mk (blk_lt B7.out); have HSZ := Aside0.mk (below_size HB.out)
        go_wp2_with (first | (go_at_call 50; (with_reducible refine (kept1_calls g5 g6 g7 wk q.1.k q.1.hb q.1.wb wm q.1.nh q.1.nw nw q.2.f1 q.2.f2 W q.2.f3 t true _ HK1.out HR1.out).mono ?_); rintro e W3 ⟨rfl, hb⟩; have HZ2 := Aside0.mk hb.size; have HNn := Aside0.mk (Kd.R_below HN.out hb); have HRGn := Aside0.mk (HRG.out.below hb); have B5n := Aside0.mk (blk_below B5.out hb); have B6n := Aside0.mk (blk_below B6.out hb); have B7n := Aside0.mk (blk_below B7.out hb); clear HN HRG B5 B6 B7 HLW HK1; have HBn := Aside0.mk (below_step HB.out hb); clear HB; have HB := HBn; clear HBn; have HN := HNn; have HRG := HRGn; have B5 := B5n; have B6 := B6n; have B7 := B7n; clear HNn HRGn B5n B6n B7n hb) | ((with_reducible refine gate_builtin (b := .append) (xs := #[.tmp 27, .tmp 29]) rfl ?_); at_builtin; refine Kd.R_append (Kd.int .i64) (w0 := w) w.heap.size rfl (.tmp 27) (.tmp 29) 43 2 (.int .i64 0) 8 rfl Try.underlying43 info2 rfl (by decide) (by omega) u10 out q.2.f0 [.int .i64 q.2.f0] (fun k => w.heap.size ≤ k ∧ k ≠ ri ∧ k ≠ g5 ∧ k ≠ g6 ∧ k ≠ g7) (fun k => (fun k => w.heap.size ≤ k ∧ k ≠ ri ∧ k ≠ g5 ∧ k ≠ g6 ∧ k ≠ g7) k ∧ some k ≠ (u10 : Value).ownBlock) rfl rfl ?aP (fun _ hk => hk) ?aF ?aO ?aB ?aS ?aL ?_; (case aP => rfl); (case aB => exact HB.out); (case aF => exact fun k hk => ⟨Nat.le_trans (below_size HB.out) hk, fun he => by have := LTr.out; have := HZ2.out; omega, fun he => by have := LT5.out; have := HZ2.out; omega, fun he => by have := LT6.out; have := HZ2.out; omega, fun he => by have := LT7.out; have := HZ2.out; omega⟩); (case aO => exact HN.out); (case aS => exact below_size HB.out); (case aL => have := HLE.out; have := HMN.out; omega); intro v1 W5 ho hb hg hat; have HRGn := Aside0.mk (HRG.out.kept hg (fun he => by have h1 := HN.out.1 mb he.symm; have h2 := HL.out.m.lt; have h3 := h1.1; omega) (Kd.R_away HN.out (fun k hk => hk.2.1))); have B5n := Aside0.mk (blk_grown B5.out hg (Kd.R_away HN.out (fun k hk => hk.2.2.1))); have B6n := Aside0.mk (blk_grown B6.out hg (Kd.R_away HN.out (fun k hk => hk.2.2.2.1))); have B7n := Aside0.mk (blk_grown B7.out hg (Kd.R_away HN.out (fun k hk => hk.2.2.2.2))); clear HRG B5 B6 B7 HN HB; have HRG := HRGn; have B5 := B5n; have B6 := B6n; have B7 := B7n; have HN := Aside0.mk ho; have HB := Aside0.mk hb; clear ho hb hg hat HRGn B5n B6n B7n))
        go_roundw
        case rel => exact ⟨_, cnt2, _, ⟨HRG.out⟩, ⟨HN.out⟩, ⟨HMEM.out⟩, ⟨HND2.out⟩, ⟨by rw [List.length_append, List.length_singleton]; have := HLE.out; have := HLT.out; omega⟩, ⟨HB.out⟩, ⟨B5.out⟩, ⟨B6.out⟩, ⟨B7.out⟩⟩
        case measure => rw [HRG.out.left_eq, HMS.out]; exact HLT.out
end Go.Proofs.Ytimlfdfmgajbnaa.PA
