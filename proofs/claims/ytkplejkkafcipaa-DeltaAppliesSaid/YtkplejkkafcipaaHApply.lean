/-
delta.Apply: it answers what applyR says, whatever rows and turns come in.
-/
import Derived.Test.YtkplejkkafcipaaMapM
import Derived.Test.YtkplejkkafcipaaPAx1
namespace Go.Proofs.Ytkplejkkafcipaa.PA
open Go.RowKit Go.Proofs.YtkplejkkafcipaaW.PrintWords Go.Proofs.YtkplejkkafcipaaW.PrintLast Go.Proofs.YtkplejkkafcipaaW.PrintMore
open Go.Proofs.Ytkplejkkafcipaa.Mp
set_option linter.unusedVariables false
set_option linter.unusedSimpArgs false
set_option maxHeartbeats 8000000 in
set_option maxRecDepth 100000 in
theorem delta_Apply.calls (A0 : Option Addr) (c0 : Nat) (l : List S37) (A1 : Option Addr) (c1 : Nat) (t : List S43) (w : World) (hr0 : Kd.C k37 w A0 l.length l) (hc0 : l.length ≤ c0) (hr1 : Kd.C k43 w A1 t.length t) (hc1 : t.length ≤ c1) (hw0 : wfL l) (hw1 : wfT t) (hs0 : ∀ r ∈ l, r.f1.length < 140737488355328) (hs1 : ∀ x ∈ t, x.f2.length < 140737488355328) (hk0 : ∀ r ∈ l, r.f0.length ≤ 9223372036854775807) (hk1 : ∀ x ∈ t, x.f0.length ≤ 9223372036854775807) (hn : l.length + t.length ≤ 1000000) :
    Calls Try.prog 13 #[.slice A0 l.length c0, .slice A1 t.length c1] w fun e w' => ∃ A c, e = .returned (.tuple #[.slice A (applyR l t).1.length c, .bool (applyR l t).2]) ∧ (applyR l t).1.length ≤ c ∧ Kd.C k37 w' A (applyR l t).1.length (applyR l t).1 ∧ Below w.heap.size w w' := by
  obtain ⟨b0, ⟨K, hK⟩, hb0⟩ := dright_ev l (by omega) hw0
  have HK := Aside0.mk (hK K (Nat.le_refl _))
  clear hK
  have hu37 := Try.underlying37
  have hu43 := Try.underlying43
  have HR0 := Aside0.mk hr0
  have HC0 := Aside0.mk hc0
  have HR1 := Aside0.mk hr1
  have HC1 := Aside0.mk hc1
  have HW0 := Aside0.mk hw0
  have HW1 := Aside0.mk hw1
  have HS0 := Aside0.mk hs0
  have HS1 := Aside0.mk hs1
  have HK0 := Aside0.mk hk0
  have HK1 := Aside0.mk hk1
  have HB := Aside0.mk (Below.refl w.heap.size w)
  clear hr0 hc0 hr1 hc1 hw0 hw1 hs0 hs1 hk0 hk1
  cases b0 with
  | false =>
    have hnr : ¬ Right l := fun h => by have := hb0.2 h; cases this
    go_enter Try.func13, Try.ntmps13
    go_wp2_with (((with_reducible refine gate_callee (f := 24) rfl ?_); refine goesL_ (some 16) rfl rfl Try.func24 (by kernel_rfl) rfl #[.slice A0 l.length c0] rfl (by (try simp only [List.map_toArray, List.map_cons, List.map_nil]); first | done | rfl) ?_; (with_reducible refine (delta_right.calls K A0 c0 l false _ HR0.out HC0.out HK.out).mono ?_); rintro e W1 ⟨rfl, hb⟩; refine ⟨_, rfl, ?_⟩; have HBn := Aside0.mk (below_step HB.out hb); clear HB; have HB := HBn; clear HBn; clear hb))
    go_ret2
    rw [applyR_not hnr]
    exact ⟨none, 0, rfl, Nat.le_refl _, Kd.C_nil _ _, HB.out⟩
  | true =>
    have HRI := Aside0.mk (hb0.1 rfl)
    clear hb0
    go_enter Try.func13, Try.ntmps13
    go_wp2_with (first | ((with_reducible refine gate_callee (f := 24) rfl ?_); refine goesL_ (some 16) rfl rfl Try.func24 (by kernel_rfl) rfl #[.slice A0 l.length c0] rfl (by (try simp only [List.map_toArray, List.map_cons, List.map_nil]); first | done | rfl) ?_; (with_reducible refine (delta_right.calls K A0 c0 l true _ HR0.out HC0.out HK.out).mono ?_); rintro e W1 ⟨rfl, hb⟩; refine ⟨_, rfl, ?_⟩; have HBn := Aside0.mk (below_step HB.out hb); clear HB; have HB := HBn; clear HBn; clear hb) | ((with_reducible refine gate_dst (N := 18) rfl ?_); refine make_event rfl rfl 9 ?_; intro bm hbm W2 hm hb; have GB := Aside0.mk (by rw [hbm]; exact below_size HB.out : w.heap.size ≤ bm); have HBn := Aside0.mk (below_step HB.out hb); clear HB; have HB := HBn; clear HBn; have HM := Aside0.mk hm; clear hm hb hbm))
    go_loopw [21] (fun v wr => ∃ (i n : Nat) (f : Lit → Option Value), i ≤ l.length ∧ n ≤ i ∧ v = .int .i64 i ∧ Aside0 (MapIs Try.prog 9 wr bm n f) ∧ Aside0 (RowsIn w f (l.take i)) ∧ Aside0 (Below w.heap.size w wr)) (fun v _ => l.length - (intOf v).toNat)
    case atStart => exact ⟨0, 0, _, Nat.zero_le _, Nat.le_refl _, rfl, ⟨HM.out⟩, ⟨by rw [List.take_zero]; exact RowsIn.nil w⟩, ⟨HB.out⟩⟩
    case round =>
      clear HM HB
      obtain ⟨i, n, f, hi, hni, rfl, HM, HRW, HB⟩ := hrel
      by_cases hlt : i < l.length
      · have hd : decide ((i : Int) < (l.length : Int)) = true := decide_eq_true (by omega)
        have hd0 : decide (0 ≤ (i : Int)) = true := decide_eq_true (by omega)
        obtain ⟨ad, A0_, c0_, A1_, c1_, e0, hx0, hx1, hl0, hi0, hl1, hi1⟩ := at_T37 HR0.out (i : Int) (by omega) (by omega)
        cases e0
        simp only [Int.toNat_natCast] at hx0 hx1
        replace hx0 := (HB.out.cell (World.block_lt_of_cell? w _ hx0)).trans hx0
        replace hx1 := (HB.out.cell (World.block_lt_of_cell? w _ hx1)).trans hx1
        obtain ⟨x, hx⟩ : ∃ x, x = rd_T37 l i := ⟨_, rfl⟩
        have HXL := Aside0.mk (show l[i] = x by rw [hx]; exact (rd37 l i hlt).symm)
        rw [← hx] at hx0 hx1 hl0 hi0 hl1 hi1
        have HI0 := Aside0.mk hi0
        have HI1 := Aside0.mk hi1
        have HL1 := Aside0.mk hl1
        clear hx hl0 hi0 hl1 hi1
        have HNI := Aside0.mk hni
        go_wp2_with (first | ((with_reducible refine gate_dst (N := 8) rfl ?_); refine Mine.alloc_store ?hg (N := 8) ?hd (zs := [.slice none 0 0, .slice none 0 0]) [.slice A0_ x.f0.length c0_, .slice A1_ x.f1.length c1_] (t := 37) ?hr ?hg2 ?hn2 rfl ?hr2 ?_; (case hd => rfl); (case hg => rfl); (case hg2 => rfl); (case hn2 => rfl); (case hr => first | (go_simp; done) | (go_simp; rfl)); (case hr2 => simp only [Mine.putAll]; first | (go_simp; done) | (go_simp; rfl)); intro gx hgx W3 hbox hb; have HBn := Aside0.mk (below_step HB.out hb); clear HB; have HB := HBn; clear HBn; have HMn := Aside0.mk (HM.out.below hb); clear HM; have HM := HMn; clear HMn; have BK := Aside0.mk hbox; clear hgx hbox hb; have cx_0 : W3.cell? ⟨gx, 0, none⟩ = some (.slice A0_ x.f0.length c0_) := (blk_cell BK.out 0).trans rfl; have cx_1 : W3.cell? ⟨gx, 1, none⟩ = some (.slice A1_ x.f1.length c1_) := (blk_cell BK.out 1).trans rfl; have hcv := Kd.C_string (P := Try.prog) (A := A0_) (c := c0_) Try.underlying35 Try.underlying5 Try.underlying9 (Kd.C_below HI0.out HB.out)) | (at_mapUpdate; refine update_event HM.out rfl _ _ _ rfl law9 Try.underlying52 (by have := HNI.out; unfold maxLen; omega) rfl rfl rfl (key9 x.f0 HI0.out.2.1) ?_; intro W4 hm hg; have HBn := Aside0.mk (HB.out.grown hg (below_size HB.out) (fun k hk => by cases hk; exact GB.out)); clear HB; have HB := HBn; clear HBn; clear HM; have HM := Aside0.mk hm; clear hm hg))
        first | exact ⟨⟨i + 1, n + 1, _, by omega, by omega, by first | rfl | (rw [wrapI (by omega) (by omega)]; rfl), ⟨HM.out⟩, ⟨by refine RowsIn.put HRW.out (fun r hr => HW0.out r (List.mem_of_mem_take hr)) (by rw [← HXL.out]; exact (HW0.out _ (List.getElem_mem _)).1) HL1.out HI1.out (fun r => ?_); rw [take_mem HRI.out.2 hlt, HXL.out]⟩, ⟨HB.out⟩⟩, by simp [intOf, wrapI]; omega⟩ | trace_state
      · have hie : i = l.length := by omega
        subst hie
        rw [List.take_length] at HRW
        have hd : decide ((l.length : Int) < (l.length : Int)) = false := decide_eq_false (by omega)
        go_wp2
        have HM2 := HM; clear HM; have HRW2 := HRW; clear HRW; have HB2 := HB; clear HB
        go_loopw [34] (fun v wr => ∃ (j m : Nat) (f : Lit → Option Value) (L : List S37), j ≤ t.length ∧ m ≤ l.length + j ∧ v = .int .i64 j ∧ Aside0 (goR l (t.take j) = some L) ∧ Aside0 (MapIs Try.prog 9 wr bm m f) ∧ Aside0 (RowsIn w f L) ∧ Aside0 (wfL L) ∧ Aside0 (Below w.heap.size w wr)) (fun v _ => t.length - (intOf v).toNat)
        case atStart => exact ⟨0, n, f, l, Nat.zero_le _, by omega, rfl, ⟨rfl⟩, ⟨HM2.out⟩, ⟨HRW2.out⟩, ⟨HW0.out⟩, ⟨HB2.out⟩⟩
        case round =>
          clear HM2 HRW2 HB2
          obtain ⟨j, m, f, L, hj, hmj, rfl, HG, HM, HRW, HWL, HB⟩ := hrel
          by_cases hjt : j < t.length
          · have hd2 : decide ((j : Int) < (t.length : Int)) = true := decide_eq_true (by omega)
            have hd3 : decide (0 ≤ (j : Int)) = true := decide_eq_true (by omega)
            obtain ⟨ad, A0_, c0_, A1_, c1_, A2_, c2_, e0, hx0, hx1, hx2, hl0, hi0, hl1, hi1, hl2, hi2⟩ := at_T43 HR1.out (j : Int) (by omega) (by omega)
            cases e0
            simp only [Int.toNat_natCast] at hx0 hx1 hx2
            replace hx0 := (HB.out.cell (World.block_lt_of_cell? w _ hx0)).trans hx0
            replace hx1 := (HB.out.cell (World.block_lt_of_cell? w _ hx1)).trans hx1
            replace hx2 := (HB.out.cell (World.block_lt_of_cell? w _ hx2)).trans hx2
            obtain ⟨x, hx⟩ : ∃ x, x = rd_T43 t j := ⟨_, rfl⟩
            have HXL := Aside0.mk (show t[j] = x by rw [hx]; exact (rd43 t j hjt).symm)
            rw [← hx] at hx0 hx1 hx2 hl0 hi0 hl1 hi1 hl2 hi2
            have HI0 := Aside0.mk hi0
            have HI1 := Aside0.mk hi1
            have HI2 := Aside0.mk hi2
            have HL0 := Aside0.mk hl0
            have HL1 := Aside0.mk hl1
            have HL2 := Aside0.mk hl2
            clear hx hl0 hi0 hl1 hi1 hl2 hi2
            have HMJ := Aside0.mk hmj
            have HXW := Aside0.mk (by rw [← HXL.out]; exact HW1.out _ (List.getElem_mem _) : wfB x.f0 ∧ wfB x.f1 ∧ wfB x.f2)
            have HRL := Aside0.mk (goR_right HRI.out HG.out)
            have HST := Aside0.mk (show goR l (t.take (j + 1)) = stepR L x by rw [List.take_succ_eq_append_getElem hjt, goR_snoc, HG.out, Option.bind_some, HXL.out])
            obtain ⟨B, e, hge, hbe, hCe⟩ := RowsIn.get HRW.out HRL.out.2 HWL.out (key := x.f0) HXW.out.1
            have HGE := Aside0.mk hge
            have HBE := Aside0.mk hbe
            have HCE := Aside0.mk hCe
            clear hge hbe hCe
            by_cases hk0 : x.f0 = []
            · have HSN := Aside0.mk (show x.f0 = [] ∨ getR L x.f0 ≠ x.f1 from .inl hk0)
              have hq : (strOfNums x.f0).toList.isEmpty = true := by rw [empty_str]; exact decide_eq_true hk0
              clear hk0
              go_wp2_with (first | ((with_reducible refine gate_dst (N := 10) rfl ?_); refine Mine.alloc_store ?hg (N := 10) ?hd (zs := [.slice none 0 0, .slice none 0 0, .slice none 0 0]) [.slice A0_ x.f0.length c0_, .slice A1_ x.f1.length c1_, .slice A2_ x.f2.length c2_] (t := 43) ?hr ?hg2 ?hn2 rfl ?hr2 ?_; (case hd => rfl); (case hg => rfl); (case hg2 => rfl); (case hn2 => rfl); (case hr => first | (go_simp; done) | (go_simp; rfl)); (case hr2 => simp only [Mine.putAll]; first | (go_simp; done) | (go_simp; rfl)); intro gx hgx W3 hbox hb; have HBn := Aside0.mk (below_step HB.out hb); clear HB; have HB := HBn; clear HBn; have HMn := Aside0.mk (HM.out.below hb); clear HM; have HM := HMn; clear HMn; have BK := Aside0.mk hbox; clear hgx hbox hb; have cx_0 : W3.cell? ⟨gx, 0, none⟩ = some (.slice A0_ x.f0.length c0_) := (blk_cell BK.out 0).trans rfl; have cx_1 : W3.cell? ⟨gx, 1, none⟩ = some (.slice A1_ x.f1.length c1_) := (blk_cell BK.out 1).trans rfl; have cx_2 : W3.cell? ⟨gx, 2, none⟩ = some (.slice A2_ x.f2.length c2_) := (blk_cell BK.out 2).trans rfl; have hcv := Kd.C_string (P := Try.prog) (A := A0_) (c := c0_) Try.underlying35 Try.underlying5 Try.underlying9 (Kd.C_below HI0.out HB.out); have hlook := HM.out.lookup_run law9 Try.underlying52 (zero35 _) (key9 x.f0 HI0.out.2.1); rw [HGE.out] at hlook))
              go_ret2
              rw [applyR_none HRI.out (by rw [show t = t.take (j + 1) ++ t.drop (j + 1) from (List.take_append_drop _ _).symm]; exact goR_stop (HST.out.trans (by unfold stepR; rw [if_pos HSN.out])))]
              exact ⟨none, 0, rfl, Nat.le_refl _, Kd.C_nil _ _, HB.out⟩
            · have hq : (strOfNums x.f0).toList.isEmpty = false := by rw [empty_str]; exact decide_eq_false hk0
              by_cases hv : getR L x.f0 = x.f1
              · have HEQ := Aside0.mk (show bytes_Equal.f (getR L x.f0) x.f1 = some true by rw [eqB (wf_getR HWL.out _) HXW.out.2.1, decide_eq_true hv])
                have HSO := Aside0.mk (HST.out.trans (show stepR L x = some (putR L x.f0 x.f2) by unfold stepR; rw [if_neg (by rintro (h | h); exact hk0 h; exact h hv)]))
                clear hv hk0
                by_cases hz : x.f2 = []
                · have HZ := Aside0.mk hz
                  have hz0 : ((x.f2.length : Int) == 0) = true := by rw [hz]; rfl
                  have hz1 : (x.f2.length == 0) = true := by rw [hz]; rfl
                  clear hz
                  go_wp2_with (first | ((with_reducible refine gate_dst (N := 10) rfl ?_); refine Mine.alloc_store ?hg (N := 10) ?hd (zs := [.slice none 0 0, .slice none 0 0, .slice none 0 0]) [.slice A0_ x.f0.length c0_, .slice A1_ x.f1.length c1_, .slice A2_ x.f2.length c2_] (t := 43) ?hr ?hg2 ?hn2 rfl ?hr2 ?_; (case hd => rfl); (case hg => rfl); (case hg2 => rfl); (case hn2 => rfl); (case hr => first | (go_simp; done) | (go_simp; rfl)); (case hr2 => simp only [Mine.putAll]; first | (go_simp; done) | (go_simp; rfl)); intro gx hgx W3 hbox hb; have NEB := Aside0.mk (by rw [hgx]; exact Nat.ne_of_gt HM.out.lt : gx ≠ bm); have HBn := Aside0.mk (below_step HB.out hb); clear HB; have HB := HBn; clear HBn; have HMn := Aside0.mk (HM.out.below hb); clear HM; have HM := HMn; clear HMn; have BK := Aside0.mk hbox; clear hgx hbox hb; have cx_0 : W3.cell? ⟨gx, 0, none⟩ = some (.slice A0_ x.f0.length c0_) := (blk_cell BK.out 0).trans rfl; have cx_1 : W3.cell? ⟨gx, 1, none⟩ = some (.slice A1_ x.f1.length c1_) := (blk_cell BK.out 1).trans rfl; have cx_2 : W3.cell? ⟨gx, 2, none⟩ = some (.slice A2_ x.f2.length c2_) := (blk_cell BK.out 2).trans rfl; have hcv := Kd.C_string (P := Try.prog) (A := A0_) (c := c0_) Try.underlying35 Try.underlying5 Try.underlying9 (Kd.C_below HI0.out HB.out); have hlook := HM.out.lookup_run law9 Try.underlying52 (zero35 _) (key9 x.f0 HI0.out.2.1); rw [HGE.out] at hlook) | (go_at_call 27; (with_reducible refine (bytes_Equal.calls B e (getR L x.f0) A1_ c1_ x.f1 true _ (Kd.C_below HCE.out HB.out) HBE.out (Kd.C_below HI1.out HB.out) HL1.out HEQ.out).mono ?_); rintro e4 W4 ⟨rfl, hd⟩; have hb := hd.below; clear hd; have HBn := Aside0.mk (below_step HB.out hb); clear HB; have HB := HBn; clear HBn; have HMn := Aside0.mk (HM.out.below hb); clear HM; have HM := HMn; clear HMn; have BKn := Aside0.mk (blk_below BK.out hb); clear BK; have BK := BKn; clear BKn; clear hlook hcv hb; clear cx_0 cx_1 cx_2; have cx_0 : W4.cell? ⟨gx, 0, none⟩ = some (.slice A0_ x.f0.length c0_) := (blk_cell BK.out 0).trans rfl; have cx_1 : W4.cell? ⟨gx, 1, none⟩ = some (.slice A1_ x.f1.length c1_) := (blk_cell BK.out 1).trans rfl; have cx_2 : W4.cell? ⟨gx, 2, none⟩ = some (.slice A2_ x.f2.length c2_) := (blk_cell BK.out 2).trans rfl) | (at_mapUpdate; refine update_event HM.out rfl _ _ _ rfl law9 Try.underlying52 (by have := HMJ.out; unfold maxLen; omega) rfl rfl rfl (key9 x.f0 HI0.out.2.1) ?_; intro W5 hm hg; have BKn := Aside0.mk (blk_grown BK.out hg (by intro he; cases he; exact absurd rfl (NEB.out)) ); clear BK; have BK := BKn; clear BKn; have HBn := Aside0.mk (HB.out.grown hg (below_size HB.out) (fun k hk => by cases hk; exact GB.out)); clear HB; have HB := HBn; clear HBn; clear HM; have HM := Aside0.mk hm; clear hm hg; clear cx_0 cx_1 cx_2; have cx_0 : W5.cell? ⟨gx, 0, none⟩ = some (.slice A0_ x.f0.length c0_) := (blk_cell BK.out 0).trans rfl; have cx_1 : W5.cell? ⟨gx, 1, none⟩ = some (.slice A1_ x.f1.length c1_) := (blk_cell BK.out 1).trans rfl; have cx_2 : W5.cell? ⟨gx, 2, none⟩ = some (.slice A2_ x.f2.length c2_) := (blk_cell BK.out 2).trans rfl) | (at_delete; refine delete_event HM.out rfl _ _ rfl law9 Try.underlying52 rfl rfl (key9 x.f0 HI0.out.2.1) ?_; intro W6 hm hg; have HBn := Aside0.mk (HB.out.grown hg (below_size HB.out) (fun k hk => by cases hk; exact GB.out)); clear HB; have HB := HBn; clear HBn; clear HM; have HM := Aside0.mk hm; clear hm hg))
                  first | exact ⟨⟨j + 1, m + 1, _, putR L x.f0 x.f2, by omega, by omega, by first | rfl | (rw [wrapI (by omega) (by omega)]; rfl), ⟨HSO.out⟩, ⟨(HM.out.mono (Nat.le_refl _)).congr (upd_del _ _ _)⟩, ⟨RowsIn.del HRW.out HWL.out HXW.out.1 (fun r => by rw [mem_putR, HZ.out]; simp)⟩, ⟨wfL_putR HWL.out HXW.out.1 HXW.out.2.2⟩, ⟨HB.out⟩⟩, by simp [intOf, wrapI]; omega⟩ | trace_state
                · have HZ := Aside0.mk hz
                  have hz0 : ((x.f2.length : Int) == 0) = false := by rw [beq_eq_false_iff_ne]; exact ne_len.1 hz
                  have hz1 : (x.f2.length == 0) = false := by rw [beq_eq_false_iff_ne]; intro h; exact hz (List.length_eq_zero_iff.1 h)
                  clear hz
                  go_wp2_with (first | ((with_reducible refine gate_dst (N := 10) rfl ?_); refine Mine.alloc_store ?hg (N := 10) ?hd (zs := [.slice none 0 0, .slice none 0 0, .slice none 0 0]) [.slice A0_ x.f0.length c0_, .slice A1_ x.f1.length c1_, .slice A2_ x.f2.length c2_] (t := 43) ?hr ?hg2 ?hn2 rfl ?hr2 ?_; (case hd => rfl); (case hg => rfl); (case hg2 => rfl); (case hn2 => rfl); (case hr => first | (go_simp; done) | (go_simp; rfl)); (case hr2 => simp only [Mine.putAll]; first | (go_simp; done) | (go_simp; rfl)); intro gx hgx W3 hbox hb; have NEB := Aside0.mk (by rw [hgx]; exact Nat.ne_of_gt HM.out.lt : gx ≠ bm); have HBn := Aside0.mk (below_step HB.out hb); clear HB; have HB := HBn; clear HBn; have HMn := Aside0.mk (HM.out.below hb); clear HM; have HM := HMn; clear HMn; have BK := Aside0.mk hbox; clear hgx hbox hb; have cx_0 : W3.cell? ⟨gx, 0, none⟩ = some (.slice A0_ x.f0.length c0_) := (blk_cell BK.out 0).trans rfl; have cx_1 : W3.cell? ⟨gx, 1, none⟩ = some (.slice A1_ x.f1.length c1_) := (blk_cell BK.out 1).trans rfl; have cx_2 : W3.cell? ⟨gx, 2, none⟩ = some (.slice A2_ x.f2.length c2_) := (blk_cell BK.out 2).trans rfl; have hcv := Kd.C_string (P := Try.prog) (A := A0_) (c := c0_) Try.underlying35 Try.underlying5 Try.underlying9 (Kd.C_below HI0.out HB.out); have hlook := HM.out.lookup_run law9 Try.underlying52 (zero35 _) (key9 x.f0 HI0.out.2.1); rw [HGE.out] at hlook) | (go_at_call 27; (with_reducible refine (bytes_Equal.calls B e (getR L x.f0) A1_ c1_ x.f1 true _ (Kd.C_below HCE.out HB.out) HBE.out (Kd.C_below HI1.out HB.out) HL1.out HEQ.out).mono ?_); rintro e4 W4 ⟨rfl, hd⟩; have hb := hd.below; clear hd; have HBn := Aside0.mk (below_step HB.out hb); clear HB; have HB := HBn; clear HBn; have HMn := Aside0.mk (HM.out.below hb); clear HM; have HM := HMn; clear HMn; have BKn := Aside0.mk (blk_below BK.out hb); clear BK; have BK := BKn; clear BKn; clear hlook hcv hb; clear cx_0 cx_1 cx_2; have cx_0 : W4.cell? ⟨gx, 0, none⟩ = some (.slice A0_ x.f0.length c0_) := (blk_cell BK.out 0).trans rfl; have cx_1 : W4.cell? ⟨gx, 1, none⟩ = some (.slice A1_ x.f1.length c1_) := (blk_cell BK.out 1).trans rfl; have cx_2 : W4.cell? ⟨gx, 2, none⟩ = some (.slice A2_ x.f2.length c2_) := (blk_cell BK.out 2).trans rfl) | (at_mapUpdate; refine update_event HM.out rfl _ _ _ rfl law9 Try.underlying52 (by have := HMJ.out; unfold maxLen; omega) rfl rfl rfl (key9 x.f0 HI0.out.2.1) ?_; intro W5 hm hg; have BKn := Aside0.mk (blk_grown BK.out hg (by intro he; cases he; exact absurd rfl (NEB.out)) ); clear BK; have BK := BKn; clear BKn; have HBn := Aside0.mk (HB.out.grown hg (below_size HB.out) (fun k hk => by cases hk; exact GB.out)); clear HB; have HB := HBn; clear HBn; clear HM; have HM := Aside0.mk hm; clear hm hg; clear cx_0 cx_1 cx_2; have cx_0 : W5.cell? ⟨gx, 0, none⟩ = some (.slice A0_ x.f0.length c0_) := (blk_cell BK.out 0).trans rfl; have cx_1 : W5.cell? ⟨gx, 1, none⟩ = some (.slice A1_ x.f1.length c1_) := (blk_cell BK.out 1).trans rfl; have cx_2 : W5.cell? ⟨gx, 2, none⟩ = some (.slice A2_ x.f2.length c2_) := (blk_cell BK.out 2).trans rfl))
                  first | exact ⟨⟨j + 1, m + 1, _, putR L x.f0 x.f2, by omega, by omega, by first | rfl | (rw [wrapI (by omega) (by omega)]; rfl), ⟨HSO.out⟩, ⟨HM.out.mono (Nat.le_refl _)⟩, ⟨RowsIn.put HRW.out HWL.out HXW.out.1 HL2.out HI2.out (fun r => by rw [mem_putR]; simp [HZ.out])⟩, ⟨wfL_putR HWL.out HXW.out.1 HXW.out.2.2⟩, ⟨HB.out⟩⟩, by simp [intOf, wrapI]; omega⟩ | trace_state
              · have HEQ := Aside0.mk (show bytes_Equal.f (getR L x.f0) x.f1 = some false by rw [eqB (wf_getR HWL.out _) HXW.out.2.1, decide_eq_false hv])
                have HSN := Aside0.mk (show x.f0 = [] ∨ getR L x.f0 ≠ x.f1 from .inr hv)
                clear hv hk0
                go_wp2_with (first | ((with_reducible refine gate_dst (N := 10) rfl ?_); refine Mine.alloc_store ?hg (N := 10) ?hd (zs := [.slice none 0 0, .slice none 0 0, .slice none 0 0]) [.slice A0_ x.f0.length c0_, .slice A1_ x.f1.length c1_, .slice A2_ x.f2.length c2_] (t := 43) ?hr ?hg2 ?hn2 rfl ?hr2 ?_; (case hd => rfl); (case hg => rfl); (case hg2 => rfl); (case hn2 => rfl); (case hr => first | (go_simp; done) | (go_simp; rfl)); (case hr2 => simp only [Mine.putAll]; first | (go_simp; done) | (go_simp; rfl)); intro gx hgx W3 hbox hb; have HBn := Aside0.mk (below_step HB.out hb); clear HB; have HB := HBn; clear HBn; have HMn := Aside0.mk (HM.out.below hb); clear HM; have HM := HMn; clear HMn; have BK := Aside0.mk hbox; clear hgx hbox hb; have cx_0 : W3.cell? ⟨gx, 0, none⟩ = some (.slice A0_ x.f0.length c0_) := (blk_cell BK.out 0).trans rfl; have cx_1 : W3.cell? ⟨gx, 1, none⟩ = some (.slice A1_ x.f1.length c1_) := (blk_cell BK.out 1).trans rfl; have cx_2 : W3.cell? ⟨gx, 2, none⟩ = some (.slice A2_ x.f2.length c2_) := (blk_cell BK.out 2).trans rfl; have hcv := Kd.C_string (P := Try.prog) (A := A0_) (c := c0_) Try.underlying35 Try.underlying5 Try.underlying9 (Kd.C_below HI0.out HB.out); have hlook := HM.out.lookup_run law9 Try.underlying52 (zero35 _) (key9 x.f0 HI0.out.2.1); rw [HGE.out] at hlook) | (go_at_call 27; (with_reducible refine (bytes_Equal.calls B e (getR L x.f0) A1_ c1_ x.f1 false _ (Kd.C_below HCE.out HB.out) HBE.out (Kd.C_below HI1.out HB.out) HL1.out HEQ.out).mono ?_); rintro e4 W4 ⟨rfl, hd⟩; have hb := hd.below; clear hd; have HBn := Aside0.mk (below_step HB.out hb); clear HB; have HB := HBn; clear HBn; have HMn := Aside0.mk (HM.out.below hb); clear HM; have HM := HMn; clear HMn; have BKn := Aside0.mk (blk_below BK.out hb); clear BK; have BK := BKn; clear BKn; clear hlook hcv hb; clear cx_0 cx_1 cx_2; have cx_0 : W4.cell? ⟨gx, 0, none⟩ = some (.slice A0_ x.f0.length c0_) := (blk_cell BK.out 0).trans rfl; have cx_1 : W4.cell? ⟨gx, 1, none⟩ = some (.slice A1_ x.f1.length c1_) := (blk_cell BK.out 1).trans rfl; have cx_2 : W4.cell? ⟨gx, 2, none⟩ = some (.slice A2_ x.f2.length c2_) := (blk_cell BK.out 2).trans rfl))
                go_ret2
                rw [applyR_none HRI.out (by rw [show t = t.take (j + 1) ++ t.drop (j + 1) from (List.take_append_drop _ _).symm]; exact goR_stop (HST.out.trans (by unfold stepR; rw [if_pos HSN.out])))]
                exact ⟨none, 0, rfl, Nat.le_refl _, Kd.C_nil _ _, HB.out⟩
          · have hje : j = t.length := by omega
            subst hje
            rw [List.take_length] at HG
            have hd2 : decide ((t.length : Int) < (t.length : Int)) = false := decide_eq_false (by omega)
            have HRL := Aside0.mk (goR_right HRI.out HG.out)
            have HMT := Aside0.mk hmj
            have HS2 := Aside0.mk (show ∀ q ∈ L, q.f1.length < 140737488355328 from fun q hq => by rcases goR_sub HG.out hq with h | ⟨y, hy, h⟩; exact HS0.out q h; rw [h]; exact HS1.out y hy)
            have HKZ := Aside0.mk (show ∀ q ∈ L, q.f0.length ≤ 9223372036854775807 from fun q hq => by rcases goR_sub HG.out hq with h | ⟨y, hy, h⟩; exact HK0.out q h; rw [h]; exact HK1.out y hy)
            go_wp2_with (first | (at_range; refine range_event HM.out rfl _ rfl law9 Try.underlying52 rfl ?_; intro r hr W2 cnt hrg hcnt hg; have GRr := Aside0.mk (by rw [hr]; exact below_size HB.out : w.heap.size ≤ r); have HCN := Aside0.mk hcnt; have HBn := Aside0.mk (HB.out.grown hg (below_size HB.out) (fun k hk => by cases hk)); clear HB; have HB := HBn; clear HBn; have HRG := Aside0.mk hrg; clear HM hr hrg hcnt hg))
            go_frame
            have HRG2 := HRG; clear HRG; have HB2 := HB; clear HB
            go_loopw [12] (fun v12 wr => ∃ (left : Lit → Bool) (cnt : Nat) (out : List S37), Aside0 (Ranges Try.prog 9 wr bm r m f left cnt) ∧ Aside0 (Kd.N k37 37 wr w.heap.size (fun k => w.heap.size ≤ k ∧ k ≠ bm ∧ k ≠ r) v12 out) ∧ Aside0 (∀ q, q ∈ out ↔ q ∈ L ∧ left (klOf q.f0) = false) ∧ Aside0 (out.Pairwise (fun a b => a.f0 ≠ b.f0)) ∧ Aside0 (out.length + cnt ≤ m) ∧ Aside0 (Below w.heap.size w wr)) (fun _ wr => wr.rangeLeft bm r)
            case atStart => exact ⟨_, cnt, [], ⟨HRG2.out⟩, ⟨Kd.N_nil _ _ _ _ _⟩, ⟨fun q => ⟨(fun h => by cases h), fun h => by have := HRW.out.2 q h.1; rw [h.2] at this; cases this⟩⟩, ⟨List.Pairwise.nil⟩, ⟨by rw [List.length_nil, Nat.zero_add]; exact HCN.out⟩, ⟨HB2.out⟩⟩
            case round =>
              clear HRG2 HB2
              obtain ⟨left, cnt, out, HRG, HN, HOUT, HDI, HLE, HB⟩ := hrel
              have HMS := Aside0.mk (HRG.out.left_eq)
              go_wp2_with (first | (at_next; refine next_event (fun x : List UInt8 => Value.string ⟨x.toArray⟩) (fun key kl hk => by obtain ⟨x, hx, _⟩ := Maps.keyOf_str Try.underlying9 hk; exact ⟨x, hx⟩) HRG.out rfl _ rfl law9 rfl ?_ ?_))
              · intro hl0
                have HL0 := Aside0.mk hl0
                clear hl0
                have hout : ∀ q, q ∈ out ↔ q ∈ L := fun q => by rw [HOUT.out q, HL0.out]; simp
                have HOM := Aside0.mk hout
                clear hout
                have HWK := Aside0.mk (show ∀ q ∈ out, wfB q.f0 from fun q hq => (HWL.out q ((HOM.out q).1 hq)).1)
                have HOL := Aside0.mk (show out.length ≤ 1000000000 by have := HLE.out; have := HMT.out; omega)
                go_wp2_with (first | ((with_reducible refine gate_callee (f := 37) rfl ?_); refine goesL_ (some 79) rfl rfl Try.func37 (by kernel_rfl) rfl #[u12, .func (.func 38) #[] #[]] rfl (by (try simp only [List.map_toArray, List.map_cons, List.map_nil]); first | done | rfl) ?_; (with_reducible refine (sortRows_calls out u12 _ HN.out HWK.out HOL.out HB.out).mono ?_); rintro e W3 ⟨rfl, out', A, c, ev, hc, hp, hs, hC, hb⟩; have HO := Aside0.mk (sorted_is hp hs HDI.out HOM.out HRL.out.2); clear HB; have HB := Aside0.mk hb; have HCC := Aside0.mk hC; have HC := Aside0.mk hc; clear hp hs hC hc hb HN; subst ev; refine ⟨_, rfl, ?_⟩))
                go_ret2
                rw [applyR_some HRI.out HG.out, ← HO.out]
                exact ⟨A, c, rfl, HC.out, HCC.out, HB.out⟩
              · intro x v kl W2 cnt2 hkey hlk hf hrg hlt hg hen
                obtain ⟨x', ex, ekl, _⟩ := Maps.keyOf_str Try.underlying9 hkey
                obtain rfl : x = x' := by injection ex with ex; injection ex with ex; simpa using ex
                obtain ⟨q, hq, hkq, Av, cv, ev, hcv, hCv⟩ := HRW.out.1 _ _ hf
                have est := str_of_kl (ekl.symm.trans hkq)
                rw [est] at hen hkey ⊢
                subst ev
                rw [hkq] at hrg hlk hf
                have HQ := Aside0.mk hq
                have HLK := Aside0.mk hlk
                have HLT := Aside0.mk hlt
                have HCv := Aside0.mk hCv
                have Hcv := Aside0.mk hcv
                clear hq hlk hlt hCv hcv hf hkey
                obtain ⟨n1, hn1⟩ : ∃ n, n = W2.heap.size := ⟨_, rfl⟩
                have hsz := hg.size
                have HNn := Aside0.mk (Kd.N_grown HN.out hg (fun k hk he => hk.2.2 (by cases he; rfl)))
                clear HN
                have HN := HNn
                clear HNn
                have HBn := Aside0.mk (HB.out.grown hg (below_size HB.out) (fun k hk => by cases hk; exact GRr.out))
                clear HB
                have HB := HBn
                clear HBn
                clear HRG
                have HRG := Aside0.mk hrg
                clear hrg hg hsz
                have LTb := Aside0.mk (by rw [hn1]; exact HRG.out.is.lt : bm < n1)
                have LTr := Aside0.mk (by rw [hn1]; exact HRG.out.lt : r < n1)
                have LTo := Aside0.mk (by rw [hn1]; exact Kd.N_lt HN.out : ∀ k, u12.ownBlock = some k → k < n1)
                have LTw := Aside0.mk (by rw [hn1]; exact below_size HB.out : w.heap.size ≤ n1)
                have LTn := Aside0.mk (by rw [hn1]; exact Nat.le_refl _ : n1 ≤ W2.heap.size)
                clear hn1
                have HQW := Aside0.mk (HWL.out q HQ.out)
                have HQK := Aside0.mk (bytesOf_str HQW.out.1)
                have HCL := Aside0.mk (show slices_Clone.f q.f1 = some q.f1 by unfold slices_Clone.f; rw [if_pos (HS2.out q HQ.out)])
                have HOL := Aside0.mk (show out.length ≤ 1000000 by have := HLE.out; have := HMT.out; omega)
                go_wp2_with (first | ((with_reducible refine gate_dst (N := 72) rfl ?_); refine conv_event rfl rfl rfl (by rw [strOfNums_size]; exact HKZ.out q HQ.out) ?_; intro B0 d0 W3 hF hc hb; rw [HQK.out] at hF hc ⊢; have HF0 := Aside0.mk (Kd.F_mono hF (fun k hk => Nat.le_trans LTn.out hk)); have HC0_ := Aside0.mk hc; have HBn := Aside0.mk (below_step HB.out hb); clear HB; have HB := HBn; clear HBn; have HNn := Aside0.mk (Kd.N_below HN.out hb); clear HN; have HN := HNn; clear HNn; have HGn := Aside0.mk (HRG.out.below hb); clear HRG; have HRG := HGn; clear HGn; have LTq := Aside0.mk (Nat.le_trans LTn.out hb.size); clear LTn; have LTn := LTq; clear LTq; clear hF hc hb) | ((with_reducible refine gate_callee (f := 36) rfl ?_); refine goesL_ (some 74) rfl rfl Try.func36 (by kernel_rfl) rfl #[.slice Av q.f1.length cv] rfl (by (try simp only [List.map_toArray, List.map_cons, List.map_nil]); first | done | rfl) ?_; (with_reducible refine (slices_Clone.calls Av cv q.f1 q.f1 _ (Kd.C_below HCv.out HB.out) Hcv.out HCL.out).mono ?_); rintro e W4 ⟨v1, rfl, hR, hb⟩; obtain ⟨B1, d1, ev⟩ := Kd.R_slice hR; subst ev; refine ⟨_, rfl, ?_⟩; have HF1 := Aside0.mk (Kd.R_F (Kd.R_mono (ok' := fun k => n1 ≤ k) (Kd.R_bound hR) (fun k hk => Nat.le_trans LTn.out hk.2.1))); have HC1_ := Aside0.mk (Kd.R_reads' hR).2.1; have HFn := Aside0.mk (Kd.F_below HF0.out hb); clear HF0; have HF0 := HFn; clear HFn; have HBn := Aside0.mk (below_step HB.out hb); clear HB; have HB := HBn; clear HBn; have HNn := Aside0.mk (Kd.N_below HN.out hb); clear HN; have HN := HNn; clear HNn; have HGn := Aside0.mk (HRG.out.below hb); clear HRG; have HRG := HGn; clear HGn; have LTq := Aside0.mk (Nat.le_trans LTn.out hb.size); clear LTn; have LTn := LTq; clear LTq; clear hR hb) | ((with_reducible refine gate_builtin (b := .append) (xs := #[.tmp 70, .tmp 76]) rfl ?_); at_builtin; refine Kd.N_append k37 (w0 := w) w.heap.size rfl (.tmp 70) (.tmp 76) 22 37 (.agg #[.slice none 0 0, .slice none 0 0]) 48 rfl Try.underlying22 info37 rfl (by decide) (by omega) u12 out (⟨q.f0, q.f1⟩ : S37) [.slice B0 q.f0.length d0, .slice B1 q.f1.length d1] (fun k => w.heap.size ≤ k ∧ k ≠ bm ∧ k ≠ r) (fun k => (w.heap.size ≤ k ∧ k ≠ bm ∧ k ≠ r) ∧ some k ≠ (u12 : Value).ownBlock) rfl rfl ?aP (fun _ hk => hk) ?aF ?aO ?aB ?aS ?aL ?_; (case aP => exact k37_mkF _ _ (⟨q.f0, q.f1⟩ : S37) HC0_.out (Kd.F_mono HF0.out (fun k hk => ⟨⟨Nat.le_trans LTw.out hk, fun he => absurd LTb.out (by rw [← he]; exact Nat.not_lt.2 hk), fun he => absurd LTr.out (by rw [← he]; exact Nat.not_lt.2 hk)⟩, fun he => absurd (LTo.out k he.symm) (Nat.not_lt.2 hk)⟩)) HC1_.out (Kd.F_mono HF1.out (fun k hk => ⟨⟨Nat.le_trans LTw.out hk, fun he => absurd LTb.out (by rw [← he]; exact Nat.not_lt.2 hk), fun he => absurd LTr.out (by rw [← he]; exact Nat.not_lt.2 hk)⟩, fun he => absurd (LTo.out k he.symm) (Nat.not_lt.2 hk)⟩))); (case aB => exact HB.out); (case aF => exact fun k hk => ⟨Nat.le_trans (below_size HB.out) hk, fun he => absurd (Nat.lt_of_lt_of_le LTb.out (Nat.le_trans LTn.out hk)) (by rw [he]; exact Nat.lt_irrefl _), fun he => absurd (Nat.lt_of_lt_of_le LTr.out (Nat.le_trans LTn.out hk)) (by rw [he]; exact Nat.lt_irrefl _)⟩); (case aO => exact HN.out); (case aS => exact below_size HB.out); (case aL => have := HOL.out; omega); intro v1 W5 ho hb hg hat; have HGn := Aside0.mk (HRG.out.kept hg (Kd.N_away HN.out (fun k hk => hk.2.1)) (Kd.N_away HN.out (fun k hk => hk.2.2))); clear HRG; have HRG := HGn; clear HGn; clear HN; have HN := Aside0.mk ho; clear HB; have HB := Aside0.mk hb; clear ho hb hg hat))
                have hmem : ∀ z, z ∈ out ++ [(⟨q.f0, q.f1⟩ : S37)] ↔ z ∈ L ∧ (left (klOf z.f0) && !(klOf z.f0).sameKey (klOf q.f0)) = false := by
                  intro z
                  rw [List.mem_append, List.mem_singleton, HOUT.out z]
                  constructor
                  · rintro (⟨h1, h2⟩ | h1)
                    · exact ⟨h1, by rw [h2]; rfl⟩
                    · subst h1; exact ⟨HQ.out, by rw [(same_kl q.f0 q.f0).2 rfl]; simp⟩
                  · rintro ⟨h1, h2⟩
                    cases h3 : left (klOf z.f0) with
                    | false => exact .inl ⟨h1, rfl⟩
                    | true =>
                      rw [h3] at h2
                      have h4 : klOf z.f0 = klOf q.f0 := (same_kl _ _).1 (by simpa using h2)
                      exact .inr (sorted_key S37.f0 HRL.out.2 h1 HQ.out (klOf_inj (HWL.out z h1).1 HQW.out.1 h4))
                have hdis : (out ++ [(⟨q.f0, q.f1⟩ : S37)]).Pairwise (fun a b => a.f0 ≠ b.f0) := by
                  refine List.pairwise_append.2 ⟨HDI.out, List.pairwise_singleton _ _, fun a ha b hb => ?_⟩
                  rw [List.mem_singleton] at hb
                  subst hb
                  intro he
                  have h1 := ((HOUT.out a).1 ha).2
                  have he' : a.f0 = q.f0 := he
                  rw [he', HLK.out] at h1
                  cases h1
                go_roundw
                case rel => exact ⟨_, cnt2, _, ⟨HRG.out⟩, ⟨HN.out⟩, ⟨hmem⟩, ⟨hdis⟩, ⟨by rw [List.length_append, List.length_singleton]; have := HLE.out; have := HLT.out; omega⟩, ⟨HB.out⟩⟩
                case measure => rw [HRG.out.left_eq, HMS.out]; exact HLT.out
end Go.Proofs.Ytkplejkkafcipaa.PA
