/-
lock.beyond: the works by which one is kept by way of others.
-/
import Derived.Test.YtimlfdfmgajbnaaLk11
import Derived.Test.YtimlfdfmgajbnaaMine
import Derived.Laws.EntriesVeiled
namespace Go.Proofs.Ytimlfdfmgajbnaa.PA
open Go.RowKit Go.Proofs.YtimlfdfmgajbnaaW.PrintWords Go.Proofs.YtimlfdfmgajbnaaW.PrintLast Go.Proofs.YtimlfdfmgajbnaaW.PrintMore
open Go.Proofs.Ytimlfdfmgajbnaa.Mp
set_option linter.unusedVariables false
set_option linter.unusedSimpArgs false
def BeyondPost (Q : List PW) (id : Int) (w : World) (e : Ending) (w' : World) : Prop := ∃ sb m S, e = .returned (.map (some sb)) ∧ MapIs Try.prog 2 w' sb m (setI S) ∧ m ≤ S.length ∧ S.Nodup ∧ (∀ x ∈ S, x ∈ idsOf Q) ∧ (∀ x, x ∈ S ↔ Reach Q id x) ∧ Below w.heap.size w w' ∧ w.heap.size ≤ sb
set_option maxHeartbeats 8000000 in
set_option maxRecDepth 100000 in
theorem beyond_calls (lb mb mn : Nat) (last : Int) (Q : List PW) (id : Int) (w : World) (h : LockAt w lb mb mn last Q) (hid : (Lit.int .i64 id).wf = true) (hmn : mn ≤ 1000000) (hq : Q.length ≤ 1000000) :
    Calls Try.prog 39 #[.pointer (some ⟨lb, 0, none⟩), .int .i64 id] w (BeyondPost Q id w) := by
  have HL := Aside0.mk h
  have HI := Aside0.mk hid
  have HQ := Aside0.mk hq
  have HMN := Aside0.mk hmn
  clear h hid hq hmn
  go_enter Try.func39, Try.ntmps39
  go_upto_region 3 with (first | ((with_reducible refine gate_dst (N := 2) rfl ?_); refine box_event ?hg (N := 2) ?hd (cs := #[.pointer (some ⟨lb, 0, none⟩)]) (t := 25) ?hr ?_; (case hd => rfl); (case hg => rfl); (case hr => first | (go_simp; done) | (go_simp; rfl)); intro g1 hg W1 hbox hb; have B1 := Aside0.mk hbox; have HB := Aside0.mk hb; clear hg hbox hb) | ((with_reducible refine gate_dst (N := 7) rfl ?_); refine make_event rfl rfl 2 ?_; intro sb hsb W2 hm hb; have GS := Aside0.mk (by rw [hsb]; exact HB.out.size : w.heap.size ≤ sb); have HM := Aside0.mk hm; have B1n := Aside0.mk (blk_below B1.out hb); clear B1; have B1 := B1n; clear B1n; have HBn := Aside0.mk (below_step HB.out hb); clear HB; have HB := HBn; clear HBn; clear hm hb hsb) | ((with_reducible refine gate_dst (N := 5) rfl ?_); refine Mine.alloc_store ?hg (N := 5) ?hd (zs := [.map none]) [.map (some sb)] (t := 72) ?hr ?hg2 ?hn2 rfl ?hr2 ?_; (case hd => rfl); (case hg => rfl); (case hg2 => rfl); (case hn2 => rfl); (case hr => first | (go_simp; done) | (go_simp; rfl)); (case hr2 => simp only [Mine.putAll]; first | (go_simp; done) | (go_simp; rfl)); intro g2 hg W3 hbox hb; have B2 := Aside0.mk hbox; have B1n := Aside0.mk (blk_below B1.out hb); have HMn := Aside0.mk (HM.out.below hb); clear B1 HM; have B1 := B1n; have HM := HMn; clear B1n HMn; have HBn := Aside0.mk (below_step HB.out hb); clear HB; have HB := HBn; clear HBn; clear hg hbox hb) | ((with_reducible refine gate_dst (N := 6) rfl ?_); refine box_event ?hg (N := 6) ?hd (cs := #[.nilFunc]) (t := 40) ?hr ?_; (case hd => rfl); (case hg => rfl); (case hr => first | (go_simp; done) | (go_simp; rfl)); intro g3 hg W4 hbox hb; have B3 := Aside0.mk hbox; have G3 := Aside0.mk (by rw [hg]; exact HB.out.size : w.heap.size ≤ g3); have N1 := Aside0.mk (by rw [hg]; exact Nat.ne_of_lt (blk_lt B1.out) : g1 ≠ g3); have N2 := Aside0.mk (by rw [hg]; exact Nat.ne_of_lt (blk_lt B2.out) : g2 ≠ g3); have NS := Aside0.mk (by rw [hg]; exact Nat.ne_of_lt HM.out.lt : sb ≠ g3); have B1n := Aside0.mk (blk_below B1.out hb); have B2n := Aside0.mk (blk_below B2.out hb); have HMn := Aside0.mk (HM.out.below hb); clear B1 B2 HM; have B1 := B1n; have B2 := B2n; have HM := HMn; clear B1n B2n HMn; have HBn := Aside0.mk (below_step HB.out hb); clear HB; have HB := HBn; clear HBn; clear hg hbox hb; have z3 := (blk_cell B3.out 0).trans rfl; have z4 := blk_frozen B3.out 0))
  go_upto_region 4 with (fail)
  have HF4 := Aside0.mk (blk_set B3.out 0 (.func (.func 57) #[] #[.pointer (some ⟨g1, 0, none⟩), .pointer (some ⟨g2, 0, none⟩), .pointer (some ⟨g3, 0, none⟩)]))
  have HC4 := Aside0.mk (Chg.setCell W4 g3 0 (.func (.func 57) #[] #[.pointer (some ⟨g1, 0, none⟩), .pointer (some ⟨g2, 0, none⟩), .pointer (some ⟨g3, 0, none⟩)]))
  have HB4 := Aside0.mk ((Chg.ofBelow (F := fun k => k = g3) HB.out).trans HC4.out (fun k _ e => e) |>.below (Nat.le_refl _) (fun k e => by rw [e]; exact G3.out))
  generalize W4.setCell ⟨g3, 0, none⟩ (.func (.func 57) #[] #[.pointer (some ⟨g1, 0, none⟩), .pointer (some ⟨g2, 0, none⟩), .pointer (some ⟨g3, 0, none⟩)]) = W5 at HF4 HC4 HB4 ⊢
  have HLK := Aside0.mk (show Look W5 lb mb mn last Q g1 g2 g3 sb 0 [] from ⟨HL.out.below HB4.out, fun hm => absurd (HL.out.lt _ hm) (Nat.not_lt.2 GS.out), (HC4.out.block _ (blk_lt B1.out) N1.out).trans B1.out, (HC4.out.block _ (blk_lt B2.out) N2.out).trans B2.out, by simpa using HF4.out, (HM.out.at (HC4.out.block _ HM.out.lt NS.out)).congr (fun kl => (setI_nil kl).symm), Nat.le_refl _, List.nodup_nil, (fun x hx => by cases hx)⟩)
  have y3 := (blk_cell HLK.out.c3 0).trans rfl
  clear z3 z4
  go_wp2_with (first | (go_at_call 57; (with_reducible refine (look_calls lb mb mn last Q g1 g2 g3 sb HMN.out HQ.out (unseen Q []) 0 [] id _ (Nat.le_refl _) HI.out HLK.out).mono ?_); rintro e W7 ⟨rfl, m7, S7, hS7, hm7, hn7, hs7, hdfs, hc7⟩; have HL7 := Aside0.mk (HLK.out.chg hc7 hS7 hm7 hn7 hs7); have HD7 := Aside0.mk hdfs; have HC7 := Aside0.mk hc7; clear hS7 hm7 hn7 hs7 hdfs hc7 y3; have y2 := (blk_cell HL7.out.c2 0).trans rfl))
  go_ret
  exact ⟨sb, m7, S7, rfl, HL7.out.hS, HL7.out.hm, HL7.out.nd, HL7.out.sub, fun x => HD7.out.all x, (Chg.ofBelow (F := fun k => k = sb) HB4.out).trans HC7.out (fun k _ e => e) |>.below (Nat.le_refl _) (fun k e => by rw [e]; exact GS.out), GS.out⟩
end Go.Proofs.Ytimlfdfmgajbnaa.PA
