/-
The walk of the law LockNil: it returns true, whatever comes in.
-/
import Derived.Test.YtimlfdfmgajbnaaLk17
namespace Go.Proofs.Ytimlfdfmgajbnaa.PA
open Go.RowKit Go.Proofs.YtimlfdfmgajbnaaW.PrintWords Go.Proofs.YtimlfdfmgajbnaaW.PrintLast Go.Proofs.YtimlfdfmgajbnaaW.PrintMore
set_option linter.unusedVariables false
set_option linter.unusedSimpArgs false
/-- Locks that are not, or that nobody made. -/
def Unmade (w : World) (p : Value) : Prop := p = .pointer none ∨ ∃ lb, p = .pointer (some ⟨lb, 0, none⟩) ∧ w.cell? ⟨lb, 0, none⟩ = some (.map none)
theorem Unmade.below {w w' : World} {p : Value} (h : Unmade w p) (hb : Below w.heap.size w w') : Unmade w' p := h.imp id (fun ⟨lb, e, hc⟩ => ⟨lb, e, cell_keep hc hb⟩)
theorem made_un {p : Value} (w : World) (h : Unmade w p) : Calls Try.prog 31 #[p] w fun e w' => e = .returned (.bool false) ∧ w = w' := by
  rcases h with rfl | ⟨lb, rfl, hc⟩
  · exact made_nil w
  · exact made_not lb w hc
set_option maxHeartbeats 1000000 in
theorem un_free (p : Value) (id : Int) (w : World) (h : Unmade w p) : Calls Try.prog 13 #[p, .int .i64 id] w fun e w' => e = .returned (.tuple #[]) ∧ w = w' := by
  have HU := Aside0.mk h
  clear h
  go_enter Try.func13, Try.ntmps13
  go_wp2_with (first | (go_at_call 31; (with_reducible refine (made_un _ HU.out).mono ?_); rintro e w' ⟨rfl, rfl⟩))
  go_end0
  exact ⟨rfl, rfl⟩
set_option maxHeartbeats 1000000 in
theorem un_ask (p : Value) (id : Int) (v : Value) (w : World) (h : Unmade w p) : Calls Try.prog 14 #[p, .int .i64 id, v] w fun e w' => e = .returned (.bool false) ∧ w = w' := by
  have HU := Aside0.mk h
  clear h
  go_enter Try.func14, Try.ntmps14
  go_wp2_with (first | (go_at_call 31; (with_reducible refine (made_un _ HU.out).mono ?_); rintro e w' ⟨rfl, rfl⟩))
  go_ret
  exact ⟨rfl, rfl⟩
set_option maxHeartbeats 1000000 in
theorem un_holds (p : Value) (id : Int) (w : World) (h : Unmade w p) : Calls Try.prog 15 #[p, .int .i64 id] w fun e w' => e = .returned (.slice none 0 0) ∧ w = w' := by
  have HU := Aside0.mk h
  clear h
  go_enter Try.func15, Try.ntmps15
  go_wp2_with (first | (go_at_call 31; (with_reducible refine (made_un _ HU.out).mono ?_); rintro e w' ⟨rfl, rfl⟩))
  go_ret
  exact ⟨rfl, rfl⟩
set_option maxHeartbeats 1000000 in
theorem un_waits (p : Value) (id : Int) (w : World) (h : Unmade w p) : Calls Try.prog 16 #[p, .int .i64 id] w fun e w' => e = .returned (.slice none 0 0) ∧ w = w' := by
  have HU := Aside0.mk h
  clear h
  go_enter Try.func16, Try.ntmps16
  go_wp2_with (first | (go_at_call 31; (with_reducible refine (made_un _ HU.out).mono ?_); rintro e w' ⟨rfl, rfl⟩))
  go_ret
  exact ⟨rfl, rfl⟩
set_option maxHeartbeats 1000000 in
theorem un_round (p : Value)  (w : World) (h : Unmade w p) : Calls Try.prog 17 #[p] w fun e w' => e = .returned (.slice none 0 0) ∧ w = w' := by
  have HU := Aside0.mk h
  clear h
  go_enter Try.func17, Try.ntmps17
  go_wp2_with (first | (go_at_call 31; (with_reducible refine (made_un _ HU.out).mono ?_); rintro e w' ⟨rfl, rfl⟩))
  go_ret
  exact ⟨rfl, rfl⟩
set_option maxHeartbeats 8000000 in
set_option maxRecDepth 100000 in
theorem LockNil_goes (a : Int) (s : ByteArray) (w : World) (wf0 : (Lit.int .i64 a).wf = true) (hs1 : s.size ≤ 140737488351232) :
    Calls Try.prog 4 #[.int .i64 a, .string s] w fun e W' => e = .returned (.bool true) ∧ Below w.heap.size w W' := by
  have HB0 := Aside0.mk (Below.refl w.heap.size w)
  go_enter Try.func4, Try.ntmps4
  go_upto_region 5 with (first | (go_at_call 9; (with_reducible refine (awake_calls _).mono ?_); rintro e W1 ⟨rfl, hb⟩; have HB := Aside0.mk hb; clear hb HB0) | ((with_reducible refine gate_dst (N := 12) rfl ?_); refine box_event ?hg (N := 12) ?hd (cs := #[.map none, .int .i64 0]) (t := 38) ?hr ?_; (case hd => rfl); (case hg => rfl); (case hr => first | (go_simp; done) | (go_simp; rfl)); intro g hg W2 hbox hb; have BK := Aside0.mk hbox; have HBn := Aside0.mk (below_step HB.out hb); clear HB; have HB := HBn; clear HBn; clear hg hbox hb))
  have BS := Aside0.mk (blk_new W2 (.cells #[.pointer none, .pointer (some ⟨g, 0, none⟩)] 25 (0, 0)))
  have BKn := Aside0.mk (blk_alloc BK.out (.cells #[.pointer none, .pointer (some ⟨g, 0, none⟩)] 25 (0, 0)))
  have HBn := Aside0.mk (below_alloc HB.out (.cells #[.pointer none, .pointer (some ⟨g, 0, none⟩)] 25 (0, 0)))
  generalize hgs : W2.heap.size = gs at BS ⊢
  generalize W2.alloc (.cells #[.pointer none, .pointer (some ⟨g, 0, none⟩)] 25 (0, 0)) = W3 at BS BKn HBn ⊢
  clear hgs HB BK
  go_wp2
  go_loopw [7] (fun v7 wr => ∃ i : Int, (i = 0 ∨ i = 1 ∨ i = 2) ∧ v7 = .int .i64 i ∧ Aside0 (wr.heap[gs]? = some (.cells #[.pointer none, .pointer (some ⟨g, 0, none⟩)] 25 (0, 0))) ∧ Aside0 (wr.heap[g]? = some (.cells #[.map none, .int .i64 0] 38 (0, 0))) ∧ Aside0 (Below w.heap.size w wr)) (fun v7 _ => (2 - intOf v7).toNat)
  case atStart => exact ⟨0, .inl rfl, rfl, ⟨BS.out⟩, ⟨BKn.out⟩, ⟨HBn.out⟩⟩
  case round =>
    clear BS BKn HBn
    obtain ⟨i, hi, rfl, BS, BK, HB⟩ := hrel
    rcases hi with rfl | rfl | rfl
    · have HU := Aside0.mk (show Unmade wr (.pointer none) from .inl rfl)
      have c1 : wr.cell? ⟨gs, 0, none⟩ = some (.pointer none) := (blk_cell BS.out 0).trans rfl
      have c2 : (wr.alloc (.cells #[.string s] 9 (0, 0))).cell? ⟨gs, 0, none⟩ = some (.pointer none) := (blk_cell (blk_alloc BS.out _) 0).trans rfl
      have hb0 := below_alloc (Below.refl wr.heap.size wr) (.cells #[.string s] 9 (0, 0))
      have HU2 := Aside0.mk (HU.out.below hb0)
      have HB2 := Aside0.mk (below_step HB.out hb0)
      have BS2 := Aside0.mk (blk_below BS.out hb0)
      have BK2 := Aside0.mk (blk_below BK.out hb0)
      clear hb0
      go_wp2_with (first | (go_at_call 13; (with_reducible refine (un_free _ _ _ HU2.out).mono ?_); rintro e w' ⟨rfl, rfl⟩) | (go_at_call 13; (with_reducible refine (un_free _ _ _ HU.out).mono ?_); rintro e w' ⟨rfl, rfl⟩) | (go_at_call 14; (with_reducible refine (un_ask _ _ _ _ HU2.out).mono ?_); rintro e w' ⟨rfl, rfl⟩) | (go_at_call 14; (with_reducible refine (un_ask _ _ _ _ HU.out).mono ?_); rintro e w' ⟨rfl, rfl⟩) | (go_at_call 15; (with_reducible refine (un_holds _ _ _ HU2.out).mono ?_); rintro e w' ⟨rfl, rfl⟩) | (go_at_call 15; (with_reducible refine (un_holds _ _ _ HU.out).mono ?_); rintro e w' ⟨rfl, rfl⟩) | (go_at_call 16; (with_reducible refine (un_waits _ _ _ HU2.out).mono ?_); rintro e w' ⟨rfl, rfl⟩) | (go_at_call 16; (with_reducible refine (un_waits _ _ _ HU.out).mono ?_); rintro e w' ⟨rfl, rfl⟩) | (go_at_call 17; (with_reducible refine (un_round _ _ HU2.out).mono ?_); rintro e w' ⟨rfl, rfl⟩) | (go_at_call 17; (with_reducible refine (un_round _ _ HU.out).mono ?_); rintro e w' ⟨rfl, rfl⟩))
      go_roundw
      case rel => exact ⟨1, by simp, rfl, ⟨BS2.out⟩, ⟨BK2.out⟩, ⟨HB2.out⟩⟩
      case measure => simp [intOf]
    · have HU := Aside0.mk (show Unmade wr (.pointer (some ⟨g, 0, none⟩)) from .inr ⟨g, rfl, (blk_cell BK.out 0).trans rfl⟩)
      have c1 : wr.cell? ⟨gs, 1, none⟩ = some (.pointer (some ⟨g, 0, none⟩)) := (blk_cell BS.out 1).trans rfl
      have c2 : (wr.alloc (.cells #[.string s] 9 (0, 0))).cell? ⟨gs, 1, none⟩ = some (.pointer (some ⟨g, 0, none⟩)) := (blk_cell (blk_alloc BS.out _) 1).trans rfl
      have hb0 := below_alloc (Below.refl wr.heap.size wr) (.cells #[.string s] 9 (0, 0))
      have HU2 := Aside0.mk (HU.out.below hb0)
      have HB2 := Aside0.mk (below_step HB.out hb0)
      have BS2 := Aside0.mk (blk_below BS.out hb0)
      have BK2 := Aside0.mk (blk_below BK.out hb0)
      clear hb0
      go_wp2_with (first | (go_at_call 13; (with_reducible refine (un_free _ _ _ HU2.out).mono ?_); rintro e w' ⟨rfl, rfl⟩) | (go_at_call 13; (with_reducible refine (un_free _ _ _ HU.out).mono ?_); rintro e w' ⟨rfl, rfl⟩) | (go_at_call 14; (with_reducible refine (un_ask _ _ _ _ HU2.out).mono ?_); rintro e w' ⟨rfl, rfl⟩) | (go_at_call 14; (with_reducible refine (un_ask _ _ _ _ HU.out).mono ?_); rintro e w' ⟨rfl, rfl⟩) | (go_at_call 15; (with_reducible refine (un_holds _ _ _ HU2.out).mono ?_); rintro e w' ⟨rfl, rfl⟩) | (go_at_call 15; (with_reducible refine (un_holds _ _ _ HU.out).mono ?_); rintro e w' ⟨rfl, rfl⟩) | (go_at_call 16; (with_reducible refine (un_waits _ _ _ HU2.out).mono ?_); rintro e w' ⟨rfl, rfl⟩) | (go_at_call 16; (with_reducible refine (un_waits _ _ _ HU.out).mono ?_); rintro e w' ⟨rfl, rfl⟩) | (go_at_call 17; (with_reducible refine (un_round _ _ HU2.out).mono ?_); rintro e w' ⟨rfl, rfl⟩) | (go_at_call 17; (with_reducible refine (un_round _ _ HU.out).mono ?_); rintro e w' ⟨rfl, rfl⟩))
      go_roundw
      case rel => exact ⟨2, by simp, rfl, ⟨BS2.out⟩, ⟨BK2.out⟩, ⟨HB2.out⟩⟩
      case measure => simp [intOf]
    · go_wp2
      go_ret
      exact ⟨rfl, HB.out⟩
end Go.Proofs.Ytimlfdfmgajbnaa.PA
