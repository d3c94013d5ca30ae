/-
The walk of the law LockEnds: it returns true, whatever comes in.
-/
import Derived.Test.YtimlfdfmgajbnaaLk20
import Derived.Test.YtimlfdfmgajbnaaLk21
namespace Go.Proofs.Ytimlfdfmgajbnaa.PA
open Go.RowKit Go.Proofs.YtimlfdfmgajbnaaW.PrintWords Go.Proofs.YtimlfdfmgajbnaaW.PrintLast Go.Proofs.YtimlfdfmgajbnaaW.PrintMore
set_option linter.unusedVariables false
set_option linter.unusedSimpArgs false
/-- The block of who is live. -/
def LV (w : World) (gl : Nat) (lv : List Bool) : Prop := lv.length = 6 ∧ w.heap[gl]? = some (.cells (lv.map Value.bool).toArray 50 (0, 0))
theorem S1.set {w W : World} {lb : Nat} {last : Int} {L : List S79} {B : Nat} {F : List Nat} (h : S1 w W lb last L B F) {gl : Nat} (i : Nat) (u : Value) (hg : w.heap.size ≤ gl ∧ ∀ k ∈ F, k ≠ gl) : S1 w (W.setCell ⟨gl, i, none⟩ u) lb last L B F :=
  ⟨h.st.chg (Chg.setCell W gl i u) (fun k hk e => hg.2 k hk e), h.hb.trans ((Chg.setCell W gl i u).below (below_size h.hb) (fun k e => by rw [e]; exact hg.1)), h.hf⟩
theorem LV.set {W : World} {gl : Nat} {lv : List Bool} (h : LV W gl lv) (i : Nat) (b : Bool) : LV (W.setCell ⟨gl, i, none⟩ (.bool b)) gl (lv.set i b) :=
  ⟨by rw [List.length_set]; exact h.1, by rw [blk_set h.2 i (.bool b)]; congr 2; simp [List.map_set]⟩
theorem LV.cell {W : World} {gl : Nat} {lv : List Bool} (h : LV W gl lv) (i : Nat) (hi : i < 6) : W.cell? ⟨gl, i, none⟩ = some (.bool (lv.getD i false)) := by
  rw [blk_cell h.2 i]
  have := h.1
  simp [List.getD, show i < lv.length by omega]
theorem LV.chg {W W' : World} {F : Nat → Prop} {gl : Nat} {lv : List Bool} (h : LV W gl lv) (hc : Chg F W W') (hn : ¬ F gl) : LV W' gl lv := ⟨h.1, (hc.block gl (blk_lt h.2) hn).trans h.2⟩
theorem LV.below {W W' : World} {gl : Nat} {lv : List Bool} (h : LV W gl lv) (hb : Below W.heap.size W W') : LV W' gl lv := ⟨h.1, blk_below h.2 hb⟩
/-- The locks and who is live. -/
structure ES (w W : World) (lb gl : Nat) (last : Int) (L : List S79) (lv : List Bool) (B : Nat) (F : List Nat) : Prop where
  s : S1 w W lb last L B F
  v : LV W gl lv
  g : w.heap.size ≤ gl ∧ ∀ k ∈ F, k ≠ gl
  nd : (idsL L).Nodup
  ids : ∀ x, x ∈ idsL L ↔ (0 ≤ x ∧ x < 6) ∧ lv.getD x.toNat false = true
  wi : WI L
theorem ES.below {w W W' : World} {lb gl : Nat} {last : Int} {L : List S79} {lv : List Bool} {B : Nat} {F : List Nat} (h : ES w W lb gl last L lv B F) (hb : Below W.heap.size W W') : ES w W' lb gl last L lv B F := ⟨h.s.below hb, h.v.below hb, h.g, h.nd, h.ids, h.wi⟩
theorem getD_set (lv : List Bool) (i j : Nat) (b : Bool) (h : i < lv.length) : (lv.set i b).getD j false = if i = j then b else lv.getD j false := by
  simp only [List.getD_eq_getElem?_getD, List.getElem?_set]
  split
  · rename_i e; subst e; simp [h]
  · rfl
theorem LV.frz {W : World} {gl : Nat} {lv : List Bool} (h : LV W gl lv) (i : Nat) : W.frozen? ⟨gl, i, none⟩ = false := by
  unfold World.frozen?
  rw [h.2]
  rfl
theorem nd_ask {L : List S79} (h : (idsL L).Nodup) (last id : Int) (ns : List ByteArray) : (idsL (askL L last id ns).1).Nodup := by
  by_cases hk : keptL (withL L id) id (wantsS (getL L id).f1 (getL L id).f2 ns) (turnS last (getL L id)) = []
  · rw [askL_yes L last id ns rfl rfl hk]; unfold idsL; rw [setL_ids]; exact withL_nodup h id
  · rw [askL_no L last id ns rfl rfl hk]; unfold idsL; rw [setL_ids]; exact withL_nodup h id
theorem live_ask {L : List S79} {lv : List Bool} (hl : lv.length = 6) (h : ∀ x, x ∈ idsL L ↔ (0 ≤ x ∧ x < 6) ∧ lv.getD x.toNat false = true) {r : Int} (hr : 0 ≤ r ∧ r < 6) (last : Int) (ns : List ByteArray) (x : Int) :
    x ∈ idsL (askL L last r ns).1 ↔ (0 ≤ x ∧ x < 6) ∧ (lv.set r.toNat true).getD x.toNat false = true := by
  rw [ids_ask, h x, getD_set lv r.toNat x.toNat true (by omega)]
  by_cases e : x = r
  · subst e; simp [hr]
  · by_cases h0 : 0 ≤ x ∧ x < 6
    · have : ¬ r.toNat = x.toNat := by omega
      simp [e, this]
    · simp [e, h0]
def cnt (lv : List Bool) : Nat := lv.count true
theorem cnt_step {lv : List Bool} (hl : lv.length = 6) {j : Int} (h0 : 0 ≤ j) (h1 : j < 6) : cnt (lv.take (j + 1).toNat) = cnt (lv.take j.toNat) + if lv.getD j.toNat false = true then 1 else 0 := by
  have e : (j + 1).toNat = j.toNat + 1 := by omega
  have h2 : j.toNat < lv.length := by omega
  rw [e, List.take_succ_eq_append_getElem h2]
  unfold cnt
  rw [List.count_append]
  simp [List.getD, h2, List.count_singleton]
theorem cnt_le {lv : List Bool} (hl : lv.length = 6) (n : Nat) : cnt (lv.take n) ≤ 6 := by
  have h1 : cnt (lv.take n) ≤ (lv.take n).length := List.count_le_length
  have h2 := List.length_take_le' n lv
  omega
theorem nd_free {L : List S79} (h : (idsL L).Nodup) (id : Int) : (idsL (freeL L id)).Nodup := h.sublist (List.Sublist.map _ List.filter_sublist)
theorem live_free {L : List S79} {lv : List Bool} (hl : lv.length = 6) (h : ∀ x, x ∈ idsL L ↔ (0 ≤ x ∧ x < 6) ∧ lv.getD x.toNat false = true) {r : Int} (hr : 0 ≤ r ∧ r < 6) (x : Int) :
    x ∈ idsL (freeL L r) ↔ (0 ≤ x ∧ x < 6) ∧ (lv.set r.toNat false).getD x.toNat false = true := by
  rw [ids_free, h x, getD_set lv r.toNat x.toNat false (by omega)]
  by_cases e : x = r
  · subst e; simp
  · by_cases h0 : 0 ≤ x ∧ x < 6
    · have : ¬ r.toNat = x.toNat := by omega
      simp [e, this]
    · simp [h0]
theorem cnt_set : ∀ (lv : List Bool) (i : Nat), lv.getD i false = true → cnt (lv.set i false) + 1 = cnt lv
  | [], i, h => by simp at h
  | b :: lv, 0, h => by
    have : b = true := by simpa using h
    subst this
    simp [cnt]
  | b :: lv, i + 1, h => by
    have := cnt_set lv i (by simpa using h)
    unfold cnt at this ⊢
    rw [List.set_cons_succ, List.count_cons, List.count_cons]
    omega
theorem cnt_pos : ∀ (lv : List Bool), 0 < cnt lv → ∃ i, i < lv.length ∧ lv.getD i false = true
  | [], h => by simp [cnt] at h
  | true :: lv, _ => ⟨0, by simp, rfl⟩
  | false :: lv, h => by
    obtain ⟨i, h1, h2⟩ := cnt_pos lv (by simpa [cnt] using h)
    exact ⟨i + 1, by simpa using h1, by simpa using h2⟩
theorem live_some {L : List S79} {lv : List Bool} (hl : lv.length = 6) (h : ∀ x, x ∈ idsL L ↔ (0 ≤ x ∧ x < 6) ∧ lv.getD x.toNat false = true) (hc : 0 < cnt lv) : idsL L ≠ [] := by
  obtain ⟨i, h1, h2⟩ := cnt_pos lv hc
  have := (h (i : Int)).2 ⟨⟨by omega, by omega⟩, by simpa using h2⟩
  exact List.ne_nil_of_mem this
theorem round_none {L : List S79} (h : RoundL L []) : ∀ a ∈ idsL L, ¬ ReachL L a a := by
  rcases h with ⟨_, h⟩ | ⟨a, ha, hr, _, _, hm⟩
  · exact h
  · exact absurd ((hm a).2 ⟨hr, hr⟩) (by simp)
theorem round_nil {out : List Int} (h : RoundL [] out) : out = [] := by
  rcases h with ⟨h, _⟩ | ⟨a, ha, _⟩
  · exact h
  · cases ha
theorem dead_nil {L : List S79} {lv : List Bool} (hl : lv.length = 6) (h : ∀ x, x ∈ idsL L ↔ (0 ≤ x ∧ x < 6) ∧ lv.getD x.toNat false = true) (hc : cnt lv = 0) : L = [] := by
  cases L with
  | nil => rfl
  | cons y L =>
    have h1 := (h y.f0).1 (by simp [idsL])
    have h2 := cnt_set lv _ h1.2
    omega
theorem int_eq {a b : Int} (h : a = b) : Value.int .i64 a = .int .i64 b := by rw [h]
theorem no_step {L : List S79} {lv : List Bool} {k : Int} (h : ∀ x, 0 ≤ x → x < k → lv.getD x.toNat false = true → waitsL L x ≠ []) (hk : 0 ≤ k) (hw : lv.getD k.toNat false = true → waitsL L k ≠ []) : ∀ x, 0 ≤ x → x < k + 1 → lv.getD x.toNat false = true → waitsL L x ≠ [] := fun x h0 h1 h2 => by
  by_cases e : x = k
  · subst e; exact hw h2
  · exact h x h0 (by omega) h2
/-- The search: nobody yet who is kept by nobody, or one is freed. -/
def SR (w wr : World) (lb gl : Nat) (last1 : Int) (L1 : List S79) (lv1 : List Bool) (B1 : Nat) (F1 : List Nat) (n k : Int) (went : Bool) (c : Int) : Prop := match went with
  | false => c = (cnt lv1 : Nat) ∧ ES w wr lb gl last1 L1 lv1 B1 F1 ∧ ∀ x, 0 ≤ x → x < k → lv1.getD x.toNat false = true → waitsL L1 x ≠ []
  | true => ∃ last L lv B F, cnt lv + 1 = cnt lv1 ∧ c = (cnt lv : Nat) ∧ ES w wr lb gl last L lv B F ∧ (B : Int) ≤ 2100 + (n + 1)
theorem rd_mem (l : List Int) (i : Int) (h0 : 0 ≤ i) (h1 : i < l.length) : rd l i ∈ l := by
  have hl : i.toNat < l.length := by omega
  unfold rd
  rw [List.getD_eq_getElem?_getD, List.getElem?_eq_getElem hl]
  exact List.getElem_mem hl
theorem ids0 (x : Int) : x ∈ idsL [] ↔ (0 ≤ x ∧ x < 6) ∧ [false, false, false, false, false, false].getD x.toNat false = true := by
  constructor
  · intro h; cases h
  rintro ⟨h1, h2⟩
  have h3 : x = 0 ∨ x = 1 ∨ x = 2 ∨ x = 3 ∨ x = 4 ∨ x = 5 := by omega
  rcases h3 with rfl | rfl | rfl | rfl | rfl | rfl <;> cases h2
def SE (w wr : World) (lb gl : Nat) (m : List S34) (i : Int) : Prop := ∃ last L lv B F, ES w wr lb gl last L lv B F ∧ (B : Int) ≤ i + namesIn (m.take i.toNat)
set_option maxHeartbeats 16000000 in
set_option maxRecDepth 100000 in
theorem LockEnds_goes (A0 : Option Addr) (l : List S34) (c0 : Nat) (w : World) (hr0 : Kd.C k34 w A0 l.length l) (hc0 : l.length ≤ c0) (hg0 : l.length * 40 ≤ 140737488351232 ∧ ∀ x ∈ l, (Lit.int .i64 x.f0).wf = true ∧ (Lit.int .i64 x.f1).wf = true ∧ (List.length x.f2 * 16 ≤ 140737488351232 ∧ ∀ y ∈ x.f2, y.size ≤ 140737488351232)) :
    Calls Try.prog 7 #[.slice A0 l.length c0] w fun e W' => e = .returned (.bool true) ∧ Below w.heap.size w W' := by
  obtain ⟨m, hm⟩ : ∃ m, m = l.take 60 := ⟨_, rfl⟩
  have hml : m.length ≤ 60 := by rw [hm, List.length_take]; omega
  have hmC : Kd.C k34 w A0 m.length m := by
    by_cases h : l.length ≤ 60
    · rw [hm, List.take_of_length_le h]; exact hr0
    · rw [hm]; exact Kd.C_take hr0 (by omega)
  have hmc : m.length ≤ c0 := by rw [hm, List.length_take]; omega
  have hmg : ∀ x ∈ m, goodS x := fun x hx => hg0.2 x (by rw [hm] at hx; exact List.mem_of_mem_take hx)
  have hlc : (60 < l.length → m.length = 60) ∧ (¬ 60 < l.length → m.length = l.length) := by rw [hm, List.length_take]; omega
  have HR := Aside0.mk hmC; have HG := Aside0.mk hmg; have HC := Aside0.mk hmc; have HL := Aside0.mk hlc; have HC0 := Aside0.mk hc0; have HML := Aside0.mk hml
  clear hr0 hc0 hg0 hm hmC hmc hmg hlc
  go_enter Try.func7, Try.ntmps7
  go_upto_if 19 with (first | (go_at_call 9; (with_reducible refine (awake_calls _).mono ?_); rintro e W1 ⟨rfl, hb⟩; have HB := Aside0.mk hb; clear hb))
  go_cut [0] (fun v0 wc => v0 = .slice A0 m.length c0 ∧ Aside0 (Below w.heap.size w wc))
  case first =>
    by_cases hb : 60 < l.length
    · have h1 : decide ((60 : Int) < (l.length : Int)) = true := decide_eq_true (by omega)
      have e60 := HL.out.1 hb
      have hc60 : (60 : Int) ≤ (c0 : Int) := by have := HC0.out; omega
      go_wp2
      go_meet
      case rel => exact ⟨by rw [e60], HB⟩
    · have h1 : decide ((60 : Int) < (l.length : Int)) = false := decide_eq_false (by omega)
      have e60 := HL.out.2 hb
      go_wp2
      go_meet
      case rel => exact ⟨by rw [e60], HB⟩
  case rest =>
    obtain ⟨rfl, HB⟩ := hcut
    clear HL HC0
    obtain ⟨K, r, hgr, hgr2⟩ := great_ev m HML.out (fun x hx => by have := (HG.out x hx).2.2.1; omega) (fun x hx => (HG.out x hx).2.2.2)
    have HGR := Aside0.mk hgr
    clear hgr
    cases r with
    | true =>
      clear hgr2
      go_wp2_with (first | (go_at_call 8; (with_reducible refine (storemanlaw24_great.calls K A0 c0 m _ _ (Kd.C_below HR.out HB.out) HC.out HGR.out).mono ?_); rintro e W2 ⟨rfl, hd⟩; have hb := hd.below; have HBn := Aside0.mk (below_step HB.out hb); clear HB; have HB := HBn; clear HBn hb hd))
      go_ret
      exact ⟨rfl, HB.out⟩
    | false =>
      have HNM := Aside0.mk (hgr2 rfl)
      clear hgr2
      go_wp2_with (first | (go_at_call 8; (with_reducible refine (storemanlaw24_great.calls K A0 c0 m _ _ (Kd.C_below HR.out HB.out) HC.out HGR.out).mono ?_); rintro e W2 ⟨rfl, hd⟩; have hb := hd.below; have HBn := Aside0.mk (below_step HB.out hb); clear HB; have HB := HBn; clear HBn hb hd) | (go_at_call 10; (with_reducible refine (st_new _).mono ?_); rintro e W3 ⟨lb, F0, rfl, hL, hb, hF⟩; have HS := Aside0.mk (show S1 w W3 lb 0 [] 0 F0 from ⟨hL, below_step HB.out hb, fun k hk => Nat.le_trans (below_size HB.out) (hF k hk)⟩); clear HB hL hb hF) | ((with_reducible refine gate_dst (N := 4) rfl ?_); refine box_event ?hg (N := 4) ?hd (cs := #[.bool false, .bool false, .bool false, .bool false, .bool false, .bool false]) (t := 50) ?hr ?_; (case hd => rfl); (case hg => rfl); (case hr => first | (go_simp; done) | (go_simp; rfl)); intro gl hg W4 hbox hb; have HSn := Aside0.mk (HS.out.below hb); have HLV := Aside0.mk (show LV W4 gl [false, false, false, false, false, false] from ⟨rfl, hbox⟩); have HGL := Aside0.mk (show w.heap.size ≤ gl ∧ ∀ k ∈ F0, k ≠ gl from ⟨by rw [hg]; exact below_size HS.out.hb, fun k hk e => by have := HS.out.st.lt k hk; omega⟩); clear HS; have HS := HSn; clear HSn hbox hb hg))
      clear HGR
      have HSE := Aside0.mk (show SE w W4 lb gl m 0 from ⟨0, [], [false, false, false, false, false, false], 0, F0, ⟨HS.out, HLV.out, HGL.out, List.nodup_nil, ids0, fun x hx => by cases hx⟩, by simp⟩)
      clear HS HLV HGL
      go_loopw [5] (fun v5 wr => ∃ i : Int, (0 ≤ i ∧ i ≤ m.length) ∧ v5 = .int .i64 i ∧ Aside0 (SE w wr lb gl m i)) (fun v5 _ => (m.length - intOf v5).toNat)
      case atStart => exact ⟨0, ⟨by omega, by omega⟩, rfl, HSE⟩
      case round =>
        obtain ⟨i, ⟨h0, h1⟩, rfl, HSI2⟩ := hrel
        clear HSE
        by_cases hi : i < (m.length : Int)
        · have hdi : decide (i < (m.length : Int)) = true := decide_eq_true hi
          obtain ⟨last, L, lv, B, F, hes, hB⟩ := HSI2.out
          have ES_ := Aside0.mk hes; have HBI := Aside0.mk hB
          have HI := Aside0.mk (And.intro h0 hi)
          have HBI2 := Aside0.mk (show ((B + 1 + (rd_T34 m i).f2.length : Nat) : Int) ≤ (i + 1) + namesIn (m.take (i + 1).toNat) by have := names_step h0 hi; omega)
          have HB2 := Aside0.mk (SI.B (w := w) (wr := w) (lb := lb) HBI2.out HNM.out (by have := HML.out; omega))
          have HNL := Aside0.mk (show B + (rd_T34 m i).f2.length ≤ 100000 by have := HB2.out; omega)
          obtain ⟨ad, A2, c2, e2, x0, x1, x2, x3, x4⟩ := at_T34 HR.out i h0 hi
          have PS := Aside0.mk (show Ps w ad i (rd_T34 m i) A2 c2 from ⟨x0, x1, x2, x3, x4⟩)
          cases e2
          have hin : rd_T34 m i ∈ m := by rw [show rd_T34 m i = m[i.toNat]'(by omega) by have := rd34 m i.toNat (by omega); rwa [Int.toNat_of_nonneg h0] at this]; exact List.getElem_mem _
          have HGX := Aside0.mk (HG.out _ hin)
          clear hes hB HSI2 x0 x1 x2 x3 x4 hin
          replace h0 := eq_true h0; replace hi := eq_true hi
          have k1 := (PS.out.below ES_.out.s.hb).h1; have k2 := (PS.out.below ES_.out.s.hb).h2
          go_wp2_with (first | (go_at_call 19; (with_reducible refine (pick6_calls _ _).mono ?_); rintro e W5 ⟨r, rfl, hr6, hb⟩; have HR6 := Aside0.mk hr6; have hr0 := eq_true hr6.1; have hr1 := eq_true hr6.2; clear hr6; have ESn := Aside0.mk (ES_.out.below hb); clear ES_; have ES_ := ESn; clear ESn k1 k2 hb; have k1 := (PS.out.below ES_.out.s.hb).h1; have k2 := (PS.out.below ES_.out.s.hb).h2) | (go_at_call 14; have hp := st_ask0 r A2 c2 (rd_T34 m i).f2 ES_.out.s.st (wf6 HR6.out) HNL.out (PS.out.below ES_.out.s.hb).hC PS.out.hc (fun s hs => by have := HGX.out.2.2.2 s hs; omega) (fun hp0 ad e h => absurd (ES_.out.s.hf _ h) (Nat.not_le.2 (C_lt PS.out.hC hp0 ad e))); (with_reducible refine hp.mono ?_); rintro e W6 ⟨rfl, F6, hL, hF, hc⟩; have HSn := Aside0.mk (ES_.out.s.next (Below.refl _ _) hL hF hc); have HVn := Aside0.mk (ES_.out.v.chg hc (fun h => ES_.out.g.2 _ h rfl)); have HGn := Aside0.mk (show w.heap.size ≤ gl ∧ ∀ k ∈ F6, k ≠ gl from ⟨ES_.out.g.1, fun k hk e => (hF k hk).elim (fun h => ES_.out.g.2 k h e) (fun h => by have := blk_lt ES_.out.v.2; omega)⟩); have kc := HVn.out.cell r.toNat (by have := HR6.out; omega); have kf := HVn.out.frz r.toNat; clear hp hL hF hc k1 k2))
          go_roundw
          case rel => exact ⟨i + 1, ⟨by have := HI.out; omega, by have := HI.out; omega⟩, by first | rfl | (rw [wrapI (by have := HI.out; omega) (by have := HI.out; have := HML.out; omega)]), ⟨_, _, lv.set r.toNat true, _, F6, ⟨HSn.out.set r.toNat (.bool true) HGn.out, HVn.out.set r.toNat true, HGn.out, nd_ask ES_.out.nd _ _ _, live_ask ES_.out.v.1 ES_.out.ids HR6.out _ _, wi_ask ES_.out.s.st.ok ES_.out.wi _ _⟩, HBI2.out⟩⟩
          case measure => have h2 := HI.out; have h3 := HML.out; have h4 := wrapI (x := i + 1) (by omega) (by omega); simp [intOf, h4]; omega
        · have hdi : decide (i < (m.length : Int)) = false := decide_eq_false hi
          obtain ⟨last, L, lv, B, F, hes, hB⟩ := HSI2.out
          have HBB := Aside0.mk (show B ≤ 1000000 by have := SI.B (w := w) (wr := w) (lb := lb) hB HNM.out (by have := HML.out; omega); omega)
          have HBS := Aside0.mk (SI.B (w := w) (wr := w) (lb := lb) hB HNM.out (by have := HML.out; omega))
          have ES_ := Aside0.mk hes
          clear hes hB HSI2
          go_wp2
          go_loopw [7, 8] (fun v7 v8 wr => ∃ j : Int, (0 ≤ j ∧ j ≤ 6) ∧ v8 = .int .i64 j ∧ v7 = .int .i64 (cnt (lv.take j.toNat) : Nat) ∧ Aside0 (ES w wr lb gl last L lv B F)) (fun _ v8 _ => (6 - intOf v8).toNat)
          case atStart => exact ⟨0, ⟨by omega, by omega⟩, rfl, rfl, ES_⟩
          case round =>
            clear ES_
            obtain ⟨j, ⟨j0, j1⟩, rfl, rfl, ES_⟩ := hrel
            have hcl := cnt_le ES_.out.v.1 j.toNat
            by_cases hj : j < 6
            · have hdj : decide (j < 6) = true := decide_eq_true hj
              have hcs := cnt_step ES_.out.v.1 j0 hj
              have kc := ES_.out.v.cell j.toNat (by omega)
              have HJ := Aside0.mk (And.intro j0 hj)
              have HCL := Aside0.mk hcl
              clear hcl
              replace j0 := eq_true j0; replace hj := eq_true hj
              cases hb : lv.getD j.toNat false with
              | true =>
                rw [hb] at kc hcs
                have HCS := Aside0.mk hcs
                clear hcs hb
                go_wp2
                go_roundw
                case rel => exact ⟨j + 1, ⟨by have := HJ.out; omega, by have := HJ.out; omega⟩, by first | rfl | (rw [wrapI (by have := HJ.out; omega) (by have := HJ.out; omega)]), by rw [HCS.out]; first | rfl | (rw [wrapI (by have := HCL.out; omega) (by have := HCL.out; omega)]; rfl), ES_⟩
                case measure => have h2 := HJ.out; have h4 := wrapI (x := j + 1) (by omega) (by omega); simp [intOf, h4]; omega
              | false =>
                rw [hb] at kc hcs
                have HCS := Aside0.mk hcs
                clear hcs hb
                go_wp2
                go_roundw
                case rel => exact ⟨j + 1, ⟨by have := HJ.out; omega, by have := HJ.out; omega⟩, by first | rfl | (rw [wrapI (by have := HJ.out; omega) (by have := HJ.out; omega)]), by rw [HCS.out]; first | rfl | (rw [wrapI (by have := HCL.out; omega) (by have := HCL.out; omega)]; rfl), ES_⟩
                case measure => have h2 := HJ.out; have h4 := wrapI (x := j + 1) (by omega) (by omega); simp [intOf, h4]; omega
            · have hdj : decide (j < 6) = false := decide_eq_false hj
              obtain rfl : j = 6 := by omega
              have et : lv.take (6 : Int).toNat = lv := List.take_of_length_le (by have := ES_.out.v.1; omega)
              rw [et] at hcl ⊢
              have HCL := Aside0.mk hcl
              clear hcl et
              go_wp2
              go_loopw [7, 9] (fun v7 v9 wr => ∃ (n : Int) (last : Int) (L : List S79) (lv : List Bool) (B : Nat) (F : List Nat), (0 ≤ n ∧ (cnt lv : Int) + n ≤ 6) ∧ v9 = .int .i64 n ∧ v7 = .int .i64 (cnt lv : Nat) ∧ Aside0 (ES w wr lb gl last L lv B F) ∧ Aside0 ((B : Int) ≤ 2100 + n)) (fun _ v9 _ => (40 - intOf v9).toNat)
              case atStart => exact ⟨0, last, L, lv, B, F, ⟨by omega, by have := HCL.out; omega⟩, rfl, rfl, ES_, ⟨by have := HBS.out; omega⟩⟩
              case round =>
                clear ES_ HCL HBS
                obtain ⟨n, last1, L1, lv1, B1, F1, ⟨n0, n1⟩, rfl, rfl, ES_, HBN⟩ := hrel
                have hd40 : decide (n < 40) = true := decide_eq_true (by omega)
                have HBM := Aside0.mk (show B1 ≤ 1000000 by have := HBN.out; omega)
                have HN := Aside0.mk (And.intro n0 n1)
                by_cases hc : 0 < cnt lv1
                · have hdc : decide ((0 : Int) < (cnt lv1 : Int)) = true := decide_eq_true (by omega)
                  have HCP := Aside0.mk hc
                  go_upto_region 25 with (first | (go_at_call 17; (with_reducible refine (st_round ES_.out.s.st HBM.out).mono ?_); rintro e W7 ⟨v, out, rfl, hR, hro, hb⟩; obtain ⟨A3, c3, ev⟩ := Kd.R_slice hR; subst ev; have HV3 := Aside0.mk (Kd.R_reads' hR).2.2; have HC3 := Aside0.mk (Kd.R_reads' hR).2.1; have HRO := Aside0.mk hro; clear hR hro; have ESn := Aside0.mk (ES_.out.below hb); clear ES_; have ES_ := ESn; clear ESn hb))
                  by_cases ho : out = []
                  · subst ho
                    have hsk := sink (round_none HRO.out) (live_some ES_.out.v.1 ES_.out.ids HCP.out)
                    have HSK := Aside0.mk (show ∃ a, (0 ≤ a ∧ a < 6) ∧ lv1.getD a.toNat false = true ∧ waitsL L1 a = [] from by obtain ⟨a, ha, hwa⟩ := hsk; exact ⟨a, ((ES_.out.ids a).1 ha).1, ((ES_.out.ids a).1 ha).2, hwa⟩)
                    clear hsk HRO HV3 HC3 hc n0 n1
                    rw [List.length_nil]
                    go_wp2
                    go_loopw [7, 12, 13] (fun v7 v12 v13 wr => ∃ (k c : Int) (went : Bool), (0 ≤ k ∧ k ≤ 6) ∧ v13 = .int .i64 k ∧ v12 = .bool went ∧ v7 = .int .i64 c ∧ Aside0 (SR w wr lb gl last1 L1 lv1 B1 F1 n k went c)) (fun _ _ v13 _ => (6 - intOf v13).toNat)
                    case atStart => exact ⟨0, _, false, ⟨by omega, by omega⟩, rfl, rfl, rfl, ⟨rfl, ES_.out, fun x hx hx2 => by omega⟩⟩
                    case round =>
                      clear ES_
                      obtain ⟨k, c, went, ⟨k0, k1⟩, rfl, rfl, rfl, HSR⟩ := hrel
                      cases went with
                      | true =>
                        obtain ⟨last, L, lv, B, F, hcn, hcc, hes, hbb⟩ := HSR.out
                        subst hcc
                        have ES_ := Aside0.mk hes; have HBX := Aside0.mk hbb; have HCX := Aside0.mk hcn
                        clear hes hbb hcn HSR
                        by_cases hk : k < 6
                        · have hdk : decide (k < 6) = true := decide_eq_true hk
                          go_wp2
                          go_roundw
                          case rel => exact ⟨n + 1, last, L, lv, B, F, ⟨by have := HN.out; omega, by have := HN.out; have := HCX.out; omega⟩, by first | rfl | (rw [wrapI (by have := HN.out; omega) (by have := HN.out; omega)]), by first | rfl | (rw [wrapI (by have := HCX.out; omega) (by have := HN.out; have := HCX.out; omega)]), ES_, HBX⟩
                          case measure => have h2 := HN.out; have h4 := wrapI (x := n + 1) (by omega) (by omega); simp [intOf, h4]; omega
                        · have hdk : decide (k < 6) = false := decide_eq_false hk
                          go_wp2
                          go_roundw
                          case rel => exact ⟨n + 1, last, L, lv, B, F, ⟨by have := HN.out; omega, by have := HN.out; have := HCX.out; omega⟩, by first | rfl | (rw [wrapI (by have := HN.out; omega) (by have := HN.out; omega)]), by first | rfl | (rw [wrapI (by have := HCX.out; omega) (by have := HN.out; have := HCX.out; omega)]), ES_, HBX⟩
                          case measure => have h2 := HN.out; have h4 := wrapI (x := n + 1) (by omega) (by omega); simp [intOf, h4]; omega
                      | false =>
                        obtain ⟨hcc, hes, hno⟩ := HSR.out
                        subst hcc
                        have ES_ := Aside0.mk hes; have HNO := Aside0.mk hno
                        clear hes hno HSR
                        by_cases hk : k < 6
                        · have hdk : decide (k < 6) = true := decide_eq_true hk
                          have kc := ES_.out.v.cell k.toNat (by omega)
                          have HK := Aside0.mk (And.intro k0 hk)
                          replace k0 := eq_true k0; replace hk := eq_true hk
                          cases hb : lv1.getD k.toNat false with
                          | false =>
                            rw [hb] at kc
                            have HKW := Aside0.mk (show lv1.getD k.toNat false = true → waitsL L1 k ≠ [] from fun h => by rw [hb] at h; cases h)
                            clear hb
                            go_wp2
                            go_roundw
                            case rel => exact ⟨k + 1, _, false, ⟨by have := HK.out; omega, by have := HK.out; omega⟩, by first | rfl | (rw [wrapI (by have := HK.out; omega) (by have := HK.out; omega)]), rfl, rfl, ⟨rfl, ES_.out, no_step HNO.out HK.out.1 HKW.out⟩⟩
                            case measure => have h2 := HK.out; have h4 := wrapI (x := k + 1) (by omega) (by omega); simp [intOf, h4]; omega
                          | true =>
                            rw [hb] at kc
                            have HLT := Aside0.mk hb
                            clear hb
                            by_cases hw : waitsL L1 k = []
                            · have HW := Aside0.mk hw; have HCS := Aside0.mk (cnt_set lv1 k.toNat HLT.out)
                              clear hw
                              go_wp2_with (first | (go_at_call 16; (with_reducible refine (st_waits k ES_.out.s.st (wf6 HK.out) HBM.out).mono ?_); rintro e W9 ⟨v, rfl, hR, hb⟩; rw [HW.out] at hR; obtain ⟨A9, c9, ev⟩ := Kd.R_slice hR; subst ev; have ESn := Aside0.mk (ES_.out.below hb); clear ES_; have ES_ := ESn; clear ESn hb hR) | (go_at_call 14; have hb0 := Below.refl W9.heap.size W9; have hp := st_ask0 k none 0 ([] : List ByteArray) ES_.out.s.st (wf6 HK.out) (show B1 + ([] : List ByteArray).length ≤ 100000 by have := HBN.out; have := HN.out; simp; omega) (Kd.C_nil _ _) (Nat.le_refl _) (fun s hs => by cases hs) (fun hp0 => absurd hp0 (by simp)); rw [ask_sink ES_.out.wi ((ES_.out.ids k).2 ⟨HK.out, HLT.out⟩) HW.out] at hp; simp only [List.length_nil, Nat.add_zero] at hp; (with_reducible refine hp.mono ?_); rintro e W10 ⟨rfl, F6, hL, hF, hc⟩; have HSn := Aside0.mk (ES_.out.s.next (Below.refl _ _) hL hF hc); have HVn := Aside0.mk (ES_.out.v.chg hc (fun h => ES_.out.g.2 _ h rfl)); have HGn := Aside0.mk (show w.heap.size ≤ gl ∧ ∀ k ∈ F6, k ≠ gl from ⟨ES_.out.g.1, fun k hk e => (hF k hk).elim (fun h => ES_.out.g.2 k h e) (fun h => by have := blk_lt ES_.out.v.2; omega)⟩); clear hp hL hF hc hb0 kc) | (go_at_call 13; (with_reducible refine (st_free k HSn.out.st (wf6 HK.out)).mono ?_); rintro e W11 ⟨rfl, F8, hL, hF, hc⟩; have HSm := Aside0.mk (HSn.out.next (Below.refl _ _) hL (fun k hk => .inl (hF k hk)) hc); have HVm := Aside0.mk (HVn.out.chg hc (fun h => HGn.out.2 _ h rfl)); have HGm := Aside0.mk (show w.heap.size ≤ gl ∧ ∀ k ∈ F8, k ≠ gl from ⟨HGn.out.1, fun k hk => HGn.out.2 k (hF k hk)⟩); have kc := HVm.out.cell k.toNat (by have := HK.out; omega); have kf := HVm.out.frz k.toNat; clear hL hF hc))
                              go_roundw
                              case rel => exact ⟨k + 1, _, true, ⟨by have := HK.out; omega, by have := HK.out; omega⟩, by first | rfl | (rw [wrapI (by have := HK.out; omega) (by have := HK.out; omega)]), rfl, rfl, ⟨_, freeL (askL L1 last1 k []).1 k, lv1.set k.toNat false, B1 + 1, F8, HCS.out, by first | rfl | (rw [wrapI (by have := HCS.out; omega) (by have := HN.out; have := HCS.out; omega)]; have := HCS.out; omega), ⟨HSm.out.set k.toNat (.bool false) HGm.out, HVm.out.set k.toNat false, HGm.out, nd_free (nd_ask ES_.out.nd _ _ _) k, by intro x; have h1 := live_free (lv := lv1.set k.toNat true) (by rw [List.length_set]; exact ES_.out.v.1) (live_ask ES_.out.v.1 ES_.out.ids HK.out last1 []) HK.out x; rwa [List.set_set] at h1, wi_free (wi_ask ES_.out.s.st.ok ES_.out.wi _ _) k⟩, by have := HBN.out; omega⟩⟩
                              case measure => have h2 := HK.out; have h4 := wrapI (x := k + 1) (by omega) (by omega); simp [intOf, h4]; omega
                            · have HKW := Aside0.mk (show lv1.getD k.toNat false = true → waitsL L1 k ≠ [] from fun _ => hw)
                              have hdw : (((waitsL L1 k).length : Int) == 0) = false := beq_eq_false_iff_ne.2 (by intro e; exact hw (List.length_eq_zero_iff.1 (by omega)))
                              clear hw
                              go_wp2_with (first | (go_at_call 16; (with_reducible refine (st_waits k ES_.out.s.st (wf6 HK.out) HBM.out).mono ?_); rintro e W9 ⟨v, rfl, hR, hb⟩; obtain ⟨A9, c9, ev⟩ := Kd.R_slice hR; subst ev; have ESn := Aside0.mk (ES_.out.below hb); clear ES_; have ES_ := ESn; clear ESn hb hR))
                              go_roundw
                              case rel => exact ⟨k + 1, _, false, ⟨by have := HK.out; omega, by have := HK.out; omega⟩, by first | rfl | (rw [wrapI (by have := HK.out; omega) (by have := HK.out; omega)]), rfl, rfl, ⟨rfl, ES_.out, no_step HNO.out HK.out.1 HKW.out⟩⟩
                              case measure => have h2 := HK.out; have h4 := wrapI (x := k + 1) (by omega) (by omega); simp [intOf, h4]; omega
                        · exfalso
                          obtain ⟨a, ha, hla, hwa⟩ := HSK.out
                          exact HNO.out a ha.1 (by omega) hla hwa
                  · obtain ⟨h2, hmem⟩ := round_two HRO.out ho
                    have hmx := Kd.C_max HV3.out
                    have hd25 : decide ((0 : Int) < (out.length : Int)) = true := decide_eq_true (by omega)
                    have hd26 : decide ((out.length : Int) < 2) = false := decide_eq_false (by omega)
                    have hw : wrap64 ((out.length : Int) - 1) = (out.length : Int) - 1 := wrapI (by omega) (by omega)
                    obtain ⟨ad3, e3, y0⟩ := Kd.at_int HV3.out ((out.length : Int) - 1) (by omega) (by omega)
                    have hrm := rd_mem out ((out.length : Int) - 1) (by omega) (by omega)
                    have hri := (ES_.out.ids _).1 (hmem _ hrm)
                    cases e3
                    generalize rd out ((out.length : Int) - 1) = r at y0 hri
                    rw [show ((out.length : Int) - 1).toNat = out.length - 1 by omega] at y0
                    have hd25n : decide (0 < out.length) = true := decide_eq_true (by omega)
                    have HR6 := Aside0.mk hri.1; have HLT := Aside0.mk hri.2; have hr0 := eq_true hri.1.1; have hr1 := eq_true hri.1.2
                    have p1 : (0 ≤ (out.length : Int) - 1) = True := eq_true (by omega)
                    have p2 : ((out.length : Int) - 1 < (out.length : Int)) = True := eq_true (by omega)
                    have HCS := Aside0.mk (cnt_set lv1 r.toNat hri.2)
                    have hge : (2 : Int) ≤ (out.length : Int) := by omega
                    have p3 : (1 ≤ (out.length : Int)) = True := eq_true (by omega)
                    clear hri h2 hmem hmx hrm hc n0 n1
                    go_wp2_with (first | (go_at_call 13; (with_reducible refine (st_free r ES_.out.s.st (wf6 HR6.out)).mono ?_); rintro e W8 ⟨rfl, F8, hL, hF, hc⟩; have HSn := Aside0.mk (ES_.out.s.next (Below.refl _ _) hL (fun k hk => .inl (hF k hk)) hc); have HVn := Aside0.mk (ES_.out.v.chg hc (fun h => ES_.out.g.2 _ h rfl)); have HGn := Aside0.mk (show w.heap.size ≤ gl ∧ ∀ k ∈ F8, k ≠ gl from ⟨ES_.out.g.1, fun k hk => ES_.out.g.2 k (hF k hk)⟩); have kc := HVn.out.cell r.toNat (by have := HR6.out; omega); have kf := HVn.out.frz r.toNat; clear hL hF hc))
                    go_roundw
                    case rel => exact ⟨n + 1, last1, freeL L1 r, lv1.set r.toNat false, B1, F8, ⟨by have := HN.out; omega, by have := HN.out; have := HCS.out; omega⟩, by first | rfl | (rw [wrapI (by have := HN.out; omega) (by have := HN.out; omega)]), int_eq (by rw [wrapI (by have := HCS.out; omega) (by have := HN.out; have := HCS.out; omega)]; have := HCS.out; omega), ⟨HSn.out.set r.toNat (.bool false) HGn.out, HVn.out.set r.toNat false, HGn.out, nd_free ES_.out.nd r, live_free ES_.out.v.1 ES_.out.ids HR6.out, wi_free ES_.out.wi r⟩, ⟨by have := HBN.out; omega⟩⟩
                    case measure => have h2 := HN.out; have h4 := wrapI (x := n + 1) (by omega) (by omega); simp [intOf, h4]; omega
                · have hdc : decide ((0 : Int) < (cnt lv1 : Int)) = false := decide_eq_false (by omega)
                  obtain rfl : L1 = [] := dead_nil ES_.out.v.1 ES_.out.ids (by omega)
                  have HS := Aside0.mk ES_.out.s
                  have hc0 : ((cnt lv1 : Nat) : Int) = 0 := by omega
                  rw [hc0] at hdc ⊢
                  clear hc hc0 n0 n1
                  go_wp2
                  go_loopw [14] (fun v14 wr => ∃ k : Int, (0 ≤ k ∧ k ≤ 6) ∧ v14 = .int .i64 k ∧ Aside0 (S1 w wr lb last1 [] B1 F1)) (fun v14 _ => (6 - intOf v14).toNat)
                  case atStart => exact ⟨0, ⟨by omega, by omega⟩, rfl, HS⟩
                  case round =>
                    clear HS
                    obtain ⟨k, ⟨k0, k1⟩, rfl, HS⟩ := hrel
                    by_cases hk : k < 6
                    · have hdk : decide (k < 6) = true := decide_eq_true hk
                      have HK := Aside0.mk (And.intro k0 hk)
                      go_wp2_with (first | (go_at_call 15; (with_reducible refine (st_holds k HS.out.st (wf6 HK.out) HBM.out).mono ?_); rintro e W8 ⟨v, rfl, hR, hb⟩; obtain ⟨A8, c8, ev⟩ : ∃ A c, v = .slice A 0 c := Kd.R_slice hR; subst ev; have HSn := Aside0.mk (HS.out.below hb); clear HS; have HS := HSn; clear HSn hb hR) | (go_at_call 16; (with_reducible refine (st_waits k HS.out.st (wf6 HK.out) HBM.out).mono ?_); rintro e W9 ⟨v, rfl, hR, hb⟩; obtain ⟨A9, c9, ev⟩ : ∃ A c, v = .slice A 0 c := Kd.R_slice hR; subst ev; have HSn := Aside0.mk (HS.out.below hb); clear HS; have HS := HSn; clear HSn hb hR))
                      go_roundw
                      case rel => exact ⟨k + 1, ⟨by have := HK.out; omega, by have := HK.out; omega⟩, by first | rfl | (rw [wrapI (by have := HK.out; omega) (by have := HK.out; omega)]), HS⟩
                      case measure => have h2 := HK.out; have h4 := wrapI (x := k + 1) (by omega) (by omega); simp [intOf, h4]; omega
                    · have hdk : decide (k < 6) = false := decide_eq_false hk
                      go_wp2_with (first | (go_at_call 17; (with_reducible refine (st_round HS.out.st HBM.out).mono ?_); rintro e W7 ⟨v, out, rfl, hR, hro, hb⟩; obtain ⟨A3, c3, ev⟩ := Kd.R_slice hR; subst ev; obtain rfl := round_nil hro; have HSn := Aside0.mk (HS.out.below hb); clear HS; have HS := HSn; clear HSn hb hR hro))
                      go_ret
                      exact ⟨rfl, HS.out.hb⟩
end Go.Proofs.Ytimlfdfmgajbnaa.PA
