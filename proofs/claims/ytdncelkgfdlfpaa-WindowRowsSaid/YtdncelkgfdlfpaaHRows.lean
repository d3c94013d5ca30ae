/-
The contract of storeman/window.Rows, whose days are ticked in an array: what it returns is what window_Rows.f says, whatever windows come in (at most 2^47 bytes of them).
-/
import Derived.Test.YtdncelkgfdlfpaaPAx2
namespace Go.Proofs.Ytdncelkgfdlfpaa.PA
open Go.RowKit Go.Proofs.YtdncelkgfdlfpaaW.PrintWords Go.Proofs.YtdncelkgfdlfpaaW.PrintLast Go.Proofs.YtdncelkgfdlfpaaW.PrintMore
set_option linter.unusedVariables false
set_option linter.unusedSimpArgs false

def enc64 (t : List Int) : Array Value := (t.map (Value.int .i64)).toArray
def zero41 : List Int := List.replicate 4002 0
theorem alloc41_ (W : World) (f : Operand → Value) (ty : TypeId) (ps : String) (d : Option Tmp) (af : Array Edge) : (execOp f { op := .alloc 41, dst := d, type := ty, pos := ps, after := af, guard := none }).run Try.prog W = .ok (.value (.pointer (some ⟨W.heap.size, 0, none⟩))) (W.alloc (.cells (enc64 zero41) 41 (0, 0))) := by
  kernel_rfl

def right23 (x : S23) : Bool := decide (0 ≤ x.f0) && decide (x.f0 ≤ x.f1) && decide (x.f1 ≤ 4001)
def wr_tick (t : List Int) (x : S23) : List Int :=
  let t1 := t.set x.f0.toNat (wrap64 (t.getD x.f0.toNat 0 + 1))
  t1.set x.f1.toNat (wrap64 (t1.getD x.f1.toNat 0 - 1))
theorem wr_tick_len (t : List Int) (x : S23) : (wr_tick t x).length = t.length := by simp [wr_tick]
theorem wr_ticks_len (l : List S23) : ∀ t : List Int, (l.foldl wr_tick t).length = t.length := by
  induction l with
  | nil => intro t; rfl
  | cons x l ih => intro t; rw [List.foldl_cons, ih, wr_tick_len]
/-- One step of the sweep: open, out. -/
def wr_step (t : List Int) (d : Nat) (s : Int × List S23) : Option (Int × List S23) :=
  let now := wrap64 (s.1 + t.getD d 0)
  if s.1 = 0 ∧ 0 < now then some (now, s.2 ++ [⟨(d : Int), 0⟩])
  else if 0 < s.1 ∧ now = 0 then (if s.2 = [] then none else some (now, s.2.set (s.2.length - 1) ⟨(s.2.getD (s.2.length - 1) z23).f0, d⟩))
  else some (now, s.2)
def wr_sweep (t : List Int) : Nat → Option (Int × List S23)
  | 0 => some (0, [])
  | d + 1 => (wr_sweep t d).bind (wr_step t d)
def window_Rows.f (l : List S23) : Option (List S23) :=
  if 140737488351232 < l.length then none else if l.all right23 then (wr_sweep (l.foldl wr_tick zero41) 4002).map (·.2) else some []

theorem enc64_size (t : List Int) : (enc64 t).size = t.length := by simp [enc64]
theorem blk_read64 {w : World} {g : Nat} {t : List Int} (h : w.heap[g]? = some (.cells (enc64 t) 41 (0, 0))) (i : Nat) (hi : i < t.length) : w.cell? ⟨g, i, none⟩ = some (.int .i64 (t.getD i 0)) := by
  rw [blk_cell h]; simp [enc64, hi]
theorem enc64_set (t : List Int) (i : Nat) (x : Int) : (enc64 t).setIfInBounds i (.int .i64 x) = enc64 (t.set i x) := by
  simp [enc64, List.map_set]

theorem right_f (a b : Int) : window_Right.f a b = some (right23 ⟨a, b⟩) := by
  unfold window_Right.f right23
  by_cases h1 : 0 ≤ a <;> by_cases h2 : a ≤ b <;> simp [h1, h2]
theorem all_take_succ (l : List S23) (k : Nat) (h : k < l.length) : (l.take (k + 1)).all right23 = ((l.take k).all right23 && right23 (rd_T23 l k)) := by
  rw [List.take_succ_eq_append_getElem h, List.all_append]; simp [rd_T23, h]
theorem fold_take_succ (l : List S23) (k : Nat) (h : k < l.length) (t : List Int) : (l.take (k + 1)).foldl wr_tick t = wr_tick ((l.take k).foldl wr_tick t) (rd_T23 l k) := by
  rw [List.take_succ_eq_append_getElem h, List.foldl_append]; simp [rd_T23, h]
theorem all_not (l : List S23) (k : Nat) (h : k < l.length) (hr : right23 (rd_T23 l k) = false) : l.all right23 = false := by
  rw [← Bool.not_eq_true, List.all_eq_true]
  intro H
  have := H (rd_T23 l k) (by simp [rd_T23, h])
  simp [this] at hr

theorem wr_sweep_pre {t : List Int} {n : Nat} {r : List S23} (h : (wr_sweep t n).map (·.2) = some r) (d : Nat) (hd : d ≤ n) : ∃ s, wr_sweep t d = some s := by
  induction n generalizing r with
  | zero => have : d = 0 := by omega
            subst this; exact ⟨_, rfl⟩
  | succ n ih =>
    by_cases e : d = n + 1
    · subst e
      cases hs : wr_sweep t (n + 1) with
      | none => rw [hs] at h; cases h
      | some s => exact ⟨s, rfl⟩
    · cases hs : wr_sweep t n with
      | none => rw [wr_sweep, hs] at h; cases h
      | some s => exact ih (r := s.2) (by rw [hs]; rfl) (by omega)
theorem wr_sweep_len {t : List Int} : ∀ {d : Nat} {s : Int × List S23}, wr_sweep t d = some s → s.2.length ≤ d
  | 0, s, h => by cases h; exact Nat.le_refl _
  | d + 1, s, h => by
    cases hs : wr_sweep t d with
    | none => rw [wr_sweep, hs] at h; cases h
    | some p =>
      have ih := wr_sweep_len hs
      rw [wr_sweep, hs] at h
      simp only [Option.bind_some, wr_step] at h
      split at h
      · cases h; simp; omega
      · split at h
        · split at h
          · cases h
          · cases h; simp; omega
        · cases h; simpa using Nat.le_succ_of_le ih

set_option maxHeartbeats 1000000 in
set_option maxRecDepth 100000 in
theorem window_Rows.calls (A0 : Option Addr) (c0 : Nat) (l0 : List S23) (r : List S23) (w : World) (hr0 : Kd.C k23 w A0 l0.length l0) (hc0 : l0.length ≤ c0) (h : window_Rows.f l0 = some r) :
    Calls Try.prog 18 #[.slice A0 l0.length c0] w fun e w' => ∃ v0_ : Value, e = .returned (v0_) ∧ Kd.R k23 23 w' w.heap.size (fun _ => True) v0_ r ∧ Below w.heap.size w w' := by
  have hu23 := Try.underlying23
  have HR0 := Aside0.mk hr0
  have HC0 := Aside0.mk hc0
  have hlen : l0.length ≤ 140737488351232 := by
    rcases Nat.lt_or_ge 140737488351232 l0.length with q | q
    · unfold window_Rows.f at h; rw [if_pos q] at h; cases h
    · exact q
  replace h : (if l0.all right23 then (wr_sweep (l0.foldl wr_tick zero41) 4002).map (·.2) else some []) = some r := by
    unfold window_Rows.f at h; rwa [if_neg (by omega)] at h
  have H' := Aside0.mk h
  clear hr0 hc0 h
  go_enter Try.func18, Try.ntmps18
  have HB := Aside0.mk (Below.refl w.heap.size w)
  go_wp2_with ((with_reducible refine gate_dst (N := 3) rfl ?_); refine box_event ?hg (N := 3) ?hd (cs := enc64 zero41) (t := 41) ?hr ?_; (case hd => rfl); (case hg => rfl); (case hr => exact alloc41_ _ _ _ _ _ _); intro g3 hg w1 hbox hb; have BK3 := Aside0.mk hbox; have HB1 := Aside0.mk (below_step (HB.out) hb); have GE3 := Aside0.mk (by rw [hg]; exact Nat.le_refl _ : w.heap.size ≤ g3); clear hg hbox hb HB)
  go_loopw [12] (fun v wr => ∃ k : Nat, k ≤ l0.length ∧ v = .int .i64 k ∧ Aside0 ((l0.take k).all right23 = true) ∧ Aside0 (wr.heap[g3]? = some (.cells (enc64 ((l0.take k).foldl wr_tick zero41)) 41 (0, 0))) ∧ Aside0 (Below w.heap.size w wr)) (fun v _ => l0.length - (intOf v).toNat)
  case atStart => exact ⟨0, Nat.zero_le _, rfl, ⟨by simp⟩, ⟨BK3.out⟩, ⟨HB1.out⟩⟩
  case round =>
    obtain ⟨k, hk, rfl, HA, BK, HB⟩ := hrel
    clear BK3 HB1
    by_cases hlt : k < l0.length
    · have hd : decide ((k : Int) < (l0.length : Int)) = true := decide_eq_true (by omega)
      have hd0 : decide (0 ≤ (k : Int)) = true := decide_eq_true (by omega)
      obtain ⟨ad, e0, hx0, hx1⟩ := at_T23 HR0.out (k : Int) (by omega) (by omega)
      cases e0
      simp only [Int.toNat_natCast] at hx0 hx1
      replace hx0 := (HB.out.cell (World.block_lt_of_cell? w _ hx0)).trans hx0
      replace hx1 := (HB.out.cell (World.block_lt_of_cell? w _ hx1)).trans hx1
      obtain ⟨x0, hx⟩ : ∃ x, x = rd_T23 l0 k := ⟨_, rfl⟩
      rw [← hx] at hx0 hx1
      have HX := Aside0.mk hx
      clear hx
      obtain ⟨tk, htk⟩ : ∃ t, t = (l0.take k).foldl wr_tick zero41 := ⟨_, rfl⟩
      rw [← htk] at BK
      have TL := Aside0.mk (by rw [htk, wr_ticks_len]; simp [zero41] : tk.length = 4002)
      have HTK := Aside0.mk htk
      clear htk
      by_cases hR : right23 x0 = true
      · have hR1 := hR
        simp only [right23, Bool.and_eq_true, decide_eq_true_eq] at hR1
        obtain ⟨⟨a1, a2⟩, a3⟩ := hR1
        have HR12 := Aside0.mk ((right_f x0.f0 x0.f1).trans (congrArg some hR))
        have HRR := Aside0.mk hR
        clear hR
        obtain ⟨t1, ht1⟩ : ∃ t, t = tk.set x0.f0.toNat (wrap64 (tk.getD x0.f0.toNat 0 + 1)) := ⟨_, rfl⟩
        have TL1 := Aside0.mk (by rw [ht1, List.length_set]; exact TL.out : t1.length = 4002)
        have HT1 := Aside0.mk ht1
        have HF := Aside0.mk (by rw [fold_take_succ _ _ hlt, ← HTK.out, ← HX.out]; simp only [wr_tick]; rw [← ht1] : (l0.take (k + 1)).foldl wr_tick zero41 = t1.set x0.f1.toNat (wrap64 (t1.getD x0.f1.toNat 0 - 1)))
        have HA1 := Aside0.mk (by rw [all_take_succ _ _ hlt, HA.out, ← HX.out, HRR.out]; rfl : (l0.take (k + 1)).all right23 = true)
        have d1 : decide (0 ≤ x0.f0) = true := decide_eq_true a1
        have d2 : decide (x0.f0 < 4002) = true := decide_eq_true (by omega)
        have d3 : decide (0 ≤ x0.f1) = true := decide_eq_true (by omega)
        have d4 : decide (x0.f1 < 4002) = true := decide_eq_true (by omega)
        clear ht1
        go_wp2_with (first | ((with_reducible refine gate_dst (N := 5) rfl ?_); refine box_event ?hg (N := 5) ?hd (cs := #[.int .i64 0, .int .i64 0]) (t := 23) ?hr ?_; (case hd => rfl); (case hg => rfl); (case hr => first | (go_simp; done) | (go_simp; rfl)); intro gb hg w8 hbox hb; have GE := Aside0.mk ((by rw [hg]; exact below_size HB.out) : w.heap.size ≤ gb); have NE := Aside0.mk ((by rw [hg]; exact Nat.ne_of_lt (blk_lt BK.out)) : g3 ≠ gb); have BK4 := Aside0.mk (blk_below BK.out hb); have HB4 := Aside0.mk (below_step HB.out hb); clear HB BK; have BG := Aside0.mk hbox; clear hg hbox hb; have hcz9_0 : w8.cell? ⟨gb, 0, none⟩ = some (.int .i64 0) := (blk_cell BG.out 0).trans rfl; have hcz9_1 : w8.cell? ⟨gb, 1, none⟩ = some (.int .i64 0) := (blk_cell BG.out 1).trans rfl; have hfz9_0 := blk_frozen BG.out 0; have hfz9_1 := blk_frozen BG.out 1) | (go_at_call 12; (with_reducible refine (window_Right.calls _ _ _ _ HR12.out).mono ?_); rintro e w9 ⟨rfl, hb9⟩; have BG9 := Aside0.mk (blk_below (blk_put (cs := #[.int .i64 x0.f0, .int .i64 0]) (blk_put (cs := #[.int .i64 0, .int .i64 0]) BG.out 0 _ rfl) 1 _ rfl) hb9); have BK9 := Aside0.mk (blk_below (blk_far (blk_far BK4.out (p := ⟨gb, 0, none⟩) NE.out _) (p := ⟨gb, 1, none⟩) NE.out _) hb9); have HB9 := Aside0.mk (below_step (below_set (below_set HB4.out GE.out) GE.out) hb9); clear hb9 HB4 BK4 BG hcz9_0 hcz9_1 hfz9_0 hfz9_1; have hcz9_0 : w9.cell? ⟨gb, 0, none⟩ = some (.int .i64 x0.f0) := (blk_cell BG9.out 0).trans rfl; have hcz9_1 : w9.cell? ⟨gb, 1, none⟩ = some (.int .i64 x0.f1) := (blk_cell BG9.out 1).trans rfl; have hta : w9.cell? ⟨g3, x0.f0.toNat, none⟩ = some (.int .i64 (tk.getD x0.f0.toNat 0)) := blk_read64 BK9.out _ (by have := TL.out; omega); have htf := blk_frozen BK9.out x0.f0.toNat) | ((with_reducible refine gate_store (t := 3) (p := 24) rfl ?_); refine store_event (t := 3) (p := 24) (v := ?vo) (w1 := (w9.setCell ⟨g3, x0.f0.toNat, none⟩ (.int .i64 (wrap64 (tk.getD x0.f0.toNat 0 + 1))))) ?hg ?ho ?hn ?hr ?_; (case ho => rfl); (case hg => rfl); (case hn => rfl); (case hr => first | (go_simp; done) | (go_simp; rfl)); intro w10 hw; have BK10 := Aside0.mk (by rw [hw, blk_set BK9.out, enc64_set, ← HT1.out] : w10.heap[g3]? = some (.cells (enc64 t1) 41 (0, 0))); have BG10 := Aside0.mk (by rw [hw]; exact blk_far BG9.out (p := ⟨g3, x0.f0.toNat, none⟩) (Ne.symm NE.out) _ : w10.heap[gb]? = some (.cells #[.int .i64 x0.f0, .int .i64 x0.f1] 23 (0, 0))); have HB10 := Aside0.mk (by rw [hw]; exact below_set HB9.out GE3.out : Below w.heap.size w w10); clear hw HB9 BK9 BG9 hcz9_0 hcz9_1 hta htf; have hcz9_1 : w10.cell? ⟨gb, 1, none⟩ = some (.int .i64 x0.f1) := (blk_cell BG10.out 1).trans rfl; have hta : w10.cell? ⟨g3, x0.f1.toNat, none⟩ = some (.int .i64 (t1.getD x0.f1.toNat 0)) := blk_read64 BK10.out _ (by have := TL1.out; omega); have htf := blk_frozen BK10.out x0.f1.toNat))
        go_roundw
        case rel => exact ⟨k + 1, by omega, by go_num, HA1, ⟨by rw [HF.out, ← enc64_set]; exact blk_set BK10.out _ _⟩, ⟨below_set HB10.out GE3.out⟩⟩
        case measure => simp [intOf]; omega
      · have hRf : right23 x0 = false := by simpa using hR
        have HR12 := Aside0.mk ((right_f x0.f0 x0.f1).trans (congrArg some hRf))
        have hall := all_not l0 k hlt (by rw [← HX.out]; exact hRf)
        have hr : r = [] := by have H := H'.out; rw [hall] at H; simpa using H.symm
        subst hr
        clear hR hRf hall
        go_wp2_with (first | ((with_reducible refine gate_dst (N := 5) rfl ?_); refine box_event ?hg (N := 5) ?hd (cs := #[.int .i64 0, .int .i64 0]) (t := 23) ?hr ?_; (case hd => rfl); (case hg => rfl); (case hr => first | (go_simp; done) | (go_simp; rfl)); intro gb hg w8 hbox hb; have GE := Aside0.mk ((by rw [hg]; exact below_size HB.out) : w.heap.size ≤ gb); have NE := Aside0.mk ((by rw [hg]; exact Nat.ne_of_lt (blk_lt BK.out)) : g3 ≠ gb); have BK4 := Aside0.mk (blk_below BK.out hb); have HB4 := Aside0.mk (below_step HB.out hb); clear HB BK; have BG := Aside0.mk hbox; clear hg hbox hb; have hcz9_0 : w8.cell? ⟨gb, 0, none⟩ = some (.int .i64 0) := (blk_cell BG.out 0).trans rfl; have hcz9_1 : w8.cell? ⟨gb, 1, none⟩ = some (.int .i64 0) := (blk_cell BG.out 1).trans rfl; have hfz9_0 := blk_frozen BG.out 0; have hfz9_1 := blk_frozen BG.out 1) | (go_at_call 12; (with_reducible refine (window_Right.calls _ _ _ _ HR12.out).mono ?_); rintro e w9 ⟨rfl, hb9⟩; have BG9 := Aside0.mk (blk_below (blk_put (cs := #[.int .i64 x0.f0, .int .i64 0]) (blk_put (cs := #[.int .i64 0, .int .i64 0]) BG.out 0 _ rfl) 1 _ rfl) hb9); have BK9 := Aside0.mk (blk_below (blk_far (blk_far BK4.out (p := ⟨gb, 0, none⟩) NE.out _) (p := ⟨gb, 1, none⟩) NE.out _) hb9); have HB9 := Aside0.mk (below_step (below_set (below_set HB4.out GE.out) GE.out) hb9); clear hb9 HB4 BK4 BG hcz9_0 hcz9_1 hfz9_0 hfz9_1; have hcz9_0 : w9.cell? ⟨gb, 0, none⟩ = some (.int .i64 x0.f0) := (blk_cell BG9.out 0).trans rfl; have hcz9_1 : w9.cell? ⟨gb, 1, none⟩ = some (.int .i64 x0.f1) := (blk_cell BG9.out 1).trans rfl; skip))
        go_ret
        exact ⟨_, rfl, Kd.R_nil _ _ _ _ _, HB9.out⟩
    · have hd : decide ((k : Int) < (l0.length : Int)) = false := decide_eq_false (by omega)
      have hkl : k = l0.length := by omega
      subst hkl
      have HAA := Aside0.mk (by have := HA.out; rwa [List.take_length] at this : l0.all right23 = true)
      rw [List.take_length] at BK
      clear HA
      obtain ⟨tk, htk⟩ : ∃ t, t = l0.foldl wr_tick zero41 := ⟨_, rfl⟩
      rw [← htk] at BK
      have TL := Aside0.mk (by rw [htk, wr_ticks_len]; simp [zero41] : tk.length = 4002)
      have HF := Aside0.mk (by have H := H'.out; rw [HAA.out, if_pos rfl, ← htk] at H; exact H : (wr_sweep tk 4002).map (·.2) = some r)
      clear H' HAA htk
      go_wp2_with fail
      obtain ⟨wo, rfl⟩ : ∃ wo : World, wo = wr := ⟨_, rfl⟩
      go_loopw [6, 7, 32] (fun v6 v7 v32 w2 => ∃ (d : Nat) (op : Int) (out : List S23), d ≤ 4002 ∧ v32 = .int .i64 d ∧ v7 = .int .i64 op ∧ Aside0 (wr_sweep tk d = some (op, out)) ∧ Aside0 (Kd.R k23 23 w2 w.heap.size (fun k => k ≠ g3) v6 out) ∧ Aside0 (w2.heap[g3]? = some (.cells (enc64 tk) 41 (0, 0))) ∧ Aside0 (Below w.heap.size w w2)) (fun _ _ v _ => 4002 - (intOf v).toNat)
      case atStart => exact ⟨0, 0, [], by omega, rfl, rfl, ⟨rfl⟩, ⟨Kd.R_nil _ _ _ _ _⟩, BK, HB⟩
      case round =>
        obtain ⟨d, op, out, hd1, rfl, rfl, HS, HO, BK2, HB2⟩ := hrel
        clear BK HB
        obtain ⟨Ao, co, eo⟩ := Kd.R_slice HO.out
        subst eo
        by_cases hlt2 : d < 4002
        · have e1 : decide ((d : Int) < 4002) = true := decide_eq_true (by omega)
          have e2 : decide (0 ≤ (d : Int)) = true := decide_eq_true (by omega)
          have hta : wr.cell? ⟨g3, d, none⟩ = some (.int .i64 (tk.getD d 0)) := blk_read64 BK2.out _ (by have := TL.out; omega)
          obtain ⟨td, htd⟩ : ∃ x, x = tk.getD d 0 := ⟨_, rfl⟩
          rw [← htd] at hta
          obtain ⟨nw, hnw⟩ : ∃ x, wrap64 (op + td) = x := ⟨_, rfl⟩
          have hnw2 : IntKind.i64.wrap (op + td) = nw := (i64_w _).trans hnw
          obtain ⟨⟨op2, out2⟩, hnext⟩ : ∃ s, wr_step tk d (op, out) = some s := by
            obtain ⟨s, hs⟩ := wr_sweep_pre HF.out (d + 1) (by omega)
            rw [wr_sweep, HS.out] at hs
            exact ⟨s, hs⟩
          have HS2 := Aside0.mk (show wr_sweep tk (d + 1) = some (op2, out2) by rw [wr_sweep, HS.out]; exact hnext)
          have HL := Aside0.mk (by have h_ : out.length ≤ d := wr_sweep_len HS.out; omega : (out.length + 1) * 16 ≤ 140737488355328)
          simp only [wr_step, ← htd, hnw] at hnext
          have HTD := Aside0.mk htd
          clear htd
          by_cases hA : op = 0 ∧ 0 < nw
          · rw [if_pos hA] at hnext
            simp only [Option.some.injEq, Prod.mk.injEq] at hnext
            obtain ⟨rfl, rfl⟩ := hnext
            have f1 : (op == 0) = true := by simp [hA.1]
            have f2 : decide (0 < nw) = true := decide_eq_true hA.2
            clear hA
            go_wp2_with (first | ((with_reducible refine gate_builtin (b := .append) (xs := #[.tmp 48, .tmp 51]) rfl ?_); (try (refine gate_guard (by rfl) ?_; dsimp only)); at_builtin; (refine Kd.R_append k23 (w0 := w) w.heap.size rfl (.tmp 48) (.tmp 51) 32 23 (.agg #[(.int .i64 0), (.int .i64 0)]) 16 rfl Try.underlying32 info23 rfl (by decide) (by omega) (.slice Ao out.length co) out (⟨d, 0⟩ : S23) [.int .i64 d, .int .i64 0] (fun k => k ≠ g3) (fun _ => False) rfl rfl ?aP (fun _ hk => hk.elim) ?aF ?aO ?aB ?aS ?aL ?_); (case aP => exact k23_mkM _ _ _ (⟨d, 0⟩ : S23)); (case aB => exact (by repeat (first | (with_reducible first | exact HB2.out | apply below_alloc | apply pw_below_drewN | apply below_drew1) | exact HB2.out))); (case aF => exact (fun k hk => Nat.ne_of_gt (Nat.lt_of_lt_of_le (blk_lt BK2.out) (by first | exact hk | (have := hk; simp at this; omega))))); (case aO => exact (by (with_reducible repeat (first | apply Kd.R_alloc | apply Kd.R_drewN | apply Kd.R_drew)); exact HO.out)); (case aS => exact (below_size (by repeat (first | (with_reducible first | exact HB2.out | apply below_alloc | apply pw_below_drewN | apply below_drew1) | exact HB2.out)))); (case aL => exact HL.out); intro v7 w7 ho hb hg hat; have BK7 := Aside0.mk (blk_grown (by (with_reducible repeat (first | refine blk_drewN ?_ _ | refine blk_drew ?_ | refine blk_alloc ?_ _)); exact BK2.out) hg (fun hz => HO.out.1 g3 hz.symm rfl)); have HB7 := Aside0.mk hb; have HO7 := Aside0.mk ho; clear ho hb hg hat))
            go_roundw
            case rel => exact ⟨d + 1, _, _, by omega, by go_num, rfl, HS2, HO7, BK7, HB7⟩
            case measure => simp [intOf]; omega
          · by_cases hB : 0 < op ∧ nw = 0
            · rw [if_neg hA, if_pos hB] at hnext
              by_cases hE : out = []
              · rw [if_pos hE] at hnext; cases hnext
              · rw [if_neg hE] at hnext
                have hpos : 0 < out.length := by cases out with | nil => exact absurd rfl hE | cons _ _ => simp
                obtain ⟨ji, hji⟩ : ∃ j, wrap64 ((out.length : Int) - 1) = j := ⟨_, rfl⟩
                have hjv : ji = (out.length : Int) - 1 := by have h_ := HL.out; rw [← hji]; unfold wrap64; omega
                have hjw : IntKind.i64.wrap ((out.length : Int) - 1) = ji := (i64_w _).trans hji
                have hjn : ji.toNat = out.length - 1 := by omega
                rw [← hjn] at hnext
                simp only [Option.some.injEq, Prod.mk.injEq] at hnext
                obtain ⟨h1, h2⟩ := hnext
                subst h1
                have HO2 := Aside0.mk h2
                clear h2 hjn
                have f1 : (op == 0) = false := by rw [beq_eq_false_iff_ne]; omega
                have f2 : decide (0 < op) = true := decide_eq_true hB.1
                have f3 : (nw == 0) = true := by rw [beq_iff_eq]; exact hB.2
                have j1 : 0 ≤ ji := by omega
                have j2 : ji < (out.length : Int) := by omega
                clear hA hB hjv hE hpos
                obtain ⟨go11, co11, eo11, gb11, gl11, cl11, HG11⟩ := Kd.R_form HO.out (by have h_ := HL.out; omega)
                (first | cases eo11 | (injection eo11 with ea_ en_ ec_; (first | subst ea_ | (injection ea_ with ea_; subst ea_)); subst ec_; clear en_))
                have GB11 := Aside0.mk gb11
                clear gb11 gl11 HG11
                have NG := Aside0.mk (Ne.symm (HO.out.1 go11 (by simp [Value.ownBlock])) : g3 ≠ go11)
                obtain ⟨ce13, hcl13, hM13, hcc13, hfr13⟩ := Kd.R_elem HO.out z23 ji j1 j2
                obtain rfl := k23_openM hM13
                have HP13 := Kd.R_seg HO.out ji j1 j2 (seg := [.int .i64 d]) (j := 1) hcl13 hcc13 (show 2 ≤ 2 from by decide) (x' := (⟨(rd_T23 out ji).f0, d⟩ : S23)) (k23_mkM _ _ _ (⟨(rd_T23 out ji).f0, d⟩ : S23) ) (fun _ hk => hk)
                have hx13_1 := hcc13 1 _ rfl
                (try simp only [show (k23).sz = 2 from rfl, Nat.mul_one, Nat.add_zero] at hx13_1)
                have hf13_1 := hfr13 1
                (try simp only [show (k23).sz = 2 from rfl, Nat.mul_one, Nat.add_zero] at hf13_1)
                clear hcl13 hcc13 hfr13 hM13
                have HP13' := Aside0.mk HP13
                clear HP13
                have j1b : decide (0 ≤ ji) = true := decide_eq_true j1
                have j2b : decide (ji < (out.length : Int)) = true := decide_eq_true j2
                go_wp2
                go_roundw
                case rel => exact ⟨d + 1, _, _, by omega, by go_num, rfl, HS2, ⟨by rw [← HO2.out]; exact HP13'.out.1⟩, ⟨blk_far BK2.out (p := ⟨go11, ji.toNat * 2 + 1, none⟩) NG.out _⟩, ⟨below_set HB2.out GB11.out⟩⟩
                case measure => simp [intOf]; omega
            · rw [if_neg hA, if_neg hB] at hnext
              simp only [Option.some.injEq, Prod.mk.injEq] at hnext
              obtain ⟨h1, h2⟩ := hnext
              subst h1
              subst h2
              by_cases z1 : op = 0
              · have f1 : (op == 0) = true := by simp [z1]
                have f2 : decide (0 < nw) = false := decide_eq_false (fun q => hA ⟨z1, q⟩)
                have f3 : decide (0 < op) = false := decide_eq_false (by omega)
                clear hA hB z1
                go_wp2
                go_roundw
                case rel => exact ⟨d + 1, _, _, by omega, by go_num, rfl, HS2, HO, BK2, HB2⟩
                case measure => simp [intOf]; omega
              · have f1 : (op == 0) = false := by simp [z1]
                by_cases z2 : 0 < op
                · have f2 : decide (0 < op) = true := decide_eq_true z2
                  have f3 : (nw == 0) = false := by rw [beq_eq_false_iff_ne]; exact fun q => hB ⟨z2, q⟩
                  clear hA hB z1 z2
                  go_wp2
                  go_roundw
                  case rel => exact ⟨d + 1, _, _, by omega, by go_num, rfl, HS2, HO, BK2, HB2⟩
                  case measure => simp [intOf]; omega
                · have f2 : decide (0 < op) = false := decide_eq_false z2
                  clear hA hB z1 z2
                  go_wp2
                  go_roundw
                  case rel => exact ⟨d + 1, _, _, by omega, by go_num, rfl, HS2, HO, BK2, HB2⟩
                  case measure => simp [intOf]; omega
        · have e1 : decide ((d : Int) < 4002) = false := decide_eq_false (by omega)
          have hd4 : d = 4002 := by omega
          have HR := Aside0.mk (by have h_ := HF.out; rw [← hd4, HS.out] at h_; simpa using h_ : out = r)
          clear hd4
          go_wp2
          go_ret
          exact ⟨_, rfl, by rw [← HR.out]; exact Kd.R_mono HO.out (fun _ _ => trivial), HB2.out⟩
end Go.Proofs.Ytdncelkgfdlfpaa.PA
