/-
Rows of bytes are the same as themselves; what was lent and is whole was kept.
-/
import Derived.Test.YtkplejkkafcipaaLentR
import Derived.Test.YtkplejkkafcipaaPAx2
namespace Go.Proofs.Ytkplejkkafcipaa.PA
open Go.RowKit Go.Proofs.YtkplejkkafcipaaW.PrintWords Go.Proofs.YtkplejkkafcipaaW.PrintLast Go.Proofs.YtkplejkkafcipaaW.PrintMore
set_option linter.unusedVariables false
set_option linter.unusedSimpArgs false

theorem sameB_l0 (a : List Int) (hl : a.length ≤ 9223372036854775807) : ∀ (n i k : Nat), i + n = a.length → n < k → storemankit_SameBytes.l0 k a a i = some true := by
  intro n
  induction n with
  | zero =>
    intro i k hi hk
    obtain ⟨k, rfl⟩ : ∃ j, k = j + 1 := ⟨k - 1, by omega⟩
    simp only [storemankit_SameBytes.l0]
    rw [if_neg (by omega)]
  | succ n ih =>
    intro i k hi hk
    obtain ⟨k, rfl⟩ : ∃ j, k = j + 1 := ⟨k - 1, by omega⟩
    simp only [storemankit_SameBytes.l0]
    rw [if_pos (by omega), if_pos (by omega), if_pos (by omega), if_pos trivial, wrapI (by omega) (by omega)]
    exact ih (i + 1) k (by omega) (by omega)
theorem sameB_ev (a : List Int) (hl : a.length ≤ 9223372036854775807) : Ev (fun k => storemankit_SameBytes.f k a a) true :=
  ⟨a.length + 1, fun k hk => by
    show (if (a.length : Int) = (a.length : Int) then storemankit_SameBytes.l0 k a a 0 else some false) = _
    rw [if_pos rfl]; exact sameB_l0 a hl a.length 0 k (by omega) (by omega)⟩
theorem sameRow_ev (a b : List Int) (ha : a.length ≤ 9223372036854775807) (hb : b.length ≤ 9223372036854775807) : Ev (fun k => storemankit_SameRow.f k a b a b) true := by
  obtain ⟨k0, q0⟩ := sameB_ev a ha
  obtain ⟨k1, q1⟩ := sameB_ev b hb
  refine ⟨k0 + k1, fun k hk => ?_⟩
  have e0 : storemankit_SameBytes.f k a a = some true := q0 k (by omega)
  have e1 : storemankit_SameBytes.f k b b = some true := q1 k (by omega)
  show storemankit_SameRow.f k a b a b = _
  unfold storemankit_SameRow.f
  rw [e0, Option.bind_some, if_pos rfl, e1, Option.bind_some]
theorem sameTurn_ev (a b c : List Int) (ha : a.length ≤ 9223372036854775807) (hb : b.length ≤ 9223372036854775807) (hc : c.length ≤ 9223372036854775807) : Ev (fun k => storemankit_SameTurn.f k a b c a b c) true := by
  obtain ⟨k0, q0⟩ := sameB_ev a ha
  obtain ⟨k1, q1⟩ := sameB_ev b hb
  obtain ⟨k2, q2⟩ := sameB_ev c hc
  refine ⟨k0 + k1 + k2, fun k hk => ?_⟩
  have e0 : storemankit_SameBytes.f k a a = some true := q0 k (by omega)
  have e1 : storemankit_SameBytes.f k b b = some true := q1 k (by omega)
  have e2 : storemankit_SameBytes.f k c c = some true := q2 k (by omega)
  show storemankit_SameTurn.f k a b c a b c = _
  unfold storemankit_SameTurn.f
  rw [e0, Option.bind_some, if_pos rfl, e1, Option.bind_some, if_pos rfl, e2, Option.bind_some]
theorem keptB_l0 (l : List Int) (hl : l.length + 12 ≤ 9223372036854775807) : ∀ (n i k : Nat), i + n = l.length + 12 → 2 * n < k → storemankit_KeptBytes.l0 k l (l ++ marksB) i = some true := by
  intro n
  induction n with
  | zero =>
    intro i k hi hk
    obtain ⟨k, rfl⟩ : ∃ j, k = j + 1 := ⟨k - 1, by omega⟩
    simp only [storemankit_KeptBytes.l0]
    rw [if_neg (by rw [List.length_append, marksB_len]; omega)]
  | succ n ih =>
    intro i k hi hk
    obtain ⟨k, rfl⟩ : ∃ j, k = j + 2 := ⟨k - 2, by omega⟩
    simp only [storemankit_KeptBytes.l0]
    rw [if_pos (by rw [List.length_append, marksB_len]; omega)]
    by_cases h : i < l.length
    · have e1 : rd (l ++ marksB) i = rd l i := by simp only [rd, Int.toNat_natCast, List.getD_eq_getElem?_getD, List.getElem?_append_left h]
      rw [if_pos (by omega), if_pos (by omega), if_pos e1, if_neg (by omega)]
      simp only [storemankit_KeptBytes.j1]
      rw [if_neg (by simp), wrapI (by omega) (by omega)]
      exact ih (i + 1) k (by omega) (by omega)
    · have e1 : rd (l ++ marksB) i = mkB (i - l.length) := by
        have h2 : i - l.length < 12 := by omega
        have h3 : marksB[i - l.length]? = some (mkB (i - l.length)) := by
          unfold marksB
          rw [List.getElem?_map, List.getElem?_range h2, Option.map_some]
        simp only [rd, Int.toNat_natCast, List.getD_eq_getElem?_getD]
        rw [List.getElem?_append_right (by omega), h3, Option.getD_some]
      rw [if_neg (by omega), if_pos (by omega), if_pos (by omega), wrapI (x := (i : Int) - l.length) (by omega) (by omega), show (i : Int) - (l.length : Int) = ((i - l.length : Nat) : Int) by omega, mark_is, Option.bind_some, e1]
      simp only [storemankit_KeptBytes.j1]
      rw [if_neg (by simp), wrapI (by omega) (by omega)]
      exact ih (i + 1) k (by omega) (by omega)
theorem keptB_ev (l : List Int) (hl : l.length + 12 ≤ 9223372036854775807) : Ev (fun k => storemankit_KeptBytes.f k l (l ++ marksB) l) true := by
  refine ⟨2 * l.length + 25, fun k hk => ?_⟩
  show storemankit_KeptBytes.f k l (l ++ marksB) l = _
  unfold storemankit_KeptBytes.f
  rw [if_pos rfl, if_pos (by rw [wrapI (by omega) (by omega), List.length_append, marksB_len]; omega)]
  exact keptB_l0 l hl (l.length + 12) 0 k (by omega) (by omega)
theorem LentB.max {w : World} {A : Option Addr} {c : Nat} {l : List Int} (h : LentB w A c l) : l.length + 12 ≤ 9223372036854775807 := by
  have := h.1.2.1
  rwa [List.length_append, marksB_len] at this
theorem LentB.full {w : World} {A : Option Addr} {c : Nat} {l : List Int} (h : LentB w A c l) : (Kd.int .u8).C w A (l ++ marksB).length (l ++ marksB) := h.1
theorem LentB.room {w : World} {A : Option Addr} {c : Nat} {l : List Int} (h : LentB w A c l) : (l ++ marksB).length ≤ c := h.2
/-- The first n elements are lent. -/
def LentAt37 (w : World) (A : Option Addr) (lF : List S37) (n : Nat) : Prop := ∀ (i : Int) (ad : Addr) (A0 : Option Addr) (c0 : Nat) (A1 : Option Addr) (c1 : Nat), A = some ad → 0 ≤ i → i < (n : Int) → w.cell? (ad.add (i.toNat * 2)) = some (.slice A0 (rd_T37 lF i).f0.length c0) → w.cell? ⟨(ad.add (i.toNat * 2)).block, (ad.add (i.toNat * 2)).off + 1, none⟩ = some (.slice A1 (rd_T37 lF i).f1.length c1) → LentB w A0 c0 (rd_T37 lF i).f0 ∧ LentB w A1 c1 (rd_T37 lF i).f1
theorem LentAt37.get {w : World} {A : Option Addr} {lF : List S37} {n : Nat} (h : LentAt37 w A lF n) (i : Int) (ad : Addr) (A0 : Option Addr) (c0 : Nat) (A1 : Option Addr) (c1 : Nat) : A = some ad → 0 ≤ i → i < (n : Int) → w.cell? (ad.add (i.toNat * 2)) = some (.slice A0 (rd_T37 lF i).f0.length c0) → w.cell? ⟨(ad.add (i.toNat * 2)).block, (ad.add (i.toNat * 2)).off + 1, none⟩ = some (.slice A1 (rd_T37 lF i).f1.length c1) → LentB w A0 c0 (rd_T37 lF i).f0 ∧ LentB w A1 c1 (rd_T37 lF i).f1 := h i ad A0 c0 A1 c1
/-- The first n elements are lent. -/
def LentAt43 (w : World) (A : Option Addr) (lF : List S43) (n : Nat) : Prop := ∀ (i : Int) (ad : Addr) (A0 : Option Addr) (c0 : Nat) (A1 : Option Addr) (c1 : Nat) (A2 : Option Addr) (c2 : Nat), A = some ad → 0 ≤ i → i < (n : Int) → w.cell? (ad.add (i.toNat * 3)) = some (.slice A0 (rd_T43 lF i).f0.length c0) → w.cell? ⟨(ad.add (i.toNat * 3)).block, (ad.add (i.toNat * 3)).off + 1, none⟩ = some (.slice A1 (rd_T43 lF i).f1.length c1) → w.cell? ⟨(ad.add (i.toNat * 3)).block, (ad.add (i.toNat * 3)).off + 2, none⟩ = some (.slice A2 (rd_T43 lF i).f2.length c2) → LentB w A0 c0 (rd_T43 lF i).f0 ∧ LentB w A1 c1 (rd_T43 lF i).f1 ∧ LentB w A2 c2 (rd_T43 lF i).f2
theorem LentAt43.get {w : World} {A : Option Addr} {lF : List S43} {n : Nat} (h : LentAt43 w A lF n) (i : Int) (ad : Addr) (A0 : Option Addr) (c0 : Nat) (A1 : Option Addr) (c1 : Nat) (A2 : Option Addr) (c2 : Nat) : A = some ad → 0 ≤ i → i < (n : Int) → w.cell? (ad.add (i.toNat * 3)) = some (.slice A0 (rd_T43 lF i).f0.length c0) → w.cell? ⟨(ad.add (i.toNat * 3)).block, (ad.add (i.toNat * 3)).off + 1, none⟩ = some (.slice A1 (rd_T43 lF i).f1.length c1) → w.cell? ⟨(ad.add (i.toNat * 3)).block, (ad.add (i.toNat * 3)).off + 2, none⟩ = some (.slice A2 (rd_T43 lF i).f2.length c2) → LentB w A0 c0 (rd_T43 lF i).f0 ∧ LentB w A1 c1 (rd_T43 lF i).f1 ∧ LentB w A2 c2 (rd_T43 lF i).f2 := h i ad A0 c0 A1 c1 A2 c2
def storemankit_KeptRow.f (_ : Nat) (l0_0 l0_1 l1_0 l1_1 : List Int) : Option Bool := if l0_0 = l1_0 ∧ l0_1 = l1_1 then some true else some false
theorem storemankit_KeptRow.mono : ∀ l0_0 l0_1 l1_0 l1_1 k, LeO (storemankit_KeptRow.f k l0_0 l0_1 l1_0 l1_1) (storemankit_KeptRow.f (k + 1) l0_0 l0_1 l1_0 l1_1) := fun _ _ _ _ _ _ h => h
set_option maxHeartbeats 4000000 in
set_option maxRecDepth 100000 in
theorem storemankit_KeptRow.calls (k : Nat) (A0_0 : Option Addr) (c0_0 : Nat) (l0_0 : List Int) (A0_1 : Option Addr) (c0_1 : Nat) (l0_1 : List Int) (A1_0 : Option Addr) (c1_0 : Nat) (l1_0 : List Int) (A1_1 : Option Addr) (c1_1 : Nat) (l1_1 : List Int) (r : Bool) (w : World) (hr0_0 : Kd.C (Kd.int .u8) w A0_0 l0_0.length l0_0) (hc0_0 : l0_0.length ≤ c0_0) (hr0_1 : Kd.C (Kd.int .u8) w A0_1 l0_1.length l0_1) (hc0_1 : l0_1.length ≤ c0_1) (hr1_0 : Kd.C (Kd.int .u8) w A1_0 l1_0.length l1_0) (hc1_0 : l1_0.length ≤ c1_0) (hr1_1 : Kd.C (Kd.int .u8) w A1_1 l1_1.length l1_1) (hc1_1 : l1_1.length ≤ c1_1) (hL0 : LentB w A0_0 c0_0 l0_0) (hL1 : LentB w A0_1 c0_1 l0_1) (h : storemankit_KeptRow.f k l0_0 l0_1 l1_0 l1_1 = some r) (hr_ : r = true := by first | rfl | exact Aside0.out (by assumption)) :
    Calls Try.prog 32 #[.agg #[.slice A0_0 l0_0.length c0_0, .slice A0_1 l0_1.length c0_1], .agg #[.slice A1_0 l1_0.length c1_0, .slice A1_1 l1_1.length c1_1]] w fun e w' => e = .returned (.bool r) ∧ Below w.heap.size w w' := by
  subst hr_
  have heq : l0_0 = l1_0 ∧ l0_1 = l1_1 := by
    unfold storemankit_KeptRow.f at h
    split at h
    · assumption
    · cases h
  clear h
  obtain ⟨rfl, rfl⟩ := heq
  obtain ⟨ks, qs⟩ := (sameRow_ev l0_0 l0_1 hr0_0.2.1 hr0_1.2.1).rounds
  obtain ⟨kk0, q0⟩ := (keptB_ev l0_0 hL0.max).rounds
  obtain ⟨kk1, q1⟩ := (keptB_ev l0_1 hL1.max).rounds
  have HQ := Aside0.mk (show storemankit_SameRow.f ks l0_0 l0_1 l0_0 l0_1 = some true from qs)
  have HK0 := Aside0.mk (show storemankit_KeptBytes.f kk0 l0_0 (l0_0 ++ marksB) l0_0 = some true from q0)
  have HK1 := Aside0.mk (show storemankit_KeptBytes.f kk1 l0_1 (l0_1 ++ marksB) l0_1 = some true from q1)
  have HR0_0 := Aside0.mk hr0_0
  have HC0_0 := Aside0.mk hc0_0
  have HR0_1 := Aside0.mk hr0_1
  have HC0_1 := Aside0.mk hc0_1
  have HR1_0 := Aside0.mk hr1_0
  have HC1_0 := Aside0.mk hc1_0
  have HR1_1 := Aside0.mk hr1_1
  have HC1_1 := Aside0.mk hc1_1
  have HL0 := Aside0.mk hL0
  have HL1 := Aside0.mk hL1
  clear hr0_0 hc0_0 hr0_1 hc0_1 hr1_0 hc1_0 hr1_1 hc1_1 hL0 q0 hL1 q1 qs
  have HB := Aside0.mk (Below.refl w.heap.size w)
  have hu37 := Try.underlying37
  go_enter Try.func32, Try.ntmps32
  go_wp2_with (first | ((with_reducible refine gate_dst (N := 2) rfl ?_); refine box_event ?hg (N := 2) ?hd (cs := #[.slice A0_0 l0_0.length c0_0, .slice A0_1 l0_1.length c0_1]) (t := 37) ?hr ?_; (case hd => rfl); (case hg => rfl); (case hr => first | (go_simp; done) | (go_simp; rfl)); intro gb hg W1 hbox hb; have HBn := Aside0.mk (below_step HB.out hb); clear HB; have HB := HBn; clear HBn; have BKb := Aside0.mk hbox; clear hg hbox hb; have cb_0 : W1.cell? ⟨gb, 0, none⟩ = some (.slice A0_0 l0_0.length c0_0) := (blk_cell BKb.out 0).trans rfl; have cb_1 : W1.cell? ⟨gb, 1, none⟩ = some (.slice A0_1 l0_1.length c0_1) := (blk_cell BKb.out 1).trans rfl) | ((with_reducible refine gate_dst (N := 3) rfl ?_); refine box_event ?hg (N := 3) ?hd (cs := #[.slice A1_0 l0_0.length c1_0, .slice A1_1 l0_1.length c1_1]) (t := 37) ?hr ?_; (case hd => rfl); (case hg => rfl); (case hr => first | (go_simp; done) | (go_simp; rfl)); intro gd hg W2 hbox hb; have HBn := Aside0.mk (below_step HB.out hb); clear HB; have HB := HBn; clear HBn; have BKn := Aside0.mk (blk_below BKb.out hb); clear BKb; have BKb := BKn; clear BKn; have BKd := Aside0.mk hbox; clear hg hbox hb; clear cb_0; have cb_0 : W2.cell? ⟨gb, 0, none⟩ = some (.slice A0_0 l0_0.length c0_0) := (blk_cell BKb.out 0).trans rfl; clear cb_1; have cb_1 : W2.cell? ⟨gb, 1, none⟩ = some (.slice A0_1 l0_1.length c0_1) := (blk_cell BKb.out 1).trans rfl; have cd_0 : W2.cell? ⟨gd, 0, none⟩ = some (.slice A1_0 l0_0.length c1_0) := (blk_cell BKd.out 0).trans rfl; have cd_1 : W2.cell? ⟨gd, 1, none⟩ = some (.slice A1_1 l0_1.length c1_1) := (blk_cell BKd.out 1).trans rfl) | ((with_reducible refine gate_callee (f := 33) rfl ?_); refine goesL_ (some 7) rfl rfl Try.func33 (by kernel_rfl) rfl #[.agg #[.slice A0_0 l0_0.length c0_0, .slice A0_1 l0_1.length c0_1], .agg #[.slice A1_0 l0_0.length c1_0, .slice A1_1 l0_1.length c1_1]] rfl (by (try simp only [List.map_toArray, List.map_cons, List.map_nil]); first | done | rfl) ?_; (with_reducible refine (storemankit_SameRow.calls ks _ _ l0_0 _ _ l0_1 _ _ l0_0 _ _ l0_1 true _ (Kd.C_below HR0_0.out HB.out) HC0_0.out (Kd.C_below HR0_1.out HB.out) HC0_1.out (Kd.C_below HR1_0.out HB.out) HC1_0.out (Kd.C_below HR1_1.out HB.out) HC1_1.out HQ.out).mono ?_); rintro e W3 ⟨rfl, hb⟩; refine ⟨_, rfl, ?_⟩; have HBn := Aside0.mk (below_step HB.out hb); clear HB; have HB := HBn; clear HBn; have BKn := Aside0.mk (blk_below BKb.out hb); clear BKb; have BKb := BKn; clear BKn; have BKn := Aside0.mk (blk_below BKd.out hb); clear BKd; have BKd := BKn; clear BKn; clear hb; clear cb_0; have cb_0 : W3.cell? ⟨gb, 0, none⟩ = some (.slice A0_0 l0_0.length c0_0) := (blk_cell BKb.out 0).trans rfl; clear cb_1; have cb_1 : W3.cell? ⟨gb, 1, none⟩ = some (.slice A0_1 l0_1.length c0_1) := (blk_cell BKb.out 1).trans rfl; clear cd_0; have cd_0 : W3.cell? ⟨gd, 0, none⟩ = some (.slice A1_0 l0_0.length c1_0) := (blk_cell BKd.out 0).trans rfl; clear cd_1; have cd_1 : W3.cell? ⟨gd, 1, none⟩ = some (.slice A1_1 l0_1.length c1_1) := (blk_cell BKd.out 1).trans rfl) | (go_at_call 45; (with_reducible refine (storemankit_KeptBytes.calls kk0 A0_0 c0_0 l0_0 (l0_0 ++ marksB) A1_0 c1_0 l0_0 true _ (Kd.C_below (LentB.full HL0.out) HB.out) (LentB.room HL0.out) (Kd.C_below HR0_0.out HB.out) HC0_0.out (Kd.C_below HR1_0.out HB.out) HC1_0.out HK0.out).mono ?_); rintro e W4 ⟨rfl, hb⟩; have HBn := Aside0.mk (below_step HB.out hb); clear HB; have HB := HBn; clear HBn; have BKn := Aside0.mk (blk_below BKb.out hb); clear BKb; have BKb := BKn; clear BKn; have BKn := Aside0.mk (blk_below BKd.out hb); clear BKd; have BKd := BKn; clear BKn; clear hb; clear cb_0; have cb_0 : W4.cell? ⟨gb, 0, none⟩ = some (.slice A0_0 l0_0.length c0_0) := (blk_cell BKb.out 0).trans rfl; clear cb_1; have cb_1 : W4.cell? ⟨gb, 1, none⟩ = some (.slice A0_1 l0_1.length c0_1) := (blk_cell BKb.out 1).trans rfl; clear cd_0; have cd_0 : W4.cell? ⟨gd, 0, none⟩ = some (.slice A1_0 l0_0.length c1_0) := (blk_cell BKd.out 0).trans rfl; clear cd_1; have cd_1 : W4.cell? ⟨gd, 1, none⟩ = some (.slice A1_1 l0_1.length c1_1) := (blk_cell BKd.out 1).trans rfl) | (go_at_call 45; (with_reducible refine (storemankit_KeptBytes.calls kk1 A0_1 c0_1 l0_1 (l0_1 ++ marksB) A1_1 c1_1 l0_1 true _ (Kd.C_below (LentB.full HL1.out) HB.out) (LentB.room HL1.out) (Kd.C_below HR0_1.out HB.out) HC0_1.out (Kd.C_below HR1_1.out HB.out) HC1_1.out HK1.out).mono ?_); rintro e W5 ⟨rfl, hb⟩; have HBn := Aside0.mk (below_step HB.out hb); clear HB; have HB := HBn; clear HBn; have BKn := Aside0.mk (blk_below BKb.out hb); clear BKb; have BKb := BKn; clear BKn; have BKn := Aside0.mk (blk_below BKd.out hb); clear BKd; have BKd := BKn; clear BKn; clear hb; clear cb_0; have cb_0 : W5.cell? ⟨gb, 0, none⟩ = some (.slice A0_0 l0_0.length c0_0) := (blk_cell BKb.out 0).trans rfl; clear cb_1; have cb_1 : W5.cell? ⟨gb, 1, none⟩ = some (.slice A0_1 l0_1.length c0_1) := (blk_cell BKb.out 1).trans rfl; clear cd_0; have cd_0 : W5.cell? ⟨gd, 0, none⟩ = some (.slice A1_0 l0_0.length c1_0) := (blk_cell BKd.out 0).trans rfl; clear cd_1; have cd_1 : W5.cell? ⟨gd, 1, none⟩ = some (.slice A1_1 l0_1.length c1_1) := (blk_cell BKd.out 1).trans rfl))
  go_ret
  exact ⟨rfl, HB.out⟩
def storemankit_KeptTurn.f (_ : Nat) (l0_0 l0_1 l0_2 l1_0 l1_1 l1_2 : List Int) : Option Bool := if l0_0 = l1_0 ∧ l0_1 = l1_1 ∧ l0_2 = l1_2 then some true else some false
theorem storemankit_KeptTurn.mono : ∀ l0_0 l0_1 l0_2 l1_0 l1_1 l1_2 k, LeO (storemankit_KeptTurn.f k l0_0 l0_1 l0_2 l1_0 l1_1 l1_2) (storemankit_KeptTurn.f (k + 1) l0_0 l0_1 l0_2 l1_0 l1_1 l1_2) := fun _ _ _ _ _ _ _ _ h => h
set_option maxHeartbeats 4000000 in
set_option maxRecDepth 100000 in
theorem storemankit_KeptTurn.calls (k : Nat) (A0_0 : Option Addr) (c0_0 : Nat) (l0_0 : List Int) (A0_1 : Option Addr) (c0_1 : Nat) (l0_1 : List Int) (A0_2 : Option Addr) (c0_2 : Nat) (l0_2 : List Int) (A1_0 : Option Addr) (c1_0 : Nat) (l1_0 : List Int) (A1_1 : Option Addr) (c1_1 : Nat) (l1_1 : List Int) (A1_2 : Option Addr) (c1_2 : Nat) (l1_2 : List Int) (r : Bool) (w : World) (hr0_0 : Kd.C (Kd.int .u8) w A0_0 l0_0.length l0_0) (hc0_0 : l0_0.length ≤ c0_0) (hr0_1 : Kd.C (Kd.int .u8) w A0_1 l0_1.length l0_1) (hc0_1 : l0_1.length ≤ c0_1) (hr0_2 : Kd.C (Kd.int .u8) w A0_2 l0_2.length l0_2) (hc0_2 : l0_2.length ≤ c0_2) (hr1_0 : Kd.C (Kd.int .u8) w A1_0 l1_0.length l1_0) (hc1_0 : l1_0.length ≤ c1_0) (hr1_1 : Kd.C (Kd.int .u8) w A1_1 l1_1.length l1_1) (hc1_1 : l1_1.length ≤ c1_1) (hr1_2 : Kd.C (Kd.int .u8) w A1_2 l1_2.length l1_2) (hc1_2 : l1_2.length ≤ c1_2) (hL0 : LentB w A0_0 c0_0 l0_0) (hL1 : LentB w A0_1 c0_1 l0_1) (hL2 : LentB w A0_2 c0_2 l0_2) (h : storemankit_KeptTurn.f k l0_0 l0_1 l0_2 l1_0 l1_1 l1_2 = some r) (hr_ : r = true := by first | rfl | exact Aside0.out (by assumption)) :
    Calls Try.prog 39 #[.agg #[.slice A0_0 l0_0.length c0_0, .slice A0_1 l0_1.length c0_1, .slice A0_2 l0_2.length c0_2], .agg #[.slice A1_0 l1_0.length c1_0, .slice A1_1 l1_1.length c1_1, .slice A1_2 l1_2.length c1_2]] w fun e w' => e = .returned (.bool r) ∧ Below w.heap.size w w' := by
  subst hr_
  have heq : l0_0 = l1_0 ∧ l0_1 = l1_1 ∧ l0_2 = l1_2 := by
    unfold storemankit_KeptTurn.f at h
    split at h
    · assumption
    · cases h
  clear h
  obtain ⟨rfl, rfl, rfl⟩ := heq
  obtain ⟨ks, qs⟩ := (sameTurn_ev l0_0 l0_1 l0_2 hr0_0.2.1 hr0_1.2.1 hr0_2.2.1).rounds
  obtain ⟨kk0, q0⟩ := (keptB_ev l0_0 hL0.max).rounds
  obtain ⟨kk1, q1⟩ := (keptB_ev l0_1 hL1.max).rounds
  obtain ⟨kk2, q2⟩ := (keptB_ev l0_2 hL2.max).rounds
  have HQ := Aside0.mk (show storemankit_SameTurn.f ks l0_0 l0_1 l0_2 l0_0 l0_1 l0_2 = some true from qs)
  have HK0 := Aside0.mk (show storemankit_KeptBytes.f kk0 l0_0 (l0_0 ++ marksB) l0_0 = some true from q0)
  have HK1 := Aside0.mk (show storemankit_KeptBytes.f kk1 l0_1 (l0_1 ++ marksB) l0_1 = some true from q1)
  have HK2 := Aside0.mk (show storemankit_KeptBytes.f kk2 l0_2 (l0_2 ++ marksB) l0_2 = some true from q2)
  have HR0_0 := Aside0.mk hr0_0
  have HC0_0 := Aside0.mk hc0_0
  have HR0_1 := Aside0.mk hr0_1
  have HC0_1 := Aside0.mk hc0_1
  have HR0_2 := Aside0.mk hr0_2
  have HC0_2 := Aside0.mk hc0_2
  have HR1_0 := Aside0.mk hr1_0
  have HC1_0 := Aside0.mk hc1_0
  have HR1_1 := Aside0.mk hr1_1
  have HC1_1 := Aside0.mk hc1_1
  have HR1_2 := Aside0.mk hr1_2
  have HC1_2 := Aside0.mk hc1_2
  have HL0 := Aside0.mk hL0
  have HL1 := Aside0.mk hL1
  have HL2 := Aside0.mk hL2
  clear hr0_0 hc0_0 hr0_1 hc0_1 hr0_2 hc0_2 hr1_0 hc1_0 hr1_1 hc1_1 hr1_2 hc1_2 hL0 q0 hL1 q1 hL2 q2 qs
  have HB := Aside0.mk (Below.refl w.heap.size w)
  have hu43 := Try.underlying43
  go_enter Try.func39, Try.ntmps39
  go_wp2_with (first | ((with_reducible refine gate_dst (N := 2) rfl ?_); refine box_event ?hg (N := 2) ?hd (cs := #[.slice A0_0 l0_0.length c0_0, .slice A0_1 l0_1.length c0_1, .slice A0_2 l0_2.length c0_2]) (t := 43) ?hr ?_; (case hd => rfl); (case hg => rfl); (case hr => first | (go_simp; done) | (go_simp; rfl)); intro gb hg W1 hbox hb; have HBn := Aside0.mk (below_step HB.out hb); clear HB; have HB := HBn; clear HBn; have BKb := Aside0.mk hbox; clear hg hbox hb; have cb_0 : W1.cell? ⟨gb, 0, none⟩ = some (.slice A0_0 l0_0.length c0_0) := (blk_cell BKb.out 0).trans rfl; have cb_1 : W1.cell? ⟨gb, 1, none⟩ = some (.slice A0_1 l0_1.length c0_1) := (blk_cell BKb.out 1).trans rfl; have cb_2 : W1.cell? ⟨gb, 2, none⟩ = some (.slice A0_2 l0_2.length c0_2) := (blk_cell BKb.out 2).trans rfl) | ((with_reducible refine gate_dst (N := 3) rfl ?_); refine box_event ?hg (N := 3) ?hd (cs := #[.slice A1_0 l0_0.length c1_0, .slice A1_1 l0_1.length c1_1, .slice A1_2 l0_2.length c1_2]) (t := 43) ?hr ?_; (case hd => rfl); (case hg => rfl); (case hr => first | (go_simp; done) | (go_simp; rfl)); intro gd hg W2 hbox hb; have HBn := Aside0.mk (below_step HB.out hb); clear HB; have HB := HBn; clear HBn; have BKn := Aside0.mk (blk_below BKb.out hb); clear BKb; have BKb := BKn; clear BKn; have BKd := Aside0.mk hbox; clear hg hbox hb; clear cb_0; have cb_0 : W2.cell? ⟨gb, 0, none⟩ = some (.slice A0_0 l0_0.length c0_0) := (blk_cell BKb.out 0).trans rfl; clear cb_1; have cb_1 : W2.cell? ⟨gb, 1, none⟩ = some (.slice A0_1 l0_1.length c0_1) := (blk_cell BKb.out 1).trans rfl; clear cb_2; have cb_2 : W2.cell? ⟨gb, 2, none⟩ = some (.slice A0_2 l0_2.length c0_2) := (blk_cell BKb.out 2).trans rfl; have cd_0 : W2.cell? ⟨gd, 0, none⟩ = some (.slice A1_0 l0_0.length c1_0) := (blk_cell BKd.out 0).trans rfl; have cd_1 : W2.cell? ⟨gd, 1, none⟩ = some (.slice A1_1 l0_1.length c1_1) := (blk_cell BKd.out 1).trans rfl; have cd_2 : W2.cell? ⟨gd, 2, none⟩ = some (.slice A1_2 l0_2.length c1_2) := (blk_cell BKd.out 2).trans rfl) | ((with_reducible refine gate_callee (f := 23) rfl ?_); refine goesL_ (some 7) rfl rfl Try.func23 (by kernel_rfl) rfl #[.agg #[.slice A0_0 l0_0.length c0_0, .slice A0_1 l0_1.length c0_1, .slice A0_2 l0_2.length c0_2], .agg #[.slice A1_0 l0_0.length c1_0, .slice A1_1 l0_1.length c1_1, .slice A1_2 l0_2.length c1_2]] rfl (by (try simp only [List.map_toArray, List.map_cons, List.map_nil]); first | done | rfl) ?_; (with_reducible refine (storemankit_SameTurn.calls ks _ _ l0_0 _ _ l0_1 _ _ l0_2 _ _ l0_0 _ _ l0_1 _ _ l0_2 true _ (Kd.C_below HR0_0.out HB.out) HC0_0.out (Kd.C_below HR0_1.out HB.out) HC0_1.out (Kd.C_below HR0_2.out HB.out) HC0_2.out (Kd.C_below HR1_0.out HB.out) HC1_0.out (Kd.C_below HR1_1.out HB.out) HC1_1.out (Kd.C_below HR1_2.out HB.out) HC1_2.out HQ.out).mono ?_); rintro e W3 ⟨rfl, hb⟩; refine ⟨_, rfl, ?_⟩; have HBn := Aside0.mk (below_step HB.out hb); clear HB; have HB := HBn; clear HBn; have BKn := Aside0.mk (blk_below BKb.out hb); clear BKb; have BKb := BKn; clear BKn; have BKn := Aside0.mk (blk_below BKd.out hb); clear BKd; have BKd := BKn; clear BKn; clear hb; clear cb_0; have cb_0 : W3.cell? ⟨gb, 0, none⟩ = some (.slice A0_0 l0_0.length c0_0) := (blk_cell BKb.out 0).trans rfl; clear cb_1; have cb_1 : W3.cell? ⟨gb, 1, none⟩ = some (.slice A0_1 l0_1.length c0_1) := (blk_cell BKb.out 1).trans rfl; clear cb_2; have cb_2 : W3.cell? ⟨gb, 2, none⟩ = some (.slice A0_2 l0_2.length c0_2) := (blk_cell BKb.out 2).trans rfl; clear cd_0; have cd_0 : W3.cell? ⟨gd, 0, none⟩ = some (.slice A1_0 l0_0.length c1_0) := (blk_cell BKd.out 0).trans rfl; clear cd_1; have cd_1 : W3.cell? ⟨gd, 1, none⟩ = some (.slice A1_1 l0_1.length c1_1) := (blk_cell BKd.out 1).trans rfl; clear cd_2; have cd_2 : W3.cell? ⟨gd, 2, none⟩ = some (.slice A1_2 l0_2.length c1_2) := (blk_cell BKd.out 2).trans rfl) | (go_at_call 45; (with_reducible refine (storemankit_KeptBytes.calls kk0 A0_0 c0_0 l0_0 (l0_0 ++ marksB) A1_0 c1_0 l0_0 true _ (Kd.C_below (LentB.full HL0.out) HB.out) (LentB.room HL0.out) (Kd.C_below HR0_0.out HB.out) HC0_0.out (Kd.C_below HR1_0.out HB.out) HC1_0.out HK0.out).mono ?_); rintro e W4 ⟨rfl, hb⟩; have HBn := Aside0.mk (below_step HB.out hb); clear HB; have HB := HBn; clear HBn; have BKn := Aside0.mk (blk_below BKb.out hb); clear BKb; have BKb := BKn; clear BKn; have BKn := Aside0.mk (blk_below BKd.out hb); clear BKd; have BKd := BKn; clear BKn; clear hb; clear cb_0; have cb_0 : W4.cell? ⟨gb, 0, none⟩ = some (.slice A0_0 l0_0.length c0_0) := (blk_cell BKb.out 0).trans rfl; clear cb_1; have cb_1 : W4.cell? ⟨gb, 1, none⟩ = some (.slice A0_1 l0_1.length c0_1) := (blk_cell BKb.out 1).trans rfl; clear cb_2; have cb_2 : W4.cell? ⟨gb, 2, none⟩ = some (.slice A0_2 l0_2.length c0_2) := (blk_cell BKb.out 2).trans rfl; clear cd_0; have cd_0 : W4.cell? ⟨gd, 0, none⟩ = some (.slice A1_0 l0_0.length c1_0) := (blk_cell BKd.out 0).trans rfl; clear cd_1; have cd_1 : W4.cell? ⟨gd, 1, none⟩ = some (.slice A1_1 l0_1.length c1_1) := (blk_cell BKd.out 1).trans rfl; clear cd_2; have cd_2 : W4.cell? ⟨gd, 2, none⟩ = some (.slice A1_2 l0_2.length c1_2) := (blk_cell BKd.out 2).trans rfl) | (go_at_call 45; (with_reducible refine (storemankit_KeptBytes.calls kk1 A0_1 c0_1 l0_1 (l0_1 ++ marksB) A1_1 c1_1 l0_1 true _ (Kd.C_below (LentB.full HL1.out) HB.out) (LentB.room HL1.out) (Kd.C_below HR0_1.out HB.out) HC0_1.out (Kd.C_below HR1_1.out HB.out) HC1_1.out HK1.out).mono ?_); rintro e W5 ⟨rfl, hb⟩; have HBn := Aside0.mk (below_step HB.out hb); clear HB; have HB := HBn; clear HBn; have BKn := Aside0.mk (blk_below BKb.out hb); clear BKb; have BKb := BKn; clear BKn; have BKn := Aside0.mk (blk_below BKd.out hb); clear BKd; have BKd := BKn; clear BKn; clear hb; clear cb_0; have cb_0 : W5.cell? ⟨gb, 0, none⟩ = some (.slice A0_0 l0_0.length c0_0) := (blk_cell BKb.out 0).trans rfl; clear cb_1; have cb_1 : W5.cell? ⟨gb, 1, none⟩ = some (.slice A0_1 l0_1.length c0_1) := (blk_cell BKb.out 1).trans rfl; clear cb_2; have cb_2 : W5.cell? ⟨gb, 2, none⟩ = some (.slice A0_2 l0_2.length c0_2) := (blk_cell BKb.out 2).trans rfl; clear cd_0; have cd_0 : W5.cell? ⟨gd, 0, none⟩ = some (.slice A1_0 l0_0.length c1_0) := (blk_cell BKd.out 0).trans rfl; clear cd_1; have cd_1 : W5.cell? ⟨gd, 1, none⟩ = some (.slice A1_1 l0_1.length c1_1) := (blk_cell BKd.out 1).trans rfl; clear cd_2; have cd_2 : W5.cell? ⟨gd, 2, none⟩ = some (.slice A1_2 l0_2.length c1_2) := (blk_cell BKd.out 2).trans rfl) | (go_at_call 45; (with_reducible refine (storemankit_KeptBytes.calls kk2 A0_2 c0_2 l0_2 (l0_2 ++ marksB) A1_2 c1_2 l0_2 true _ (Kd.C_below (LentB.full HL2.out) HB.out) (LentB.room HL2.out) (Kd.C_below HR0_2.out HB.out) HC0_2.out (Kd.C_below HR1_2.out HB.out) HC1_2.out HK2.out).mono ?_); rintro e W6 ⟨rfl, hb⟩; have HBn := Aside0.mk (below_step HB.out hb); clear HB; have HB := HBn; clear HBn; have BKn := Aside0.mk (blk_below BKb.out hb); clear BKb; have BKb := BKn; clear BKn; have BKn := Aside0.mk (blk_below BKd.out hb); clear BKd; have BKd := BKn; clear BKn; clear hb; clear cb_0; have cb_0 : W6.cell? ⟨gb, 0, none⟩ = some (.slice A0_0 l0_0.length c0_0) := (blk_cell BKb.out 0).trans rfl; clear cb_1; have cb_1 : W6.cell? ⟨gb, 1, none⟩ = some (.slice A0_1 l0_1.length c0_1) := (blk_cell BKb.out 1).trans rfl; clear cb_2; have cb_2 : W6.cell? ⟨gb, 2, none⟩ = some (.slice A0_2 l0_2.length c0_2) := (blk_cell BKb.out 2).trans rfl; clear cd_0; have cd_0 : W6.cell? ⟨gd, 0, none⟩ = some (.slice A1_0 l0_0.length c1_0) := (blk_cell BKd.out 0).trans rfl; clear cd_1; have cd_1 : W6.cell? ⟨gd, 1, none⟩ = some (.slice A1_1 l0_1.length c1_1) := (blk_cell BKd.out 1).trans rfl; clear cd_2; have cd_2 : W6.cell? ⟨gd, 2, none⟩ = some (.slice A1_2 l0_2.length c1_2) := (blk_cell BKd.out 2).trans rfl))
  go_ret
  exact ⟨rfl, HB.out⟩
end Go.Proofs.Ytkplejkkafcipaa.PA
