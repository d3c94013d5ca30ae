/-
The walk of the law LockOne: it returns true, whatever comes in.
-/
import Derived.Test.YtimlfdfmgajbnaaLk19
namespace Go.Proofs.Ytimlfdfmgajbnaa.PA
open Go.RowKit Go.Proofs.YtimlfdfmgajbnaaW.PrintWords Go.Proofs.YtimlfdfmgajbnaaW.PrintLast Go.Proofs.YtimlfdfmgajbnaaW.PrintMore
set_option linter.unusedVariables false
set_option linter.unusedSimpArgs false
theorem pick_ev (a b : Int) (hb : 1 ≤ b) (hb2 : b ≤ 100) : ∃ r, storemankit_Pick.f a b = some r ∧ 0 ≤ r ∧ r < b := by
  have h1 := Int.tmod_lt_of_pos a (show 0 < b by omega)
  have h2 : -b < Int.tmod a b := Int.lt_tmod_of_pos a (show 0 < b by omega)
  unfold storemankit_Pick.f
  rw [if_neg (by omega), if_neg (by omega)]
  by_cases h : Int.tmod a b < 0
  · rw [if_pos h, wrapI (by omega) (by omega)]; exact ⟨_, rfl, by omega, by omega⟩
  · rw [if_neg h]; exact ⟨_, rfl, by omega, h1⟩
theorem pick6_calls (a : Int) (w : World) : Calls Try.prog 19 #[.int .i64 a, .int .i64 6] w fun e w' => ∃ r : Int, e = .returned (.int .i64 r) ∧ (0 ≤ r ∧ r < 6) ∧ Below w.heap.size w w' := by
  obtain ⟨r, h, h0, h1⟩ := pick_ev a 6 (by omega) (by omega)
  exact (storemankit_Pick.calls a 6 r w h).mono fun e w' ⟨he, hd⟩ => ⟨r, he, ⟨h0, h1⟩, hd.below⟩
theorem wf6 {r : Int} (h : 0 ≤ r ∧ r < 6) : (Lit.int .i64 r).wf = true := by
  unfold Lit.wf
  have : r = 0 ∨ r = 1 ∨ r = 2 ∨ r = 3 ∨ r = 4 ∨ r = 5 := by omega
  rcases this with rfl | rfl | rfl | rfl | rfl | rfl <;> rfl
theorem C_chg {w w' : World} {F : Nat → Prop} {A : Option Addr} {n : Nat} {xs : List ByteArray} (h : Kd.C Kd.string w A n xs) (hc : Chg F w w') (hA : ∀ ad, A = some ad → ¬ F ad.block) : Kd.C Kd.string w' A n xs :=
  ⟨h.1, h.2.1, fun hn => by
    obtain ⟨ad, e, hq⟩ := h.2.2 hn
    refine ⟨ad, e, fun j p hj => ?_⟩
    obtain ⟨c, hs, hr, hcell⟩ := hq j p hj
    refine ⟨c, hs, hr, fun i u hu => ?_⟩
    have h1 := hcell i u hu
    have hlt := World.block_lt_of_cell? w _ h1
    unfold World.cell? at h1 ⊢
    have hbk : (ad.add (j * Kd.string.sz + i)).block = ad.block := by unfold Addr.add; split <;> rfl
    rw [hc.block _ hlt (by rw [hbk]; exact hA ad e)]
    exact h1⟩
theorem C_lt {w : World} {A : Option Addr} {n : Nat} {xs : List ByteArray} (h : Kd.C Kd.string w A n xs) (hn : 0 < n) : ∀ ad, A = some ad → ad.block < w.heap.size := fun ad e => by
  obtain ⟨ad', e', hx⟩ := Kd.at_string h 0 (by omega) (by omega)
  rw [e] at e'
  injection e' with e'
  subst e'
  have h1 := World.block_lt_of_cell? w _ hx
  have hbk : (ad.add (0 : Int).toNat).block = ad.block := by unfold Addr.add; split <;> rfl
  rwa [hbk] at h1
theorem sameBig_l0 (l : List ByteArray) (hl : l.length ≤ 9223372036854775807) : ∀ n i, i + n = l.length → ∀ k, n < k → storemankit_SameTexts.l0 k l l (i : Int) = some true := by
  intro n
  induction n with
  | zero =>
    intro i hi k hk
    obtain ⟨k, rfl⟩ : ∃ j, k = j + 1 := ⟨k - 1, by omega⟩
    simp only [storemankit_SameTexts.l0]
    rw [if_neg (by omega)]
  | succ n ih =>
    intro i hi k hk
    obtain ⟨k, rfl⟩ : ∃ j, k = j + 1 := ⟨k - 1, by omega⟩
    simp only [storemankit_SameTexts.l0]
    rw [if_pos (by omega), if_pos (by omega), if_pos (by omega)]
    simp only [if_true]
    rw [wrapI (by omega) (by omega)]
    exact ih (i + 1) (by omega) k (by omega)
theorem sameBig (l : List ByteArray) (hl : l.length ≤ 9223372036854775807) : storemankit_SameTexts.f (l.length + 1) l l = some true := by
  unfold storemankit_SameTexts.f
  rw [if_pos rfl]
  exact sameBig_l0 l hl l.length 0 (by omega) _ (by omega)
/-- The cells of a step. -/
structure Ps (w : World) (ad : Addr) (i : Int) (x : S34) (A2 : Option Addr) (c2 : Nat) : Prop where
  h0 : w.cell? (ad.add (i.toNat * 3)) = some (.int .i64 x.f0)
  h1 : w.cell? ⟨(ad.add (i.toNat * 3)).block, (ad.add (i.toNat * 3)).off + 1, none⟩ = some (.int .i64 x.f1)
  h2 : w.cell? ⟨(ad.add (i.toNat * 3)).block, (ad.add (i.toNat * 3)).off + 2, none⟩ = some (.slice A2 x.f2.length c2)
  hc : x.f2.length ≤ c2
  hC : Kd.C Kd.string w A2 x.f2.length x.f2
theorem Ps.below {w w' : World} {ad : Addr} {i : Int} {x : S34} {A2 : Option Addr} {c2 : Nat} (h : Ps w ad i x A2 c2) (hb : Below w.heap.size w w') : Ps w' ad i x A2 c2 := ⟨cell_keep h.h0 hb, cell_keep h.h1 hb, cell_keep h.h2 hb, h.hc, Kd.C_below h.hC hb⟩
/-- The locks behind so many steps. -/
def SI (w wr : World) (lb : Nat) (m : List S34) (i : Int) : Prop := ∃ last L B F, S1 w wr lb last L B F ∧ Excl L ∧ (B : Int) ≤ i + namesIn (m.take i.toNat)
def goodS (x : S34) : Prop := (Lit.int .i64 x.f0).wf = true ∧ (Lit.int .i64 x.f1).wf = true ∧ (List.length x.f2 * 16 ≤ 140737488351232 ∧ ∀ y ∈ x.f2, y.size ≤ 140737488351232)
theorem SI.B {w wr : World} {lb : Nat} {m : List S34} {i : Int} {B : Nat} (hB : (B : Int) ≤ i + namesIn (m.take i.toNat)) (hn : namesIn m ≤ 2000) (hi : i ≤ 60) : B ≤ 2100 := by
  have : namesIn (m.take i.toNat) ≤ namesIn m := by
    unfold namesIn
    conv => rhs; rw [← List.take_append_drop i.toNat m]
    rw [List.map_append, List.sum_append]
    omega
  omega
theorem names_step {m : List S34} {i : Int} (h0 : 0 ≤ i) (h1 : i < m.length) : namesIn (m.take (i + 1).toNat) = namesIn (m.take i.toNat) + (rd_T34 m i).f2.length := by
  have e : (i + 1).toNat = i.toNat + 1 := by omega
  have hl : i.toNat < m.length := by omega
  have er : rd_T34 m i = m[i.toNat] := by have := rd34 m i.toNat hl; rwa [Int.toNat_of_nonneg h0] at this
  rw [e, er, List.take_succ_eq_append_getElem hl]
  unfold namesIn
  rw [List.map_append, List.sum_append]
  simp
theorem far_of {w w' : World} {lb : Nat} {F : List Nat} {last : Int} {L : List S79} {B : Nat} {A : Option Addr} {n c : Nat} {xs : List ByteArray} (h : Kd.R Kd.string 9 w' w.heap.size (fun _ => True) (.slice A n c) xs) (hs : LockSt w lb F last L B) : ∀ ad, A = some ad → ¬ ad.block ∈ F := fun ad e hm => by
  have h1 := hs.lt _ hm
  obtain ⟨_, inner, ho, _⟩ := h
  have := own_base ho ad.block (by subst e; rfl)
  omega
set_option maxHeartbeats 16000000 in
set_option maxRecDepth 100000 in
theorem LockOne_goes (A0 : Option Addr) (l : List S34) (c0 : Nat) (w : World) (hr0 : Kd.C k34 w A0 l.length l) (hc0 : l.length ≤ c0) (hg0 : l.length * 40 ≤ 140737488351232 ∧ ∀ x ∈ l, (Lit.int .i64 x.f0).wf = true ∧ (Lit.int .i64 x.f1).wf = true ∧ (List.length x.f2 * 16 ≤ 140737488351232 ∧ ∀ y ∈ x.f2, y.size ≤ 140737488351232)) :
    Calls Try.prog 6 #[.slice A0 l.length c0] w fun e W' => e = .returned (.bool true) ∧ Below w.heap.size w W' := by
  obtain ⟨m, hm⟩ : ∃ m, m = l.take 60 := ⟨_, rfl⟩
  have hml : m.length ≤ 60 := by rw [hm, List.length_take]; omega
  have hmC : Kd.C k34 w A0 m.length m := by
    by_cases h : l.length ≤ 60
    · rw [hm, List.take_of_length_le h]; exact hr0
    · rw [hm]; exact Kd.C_take hr0 (by omega)
  have hmc : m.length ≤ c0 := by rw [hm, List.length_take]; omega
  have hmg : ∀ x ∈ m, goodS x := fun x hx => hg0.2 x (by rw [hm] at hx; exact List.mem_of_mem_take hx)
  have hlc : (60 < l.length → m.length = 60) ∧ (¬ 60 < l.length → m.length = l.length) := by rw [hm, List.length_take]; omega
  have HR := Aside0.mk hmC; have HG := Aside0.mk hmg; have HC := Aside0.mk hmc; have HL := Aside0.mk hlc; have HC0 := Aside0.mk hc0; have HML := Aside0.mk hml
  clear hr0 hc0 hg0 hm hmC hmc hmg hlc
  go_enter Try.func6, Try.ntmps6
  go_upto_if 16 with (first | (go_at_call 9; (with_reducible refine (awake_calls _).mono ?_); rintro e W1 ⟨rfl, hb⟩; have HB := Aside0.mk hb; clear hb))
  go_cut [0] (fun v0 wc => v0 = .slice A0 m.length c0 ∧ Aside0 (Below w.heap.size w wc))
  case first =>
    by_cases hb : 60 < l.length
    · have h1 : decide ((60 : Int) < (l.length : Int)) = true := decide_eq_true (by omega)
      have e60 := HL.out.1 hb
      have hc60 : (60 : Int) ≤ (c0 : Int) := by have := HC0.out; omega
      go_wp2
      go_meet
      case rel => exact ⟨by rw [e60], HB⟩
    · have h1 : decide ((60 : Int) < (l.length : Int)) = false := decide_eq_false (by omega)
      have e60 := HL.out.2 hb
      go_wp2
      go_meet
      case rel => exact ⟨by rw [e60], HB⟩
  case rest =>
    obtain ⟨rfl, HB⟩ := hcut
    clear HL HC0
    obtain ⟨K, r, hgr, hgr2⟩ := great_ev m HML.out (fun x hx => by have := (HG.out x hx).2.2.1; omega) (fun x hx => (HG.out x hx).2.2.2)
    have HGR := Aside0.mk hgr
    clear hgr
    cases r with
    | true =>
      clear hgr2
      go_wp2_with (first | (go_at_call 8; (with_reducible refine (storemanlaw24_great.calls K A0 c0 m _ _ (Kd.C_below HR.out HB.out) HC.out HGR.out).mono ?_); rintro e W2 ⟨rfl, hd⟩; have hb := hd.below; have HBn := Aside0.mk (below_step HB.out hb); clear HB; have HB := HBn; clear HBn hb hd))
      go_ret
      exact ⟨rfl, HB.out⟩
    | false =>
      have HNM := Aside0.mk (hgr2 rfl)
      clear hgr2
      go_wp2_with (first | (go_at_call 8; (with_reducible refine (storemanlaw24_great.calls K A0 c0 m _ _ (Kd.C_below HR.out HB.out) HC.out HGR.out).mono ?_); rintro e W2 ⟨rfl, hd⟩; have hb := hd.below; have HBn := Aside0.mk (below_step HB.out hb); clear HB; have HB := HBn; clear HBn hb hd) | (go_at_call 10; (with_reducible refine (st_new _).mono ?_); rintro e W3 ⟨lb, F0, rfl, hL, hb, hF⟩; have HS := Aside0.mk (show S1 w W3 lb 0 [] 0 F0 from ⟨hL, below_step HB.out hb, fun k hk => Nat.le_trans (below_size HB.out) (hF k hk)⟩); clear HB hL hb hF))
      clear HGR
      have HSI := Aside0.mk (show SI w W3 lb m 0 from ⟨0, [], 0, F0, HS.out, ⟨List.Pairwise.nil, List.nodup_nil⟩, by simp⟩)
      clear HS
      go_loopw [4] (fun v4 wr => ∃ i : Int, (0 ≤ i ∧ i ≤ m.length) ∧ v4 = .int .i64 i ∧ Aside0 (SI w wr lb m i)) (fun v4 _ => (m.length - intOf v4).toNat)
      case atStart => exact ⟨0, ⟨by omega, by omega⟩, rfl, HSI⟩
      case round =>
        obtain ⟨i, ⟨h0, h1⟩, rfl, HSI2⟩ := hrel
        clear HSI
        by_cases hi : i < (m.length : Int)
        · have hdi : decide (i < (m.length : Int)) = true := decide_eq_true hi
          obtain ⟨last, L, B, F, hs, hex, hB⟩ := HSI2.out
          have HS := Aside0.mk hs; have HEX := Aside0.mk hex; have HBI := Aside0.mk hB
          have HBB := Aside0.mk (show B ≤ 1000000 by have := SI.B (w := w) (wr := wr) (lb := lb) hB HNM.out (by have := HML.out; omega); omega)
          have HBS := Aside0.mk (SI.B (w := w) (wr := wr) (lb := lb) hB HNM.out (by have := HML.out; omega))
          obtain ⟨ad, A2, c2, e2, x0, x1, x2, x3, x4⟩ := at_T34 HR.out i h0 hi
          have PS := Aside0.mk (show Ps w ad i (rd_T34 m i) A2 c2 from ⟨x0, x1, x2, x3, x4⟩)
          cases e2
          have hin : rd_T34 m i ∈ m := by rw [show rd_T34 m i = m[i.toNat]'(by omega) by have := rd34 m i.toNat (by omega); rwa [Int.toNat_of_nonneg h0] at this]; exact List.getElem_mem _
          have HGX := Aside0.mk (HG.out _ hin)
          clear hs hex hB HSI2 x0 x1 x2 x3 x4 hin
          obtain ⟨r5, hr5, _, _⟩ := pick_ev (rd_T34 m i).f0 5 (by omega) (by omega)
          have HR5 := Aside0.mk hr5
          clear hr5
          have HI := Aside0.mk (And.intro h0 hi)
          replace h0 := eq_true h0; replace hi := eq_true hi
          have k0 := (PS.out.below HS.out.hb).h0; have k1 := (PS.out.below HS.out.hb).h1; have k2 := (PS.out.below HS.out.hb).h2
          by_cases hf : r5 = 0
          · have hd5 : decide (r5 = 0) = true := decide_eq_true hf
            go_wp2_with (first | (go_at_call 19; (with_reducible refine (pick6_calls _ _).mono ?_); rintro e W4 ⟨r, rfl, hr6, hb⟩; have HR6 := Aside0.mk hr6; clear hr6; have HSn := Aside0.mk (HS.out.below hb); clear HS; have HS := HSn; clear HSn; clear k0 k1 k2; have k0 := (PS.out.below HS.out.hb).h0; have k1 := (PS.out.below HS.out.hb).h1; have k2 := (PS.out.below HS.out.hb).h2; clear hb) | (go_at_call 15; (with_reducible refine (st_holds r HS.out.st (wf6 HR6.out) HBB.out).mono ?_); rintro e W5 ⟨v, rfl, hR, hb⟩; obtain ⟨A1, c1, ev⟩ := Kd.R_slice hR; subst ev; have HV1 := Aside0.mk (Kd.R_reads' hR).2.2; have HC1 := Aside0.mk (Kd.R_reads' hR).2.1; have HF1 := Aside0.mk (far_of hR HS.out.st); clear hR; have HSn := Aside0.mk (HS.out.below hb); clear HS; have HS := HSn; clear HSn; clear k0 k1 k2; have k0 := (PS.out.below HS.out.hb).h0; have k1 := (PS.out.below HS.out.hb).h1; have k2 := (PS.out.below HS.out.hb).h2; clear hb) | (go_at_call 19; (with_reducible refine (storemankit_Pick.calls (rd_T34 m i).f0 5 r5 _ HR5.out).mono ?_); rintro e W6 ⟨rfl, hd⟩; have hb := hd.below; have HVn := Aside0.mk (Kd.C_below HV1.out hb); clear HV1; have HV1 := HVn; clear HVn hd; have HSn := Aside0.mk (HS.out.below hb); clear HS; have HS := HSn; clear HSn; clear k0 k1 k2; have k0 := (PS.out.below HS.out.hb).h0; have k1 := (PS.out.below HS.out.hb).h1; have k2 := (PS.out.below HS.out.hb).h2; clear hb) | (go_at_call 13; (with_reducible refine (st_free r HS.out.st (wf6 HR6.out)).mono ?_); rintro e W7 ⟨rfl, F7, hL, hF, hc⟩; have HSn := Aside0.mk (HS.out.next (Below.refl _ _) hL (fun k hk => .inl (hF k hk)) hc); clear HS HV1 HF1; have HS := HSn; clear HSn hL hF hc k0 k1 k2) | (go_at_call 15; (with_reducible refine (((free_none L r).1 ▸ st_holds r HS.out.st (wf6 HR6.out) HBB.out)).mono ?_); rintro e W8 ⟨v, rfl, hR, hb⟩; obtain ⟨A8, c8, ev⟩ : ∃ A c, v = .slice A 0 c := Kd.R_slice hR; subst ev; clear hR; have HSn := Aside0.mk (HS.out.below hb); clear HS; have HS := HSn; clear HSn; clear hb) | (go_at_call 16; (with_reducible refine (((free_none L r).2 ▸ st_waits r HS.out.st (wf6 HR6.out) HBB.out)).mono ?_); rintro e W9 ⟨v, rfl, hR, hb⟩; obtain ⟨A9, c9, ev⟩ : ∃ A c, v = .slice A 0 c := Kd.R_slice hR; subst ev; clear hR; have HSn := Aside0.mk (HS.out.below hb); clear HS; have HS := HSn; clear HSn; clear hb))
            go_roundw
            case rel => exact ⟨i + 1, ⟨by have := HI.out; omega, by have := HI.out; omega⟩, by first | rfl | (rw [wrapI (by have := HI.out; omega) (by have := HI.out; have := HML.out; omega)]), ⟨last, freeL L r, B, F7, HS.out, excl_free HEX.out r, by have := HBI.out; have := names_step HI.out.1 HI.out.2; omega⟩⟩
            case measure => have h2 := HI.out; have h3 := HML.out; have h4 := wrapI (x := i + 1) (by omega) (by omega); simp [intOf, h4]; omega
          · have hd5 : decide (r5 = 0) = false := decide_eq_false hf
            go_upto_region 17 with (first | (go_at_call 19; (with_reducible refine (pick6_calls _ _).mono ?_); rintro e W4 ⟨r, rfl, hr6, hb⟩; have HR6 := Aside0.mk hr6; clear hr6; have HSn := Aside0.mk (HS.out.below hb); clear HS; have HS := HSn; clear HSn; clear k0 k1 k2; have k0 := (PS.out.below HS.out.hb).h0; have k1 := (PS.out.below HS.out.hb).h1; have k2 := (PS.out.below HS.out.hb).h2; clear hb) | (go_at_call 15; (with_reducible refine (st_holds r HS.out.st (wf6 HR6.out) HBB.out).mono ?_); rintro e W5 ⟨v, rfl, hR, hb⟩; obtain ⟨A1, c1, ev⟩ := Kd.R_slice hR; subst ev; have HV1 := Aside0.mk (Kd.R_reads' hR).2.2; have HC1 := Aside0.mk (Kd.R_reads' hR).2.1; have HF1 := Aside0.mk (far_of hR HS.out.st); clear hR; have HSn := Aside0.mk (HS.out.below hb); clear HS; have HS := HSn; clear HSn; clear k0 k1 k2; have k0 := (PS.out.below HS.out.hb).h0; have k1 := (PS.out.below HS.out.hb).h1; have k2 := (PS.out.below HS.out.hb).h2; clear hb) | (go_at_call 19; (with_reducible refine (storemankit_Pick.calls (rd_T34 m i).f0 5 r5 _ HR5.out).mono ?_); rintro e W6 ⟨rfl, hd⟩; have hb := hd.below; have HVn := Aside0.mk (Kd.C_below HV1.out hb); clear HV1; have HV1 := HVn; clear HVn hd; have HSn := Aside0.mk (HS.out.below hb); clear HS; have HS := HSn; clear HSn; clear k0 k1 k2; have k0 := (PS.out.below HS.out.hb).h0; have k1 := (PS.out.below HS.out.hb).h1; have k2 := (PS.out.below HS.out.hb).h2; clear hb))
            obtain ⟨L2, hL2⟩ : ∃ L2, L2 = (askL L last r (rd_T34 m i).f2).1 := ⟨_, rfl⟩
            obtain ⟨t2, ht2⟩ : ∃ t2, t2 = (askL L last r (rd_T34 m i).f2).2.1 := ⟨_, rfl⟩
            have HEX2 := Aside0.mk (show Excl L2 by rw [hL2]; exact excl_ask HEX.out last r _)
            have HBI2 := Aside0.mk (show ((B + 1 + (rd_T34 m i).f2.length : Nat) : Int) ≤ (i + 1) + namesIn (m.take (i + 1).toNat) by have := HBI.out; have := names_step HI.out.1 HI.out.2; omega)
            have HB2 := Aside0.mk (SI.B (w := w) (wr := w) (lb := lb) HBI2.out HNM.out (by have := HI.out; have := HML.out; omega))
            have HNL := Aside0.mk (show B + (rd_T34 m i).f2.length ≤ 100000 by have := HB2.out; omega)
            have HBB2 := Aside0.mk (show B + 1 + (rd_T34 m i).f2.length ≤ 1000000 by have := HB2.out; omega)
            have HL2 := Aside0.mk hL2; have HT2 := Aside0.mk ht2; clear hL2 ht2
            cases hok : (askL L last r (rd_T34 m i).f2).2.2 with
            | true =>
              obtain ⟨hy1, hy2⟩ := ask_yes hok
              rw [← HL2.out] at hy1 hy2
              have HOK := Aside0.mk hok; clear hok
              have HY1 := Aside0.mk hy1; have HY2 := Aside0.mk hy2; clear hy1 hy2
              go_wp2_with (first | (go_at_call 14; have hp := st_ask0 r A2 c2 (rd_T34 m i).f2 HS.out.st (wf6 HR6.out) HNL.out (PS.out.below HS.out.hb).hC PS.out.hc (fun s hs => by have := HGX.out.2.2.2 s hs; omega) (fun hp0 ad e h => absurd (HS.out.hf _ h) (Nat.not_le.2 (C_lt PS.out.hC hp0 ad e))); rw [HOK.out, ← HL2.out, ← HT2.out] at hp; (with_reducible refine hp.mono ?_); rintro e W7 ⟨rfl, F7, hL, hF, hc⟩; have HVn := Aside0.mk (C_chg HV1.out hc HF1.out); clear HV1; have HV1 := HVn; clear HVn; have HSn := Aside0.mk (HS.out.next (Below.refl _ _) hL hF hc); clear HS HF1; have HS := HSn; clear HSn hp hL hF hc; clear k0 k1 k2; have k0 := (PS.out.below HS.out.hb).h0; have k1 := (PS.out.below HS.out.hb).h1; have k2 := (PS.out.below HS.out.hb).h2) | (go_at_call 15; have hp := st_holds r HS.out.st (wf6 HR6.out) HBB2.out; (with_reducible refine hp.mono ?_); rintro e W8 ⟨v, rfl, hR, hb⟩; obtain ⟨A8, c8, ev⟩ := Kd.R_slice hR; subst ev; have HV8 := Aside0.mk (Kd.R_reads' hR).2.2; have HC8 := Aside0.mk (Kd.R_reads' hR).2.1; clear hR hp; clear HV1; have HSn := Aside0.mk (HS.out.below hb); clear HS; have HS := HSn; clear HSn; clear k0 k1 k2; have k0 := (PS.out.below HS.out.hb).h0; have k1 := (PS.out.below HS.out.hb).h1; have k2 := (PS.out.below HS.out.hb).h2; clear hb))
              clear k0 k1 k2
              go_loopw [9] (fun v9 wr => ∃ k : Int, (0 ≤ k ∧ k ≤ (rd_T34 m i).f2.length) ∧ v9 = .int .i64 k ∧ Aside0 (Below W8.heap.size W8 wr)) (fun v9 _ => ((rd_T34 m i).f2.length - intOf v9).toNat)
              case atStart => exact ⟨0, ⟨by omega, by omega⟩, rfl, ⟨Below.refl _ _⟩⟩
              case round =>
                obtain ⟨k, ⟨kl, kr⟩, rfl, HBK⟩ := hrel
                have HSn := Aside0.mk (HS.out.below HBK.out); clear HS; have HS := HSn; clear HSn
                have HVn := Aside0.mk (Kd.C_below HV8.out HBK.out); clear HV8; have HV8 := HVn; clear HVn
                have k0 := (PS.out.below HS.out.hb).h0; have k1 := (PS.out.below HS.out.hb).h1; have k2 := (PS.out.below HS.out.hb).h2
                by_cases hk : k < ((rd_T34 m i).f2.length : Int)
                · have hdk : decide (k < ((rd_T34 m i).f2.length : Int)) = true := decide_eq_true hk
                  have hcs := (PS.out.below HS.out.hb).hC
                  obtain ⟨ad3, e3, y0⟩ := Kd.at_string hcs k kl hk
                  cases e3
                  clear hcs
                  obtain ⟨sx, hsx⟩ : ∃ sx, sx = rdOf ByteArray.empty (rd_T34 m i).f2 k := ⟨_, rfl⟩
                  have hsm : sx ∈ (rd_T34 m i).f2 := by rw [hsx, show rdOf ByteArray.empty (rd_T34 m i).f2 k = (rd_T34 m i).f2[k.toNat]'(by omega) by have := rdS (rd_T34 m i).f2 k.toNat (by omega); rwa [Int.toNat_of_nonneg kl] at this]; exact List.getElem_mem _
                  rw [← hsx] at y0
                  obtain ⟨K2, hK2⟩ := meets_ev [sx] (holdsL L2 r) (by simp) (Kd.C_max HV8.out)
                  rw [HY1.out sx hsm] at hK2
                  have HMT := Aside0.mk hK2
                  have HK := Aside0.mk (And.intro kl hk)
                  clear hK2 hsm hsx
                  replace kl := eq_true kl; replace hk := eq_true hk
                  go_wp2_with (first | (go_at_call 20; have hC0 : Kd.C Kd.string (wr.alloc (.cells #[.string sx] 9 (0, 0))) (some ⟨wr.heap.size, 0, none⟩) 1 [sx] := lit_C wr [sx] (by simp) (by simp); have hb0 := below_alloc (Below.refl wr.heap.size wr) (.cells #[.string sx] 9 (0, 0)); have hp := storemanlaw24_meets.calls K2 (some ⟨wr.heap.size, 0, none⟩) 1 [sx] A8 c8 (holdsL L2 r) true _ hC0 (Nat.le_refl _) (Kd.C_below HV8.out hb0) HC8.out HMT.out; simp only [List.length_cons, List.length_nil, Nat.reduceAdd, Nat.zero_add, Nat.add_zero] at hp; (with_reducible refine hp.mono ?_); rintro e W9 ⟨rfl, hd⟩; have HBn := Aside0.mk (below_step (below_step HBK.out hb0) hd.below); clear HBK; have HBK := HBn; clear HBn hp hd hb0 hC0))
                  go_roundw
                  case rel => exact ⟨k + 1, ⟨by have := HK.out; omega, by have := HK.out; omega⟩, by first | rfl | (rw [wrapI (by have := HK.out; omega) (by have := HK.out; have := HB2.out; omega)]), HBK⟩
                  case measure => have h2 := HK.out; have h3 := HB2.out; have h4 := wrapI (x := k + 1) (by omega) (by omega); simp [intOf, h4]; omega
                · have hdk : decide (k < ((rd_T34 m i).f2.length : Int)) = false := decide_eq_false hk
                  go_wp2_with (first | (go_at_call 16; have hp := st_waits r HS.out.st (wf6 HR6.out) HBB2.out; rw [HY2.out] at hp; (with_reducible refine hp.mono ?_); rintro e W9 ⟨v, rfl, hR, hb⟩; obtain ⟨A9, c9, ev⟩ : ∃ A c, v = .slice A 0 c := Kd.R_slice hR; subst ev; clear hR hp k0 k1 k2; have HSn := Aside0.mk (HS.out.below hb); clear HS; have HS := HSn; clear HSn; clear hb))
                  go_loopw [10] (fun v10 wr => ∃ a : Int, (0 ≤ a ∧ a ≤ 6) ∧ v10 = .int .i64 a ∧ Aside0 (S1 w wr lb t2 L2 (B + 1 + (rd_T34 m i).f2.length) F7)) (fun v10 _ => (6 - intOf v10).toNat)
                  case atStart => exact ⟨0, ⟨by omega, by omega⟩, rfl, HS⟩
                  case round =>
                    clear HS
                    obtain ⟨a, ⟨ha0, ha1⟩, rfl, HS⟩ := hrel
                    by_cases ha : a < 6
                    · have hda : decide (a < 6) = true := decide_eq_true ha
                      go_wp2
                      go_loopw [11] (fun v11 wr => ∃ b : Int, (a + 1 ≤ b ∧ b ≤ 6) ∧ v11 = .int .i64 b ∧ Aside0 (S1 w wr lb t2 L2 (B + 1 + (rd_T34 m i).f2.length) F7)) (fun v11 _ => (6 - intOf v11).toNat)
                      case atStart => exact ⟨a + 1, ⟨by omega, by omega⟩, by first | rfl | (rw [wrapI (by omega) (by omega)]), HS⟩
                      case round =>
                        clear HS
                        obtain ⟨b, ⟨hb0, hb1⟩, rfl, HS⟩ := hrel
                        by_cases hbb : b < 6
                        · have hdb : decide (b < 6) = true := decide_eq_true hbb
                          have HAP := Aside0.mk (holds_apart HEX2.out (show a ≠ b by omega))
                          have HA6 := Aside0.mk (show 0 ≤ a ∧ a < 6 from ⟨ha0, ha⟩); have HB6 := Aside0.mk (show 0 ≤ b ∧ b < 6 by omega)
                          go_wp2_with (first | (go_at_call 15; have hp := st_holds a HS.out.st (wf6 HA6.out) HBB2.out; (with_reducible refine hp.mono ?_); rintro e W10 ⟨v, rfl, hR, hb⟩; obtain ⟨A10, c10, ev⟩ := Kd.R_slice hR; subst ev; have HV10 := Aside0.mk (Kd.R_reads' hR).2.2; have HC10 := Aside0.mk (Kd.R_reads' hR).2.1; clear hR hp; have HSn := Aside0.mk (HS.out.below hb); clear HS; have HS := HSn; clear HSn; clear hb; clear HA6) | (go_at_call 15; have hp := st_holds b HS.out.st (wf6 HB6.out) HBB2.out; (with_reducible refine hp.mono ?_); rintro e W11 ⟨v, rfl, hR, hb⟩; obtain ⟨A11, c11, ev⟩ := Kd.R_slice hR; subst ev; have HVn := Aside0.mk (Kd.C_below HV10.out hb); clear HV10; have HV10 := HVn; clear HVn; have HV11 := Aside0.mk (Kd.R_reads' hR).2.2; have HC11 := Aside0.mk (Kd.R_reads' hR).2.1; clear hR hp; have HSn := Aside0.mk (HS.out.below hb); clear HS; have HS := HSn; clear HSn; clear hb; clear HB6) | (go_at_call 20; obtain ⟨K3, hK3⟩ := meets_ev _ _ (Kd.C_max HV10.out) (Kd.C_max HV11.out); rw [HAP.out] at hK3; (with_reducible refine (storemanlaw24_meets.calls K3 A10 c10 _ A11 c11 _ false _ HV10.out HC10.out HV11.out HC11.out hK3).mono ?_); rintro e W12 ⟨rfl, hd⟩; have hb := hd.below; clear hd HV10 HV11; have HSn := Aside0.mk (HS.out.below hb); clear HS; have HS := HSn; clear HSn; clear hb))
                          go_roundw
                          case rel => exact ⟨b + 1, ⟨by omega, by omega⟩, by first | rfl | (rw [wrapI (by omega) (by omega)]), HS⟩
                          case measure => have h4 := wrapI (x := b + 1) (by omega) (by omega); simp [intOf, h4]; omega
                        · have hdb : decide (b < 6) = false := decide_eq_false hbb
                          go_wp2
                          go_roundw
                          case rel => exact ⟨a + 1, ⟨by omega, by omega⟩, by first | rfl | (rw [wrapI (by omega) (by omega)]), HS⟩
                          case measure => have h4 := wrapI (x := a + 1) (by omega) (by omega); simp [intOf, h4]; omega
                    · have hda : decide (a < 6) = false := decide_eq_false ha
                      go_wp2
                      go_roundw
                      case rel => exact ⟨i + 1, ⟨by have := HI.out; omega, by have := HI.out; omega⟩, by first | rfl | (rw [wrapI (by have := HI.out; omega) (by have := HI.out; have := HML.out; omega)]), ⟨t2, L2, _, F7, HS.out, HEX2.out, HBI2.out⟩⟩
                      case measure => have h2 := HI.out; have h3 := HML.out; have h4 := wrapI (x := i + 1) (by omega) (by omega); simp [intOf, h4]; omega
            | false =>
              obtain ⟨hn1, hn2⟩ := ask_no HS.out.st.ok hok
              rw [← HL2.out] at hn1 hn2
              have HOK := Aside0.mk hok; clear hok
              have HN1 := Aside0.mk hn1
              have hdw : (((waitsL L2 r).length : Int) == 0) = false := beq_eq_false_iff_ne.2 (by intro e; exact hn2 (List.length_eq_zero_iff.1 (by omega)))
              clear hn1 hn2
              go_wp2_with (first | (go_at_call 14; have hp := st_ask0 r A2 c2 (rd_T34 m i).f2 HS.out.st (wf6 HR6.out) HNL.out (PS.out.below HS.out.hb).hC PS.out.hc (fun s hs => by have := HGX.out.2.2.2 s hs; omega) (fun hp0 ad e h => absurd (HS.out.hf _ h) (Nat.not_le.2 (C_lt PS.out.hC hp0 ad e))); rw [HOK.out, ← HL2.out, ← HT2.out] at hp; (with_reducible refine hp.mono ?_); rintro e W7 ⟨rfl, F7, hL, hF, hc⟩; have HVn := Aside0.mk (C_chg HV1.out hc HF1.out); clear HV1; have HV1 := HVn; clear HVn; have HSn := Aside0.mk (HS.out.next (Below.refl _ _) hL hF hc); clear HS HF1; have HS := HSn; clear HSn hp hL hF hc; clear k0 k1 k2; have k0 := (PS.out.below HS.out.hb).h0; have k1 := (PS.out.below HS.out.hb).h1; have k2 := (PS.out.below HS.out.hb).h2) | (go_at_call 15; have hp := st_holds r HS.out.st (wf6 HR6.out) HBB2.out; rw [HN1.out] at hp; (with_reducible refine hp.mono ?_); rintro e W8 ⟨v, rfl, hR, hb⟩; obtain ⟨A8, c8, ev⟩ := Kd.R_slice hR; subst ev; have HVn := Aside0.mk (Kd.C_below HV1.out hb); clear HV1; have HV1 := HVn; clear HVn; have HV8 := Aside0.mk (Kd.R_reads' hR).2.2; have HC8 := Aside0.mk (Kd.R_reads' hR).2.1; clear hR hp; have HSn := Aside0.mk (HS.out.below hb); clear HS; have HS := HSn; clear HSn; clear k0 k1 k2; have k0 := (PS.out.below HS.out.hb).h0; have k1 := (PS.out.below HS.out.hb).h1; have k2 := (PS.out.below HS.out.hb).h2; clear hb; clear k0 k1 k2) | (go_at_call 21; (with_reducible refine (storemankit_SameTexts.calls _ A1 c1 (holdsL L r) A8 c8 (holdsL L r) true _ HV1.out HC1.out HV8.out HC8.out (sameBig _ (Kd.C_max HV1.out))).mono ?_); rintro e W9 ⟨rfl, hd⟩; have hb := hd.below; clear hd HV1 HV8; have HSn := Aside0.mk (HS.out.below hb); clear HS; have HS := HSn; clear HSn; clear hb) | (go_at_call 16; (with_reducible refine (st_waits r HS.out.st (wf6 HR6.out) HBB2.out).mono ?_); rintro e W10 ⟨v, rfl, hR, hb⟩; obtain ⟨A9, c9, ev⟩ := Kd.R_slice hR; subst ev; clear hR; have HSn := Aside0.mk (HS.out.below hb); clear HS; have HS := HSn; clear HSn; clear hb))
              go_loopw [10] (fun v10 wr => ∃ a : Int, (0 ≤ a ∧ a ≤ 6) ∧ v10 = .int .i64 a ∧ Aside0 (S1 w wr lb t2 L2 (B + 1 + (rd_T34 m i).f2.length) F7)) (fun v10 _ => (6 - intOf v10).toNat)
              case atStart => exact ⟨0, ⟨by omega, by omega⟩, rfl, HS⟩
              case round =>
                clear HS
                obtain ⟨a, ⟨ha0, ha1⟩, rfl, HS⟩ := hrel
                by_cases ha : a < 6
                · have hda : decide (a < 6) = true := decide_eq_true ha
                  go_wp2
                  go_loopw [11] (fun v11 wr => ∃ b : Int, (a + 1 ≤ b ∧ b ≤ 6) ∧ v11 = .int .i64 b ∧ Aside0 (S1 w wr lb t2 L2 (B + 1 + (rd_T34 m i).f2.length) F7)) (fun v11 _ => (6 - intOf v11).toNat)
                  case atStart => exact ⟨a + 1, ⟨by omega, by omega⟩, by first | rfl | (rw [wrapI (by omega) (by omega)]), HS⟩
                  case round =>
                    clear HS
                    obtain ⟨b, ⟨hb0, hb1⟩, rfl, HS⟩ := hrel
                    by_cases hbb : b < 6
                    · have hdb : decide (b < 6) = true := decide_eq_true hbb
                      have HAP := Aside0.mk (holds_apart HEX2.out (show a ≠ b by omega))
                      have HA6 := Aside0.mk (show 0 ≤ a ∧ a < 6 from ⟨ha0, ha⟩); have HB6 := Aside0.mk (show 0 ≤ b ∧ b < 6 by omega)
                      go_wp2_with (first | (go_at_call 15; have hp := st_holds a HS.out.st (wf6 HA6.out) HBB2.out; (with_reducible refine hp.mono ?_); rintro e W10 ⟨v, rfl, hR, hb⟩; obtain ⟨A10, c10, ev⟩ := Kd.R_slice hR; subst ev; have HV10 := Aside0.mk (Kd.R_reads' hR).2.2; have HC10 := Aside0.mk (Kd.R_reads' hR).2.1; clear hR hp; have HSn := Aside0.mk (HS.out.below hb); clear HS; have HS := HSn; clear HSn; clear hb; clear HA6) | (go_at_call 15; have hp := st_holds b HS.out.st (wf6 HB6.out) HBB2.out; (with_reducible refine hp.mono ?_); rintro e W11 ⟨v, rfl, hR, hb⟩; obtain ⟨A11, c11, ev⟩ := Kd.R_slice hR; subst ev; have HVn := Aside0.mk (Kd.C_below HV10.out hb); clear HV10; have HV10 := HVn; clear HVn; have HV11 := Aside0.mk (Kd.R_reads' hR).2.2; have HC11 := Aside0.mk (Kd.R_reads' hR).2.1; clear hR hp; have HSn := Aside0.mk (HS.out.below hb); clear HS; have HS := HSn; clear HSn; clear hb; clear HB6) | (go_at_call 20; obtain ⟨K3, hK3⟩ := meets_ev _ _ (Kd.C_max HV10.out) (Kd.C_max HV11.out); rw [HAP.out] at hK3; (with_reducible refine (storemanlaw24_meets.calls K3 A10 c10 _ A11 c11 _ false _ HV10.out HC10.out HV11.out HC11.out hK3).mono ?_); rintro e W12 ⟨rfl, hd⟩; have hb := hd.below; clear hd HV10 HV11; have HSn := Aside0.mk (HS.out.below hb); clear HS; have HS := HSn; clear HSn; clear hb))
                      go_roundw
                      case rel => exact ⟨b + 1, ⟨by omega, by omega⟩, by first | rfl | (rw [wrapI (by omega) (by omega)]), HS⟩
                      case measure => have h4 := wrapI (x := b + 1) (by omega) (by omega); simp [intOf, h4]; omega
                    · have hdb : decide (b < 6) = false := decide_eq_false hbb
                      go_wp2
                      go_roundw
                      case rel => exact ⟨a + 1, ⟨by omega, by omega⟩, by first | rfl | (rw [wrapI (by omega) (by omega)]), HS⟩
                      case measure => have h4 := wrapI (x := a + 1) (by omega) (by omega); simp [intOf, h4]; omega
                · have hda : decide (a < 6) = false := decide_eq_false ha
                  go_wp2
                  go_roundw
                  case rel => exact ⟨i + 1, ⟨by have := HI.out; omega, by have := HI.out; omega⟩, by first | rfl | (rw [wrapI (by have := HI.out; omega) (by have := HI.out; have := HML.out; omega)]), ⟨t2, L2, _, F7, HS.out, HEX2.out, HBI2.out⟩⟩
                  case measure => have h2 := HI.out; have h3 := HML.out; have h4 := wrapI (x := i + 1) (by omega) (by omega); simp [intOf, h4]; omega
        · have hdi : decide (i < (m.length : Int)) = false := decide_eq_false hi
          go_wp2
          go_ret
          obtain ⟨last, L, B, F, hs, _, _⟩ := HSI2.out
          exact ⟨rfl, hs.hb⟩
end Go.Proofs.Ytimlfdfmgajbnaa.PA
