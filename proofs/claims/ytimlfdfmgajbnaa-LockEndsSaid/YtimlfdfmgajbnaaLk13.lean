/-
lock.Round: the works of a round of waiting.
-/
import Derived.Test.YtimlfdfmgajbnaaLk12
namespace Go.Proofs.Ytimlfdfmgajbnaa.PA
open Go.RowKit Go.Proofs.YtimlfdfmgajbnaaW.PrintWords Go.Proofs.YtimlfdfmgajbnaaW.PrintLast Go.Proofs.YtimlfdfmgajbnaaW.PrintMore
open Go.Proofs.Ytimlfdfmgajbnaa.Mp
set_option linter.unusedVariables false
set_option linter.unusedSimpArgs false
theorem keysI_of {w : World} {b n : Nat} {D : DataW Value} (hown : w.ownsMap Try.prog 2 rawR b n D) {Q : List PW} (hf : ∀ kl, at_ D kl = worksF Q kl) : (intKeys D).Nodup ∧ ∀ x, x ∈ intKeys D ↔ x ∈ idsOf Q := by
  obtain ⟨es, hD, hk⟩ := hown.keysOf
  obtain ⟨es2, hD2, ht⟩ := hown.tidy keyed2
  have e2 : es2 = es := by rw [hD] at hD2; injection hD2 with h; exact h.symm
  subst e2
  have hint : ∀ p ∈ es2, p.1 = .int .i64 (Go.intOf p.1) ∧ (Lit.int .i64 (Go.intOf p.1)).wf = true := fun p hp => by
    obtain ⟨v, hv⟩ := hk p hp
    obtain ⟨x, _, e, hw⟩ := Go.Maps.keyOf_int_inv Try.underlying2 hv
    rw [e]; exact ⟨rfl, hw⟩
  subst hD
  constructor
  · show (es2.map fun p => Go.intOf p.1).Nodup
    unfold List.Nodup
    rw [List.pairwise_map]
    refine (List.Pairwise.and_mem.1 ht).imp ?_
    rintro p q ⟨hp, hq, hne⟩ e
    exact hne (by rw [(hint p hp).1, (hint q hq).1, e])
  · intro x
    have h1 := has_at hown keyed2 (.int .i64 x)
    rw [hf] at h1
    have h2 : Go.Maps.has (.map es2 : DataW Value) (.int .i64 x) = true ↔ x ∈ intKeys (.map es2 : DataW Value) := by
      show (es2.any fun p => p.1.sameKey (.int .i64 x)) = true ↔ x ∈ es2.map fun p => Go.intOf p.1
      rw [List.any_eq_true, List.mem_map]
      constructor
      · rintro ⟨p, hp, h⟩; exact ⟨p, hp, by have := WideAt.sameKey_eq h; rw [this]; rfl⟩
      · rintro ⟨p, hp, rfl⟩; exact ⟨p, hp, by rw [← (hint p hp).1]; exact WideAt.sameKey_self (by obtain ⟨v, hv⟩ := hk p hp; exact keyed2.key hv)⟩
    rw [← h2, h1]
    constructor
    · intro h
      obtain ⟨v, hv⟩ := Option.isSome_iff_exists.1 h
      obtain ⟨q, hq, e, _⟩ := worksF_some hv
      injection e with _ e
      exact List.mem_map.2 ⟨q, hq, e.symm⟩
    · intro h
      obtain ⟨q, hq, e⟩ := List.mem_map.1 h
      cases hc : worksF Q (.int .i64 x) with
      | some v => rfl
      | none =>
        rw [worksF_at] at hc
        have := List.find?_eq_none.1 (Option.map_eq_none_iff.1 hc) q hq
        simp at this
        exact absurd e this
theorem sortI_lt {l : List Int} (h : l.Nodup) : (sortI l).Pairwise (fun x y => x < y) := by
  have s1 : (sortI l).Pairwise (fun x y => leI x y = true) := List.pairwise_mergeSort (fun a b c => by simp only [leI, decide_eq_true_eq]; omega) (fun a b => by simp only [leI, Bool.or_eq_true, decide_eq_true_eq]; omega) l
  have s2 : (sortI l).Nodup := (List.mergeSort_perm l leI).nodup_iff.2 h
  refine (List.Pairwise.and s1 s2).imp ?_
  rintro a b ⟨h1, h2⟩
  simp only [leI, decide_eq_true_eq] at h1
  omega
theorem sorted_ids {Q : List PW} {D : DataW Value} {ss : List Int} (hp : ss.Perm (intKeys D)) (hn : (intKeys D).Nodup) (hm : ∀ x, x ∈ intKeys D ↔ x ∈ idsOf Q) : (ss.mergeSort (fun x y => decide (x ≤ y))).Pairwise (fun x y => x < y) ∧ ∀ x, x ∈ ss.mergeSort (fun x y => decide (x ≤ y)) ↔ x ∈ idsOf Q :=
  ⟨sortI_lt (hp.nodup_iff.2 hn), fun x => by rw [List.mem_mergeSort, hp.mem_iff, hm]⟩
/-- These are the works of the first round. -/
def RoundIs (Q : List PW) (out : List Int) : Prop := (out = [] ∧ ∀ a ∈ idsOf Q, ¬ Reach Q a a) ∨ ∃ a ∈ idsOf Q, Reach Q a a ∧ (∀ b ∈ idsOf Q, b < a → ¬ Reach Q b b) ∧ out.Pairwise (fun x y => x < y) ∧ ∀ x, x ∈ out ↔ Reach Q a x ∧ Reach Q x a
def RoundPost (Q : List PW) (w : World) (e : Ending) (w' : World) : Prop := ∃ v out, e = .returned v ∧ Kd.R (Kd.int .i64) 2 w' w.heap.size (fun _ => True) v out ∧ RoundIs Q out ∧ Below w.heap.size w w'
set_option maxHeartbeats 16000000 in
set_option maxRecDepth 100000 in
theorem round_calls (lb mb mn : Nat) (last : Int) (Q : List PW) (w : World) (h : LockAt w lb mb mn last Q) (hmn : mn ≤ 1000000) (hq : Q.length ≤ 1000000) : Calls Try.prog 17 #[.pointer (some ⟨lb, 0, none⟩)] w (RoundPost Q w) := by
  obtain ⟨D, hD, hat⟩ := h.m
  obtain ⟨k1, k2⟩ := keysI_of hD hat
  have hc := (l_cells h).1
  have hsz : Go.Maps.size D ≤ 1000000 := Nat.le_trans hD.size_le hmn
  have HS := Aside0.mk (sortedI_calls mb mn D w hD (by unfold maxLen; omega) (by omega))
  have HP := Aside0.mk (fun (ss : List Int) (hp : ss.Perm (intKeys D)) => sorted_ids (Q := Q) hp k1 k2)
  have HL := Aside0.mk h; have HQ := Aside0.mk hq; have HMN := Aside0.mk hmn
  clear h hq hmn hD hat k1 k2 hsz
  go_enter Try.func17, Try.ntmps17
  go_wp2_with (first | (go_at_call 31; (with_reducible refine (made_yes lb mb mn last Q _ HL.out).mono ?_); rintro e w' ⟨rfl, rfl⟩) | (go_at_call 38; (with_reducible refine (keysI_calls (some mb) _).mono ?_); rintro e w' ⟨rfl, rfl⟩) | (go_at_call 37; (with_reducible refine HS.out.mono ?_); rintro e w1 ⟨v, ss, rfl, hp, hrow, _, hb⟩; obtain ⟨ks, hks⟩ : ∃ ks, ks = ss.mergeSort (fun x y => decide (x ≤ y)) := ⟨_, rfl⟩; have HKS := Aside0.mk (by rw [hks]; exact HP.out ss hp : ks.Pairwise (fun x y => x < y) ∧ ∀ x, x ∈ ks ↔ x ∈ idsOf Q); have hkl : ss.length = ks.length := (by rw [hks, List.length_mergeSort]); rw [← hks, hkl] at hrow; have hR : Kd.R (Kd.int .i64) 2 w1 (w.alloc (.cells #[.map (some mb)] 36)).heap.size (fun _ => True) v ks := Kd.R_of_own hrow (fun _ _ => trivial); obtain ⟨Av, cv, ev⟩ := Kd.R_slice hR; subst ev; have HRD := Aside0.mk (Kd.R_reads' hR).2.2; have HB := Aside0.mk (below_step (below_alloc (Below.refl _ w) _) hb); clear hR hb hrow hks hkl hp hc))
  have hkq : ks.length ≤ 1000000 := by have h1 := nodup_len (HKS.out.1.imp (fun {a b} (h : a < b) => Int.ne_of_lt h)) (fun x hx => (HKS.out.2 x).1 hx); have h2 := HQ.out; unfold idsOf at h1; rw [List.length_map] at h1; omega
  go_loopw [4, 5, 18] (fun v4 v5 v18 wr => ∃ i : Nat, i ≤ ks.length ∧ v18 = .int .i64 i ∧ Aside0 (∀ x ∈ ks.take i, ¬ Reach Q x x) ∧ Aside0 (Kd.C (Kd.int .i64) wr Av ks.length ks) ∧ Aside0 (Below w.heap.size w wr)) (fun _ _ v18 _ => ks.length - (intOf v18).toNat)
  case atStart => exact ⟨0, Nat.zero_le _, rfl, ⟨fun x h => by simp at h⟩, ⟨HRD.out⟩, ⟨HB.out⟩⟩
  case round =>
    clear HRD HB
    obtain ⟨i, hi, rfl, HNO, HRD, HB⟩ := hrel
    by_cases hlt : i < ks.length
    · have hd1 : decide ((i : Int) < (ks.length : Int)) = true := decide_eq_true (by omega)
      have hd2 : decide (0 ≤ (i : Int)) = true := decide_eq_true (by omega)
      obtain ⟨ad, e0, hx⟩ := Kd.at_int HRD.out (i : Int) (by omega) (by omega)
      cases e0
      obtain ⟨a, ha⟩ : ∃ a, a = ks[i] := ⟨_, rfl⟩
      have ea : rd ks (i : Int) = a := by rw [ha]; simp [rd, hlt]
      rw [ea, Int.toNat_natCast] at hx
      have HA := Aside0.mk (show a ∈ idsOf Q from (HKS.out.2 a).1 (by rw [ha]; exact List.getElem_mem _))
      have HAW := Aside0.mk (show (Lit.int .i64 a).wf = true by obtain ⟨q, hq, e⟩ := List.mem_map.1 HA.out; rw [← e]; exact HL.out.wf q hq)
      have HTE := Aside0.mk (show ks.take (i + 1) = ks.take i ++ [a] by rw [List.take_succ_eq_append_getElem hlt, ha])
      have HMIN := Aside0.mk (show ∀ b ∈ idsOf Q, b < a → ¬ Reach Q b b from fun b hb hlt2 => HNO.out b (by
        obtain ⟨j, hj, e⟩ := List.getElem_of_mem ((HKS.out.2 b).2 hb)
        have hji : j < i := by
          rcases Nat.lt_trichotomy j i with h | h | h
          · exact h
          · subst h; rw [e] at ha; omega
          · have := (List.pairwise_iff_getElem.1 HKS.out.1) i j hlt hj h; rw [e, ← ha] at this; omega
        rw [← e]; exact List.mem_take_iff_getElem.2 ⟨j, by omega, rfl⟩))
      clear ea ha
      by_cases hr : Reach Q a a
      · have HRR := Aside0.mk hr
        clear hr
        go_wp2_with (first | (go_at_call 39; (with_reducible refine (beyond_calls lb mb mn last Q a _ (HL.out.below HB.out) HAW.out HMN.out HQ.out).mono ?_); rintro e W1 ⟨sb1, m1, S1, rfl, hS, hm, hnd, hsub, hall, hb, hge⟩; have HGE := Aside0.mk (Nat.le_trans (below_size HB.out) hge : w.heap.size ≤ sb1); have HRDn := Aside0.mk (Kd.C_below HRD.out hb); clear HRD; have HRD := HRDn; clear HRDn; have HBn := Aside0.mk (below_step HB.out hb); clear HB; have HB := HBn; clear HBn; have HS1 := Aside0.mk hS; have HM1 := Aside0.mk hm; have HN1 := Aside0.mk hnd; have HSB1 := Aside0.mk hsub; have HAL1 := Aside0.mk hall; clear hS hm hnd hsub hall hb hge; have HH1 := Aside0.mk (decide_eq_true ((HAL1.out a).2 HRR.out)).symm; clear hx) | (go_at_call 40; (with_reducible refine (has64_calls sb1 m1 S1 a true _ HS1.out HAW.out HH1.out).mono ?_); rintro e w' ⟨rfl, rfl⟩) | (at_range; refine range_event HS1.out rfl _ rfl keyed2 Try.underlying72 rfl ?_; intro ri hri W4 cnt hrg hcnt hg; have GR := Aside0.mk (by rw [hri]; exact below_size HB.out : w.heap.size ≤ ri); have HCN := Aside0.mk hcnt; have HRG := Aside0.mk hrg; have HBn := Aside0.mk (HB.out.grown hg (below_size HB.out) (fun k hk => by cases hk)); clear HB HS1 hri hrg hcnt hg; have HB := HBn; clear HBn))
        go_frame
        obtain ⟨sb, hsb⟩ : ∃ sb, sb = sb1 := ⟨_, rfl⟩; obtain ⟨wo, hwo⟩ : ∃ wo : World, wo = wr := ⟨_, rfl⟩
        subst hsb
        clear hwo
        have HRG2 := HRG; have HB2 := HB; clear HRG HB HRD
        go_loopw [6, 7] (fun v6 v7 wq => ∃ left cnt out, Aside0 (Ranges Try.prog 2 wq sb ri m1 (setI S1) left cnt) ∧ Aside0 (Kd.R (Kd.int .i64) 2 wq w.heap.size (fun k => w.heap.size ≤ k ∧ k ≠ ri ∧ k ≠ sb) v6 out) ∧ Aside0 (∀ x, x ∈ out ↔ x ∈ S1 ∧ left (.int .i64 x) = false ∧ Reach Q x a) ∧ Aside0 out.Nodup ∧ Aside0 (out.length + cnt ≤ m1) ∧ Aside0 (Below w.heap.size w wq)) (fun _ _ wq => wq.rangeLeft sb ri)
        case atStart => exact ⟨_, cnt, [], ⟨HRG2.out⟩, ⟨Kd.R_nil _ _ _ _ _⟩, ⟨fun x => ⟨(fun h => by cases h), fun h => by have h2 := h.2.1; rw [setI_at, if_pos h.1] at h2; cases h2⟩⟩, ⟨List.nodup_nil⟩, ⟨by rw [List.length_nil, Nat.zero_add]; exact HCN.out⟩, ⟨HB2.out⟩⟩
        case round =>
          clear HRG2 HB2
          obtain ⟨left, cnt, out, HRG, HN, HOUT, HND, HLE, HB⟩ := hrel
          have HMS := Aside0.mk (HRG.out.left_eq)
          have HML := Aside0.mk (show m1 ≤ 1000000 by have h1 := HM1.out; have h2 := nodup_len HN1.out HSB1.out; unfold idsOf at h2; rw [List.length_map] at h2; have := HQ.out; omega)
          go_wp2_with (first | (at_next; refine next_event (Value.int .i64) (fun key kl hk => by obtain ⟨x, hx, _⟩ := Maps.keyOf_int_inv Try.underlying2 hk; exact ⟨x, hx⟩) HRG.out rfl _ rfl keyed2 rfl ?_ ?_))
          · intro hl0
            have HZ := Aside0.mk (show ∀ x, x ∈ out ↔ Reach Q a x ∧ Reach Q x a from fun x => by rw [HOUT.out x, HAL1.out x, hl0]; simp)
            clear hl0
            have HLN := Aside0.mk (show out.length < 4611686018427387904 by have := HLE.out; have := HML.out; omega)
            go_wp2_with (first | (go_at_call 41; (with_reducible refine (sortInts_calls out u6 _ _ _ HN.out HLN.out).mono ?_); rintro e W3 ⟨rfl, hR, hg⟩; have HR := Aside0.mk (Kd.R_mono (ok' := fun _ => True) hR (fun _ _ => trivial)); have HBn := Aside0.mk (HB.out.grown hg (below_size HB.out) (fun k hk => Kd.R_base HN.out k hk)); clear HB hR hg; have HB := HBn; clear HBn))
            go_ret
            exact ⟨_, sortI out, rfl, HR.out, .inr ⟨a, HA.out, HRR.out, HMIN.out, sortI_lt HND.out, fun x => by rw [mem_sortI]; exact HZ.out x⟩, HB.out⟩
          · intro x v kl W2 cnt2 hkey hlk hf hrg hlt3 hg hen
            obtain ⟨x', ex, rfl, hwx⟩ := Maps.keyOf_int_inv Try.underlying2 hkey
            cases ex
            obtain ⟨y, hy, ekl, rfl⟩ := setI_some hf
            obtain rfl : x = y := by injection ekl
            have HY := Aside0.mk hy; have HLT := Aside0.mk hlt3; have HLK := Aside0.mk hlk; have HXW := Aside0.mk hwx
            have HNn := Aside0.mk (Kd.R_grown HN.out hg (fun k hk he => hk.2.1 (by cases he; rfl)))
            have HBn := Aside0.mk (HB.out.grown hg (below_size HB.out) (fun k hk => by cases hk; exact GR.out))
            clear HN HB HRG
            have HN := HNn; have HB := HBn; have HRG := Aside0.mk hrg
            clear HNn HBn hrg hg hf hkey hlt3 ekl hwx hlk hy
            by_cases hrx : Reach Q x a
            · have HRX := Aside0.mk hrx
              have hmem : ∀ n, n ∈ out ++ [x] ↔ n ∈ S1 ∧ (left (.int .i64 n) && !(Lit.int .i64 n).sameKey (.int .i64 x)) = false ∧ Reach Q n a := fun n => by
                rw [List.mem_append, List.mem_singleton, HOUT.out n]
                constructor
                · rintro (⟨h1, h2, h3⟩ | h1)
                  · exact ⟨h1, by rw [h2]; rfl, h3⟩
                  · rw [h1]; exact ⟨HY.out, by simp [Lit.sameKey], hrx⟩
                · rintro ⟨h1, h2, h3⟩
                  cases h4 : left (.int .i64 n) with
                  | false => exact .inl ⟨h1, rfl, h3⟩
                  | true =>
                    rw [h4] at h2
                    exact .inr (by simpa [Lit.sameKey] using h2)
              have hnd : (out ++ [x]).Nodup := by
                refine List.nodup_append.2 ⟨HND.out, by simp, fun p hp q hq => ?_⟩
                rw [List.mem_singleton] at hq
                rintro rfl
                rw [hq] at hp
                have h2 := ((HOUT.out _).1 hp).2.1
                rw [HLK.out] at h2; cases h2
              have HMEM := Aside0.mk hmem; have HND2 := Aside0.mk hnd; clear hmem hnd hrx
              go_wp2_with (first | (go_at_call 39; (with_reducible refine (beyond_calls lb mb mn last Q x _ (HL.out.below HB.out) HXW.out HMN.out HQ.out).mono ?_); rintro e W2 ⟨sb2, m2, S2, rfl, hS, hm, hnd, hsub, hall, hb, hge⟩; have HNn := Aside0.mk (Kd.R_below HN.out hb); have HRGn := Aside0.mk (HRG.out.below hb); clear HN HRG; have HN := HNn; have HRG := HRGn; clear HNn HRGn; have HBn := Aside0.mk (below_step HB.out hb); clear HB; have HB := HBn; clear HBn; have HS2 := Aside0.mk hS; have HM2 := Aside0.mk hm; have HN2 := Aside0.mk hnd; have HSB2 := Aside0.mk hsub; have HAL2 := Aside0.mk hall; clear hS hm hnd hsub hall hb hge; have HH2 := Aside0.mk (decide_eq_true ((HAL2.out a).2 HRX.out)).symm) | (go_at_call 40; (with_reducible refine (has64_calls sb2 m2 S2 a true _ HS2.out HAW.out HH2.out).mono ?_); rintro e w' ⟨rfl, rfl⟩) | ((with_reducible refine gate_builtin (b := .append) (xs := #[.tmp 40, .tmp 42]) rfl ?_); at_builtin; refine Kd.R_append (Kd.int .i64) (w0 := w) w.heap.size rfl (.tmp 40) (.tmp 42) 43 2 (.int .i64 0) 8 rfl Try.underlying43 info2 rfl (by decide) (by omega) u6 out x [.int .i64 x] (fun k => w.heap.size ≤ k ∧ k ≠ ri ∧ k ≠ sb) (fun k => (fun k => w.heap.size ≤ k ∧ k ≠ ri ∧ k ≠ sb) k ∧ some k ≠ (u6 : Value).ownBlock) rfl rfl ?aP (fun _ hk => hk) ?aF ?aO ?aB ?aS ?aL ?_; (case aP => rfl); (case aB => exact HB.out); (case aF => exact fun k hk => ⟨Nat.le_trans (below_size HB.out) hk, fun he => by have := HRG.out.lt; omega, fun he => by have := HRG.out.is.lt; omega⟩); (case aO => exact HN.out); (case aS => exact below_size HB.out); (case aL => have := HLE.out; have := HML.out; omega); intro v1 W5 ho hb hg hat; have HRGn := Aside0.mk (HRG.out.kept hg (Kd.R_away HN.out (fun k hk => hk.2.2)) (Kd.R_away HN.out (fun k hk => hk.2.1))); clear HRG HN HB; have HRG := HRGn; have HN := Aside0.mk ho; have HB := Aside0.mk hb; clear ho hb hg hat HRGn))
              go_roundw
              case rel => exact ⟨_, cnt2, _, ⟨HRG.out⟩, ⟨HN.out⟩, ⟨HMEM.out⟩, ⟨HND2.out⟩, ⟨by rw [List.length_append, List.length_singleton]; have := HLE.out; have := HLT.out; omega⟩, ⟨HB.out⟩⟩
              case measure => rw [HRG.out.left_eq, HMS.out]; exact HLT.out
            · have HRX := Aside0.mk hrx
              have hmem : ∀ n, n ∈ out ↔ n ∈ S1 ∧ (left (.int .i64 n) && !(Lit.int .i64 n).sameKey (.int .i64 x)) = false ∧ Reach Q n a := fun n => by
                rw [HOUT.out n]
                constructor
                · rintro ⟨h1, h2, h3⟩; exact ⟨h1, by rw [h2]; rfl, h3⟩
                · rintro ⟨h1, h2, h3⟩
                  refine ⟨h1, ?_, h3⟩
                  cases h4 : left (.int .i64 n) with
                  | false => rfl
                  | true =>
                    rw [h4] at h2
                    have h5 : n = x := by simpa [Lit.sameKey] using h2
                    rw [h5] at h3; exact absurd h3 hrx
              have HMEM := Aside0.mk hmem; clear hmem hrx
              go_wp2_with (first | (go_at_call 39; (with_reducible refine (beyond_calls lb mb mn last Q x _ (HL.out.below HB.out) HXW.out HMN.out HQ.out).mono ?_); rintro e W2 ⟨sb2, m2, S2, rfl, hS, hm, hnd, hsub, hall, hb, hge⟩; have HNn := Aside0.mk (Kd.R_below HN.out hb); have HRGn := Aside0.mk (HRG.out.below hb); clear HN HRG; have HN := HNn; have HRG := HRGn; clear HNn HRGn; have HBn := Aside0.mk (below_step HB.out hb); clear HB; have HB := HBn; clear HBn; have HS2 := Aside0.mk hS; have HM2 := Aside0.mk hm; have HN2 := Aside0.mk hnd; have HSB2 := Aside0.mk hsub; have HAL2 := Aside0.mk hall; clear hS hm hnd hsub hall hb hge; have HH2 := Aside0.mk (decide_eq_false (fun h => HRX.out ((HAL2.out a).1 h))).symm) | (go_at_call 40; (with_reducible refine (has64_calls sb2 m2 S2 a false _ HS2.out HAW.out HH2.out).mono ?_); rintro e w' ⟨rfl, rfl⟩))
              go_roundw
              case rel => exact ⟨_, cnt2, out, ⟨HRG.out⟩, ⟨HN.out⟩, ⟨HMEM.out⟩, ⟨HND.out⟩, ⟨by have := HLE.out; have := HLT.out; omega⟩, ⟨HB.out⟩⟩
              case measure => rw [HRG.out.left_eq, HMS.out]; exact HLT.out
      · have HRR := Aside0.mk hr
        clear hr
        have HN2 := Aside0.mk (show ∀ x ∈ ks.take (i + 1), ¬ Reach Q x x from fun x hx => by rw [HTE.out] at hx; rcases List.mem_append.1 hx with h | h; exact HNO.out x h; rw [List.mem_singleton.1 h]; exact HRR.out)
        go_wp2_with (first | (go_at_call 39; (with_reducible refine (beyond_calls lb mb mn last Q a _ (HL.out.below HB.out) HAW.out HMN.out HQ.out).mono ?_); rintro e W1 ⟨sb1, m1, S1, rfl, hS, hm, hnd, hsub, hall, hb, hge⟩; have HGE := Aside0.mk (Nat.le_trans (below_size HB.out) hge : w.heap.size ≤ sb1); have HRDn := Aside0.mk (Kd.C_below HRD.out hb); clear HRD; have HRD := HRDn; clear HRDn; have HBn := Aside0.mk (below_step HB.out hb); clear HB; have HB := HBn; clear HBn; have HS1 := Aside0.mk hS; have HM1 := Aside0.mk hm; have HN1 := Aside0.mk hnd; have HSB1 := Aside0.mk hsub; have HAL1 := Aside0.mk hall; clear hS hm hnd hsub hall hb hge; have HH1 := Aside0.mk (decide_eq_false (fun h => HRR.out ((HAL1.out a).1 h))).symm; clear hx) | (go_at_call 40; (with_reducible refine (has64_calls sb1 m1 S1 a false _ HS1.out HAW.out HH1.out).mono ?_); rintro e w' ⟨rfl, rfl⟩))
        go_roundw
        case rel => exact ⟨i + 1, by omega, by first | rfl | (rw [wrapI (by omega) (by omega)]; rfl), ⟨HN2.out⟩, ⟨HRD.out⟩, ⟨HB.out⟩⟩
        case measure => simp [intOf, wrapI]; omega
    · have hie : i = ks.length := by omega
      subst hie
      rw [List.take_length] at HNO
      have hd1 : decide ((ks.length : Int) < (ks.length : Int)) = false := decide_eq_false (by omega)
      clear hlt hi
      go_wp2
      go_ret
      exact ⟨_, [], rfl, Kd.R_nil _ _ _ _ _, .inl ⟨rfl, fun a ha => HNO.out a ((HKS.out.2 a).2 ha)⟩, HB.out⟩
end Go.Proofs.Ytimlfdfmgajbnaa.PA
