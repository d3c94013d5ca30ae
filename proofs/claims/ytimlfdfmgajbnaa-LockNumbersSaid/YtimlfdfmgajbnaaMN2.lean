/-
Texts of this session for the law of N, laid into one file (part 3 of 4).
-/
import Derived.Test.YtimlfdfmgajbnaaWWords
import Derived.Test.YtimlfdfmgajbnaaWLast
import Derived.Test.YtimlfdfmgajbnaaWMore
import Derived.Test.YtimlfdfmgajbnaaProg
import Derived.Below
import Derived.Deep.Draws
import Derived.Deep.AppendLies
import Derived.Maps.AppendAt
import Derived.OwnWalk
import Derived.Laws.BytesArg
import Derived.Laws.MakeOwn
import Derived.Laws.OwnMore
import Derived.Deep.OwnRows
import Derived.Tactics
import Derived.Lib.ConvBytes
import Derived.Laws.Slices
import Derived.WalkKit
import Derived.KernelRfl
import Derived.RowKit3
import Derived.Deep.LoopGhost
import Derived.Deep.QuietTactic
import Derived.BigQuiet
import Derived.WideLaws
import Derived.Deep.DeepCutAuto
import Derived.Deep.CutBlock
import Derived.Deep.RegionHeld3
import Derived.Laws.Rows
import Derived.Lib.AppendStr
import Derived.ArgAppend
import Derived.Laws.IdiomCopy
import Derived.OrdersHeld
import Derived.Laws.BitsLemmas
import Derived.RowKit
import Derived.Test.YtimlfdfmgajbnaaWTab
import Derived.Test.YtimlfdfmgajbnaaWFour
import Derived.Test.YtimlfdfmgajbnaaWQPut
import Derived.Test.YtimlfdfmgajbnaaWApart
import Derived.Test.YtimlfdfmgajbnaaWArr
import Derived.Test.YtimlfdfmgajbnaaWZeros
import Derived.Test.YtimlfdfmgajbnaaWFoot
import Derived.Test.YtimlfdfmgajbnaaWKept
import Derived.Test.YtimlfdfmgajbnaaWShare
import Derived.Test.YtimlfdfmgajbnaaWN
import Derived.Test.YtimlfdfmgajbnaaWFootNe
import Derived.Test.YtimlfdfmgajbnaaWAt
import Derived.Test.YtimlfdfmgajbnaaWEqStruct
import Derived.Test.YtimlfdfmgajbnaaWRepsOne
import Derived.Test.YtimlfdfmgajbnaaWInv
import Derived.Test.YtimlfdfmgajbnaaWInvWords
import Derived.Test.YtimlfdfmgajbnaaWGuard
import Derived.Test.YtimlfdfmgajbnaaWNEv
import Derived.Maps.OwnSet
import Derived.Maps.RangeWalk
import Derived.Sort.KeysCollected
import Derived.LaidEqlPtr
import Derived.Lib.Builder
import Derived.Sort.OwnSortedInts
import Derived.Shelf.SortM.Plain
import Derived.Shelf.SortM.SortNone
import Derived.Laws.Pointers
import Derived.WalkSpells
import Derived.IntWalk
import Derived.Shelf.SlIter.Nil
import Derived.Shelf.SlIterI.Nil
import Derived.Sort.Walk0
import Derived.Lib.SlKeysI
import Derived.Laws.EntriesVeiled
import Derived.Test.YtimlfdfmgajbnaaMN0
import Derived.Test.YtimlfdfmgajbnaaMN1
/-
The document's locks: the works that one is kept by, by way of others.
-/
namespace Go.Proofs.Ytimlfdfmgajbnaa.PA
open Go.RowKit Go.Proofs.YtimlfdfmgajbnaaW.PrintWords Go.Proofs.YtimlfdfmgajbnaaW.PrintLast Go.Proofs.YtimlfdfmgajbnaaW.PrintMore
set_option linter.unusedVariables false
set_option linter.unusedSimpArgs false
def sLen : Value → Nat
  | .slice _ n _ => n
  | _ => 0
theorem insI_same : ∀ {l : List Int} {y : Int}, (insI l y).length = l.length → insI l y = l ∧ y ∈ l
  | [], y, h => by simp [insI] at h
  | x :: l, y, h => by
    unfold insI at h ⊢
    split
    · rename_i hx
      rw [if_pos hx] at h
      simp only [List.length_cons, Nat.add_right_cancel_iff] at h
      obtain ⟨h1, h2⟩ := insI_same h
      exact ⟨by rw [h1], List.mem_cons_of_mem _ h2⟩
    · rename_i hx
      rw [if_neg hx] at h
      split
      · rename_i he; exact ⟨rfl, by rw [he]; exact List.mem_cons_self⟩
      · rename_i he
        rw [if_neg he] at h
        simp at h
/-- What has been come by so far. -/
structure RS (L : List S79) (id : Int) (out : List Int) : Prop where
  r : RisI out
  s : ∀ x ∈ out, ReachL L id x
  w : ∀ x ∈ waitsL L id, x ∈ out
def muR (N : Nat) (v5 v6 : Value) : Nat := 2 * (N - sLen v5) + (if intOf v6 = (sLen v5 : Int) then 0 else 1)
theorem muR_lt {N m q c c' : Nat} {A A' : Option Addr} {n : Int} (h1 : m ≤ q) (h2 : q ≤ N) (h3 : ¬ n = (m : Int)) : muR N (.slice A q c) (.int .i64 (m : Int)) < muR N (.slice A' m c') (.int .i64 n) := by
  have e1 : muR N (.slice A q c) (.int .i64 (m : Int)) = 2 * (N - q) + (if (m : Int) = (q : Int) then 0 else 1) := rfl
  have e2 : muR N (.slice A' m c') (.int .i64 n) = 2 * (N - m) + (if n = (m : Int) then 0 else 1) := rfl
  rw [e1, e2, if_neg h3]
  rcases Nat.lt_or_ge m q with h4 | h4
  · rw [if_neg (by omega)]; omega
  · rw [if_pos (by omega)]; omega
def ClP (L : List S79) (out : List Int) (i : Nat) : Prop := ∀ j (h : j < out.length), j < i → ∀ y ∈ waitsL L out[j], y ∈ out
theorem RS.len {L : List S79} {id : Int} {out : List Int} (h : RS L id out) : out.length ≤ L.length := by
  have := nd_len out (idsL L) (h.r.imp (fun h => by omega)) (fun x hx => (h.s x hx).mem)
  unfold idsL at this
  rwa [List.length_map] at this
theorem RS.ins {L : List S79} {id : Int} {out : List Int} (h : RS L id out) {x y : Int} (hx : ReachL L id x) (hy : y ∈ waitsL L x) : RS L id (insI out y) :=
  ⟨ris_insI h.r, fun z hz => (mem_insI.1 hz).elim (fun e => by rw [e]; exact hx.trans (.one hy)) (fun hz => h.s z hz), fun z hz => mem_insI.2 (.inr (h.w z hz))⟩
theorem RS.all {L : List S79} {id : Int} {out : List Int} (h : RS L id out) (hc : ClP L out out.length) (x : Int) : x ∈ out ↔ ReachL L id x := by
  refine ⟨h.s x, fun hr => ?_⟩
  have key : ∀ a b, ReachL L a b → (a ∈ out ∨ a = id) → b ∈ out := by
    intro a b hab
    have one : ∀ a b, b ∈ waitsL L a → (a ∈ out ∨ a = id) → b ∈ out := by
      intro a b hb ha
      rcases ha with ha | rfl
      · obtain ⟨j, hj, rfl⟩ := List.mem_iff_getElem.1 ha
        exact hc j hj hj b hb
      · exact h.w b hb
    induction hab with
    | one hb => exact one _ _ hb
    | step hb _ ih => exact fun ha => ih (.inl (one _ _ hb ha))
  exact key id x hr (.inr rfl)
theorem waits_ris {L : List S79} (hn : (L.map (fun x => x.f0)).Nodup) (id : Int) : RisI (waitsL L id) := by
  unfold waitsL
  split
  · exact List.Pairwise.nil
  · split
    · exact List.Pairwise.nil
    · refine ris_sort ?_
      unfold keptL
      exact hn.sublist (List.Sublist.map _ List.filter_sublist)
def RchPost (L : List S79) (id : Int) (w : World) (e : Ending) (w' : World) : Prop := ∃ v out, e = .returned v ∧ Kd.R (Kd.int .i64) 2 w' w.heap.size (fun _ => True) v out ∧ (RisI out ∧ ∀ x, x ∈ out ↔ ReachL L id x) ∧ Below w.heap.size w w'
set_option maxHeartbeats 8000000 in
set_option maxRecDepth 100000 in
theorem rreach_calls (rb : Nat) (A : Option Addr) (c : Nat) (last : Int) (L : List S79) (id : Int) (w : World) (h : Rd w rb A c last L) (hB : BndL L 100000) (hn : (L.map (fun x => x.f0)).Nodup) :
    Calls Try.prog 48 #[.pointer (some ⟨rb, 0, none⟩), .int .i64 id] w (RchPost L id w) := by
  have H := Aside0.mk h; have HBN := Aside0.mk hB; have HND := Aside0.mk hn
  clear h hB hn
  go_enter Try.func48, Try.ntmps48
  go_wp2_with (first | (go_at_call 29; (with_reducible refine (rwaits_calls rb A c last L id w H.out HBN.out HND.out).mono ?_); rintro e W1 ⟨v1, rfl, hR, hb⟩; have HO := Aside0.mk hR; have HB := Aside0.mk hb; clear hR hb))
  go_loopw [5, 6] (fun v5 v6 wr => ∃ (out : List Int) (n : Int), v6 = .int .i64 n ∧ Aside0 (Kd.R (Kd.int .i64) 2 wr w.heap.size (fun k => True) v5 (out)) ∧ Aside0 (RS L id out) ∧ Aside0 (n = (out.length : Int) → ClP L out out.length) ∧ Aside0 (n ≤ (out.length : Int)) ∧ Aside0 (Below w.heap.size w wr)) (fun v5 v6 _ => muR L.length v5 v6)
  case atStart => exact ⟨waitsL L id, -1, rfl, HO, ⟨⟨waits_ris HND.out id, fun x hx => .one hx, fun x hx => hx⟩⟩, ⟨fun e => by omega⟩, ⟨by omega⟩, HB⟩
  case round =>
    clear HO HB
    obtain ⟨out, n, rfl, HO, HRS, HCL, HNL, HB⟩ := hrel
    obtain ⟨A5, c5, e5⟩ := Kd.R_slice HO.out
    subst e5
    by_cases hq : n = (out.length : Int)
    · have hne : (n != (out.length : Int)) = false := bne_eq_false_iff_eq.2 hq
      have HA := Aside0.mk (HRS.out.all (HCL.out hq))
      clear hq
      go_wp2
      go_ret
      exact ⟨_, out, rfl, HO.out, ⟨HRS.out.r, HA.out⟩, HB.out⟩
    · have hne : (n != (out.length : Int)) = true := bne_iff_ne.2 hq
      have hom : out.length ≤ 9223372036854775807 := Kd.C_max (Kd.R_reads' HO.out).2.2
      have HQ := Aside0.mk hq; have HLN := Aside0.mk HRS.out.len
      clear hq
      go_wp2
      go_loopw [5, 7] (fun v5 v7 wr => ∃ (o1 : List Int) (i : Nat), i ≤ out.length ∧ v7 = .int .i64 i ∧ Aside0 (Kd.R (Kd.int .i64) 2 wr w.heap.size (fun k => True) v5 (o1)) ∧ Aside0 (RS L id o1) ∧ Aside0 (out.length ≤ o1.length) ∧ Aside0 (o1.length = out.length → ClP L o1 i) ∧ Aside0 (Below w.heap.size w wr)) (fun _ v7 _ => out.length - (intOf v7).toNat)
      case atStart => exact ⟨out, 0, Nat.zero_le _, rfl, HO, HRS, ⟨Nat.le_refl _⟩, ⟨fun _ j _ hj => by omega⟩, HB⟩
      case round =>
        clear HO HRS HB
        obtain ⟨o1, i, hi, rfl, HO, HRS, HL1, HCI, HB⟩ := hrel
        obtain ⟨A6, c6, e6⟩ := Kd.R_slice HO.out
        subst e6
        by_cases hlt : i < out.length
        · have hd : decide ((i : Int) < (out.length : Int)) = true := decide_eq_true (by omega)
          have hl1 : i < o1.length := Nat.lt_of_lt_of_le hlt HL1.out
          obtain ⟨ad, e0, hx⟩ := Kd.at_int (Kd.R_reads' HO.out).2.2 (i : Int) (by omega) (by omega)
          cases e0
          rw [rdI o1 i hl1, Int.toNat_natCast] at hx
          obtain ⟨x, hxe⟩ : ∃ x, x = o1[i] := ⟨_, rfl⟩
          rw [← hxe] at hx
          have HXR := Aside0.mk (show ReachL L id x by rw [hxe]; exact HRS.out.s _ (List.getElem_mem hl1))
          have HXE := Aside0.mk hxe
          clear hxe
          go_wp2_with (first | (go_at_call 29; (with_reducible refine (rwaits_calls rb A c last L x _ (H.out.below HB.out) HBN.out HND.out).mono ?_); rintro e W1 ⟨v1, rfl, hR, hb⟩; obtain ⟨A8, c8, ev⟩ := Kd.R_slice hR; subst ev; have HM := Aside0.mk (Kd.R_mono (ok' := fun k => some k = (Value.slice A8 (waitsL L x).length c8).ownBlock) (Kd.R_lower (Kd.R_tight rfl hR) HB.out.size) (fun k hk => hk)); have HO1 := Aside0.mk (Kd.R_mono (ok' := fun k => some k ≠ (Value.slice A8 (waitsL L x).length c8).ownBlock) (Kd.R_elder' HO.out (Kd.R_base hR) hb) (fun k hk => hk.2)); have nn_ := Aside0.mk (below_step HB.out hb); clear HB HO; have HB := nn_; clear nn_ hR hb))
          go_loopw [5, 9] (fun v5 v9 wr => ∃ (o2 : List Int) (k : Nat), k ≤ (waitsL L x).length ∧ v9 = .int .i64 k ∧ Aside0 (Kd.R (Kd.int .i64) 2 wr w.heap.size (fun k => some k ≠ (Value.slice A8 (waitsL L x).length c8).ownBlock) v5 (o2)) ∧ Aside0 (Kd.R (Kd.int .i64) 2 wr w.heap.size (fun k => some k = (Value.slice A8 (waitsL L x).length c8).ownBlock) (.slice A8 (waitsL L x).length c8) (waitsL L x)) ∧ Aside0 (RS L id o2) ∧ Aside0 (o1.length ≤ o2.length) ∧ Aside0 (o2.length = o1.length → o2 = o1 ∧ ∀ y ∈ (waitsL L x).take k, y ∈ o1) ∧ Aside0 (Below w.heap.size w wr)) (fun _ v9 _ => (waitsL L x).length - (intOf v9).toNat)
          case atStart => exact ⟨o1, 0, Nat.zero_le _, rfl, HO1, HM, HRS, ⟨Nat.le_refl _⟩, ⟨fun _ => ⟨rfl, fun y hy => by cases hy⟩⟩, HB⟩
          case round =>
            clear HO1 HM HRS HB
            obtain ⟨o2, k, hk, rfl, HO, HM, HRS, HL2, HTK, HB⟩ := hrel
            obtain ⟨A7, c7, e7⟩ := Kd.R_slice HO.out
            subst e7
            have hwm : (waitsL L x).length ≤ 9223372036854775807 := Kd.C_max (Kd.R_reads' HM.out).2.2
            by_cases hkl : k < (waitsL L x).length
            · have hd2 : decide ((k : Int) < ((waitsL L x).length : Int)) = true := decide_eq_true (by omega)
              obtain ⟨ad2, e2, hy⟩ := Kd.at_int (Kd.R_reads' HM.out).2.2 (k : Int) (by omega) (by omega)
              cases e2
              rw [rdI _ k hkl, Int.toNat_natCast] at hy
              obtain ⟨y, hye⟩ : ∃ y, y = (waitsL L x)[k] := ⟨_, rfl⟩
              rw [← hye] at hy
              have HYM := Aside0.mk (show y ∈ waitsL L x by rw [hye]; exact List.getElem_mem _)
              have HYE := Aside0.mk hye
              clear hye
              obtain ⟨K2, hK2⟩ := rrising_ev o2 y (by have := HRS.out.len; have := HBN.out.1; omega)
              have HK2 := Aside0.mk hK2
              clear hK2
              have HRS3 := Aside0.mk (HRS.out.ins HXR.out HYM.out)
              have HIL := Aside0.mk (insI_len o2 y)
              have HTK3 := Aside0.mk (show (insI o2 y).length = o1.length → insI o2 y = o1 ∧ ∀ z ∈ (waitsL L x).take (k + 1), z ∈ o1 from fun e => by have h1 := HIL.out; have h2 := HL2.out; obtain ⟨h3, h4⟩ := HTK.out (by omega); obtain ⟨h5, h6⟩ := insI_same (l := o2) (y := y) (by omega); refine ⟨h5.trans h3, fun z hz => ?_⟩; rw [List.take_succ_eq_append_getElem hkl, ← HYE.out] at hz; rcases List.mem_append.1 hz with hz | hz; exact h4 z hz; rw [List.mem_singleton.1 hz, ← h3]; exact h6)
              go_wp2_with (first | (go_at_call 47; have hp := storemanref24_rising.calls K2 (fun k => some k ≠ (Value.slice (some ad2) (waitsL L x).length c8).ownBlock) _ o2 y _ w _ HB.out HO.out HK2.out; (with_reducible refine hp.mono ?_); rintro e W3 ⟨v3, rfl, hR, hb, hkp⟩; have HO3 := Aside0.mk (Kd.R_mono (ok' := fun k => some k ≠ (Value.slice (some ad2) (waitsL L x).length c8).ownBlock) hR (fun k hk => hk.elim (fun h => h) (fun h e => by have := Kd.R_lt HM.out k e.symm; omega))); have HM3 := Aside0.mk (Kd.R_kept HM.out hkp (fun k h1 h2 => h2 h1)); have HB3 := Aside0.mk hb; clear hp hR hb hkp))
              go_roundw
              case rel => exact ⟨insI o2 y, k + 1, by omega, by first | rfl | go_num, HO3, HM3, HRS3, ⟨by have := HIL.out; have := HL2.out; omega⟩, HTK3, HB3⟩
              case measure => simp [intOf]; omega
            · have hd2 : decide ((k : Int) < ((waitsL L x).length : Int)) = false := decide_eq_false (by omega)
              have HCN := Aside0.mk (show o2.length = out.length → ClP L o2 (i + 1) from fun e j hj hji z hz => by have h1 := HL1.out; have h2 := HL2.out; obtain ⟨h3, h4⟩ := HTK.out (by omega); rw [List.take_of_length_le (by omega)] at h4; subst h3; rcases Nat.lt_or_ge j i with h5 | h5; exact HCI.out (by omega) j hj h5 z hz; obtain rfl : j = i := (by omega); rw [← HXE.out] at hz; exact h4 z hz)
              go_wp2
              go_roundw
              case rel => exact ⟨o2, i + 1, by omega, by first | rfl | go_num, ⟨Kd.R_mono HO.out (fun _ _ => trivial)⟩, HRS, ⟨Nat.le_trans HL1.out HL2.out⟩, HCN, HB⟩
              case measure => simp [intOf]; omega
        · obtain rfl : i = out.length := by omega
          have hd : decide ((out.length : Int) < (out.length : Int)) = false := decide_eq_false (by omega)
          have HLO := Aside0.mk HRS.out.len
          go_wp2
          go_roundw
          case rel => exact ⟨o1, (out.length : Int), rfl, HO, HRS, ⟨fun e => (by have e2 : o1.length = out.length := (by omega); have := HCI.out e2; rwa [← e2] at this)⟩, ⟨by have := HL1.out; omega⟩, HB⟩
          case measure => exact muR_lt HL1.out HLO.out HQ.out
end Go.Proofs.Ytimlfdfmgajbnaa.PA
/-
The document's locks: rounds.
-/
namespace Go.Proofs.Ytimlfdfmgajbnaa.PA
open Go.RowKit Go.Proofs.YtimlfdfmgajbnaaW.PrintWords Go.Proofs.YtimlfdfmgajbnaaW.PrintLast Go.Proofs.YtimlfdfmgajbnaaW.PrintMore
set_option linter.unusedVariables false
set_option linter.unusedSimpArgs false
def allR (l : List S79) : List Int := l.foldl (fun o x => insI o x.f0) []
theorem allR_snoc (l : List S79) (x : S79) : allR (l ++ [x]) = insI (allR l) x.f0 := by unfold allR; rw [List.foldl_append]; rfl
theorem allR_is : ∀ (n : Nat) (l : List S79), l.length = n → RisI (allR l) ∧ (allR l).length ≤ n ∧ ∀ y, y ∈ allR l ↔ y ∈ idsL l
  | 0, l, h => by
    have : l = [] := List.length_eq_zero_iff.1 h
    subst this
    exact ⟨List.Pairwise.nil, Nat.le_refl _, fun y => ⟨(fun h => by cases h), (fun h => by cases h)⟩⟩
  | n + 1, l, h => by
    have hne : l ≠ [] := by intro e; subst e; cases h
    have hl := List.dropLast_concat_getLast hne
    obtain ⟨h1, h2, h3⟩ := allR_is n l.dropLast (by rw [List.length_dropLast]; omega)
    rw [← hl, allR_snoc]
    have h4 := insI_len (allR l.dropLast) (l.getLast hne).f0
    refine ⟨ris_insI h1, by omega, fun y => ?_⟩
    rw [mem_insI, h3]
    unfold idsL
    rw [List.map_append, List.mem_append, List.map_singleton, List.mem_singleton]
    exact or_comm
theorem among_calls (A : Option Addr) (c : Nat) (l : List Int) (a : Int) (w : World) (hr : Kd.C (Kd.int .i64) w A l.length l) (hc : l.length ≤ c) (b : Bool) (hb : b = decide (a ∈ l)) :
    Calls Try.prog 49 #[.slice A l.length c, .int .i64 a] w fun e w' => e = .returned (.bool b) ∧ Below w.heap.size w w' := by
  obtain ⟨K, hK⟩ := ramong_ev l a (Kd.C_max hr)
  rw [← hb] at hK
  exact (storemanref24_among.calls K A c l a b w hr hc hK).mono fun e w' ⟨h1, h2⟩ => ⟨h1, h2.below⟩
theorem ris_lt {l : List Int} (h : RisI l) {i j : Nat} (hi : i < l.length) (hj : j < l.length) (hlt : l[i] < l[j]) : i < j := by
  rcases Nat.lt_or_ge i j with h1 | h1
  · exact h1
  · rcases Nat.lt_or_ge j i with h2 | h2
    · have := List.pairwise_iff_getElem.1 h j i hj hi h2
      omega
    · obtain rfl : i = j := by omega
      omega
theorem RSlen {L : List S79} {id : Int} {out : List Int} (h : RisI out ∧ ∀ x, x ∈ out ↔ ReachL L id x) : out.length ≤ L.length := by
  have := nd_len out (idsL L) (h.1.imp (fun h => by omega)) (fun x hx => ((h.2 x).1 hx).mem)
  unfold idsL at this
  rwa [List.length_map] at this
def RndPost (L : List S79) (w : World) (e : Ending) (w' : World) : Prop := ∃ v out, e = .returned v ∧ Kd.R (Kd.int .i64) 2 w' w.heap.size (fun _ => True) v out ∧ RoundL L out ∧ Below w.heap.size w w'
set_option maxHeartbeats 8000000 in
set_option maxRecDepth 100000 in
theorem rround_calls (rb : Nat) (A : Option Addr) (c : Nat) (last : Int) (L : List S79) (w : World) (h : Rd w rb A c last L) (hB : BndL L 100000) (hn : (L.map (fun x => x.f0)).Nodup) :
    Calls Try.prog 30 #[.pointer (some ⟨rb, 0, none⟩)] w (RndPost L w) := by
  have hm := Kd.C_max h.r
  have H := Aside0.mk h; have HBN := Aside0.mk hB; have HND := Aside0.mk hn
  clear h hB hn
  go_enter Try.func30, Try.ntmps30
  go_wp2
  go_loopw [3, 4] (fun v3 v4 wr => ∃ i : Nat, i ≤ L.length ∧ v4 = .int .i64 i ∧ Aside0 (Kd.R (Kd.int .i64) 2 wr w.heap.size (fun k => True) v3 (allR (L.take i))) ∧ Aside0 (Below w.heap.size w wr)) (fun _ v4 _ => L.length - (intOf v4).toNat)
  case atStart => exact ⟨0, Nat.zero_le _, rfl, ⟨Kd.R_nil _ _ _ _ _⟩, ⟨Below.refl _ _⟩⟩
  case round =>
    obtain ⟨i, hi, rfl, HO, HB⟩ := hrel
    have H1 := Aside0.mk (H.out.below HB.out)
    have k0 := H1.out.k0
    by_cases hl : i < L.length
    · have hd : decide ((i : Int) < (L.length : Int)) = true := decide_eq_true (by omega)
      obtain ⟨ad, B1, b1, B2, b2, e, y⟩ := H1.out.el i hl
      cases e
      have y0 := y.f0
      clear y
      have HTN := Aside0.mk (show insI (allR (L.take i)) L[i].f0 = allR (L.take (i + 1)) by rw [List.take_succ_eq_append_getElem hl, allR_snoc])
      obtain ⟨K2, hK2⟩ := rrising_ev (allR (L.take i)) L[i].f0 (by have h1 := (allR_is i (L.take i) (by rw [List.length_take]; omega)).2.1; have h2 := HBN.out.1; omega)
      rw [HTN.out] at hK2
      have HK2 := Aside0.mk hK2
      clear hK2
      go_wp2_with (first | (go_at_call 47; have hp := storemanref24_rising.calls K2 (fun _ => True) u3 (allR (L.take i)) L[i].f0 _ w _ HB.out HO.out HK2.out; (with_reducible refine hp.mono ?_); rintro e W3 ⟨v3, rfl, hR, hb, hk_⟩; have HR3 := Aside0.mk (Kd.R_mono (ok' := fun _ => True) hR (fun _ _ => trivial)); have HB3 := Aside0.mk hb; clear hp hR hb hk_))
      go_roundw
      case rel => exact ⟨i + 1, by omega, by first | rfl | go_num, HR3, HB3⟩
      case measure => simp [intOf]; omega
    · obtain rfl : i = L.length := by omega
      have hd : decide ((L.length : Int) < (L.length : Int)) = false := decide_eq_false (by omega)
      rw [List.take_length] at HO
      obtain ⟨all, hall⟩ : ∃ all, all = allR L := ⟨_, rfl⟩
      rw [← hall] at HO
      obtain ⟨A3, c3, e3⟩ := Kd.R_slice HO.out
      subst e3
      have HAL := Aside0.mk (show RisI all ∧ all.length ≤ 100000 ∧ ∀ y, y ∈ all ↔ y ∈ idsL L by rw [hall]; have h1 := allR_is L.length L rfl; exact ⟨h1.1, Nat.le_trans h1.2.1 HBN.out.1, h1.2.2⟩)
      have hal : all.length ≤ 100000 := HAL.out.2.1
      clear hall hl
      go_wp2
      go_loopw [5] (fun v5 wr => ∃ j : Nat, j ≤ all.length ∧ v5 = .int .i64 j ∧ Aside0 (Kd.R (Kd.int .i64) 2 wr w.heap.size (fun k => True) (.slice A3 all.length c3) (all)) ∧ Aside0 (∀ (m : Nat) (h : m < all.length), m < j → ¬ ReachL L all[m] all[m]) ∧ Aside0 (Below w.heap.size w wr)) (fun v5 _ => all.length - (intOf v5).toNat)
      case atStart => exact ⟨0, Nat.zero_le _, rfl, HO, ⟨fun m _ hm => by omega⟩, HB⟩
      case round =>
        clear HO HB H1 k0
        obtain ⟨j, hj, rfl, HO, HNO, HB⟩ := hrel
        by_cases hjl : j < all.length
        · have hd2 : decide ((j : Int) < (all.length : Int)) = true := decide_eq_true (by omega)
          obtain ⟨ad, e0, hx⟩ := Kd.at_int (Kd.R_reads' HO.out).2.2 (j : Int) (by omega) (by omega)
          cases e0
          rw [rdI all j hjl, Int.toNat_natCast] at hx
          obtain ⟨a, hae⟩ : ∃ a, a = all[j] := ⟨_, rfl⟩
          rw [← hae] at hx
          have HAE := Aside0.mk hae
          clear hae
          by_cases hra : ReachL L a a
          · have HRA := Aside0.mk hra
            clear hra
            go_wp2_with (first | (go_at_call 48; (with_reducible refine (rreach_calls rb A c last L a _ (H.out.below HB.out) HBN.out HND.out).mono ?_); rintro e W1 ⟨v1, r, rfl, hR, hrr, hb⟩; obtain ⟨A6, c6, e6⟩ := Kd.R_slice hR; subst e6; have HR := Aside0.mk (Kd.R_lower hR HB.out.size); have HRR := Aside0.mk hrr; have HO1 := Aside0.mk (Kd.R_below HO.out hb); have HB1 := Aside0.mk (below_step HB.out hb); have hx1 := pw_cell_below hb hx; clear hR hrr hb HO HB hx) | (go_at_call 49; (with_reducible refine (among_calls A6 c6 r a _ (Kd.R_reads' HR.out).2.2 (Kd.R_reads' HR.out).2.1 true ((decide_eq_true ((HRR.out.2 a).2 HRA.out)).symm)).mono ?_); rintro e W2 ⟨rfl, hb⟩; have HR2 := Aside0.mk (Kd.R_below HR.out hb); have HO2 := Aside0.mk (Kd.R_below HO1.out hb); have HB2 := Aside0.mk (below_step HB1.out hb); have hx2 := pw_cell_below hb hx1; clear hb HR HO1 HB1 hx1))
            have HRL := Aside0.mk (Kd.C_max (Kd.R_reads' HR2.out).2.2)
            have hrl : r.length ≤ 9223372036854775807 := HRL.out
            go_loopw [7, 8] (fun v7 v8 wr => ∃ (out : List Int) (k : Nat), k ≤ r.length ∧ v8 = .int .i64 k ∧ Aside0 (Kd.R (Kd.int .i64) 2 wr w.heap.size (fun k => True) v7 (out)) ∧ Aside0 (Kd.R (Kd.int .i64) 2 wr w.heap.size (fun k => True ∧ some k ≠ v7.ownBlock) (.slice A6 r.length c6) (r)) ∧ Aside0 (Kd.R (Kd.int .i64) 2 wr w.heap.size (fun k => True ∧ some k ≠ v7.ownBlock) (.slice (some ad) all.length c3) (all)) ∧ Aside0 (RisI out ∧ out.length ≤ k ∧ ∀ x, x ∈ out ↔ x ∈ r.take k ∧ ReachL L x a) ∧ Aside0 (Below w.heap.size w wr)) (fun _ v8 _ => r.length - (intOf v8).toNat)
            case atStart => exact ⟨[], 0, Nat.zero_le _, rfl, ⟨Kd.R_nil _ _ _ _ _⟩, ⟨Kd.R_apart_nil HR2.out⟩, ⟨Kd.R_apart_nil HO2.out⟩, ⟨List.Pairwise.nil, Nat.le_refl _, fun x => ⟨(fun h => by cases h), (fun h => by have := h.1; cases this)⟩⟩, HB2⟩
            case round =>
              clear HR2 HO2 HB2 hx2
              obtain ⟨out, k, hk, rfl, HOU, HR, HO, HOT, HB⟩ := hrel
              by_cases hkl : k < r.length
              · have hd3 : decide ((k : Int) < (r.length : Int)) = true := decide_eq_true (by omega)
                obtain ⟨ad6, e6, hy⟩ := Kd.at_int (Kd.R_reads' HR.out).2.2 (k : Int) (by omega) (by omega)
                cases e6
                rw [rdI r k hkl, Int.toNat_natCast] at hy
                obtain ⟨x, hxe⟩ : ∃ x, x = r[k] := ⟨_, rfl⟩
                rw [← hxe] at hy
                have HXE := Aside0.mk hxe
                clear hxe
                obtain ⟨ad3, e3, hx⟩ := Kd.at_int (Kd.R_reads' HO.out).2.2 (j : Int) (by omega) (by omega)
                cases e3
                rw [rdI all j hjl, Int.toNat_natCast, ← HAE.out] at hx
                have HLT := Aside0.mk (show ∀ z ∈ r.take k, z < x from fun z hz => by obtain ⟨m, hm, rfl⟩ := List.mem_iff_getElem.1 hz; rw [List.length_take] at hm; rw [List.getElem_take, HXE.out]; exact List.pairwise_iff_getElem.1 HRR.out.1 m k (by omega) hkl (by omega))
                by_cases hxa : ReachL L x a
                · have HXA := Aside0.mk hxa
                  clear hxa
                  go_wp2
                  refine start_ (n := 11) (S := (fun w' => w'.cell? (ad6.add k) = some (.int .i64 x) ∧ w'.cell? (ad.add j) = some (.int .i64 a))) (ds := []) (Sh.m 0 11) (by kernel_rfl) rfl rfl ⟨hy, hx⟩ (fun hHeld => ?_)
                  (have nn_ := Aside0.mk (Kd.R_drew HOU.out); clear HOU; have HOU := nn_; clear nn_; have nn_ := Aside0.mk (Kd.R_drew HR.out); clear HR; have HR := nn_; clear nn_; have nn_ := Aside0.mk (Kd.R_drew HO.out); clear HO; have HO := nn_; clear nn_; have nn_ := Aside0.mk (below_drew1 HB.out); clear HB; have HB := nn_; clear nn_; clear hy hx; generalize wr.drew = W1 at HOU HR HO HB hHeld ⊢)
                  refine pure_ (i := 0) (N := some 53) (v := ?_) (a' := ?_) (Sh.m 1 10) rfl rfl (by kernel_rfl) (fun _ _ _ h => h) (Or.inl ⟨by rfl, ?_⟩) ?_ ?_
                  rotate_left
                  · intro w'
                    go_simp
                    with_reducible rfl
                  rotate_left
                  · simp only [Act.put, List.setIfInBounds_toArray, List.set_cons_zero, List.set_cons_succ, i64_w, i32_w]
                    rfl
                  refine pure_ (i := 1) (N := some 54) (v := ?_) (a' := ?_) (Sh.m 2 9) rfl rfl (by kernel_rfl) (fun _ _ _ h => h) (Or.inl ⟨by rfl, ?_⟩) ?_ ?_
                  rotate_left
                  · intro w'
                    go_simp
                    with_reducible rfl
                  rotate_left
                  · simp only [Act.put, List.setIfInBounds_toArray, List.set_cons_zero, List.set_cons_succ, i64_w, i32_w]
                    rfl
                  refine pure_ (i := 2) (N := some 55) (v := ?_) (a' := ?_) (Sh.m 3 8) rfl rfl (by kernel_rfl) (fun _ _ _ h => h) (Or.inl ⟨by rfl, ?_⟩) ?_ ?_
                  rotate_left
                  · intro w'
                    go_simp
                    with_reducible rfl
                  rotate_left
                  · simp only [Act.put, List.setIfInBounds_toArray, List.set_cons_zero, List.set_cons_succ, i64_w, i32_w]
                    rfl
                  refine pure_ (i := 3) (N := some 56) (v := ?_) (a' := ?_) (Sh.m 4 7) rfl rfl (by kernel_rfl) (fun _ _ _ h => h) (Or.inl ⟨by rfl, ?_⟩) ?_ ?_
                  rotate_left
                  · intro w'
                    go_simp
                    with_reducible rfl
                  rotate_left
                  · simp only [Act.put, List.setIfInBounds_toArray, List.set_cons_zero, List.set_cons_succ, i64_w, i32_w]
                    rfl
                  refine take_ (i := 4) (N := some 57) (v := ?_) (a' := ?_) (Sh.m 5 6) rfl rfl (by kernel_rfl) (fun _ _ _ h => h) (Or.inl ⟨by rfl, ?_⟩) hHeld ?_ ?_
                  rotate_left
                  · rintro w' ⟨s0, s1⟩
                    go_simp
                    with_reducible rfl
                  rotate_left
                  · simp only [Act.put, List.setIfInBounds_toArray, List.set_cons_zero, List.set_cons_succ, i64_w, i32_w]
                    rfl
                  refine pure_ (i := 6) (N := some 59) (v := ?_) (a' := ?_) #[true, true, true, true, true, false, true, false, false, false, false] rfl rfl (by kernel_rfl) (fun _ _ _ h => h) (Or.inl ⟨by rfl, ?_⟩) ?_ ?_
                  rotate_left
                  · intro w'
                    go_simp
                    with_reducible rfl
                  rotate_left
                  · simp only [Act.put, List.setIfInBounds_toArray, List.set_cons_zero, List.set_cons_succ, i64_w, i32_w]
                    rfl
                  refine pure_ (i := 7) (N := some 60) (v := ?_) (a' := ?_) #[true, true, true, true, true, false, true, true, false, false, false] rfl rfl (by kernel_rfl) (fun _ _ _ h => h) (Or.inl ⟨by rfl, ?_⟩) ?_ ?_
                  rotate_left
                  · intro w'
                    go_simp
                    with_reducible rfl
                  rotate_left
                  · simp only [Act.put, List.setIfInBounds_toArray, List.set_cons_zero, List.set_cons_succ, i64_w, i32_w]
                    rfl
                  refine pure_ (i := 8) (N := some 61) (v := ?_) (a' := ?_) #[true, true, true, true, true, false, true, true, true, false, false] rfl rfl (by kernel_rfl) (fun _ _ _ h => h) (Or.inl ⟨by rfl, ?_⟩) ?_ ?_
                  rotate_left
                  · intro w'
                    go_simp
                    with_reducible rfl
                  rotate_left
                  · simp only [Act.put, List.setIfInBounds_toArray, List.set_cons_zero, List.set_cons_succ, i64_w, i32_w]
                    rfl
                  refine take_ (i := 9) (N := some 62) (v := ?_) (a' := ?_) #[true, true, true, true, true, false, true, true, true, true, false] rfl rfl (by kernel_rfl) (fun _ _ _ h => h) (Or.inl ⟨by rfl, ?_⟩) hHeld ?_ ?_
                  rotate_left
                  · rintro w' ⟨s0, s1⟩
                    go_simp
                    with_reducible rfl
                  rotate_left
                  · simp only [Act.put, List.setIfInBounds_toArray, List.set_cons_zero, List.set_cons_succ, i64_w, i32_w]
                    rfl
                  refine one_ (i := 5) (N := some 58) (Sh.m 10 1) rfl rfl (by kernel_rfl) (by decide) (fun K hK => ?_)
                  refine goes_ Try.func48 (by kernel_rfl) rfl #[.pointer (some ⟨rb, 0, none⟩), .int .i64 x] (by rfl) rfl rfl (by (try simp only [List.map_toArray, List.map_cons, List.map_nil]); first | done | rfl) ?_
                  with_reducible refine (rreach_calls rb A c last L x _ (H.out.below HB.out) HBN.out HND.out).mono ?_
                  rintro e W2 ⟨v9, q, rfl, hRq, hqq, hb⟩
                  refine ⟨_, rfl, ?_⟩
                  obtain ⟨A9, c9, e9⟩ := Kd.R_slice hRq
                  subst e9
                  have HQ := Aside0.mk (Kd.R_reads' hRq)
                  have HQQ := Aside0.mk hqq
                  obtain ⟨hy, hx⟩ := hHeld
                  have nn_ := Aside0.mk (Kd.R_below HOU.out hb); clear HOU; have HOU := nn_; clear nn_; have nn_ := Aside0.mk (Kd.R_below HR.out hb); clear HR; have HR := nn_; clear nn_; have nn_ := Aside0.mk (Kd.R_below HO.out hb); clear HO; have HO := nn_; clear nn_; have nn_ := Aside0.mk (below_step HB.out hb); clear HB; have HB := nn_; clear nn_
                  refine hK.out _ _ ⟨pw_cell_below hb hy, pw_cell_below hb hx⟩ (fun hHeld => ?_)
                  clear hK K
                  refine norm_ (a' := ?_) ?_ ?_
                  rotate_left
                  · show Act.put _ (some 58) _ = _
                    simp only [Act.put, List.setIfInBounds_toArray, List.set_cons_zero, List.set_cons_succ, i64_w, i32_w]
                    rfl
                  refine one_ (i := 10) (N := some 63) (Sh.m 11 0) rfl rfl (by kernel_rfl) (by decide) (fun K hK => ?_)
                  refine goes_ Try.func49 (by kernel_rfl) rfl #[.slice A9 q.length c9, .int .i64 a] (by rfl) rfl rfl (by (try simp only [List.map_toArray, List.map_cons, List.map_nil]); first | done | rfl) ?_
                  with_reducible refine (among_calls A9 c9 q a _ HQ.out.2.2 HQ.out.2.1 true ((decide_eq_true ((HQQ.out.2 a).2 HXA.out)).symm)).mono ?_
                  rintro e W2 ⟨rfl, hb⟩
                  refine ⟨_, rfl, ?_⟩
                  clear HQ
                  obtain ⟨hy, hx⟩ := hHeld
                  have nn_ := Aside0.mk (Kd.R_below HOU.out hb); clear HOU; have HOU := nn_; clear nn_; have nn_ := Aside0.mk (Kd.R_below HR.out hb); clear HR; have HR := nn_; clear nn_; have nn_ := Aside0.mk (Kd.R_below HO.out hb); clear HO; have HO := nn_; clear nn_; have nn_ := Aside0.mk (below_step HB.out hb); clear HB; have HB := nn_; clear nn_
                  refine hK.out _ _ ⟨pw_cell_below hb hy, pw_cell_below hb hx⟩ (fun hHeld => ?_)
                  clear hK K
                  refine norm_ (a' := ?_) ?_ ?_
                  rotate_left
                  · show Act.put _ (some 63) _ = _
                    simp only [Act.put, List.setIfInBounds_toArray, List.set_cons_zero, List.set_cons_succ, i64_w, i32_w]
                    rfl
                  refine done_ (by kernel_rfl) ?_
                  obtain ⟨hy, hx⟩ := hHeld
                  have HRB := Aside0.mk (show r.length ≤ 100000 from Nat.le_trans (RSlen HRR.out) HBN.out.1)
                  have HOT2 := Aside0.mk (show RisI (out ++ [x]) ∧ (out ++ [x]).length ≤ k + 1 ∧ ∀ z, z ∈ out ++ [x] ↔ z ∈ r.take (k + 1) ∧ ReachL L z a from by obtain ⟨h1, h2, h3⟩ := HOT.out; refine ⟨List.pairwise_append.2 ⟨h1, List.pairwise_singleton _ _, fun p hp q hq => by rw [List.mem_singleton.1 hq]; exact HLT.out p ((h3 p).1 hp).1⟩, by rw [List.length_append, List.length_singleton]; omega, fun z => ?_⟩; rw [List.mem_append, h3, List.take_succ_eq_append_getElem hkl, ← HXE.out, List.mem_append, List.mem_singleton]; exact ⟨fun h => h.elim (fun h => ⟨.inl h.1, h.2⟩) (fun h => ⟨.inr h, by rw [h]; exact HXA.out⟩), fun h => h.1.elim (fun h1 => .inl ⟨h1, h.2⟩) .inr⟩)
                  go_wp2_with (first | ((with_reducible refine gate_builtin (b := .append) (xs := #[.tmp 64, .tmp 69]) rfl ?_); at_builtin; refine Kd.R_append (Kd.int .i64) (w0 := w) w.heap.size rfl (.tmp 64) (.tmp 69) 43 2 (.int .i64 0) 8 rfl Try.underlying43 info2 rfl (by decide) (by omega) u7 out x [.int .i64 x] (fun _ => True) (fun _ => False) rfl rfl rfl (fun _ hk => hk.elim) (fun _ _ => trivial) HOU.out HB.out HB.out.size (by have := HOT.out.2.1; have := HRB.out; omega) ?_; intro v9 W9 ho hb hg hat; have HOU2 := Aside0.mk ho; have HB2 := Aside0.mk hb; have HR2 := Aside0.mk (Kd.R_after HR.out hg hat); have HO2 := Aside0.mk (Kd.R_after HO.out hg hat); clear ho hb hg hat))
                  go_roundw
                  case rel => exact ⟨out ++ [x], k + 1, by omega, by first | rfl | go_num, HOU2, HR2, HO2, HOT2, HB2⟩
                  case measure => simp [intOf]; omega
                · have HXA := Aside0.mk hxa
                  clear hxa
                  go_wp2
                  refine start_ (n := 11) (S := (fun w' => w'.cell? (ad6.add k) = some (.int .i64 x) ∧ w'.cell? (ad.add j) = some (.int .i64 a))) (ds := []) (Sh.m 0 11) (by kernel_rfl) rfl rfl ⟨hy, hx⟩ (fun hHeld => ?_)
                  (have nn_ := Aside0.mk (Kd.R_drew HOU.out); clear HOU; have HOU := nn_; clear nn_; have nn_ := Aside0.mk (Kd.R_drew HR.out); clear HR; have HR := nn_; clear nn_; have nn_ := Aside0.mk (Kd.R_drew HO.out); clear HO; have HO := nn_; clear nn_; have nn_ := Aside0.mk (below_drew1 HB.out); clear HB; have HB := nn_; clear nn_; clear hy hx; generalize wr.drew = W1 at HOU HR HO HB hHeld ⊢)
                  refine pure_ (i := 0) (N := some 53) (v := ?_) (a' := ?_) (Sh.m 1 10) rfl rfl (by kernel_rfl) (fun _ _ _ h => h) (Or.inl ⟨by rfl, ?_⟩) ?_ ?_
                  rotate_left
                  · intro w'
                    go_simp
                    with_reducible rfl
                  rotate_left
                  · simp only [Act.put, List.setIfInBounds_toArray, List.set_cons_zero, List.set_cons_succ, i64_w, i32_w]
                    rfl
                  refine pure_ (i := 1) (N := some 54) (v := ?_) (a' := ?_) (Sh.m 2 9) rfl rfl (by kernel_rfl) (fun _ _ _ h => h) (Or.inl ⟨by rfl, ?_⟩) ?_ ?_
                  rotate_left
                  · intro w'
                    go_simp
                    with_reducible rfl
                  rotate_left
                  · simp only [Act.put, List.setIfInBounds_toArray, List.set_cons_zero, List.set_cons_succ, i64_w, i32_w]
                    rfl
                  refine pure_ (i := 2) (N := some 55) (v := ?_) (a' := ?_) (Sh.m 3 8) rfl rfl (by kernel_rfl) (fun _ _ _ h => h) (Or.inl ⟨by rfl, ?_⟩) ?_ ?_
                  rotate_left
                  · intro w'
                    go_simp
                    with_reducible rfl
                  rotate_left
                  · simp only [Act.put, List.setIfInBounds_toArray, List.set_cons_zero, List.set_cons_succ, i64_w, i32_w]
                    rfl
                  refine pure_ (i := 3) (N := some 56) (v := ?_) (a' := ?_) (Sh.m 4 7) rfl rfl (by kernel_rfl) (fun _ _ _ h => h) (Or.inl ⟨by rfl, ?_⟩) ?_ ?_
                  rotate_left
                  · intro w'
                    go_simp
                    with_reducible rfl
                  rotate_left
                  · simp only [Act.put, List.setIfInBounds_toArray, List.set_cons_zero, List.set_cons_succ, i64_w, i32_w]
                    rfl
                  refine take_ (i := 4) (N := some 57) (v := ?_) (a' := ?_) (Sh.m 5 6) rfl rfl (by kernel_rfl) (fun _ _ _ h => h) (Or.inl ⟨by rfl, ?_⟩) hHeld ?_ ?_
                  rotate_left
                  · rintro w' ⟨s0, s1⟩
                    go_simp
                    with_reducible rfl
                  rotate_left
                  · simp only [Act.put, List.setIfInBounds_toArray, List.set_cons_zero, List.set_cons_succ, i64_w, i32_w]
                    rfl
                  refine pure_ (i := 6) (N := some 59) (v := ?_) (a' := ?_) #[true, true, true, true, true, false, true, false, false, false, false] rfl rfl (by kernel_rfl) (fun _ _ _ h => h) (Or.inl ⟨by rfl, ?_⟩) ?_ ?_
                  rotate_left
                  · intro w'
                    go_simp
                    with_reducible rfl
                  rotate_left
                  · simp only [Act.put, List.setIfInBounds_toArray, List.set_cons_zero, List.set_cons_succ, i64_w, i32_w]
                    rfl
                  refine pure_ (i := 7) (N := some 60) (v := ?_) (a' := ?_) #[true, true, true, true, true, false, true, true, false, false, false] rfl rfl (by kernel_rfl) (fun _ _ _ h => h) (Or.inl ⟨by rfl, ?_⟩) ?_ ?_
                  rotate_left
                  · intro w'
                    go_simp
                    with_reducible rfl
                  rotate_left
                  · simp only [Act.put, List.setIfInBounds_toArray, List.set_cons_zero, List.set_cons_succ, i64_w, i32_w]
                    rfl
                  refine pure_ (i := 8) (N := some 61) (v := ?_) (a' := ?_) #[true, true, true, true, true, false, true, true, true, false, false] rfl rfl (by kernel_rfl) (fun _ _ _ h => h) (Or.inl ⟨by rfl, ?_⟩) ?_ ?_
                  rotate_left
                  · intro w'
                    go_simp
                    with_reducible rfl
                  rotate_left
                  · simp only [Act.put, List.setIfInBounds_toArray, List.set_cons_zero, List.set_cons_succ, i64_w, i32_w]
                    rfl
                  refine take_ (i := 9) (N := some 62) (v := ?_) (a' := ?_) #[true, true, true, true, true, false, true, true, true, true, false] rfl rfl (by kernel_rfl) (fun _ _ _ h => h) (Or.inl ⟨by rfl, ?_⟩) hHeld ?_ ?_
                  rotate_left
                  · rintro w' ⟨s0, s1⟩
                    go_simp
                    with_reducible rfl
                  rotate_left
                  · simp only [Act.put, List.setIfInBounds_toArray, List.set_cons_zero, List.set_cons_succ, i64_w, i32_w]
                    rfl
                  refine one_ (i := 5) (N := some 58) (Sh.m 10 1) rfl rfl (by kernel_rfl) (by decide) (fun K hK => ?_)
                  refine goes_ Try.func48 (by kernel_rfl) rfl #[.pointer (some ⟨rb, 0, none⟩), .int .i64 x] (by rfl) rfl rfl (by (try simp only [List.map_toArray, List.map_cons, List.map_nil]); first | done | rfl) ?_
                  with_reducible refine (rreach_calls rb A c last L x _ (H.out.below HB.out) HBN.out HND.out).mono ?_
                  rintro e W2 ⟨v9, q, rfl, hRq, hqq, hb⟩
                  refine ⟨_, rfl, ?_⟩
                  obtain ⟨A9, c9, e9⟩ := Kd.R_slice hRq
                  subst e9
                  have HQ := Aside0.mk (Kd.R_reads' hRq)
                  have HQQ := Aside0.mk hqq
                  obtain ⟨hy, hx⟩ := hHeld
                  have nn_ := Aside0.mk (Kd.R_below HOU.out hb); clear HOU; have HOU := nn_; clear nn_; have nn_ := Aside0.mk (Kd.R_below HR.out hb); clear HR; have HR := nn_; clear nn_; have nn_ := Aside0.mk (Kd.R_below HO.out hb); clear HO; have HO := nn_; clear nn_; have nn_ := Aside0.mk (below_step HB.out hb); clear HB; have HB := nn_; clear nn_
                  refine hK.out _ _ ⟨pw_cell_below hb hy, pw_cell_below hb hx⟩ (fun hHeld => ?_)
                  clear hK K
                  refine norm_ (a' := ?_) ?_ ?_
                  rotate_left
                  · show Act.put _ (some 58) _ = _
                    simp only [Act.put, List.setIfInBounds_toArray, List.set_cons_zero, List.set_cons_succ, i64_w, i32_w]
                    rfl
                  refine one_ (i := 10) (N := some 63) (Sh.m 11 0) rfl rfl (by kernel_rfl) (by decide) (fun K hK => ?_)
                  refine goes_ Try.func49 (by kernel_rfl) rfl #[.slice A9 q.length c9, .int .i64 a] (by rfl) rfl rfl (by (try simp only [List.map_toArray, List.map_cons, List.map_nil]); first | done | rfl) ?_
                  with_reducible refine (among_calls A9 c9 q a _ HQ.out.2.2 HQ.out.2.1 false ((decide_eq_false (fun h => absurd ((HQQ.out.2 a).1 h) HXA.out)).symm)).mono ?_
                  rintro e W2 ⟨rfl, hb⟩
                  refine ⟨_, rfl, ?_⟩
                  clear HQ
                  obtain ⟨hy, hx⟩ := hHeld
                  have nn_ := Aside0.mk (Kd.R_below HOU.out hb); clear HOU; have HOU := nn_; clear nn_; have nn_ := Aside0.mk (Kd.R_below HR.out hb); clear HR; have HR := nn_; clear nn_; have nn_ := Aside0.mk (Kd.R_below HO.out hb); clear HO; have HO := nn_; clear nn_; have nn_ := Aside0.mk (below_step HB.out hb); clear HB; have HB := nn_; clear nn_
                  refine hK.out _ _ ⟨pw_cell_below hb hy, pw_cell_below hb hx⟩ (fun hHeld => ?_)
                  clear hK K
                  refine norm_ (a' := ?_) ?_ ?_
                  rotate_left
                  · show Act.put _ (some 63) _ = _
                    simp only [Act.put, List.setIfInBounds_toArray, List.set_cons_zero, List.set_cons_succ, i64_w, i32_w]
                    rfl
                  refine done_ (by kernel_rfl) ?_
                  obtain ⟨hy, hx⟩ := hHeld
                  have HOT2 := Aside0.mk (show RisI out ∧ out.length ≤ k + 1 ∧ ∀ z, z ∈ out ↔ z ∈ r.take (k + 1) ∧ ReachL L z a from by obtain ⟨h1, h2, h3⟩ := HOT.out; refine ⟨h1, by omega, fun z => ?_⟩; rw [h3, List.take_succ_eq_append_getElem hkl, ← HXE.out, List.mem_append, List.mem_singleton]; exact ⟨fun h => ⟨.inl h.1, h.2⟩, fun h => h.1.elim (fun h1 => ⟨h1, h.2⟩) (fun h1 => absurd h.2 (by rw [h1]; exact HXA.out))⟩)
                  go_wp2
                  go_roundw
                  case rel => exact ⟨out, k + 1, by omega, by first | rfl | go_num, HOU, HR, HO, HOT2, HB⟩
                  case measure => simp [intOf]; omega
              · have hd3 : decide ((k : Int) < (r.length : Int)) = false := decide_eq_false (by omega)
                have HRO := Aside0.mk (show RoundL L out from .inr ⟨a, (HAL.out.2.2 a).1 (by rw [HAE.out]; exact List.getElem_mem hjl), HRA.out, fun b hb hba hbb => by obtain ⟨m, hm, rfl⟩ := List.mem_iff_getElem.1 ((HAL.out.2.2 b).2 hb); rw [HAE.out] at hba; exact HNO.out m hm (ris_lt HAL.out.1 hm hjl hba) hbb, HOT.out.1, fun x => by rw [HOT.out.2.2 x, List.take_of_length_le (by omega), HRR.out.2 x]⟩)
                go_wp2
                go_ret
                exact ⟨_, out, rfl, HOU.out, HRO.out, HB.out⟩
          · have HRA := Aside0.mk hra
            clear hra
            go_wp2_with (first | (go_at_call 48; (with_reducible refine (rreach_calls rb A c last L a _ (H.out.below HB.out) HBN.out HND.out).mono ?_); rintro e W1 ⟨v1, r, rfl, hR, hrr, hb⟩; obtain ⟨A6, c6, e6⟩ := Kd.R_slice hR; subst e6; have HR := Aside0.mk (Kd.R_lower hR HB.out.size); have HRR := Aside0.mk hrr; have HO1 := Aside0.mk (Kd.R_below HO.out hb); have HB1 := Aside0.mk (below_step HB.out hb); have hx1 := pw_cell_below hb hx; clear hR hrr hb HO HB hx) | (go_at_call 49; (with_reducible refine (among_calls A6 c6 r a _ (Kd.R_reads' HR.out).2.2 (Kd.R_reads' HR.out).2.1 false ((decide_eq_false (fun h => absurd ((HRR.out.2 a).1 h) HRA.out)).symm)).mono ?_); rintro e W2 ⟨rfl, hb⟩; have HR2 := Aside0.mk (Kd.R_below HR.out hb); have HO2 := Aside0.mk (Kd.R_below HO1.out hb); have HB2 := Aside0.mk (below_step HB1.out hb); have hx2 := pw_cell_below hb hx1; clear hb HR HO1 HB1 hx1))
            have HNO2 := Aside0.mk (show ∀ (m : Nat) (h : m < all.length), m < j + 1 → ¬ ReachL L all[m] all[m] from fun m h hm => by rcases Nat.lt_or_ge m j with h1 | h1; exact HNO.out m h h1; obtain rfl : m = j := (by omega); rw [← HAE.out]; exact HRA.out)
            go_roundw
            case rel => exact ⟨j + 1, by omega, by first | rfl | go_num, HO2, HNO2, HB2⟩
            case measure => simp [intOf]; omega
        · have hd2 : decide ((j : Int) < (all.length : Int)) = false := decide_eq_false (by omega)
          have HRO := Aside0.mk (show RoundL L [] from .inl ⟨rfl, fun a ha => by obtain ⟨m, hm, rfl⟩ := List.mem_iff_getElem.1 ((HAL.out.2.2 a).2 ha); exact HNO.out m hm (by omega)⟩)
          go_wp2
          go_ret
          exact ⟨_, [], rfl, Kd.R_nil _ _ _ _ _, HRO.out, HB.out⟩
end Go.Proofs.Ytimlfdfmgajbnaa.PA
/-
The document's locks, as they are turned: Free.
-/
namespace Go.Proofs.Ytimlfdfmgajbnaa.PA
open Go.RowKit Go.Proofs.YtimlfdfmgajbnaaW.PrintWords Go.Proofs.YtimlfdfmgajbnaaW.PrintLast Go.Proofs.YtimlfdfmgajbnaaW.PrintMore
set_option linter.unusedVariables false
set_option linter.unusedSimpArgs false
abbrev zero79 : Value := .agg #[.int .i64 0, .slice none 0 0, .slice none 0 0, .int .i64 0]
theorem info79 : (Try.prog.info? 79).map (fun i => (i.zero, i.size, i.bytes)) = some (some zero79, 4, 64) := by kernel_rfl
/-- The document's locks in memory of their own (made since w0); G: which blocks these may be. -/
structure RefSt (w0 w : World) (rb : Nat) (G : Nat → Prop) (last : Int) (L : List S79) : Prop where
  b : ∃ v, w.heap[rb]? = some (.cells #[v, .int .i64 last] 30 (0, 0)) ∧ Kd.R k79 79 w w0.heap.size G v L
  g : G rb
  lo : w0.heap.size ≤ rb
  hb : Below w0.heap.size w0 w
theorem RefSt.rd {w0 w : World} {rb : Nat} {G : Nat → Prop} {last : Int} {L : List S79} (h : RefSt w0 w rb G last L) : ∃ A c, Rd w rb A c last L := by
  obtain ⟨v, h1, h2⟩ := h.b
  obtain ⟨A, c, rfl, h3, h4⟩ := Kd.R_reads h2
  exact ⟨A, c, h1, h4, h3⟩
theorem RefSt.mono {w0 w : World} {rb : Nat} {G G' : Nat → Prop} {last : Int} {L : List S79} (h : RefSt w0 w rb G last L) (hg : ∀ k, G k → G' k) : RefSt w0 w rb G' last L := by
  obtain ⟨v, h1, h2⟩ := h.b
  exact ⟨⟨v, h1, Kd.R_mono h2 hg⟩, hg _ h.g, h.lo, h.hb⟩
theorem RefSt.bound {w0 w : World} {rb : Nat} {G : Nat → Prop} {last : Int} {L : List S79} (h : RefSt w0 w rb G last L) : RefSt w0 w rb (fun k => G k ∧ k < w.heap.size) last L := by
  obtain ⟨v, h1, h2⟩ := h.b
  exact ⟨⟨v, h1, Kd.R_mono (Kd.R_bound h2) (fun k hk => ⟨hk.1, hk.2.2.1⟩)⟩, ⟨h.g, blk_lt h1⟩, h.lo, h.hb⟩
theorem RefSt.chg {w0 w w' : World} {rb : Nat} {G F : Nat → Prop} {last : Int} {L : List S79} (h : RefSt w0 w rb G last L) (hc : Chg F w w') (hf : ∀ k, G k → k < w.heap.size → ¬ F k) (hb : Below w0.heap.size w0 w') : RefSt w0 w' rb G last L := by
  obtain ⟨v, h1, h2⟩ := h.b
  exact ⟨⟨v, (hc.block rb (blk_lt h1) (hf rb h.g (blk_lt h1))).trans h1, Kd.R_step h2 (fun k hk hlt => hc.block k hlt (hf k hk hlt))⟩, h.g, h.lo, hb⟩
theorem RefSt.below {w0 w w' : World} {rb : Nat} {G : Nat → Prop} {last : Int} {L : List S79} (h : RefSt w0 w rb G last L) (hb : Below w.heap.size w w') : RefSt w0 w' rb G last L :=
  h.chg (Chg.ofBelow (F := fun _ => False) hb) (fun _ _ _ q => q) (below_step h.hb hb)
/-! ### a row's elements, with what they lead to -/
theorem rows_of {α : Type} {d : Kd α} {e : Nat} {w : World} {base : Nat} {ok : Nat → Prop} {v : Value} {xs : List α} (h : d.R e w base ok v xs) : ∃ A c, v = .slice A xs.length c ∧ xs.length ≤ c ∧ ReadsRow (d.M w base (fun k => ok k ∧ some k ≠ v.ownBlock)) d.sz w A xs.length xs := by
  obtain ⟨A, c, e1, hl, _⟩ := Kd.R_reads h
  obtain ⟨_, inner, ho, hr⟩ := h
  obtain ⟨A', c', e2, hrow⟩ := own_reads_row ho hr rfl
  rw [e1] at e2
  cases e2
  exact ⟨A, c, e1, hl, hrow⟩
theorem rows_at {α : Type} {d : Kd α} {e : Nat} {w : World} {base : Nat} {ok : Nat → Prop} {A : Option Addr} {n c : Nat} {xs : List α} (h : d.R e w base ok (.slice A n c) xs) : ReadsRow (d.M w base (fun k => ok k ∧ some k ≠ (Value.slice A n c).ownBlock)) d.sz w A xs.length xs := by
  obtain ⟨A', c', e, _, hr⟩ := rows_of h
  cases e
  exact hr
theorem rr_take {α : Type} {R : α → List Value → Prop} {size : Nat} {w : World} {A : Option Addr} {xs : List α} (h : ReadsRow R size w A xs.length xs) {m : Nat} (hm : m ≤ xs.length) : ReadsRow R size w A m (xs.take m) := by
  refine ⟨by rw [List.length_take]; omega, by have := h.2.1; omega, fun hp => ?_⟩
  obtain ⟨ad, e, hc⟩ := h.2.2 (by omega)
  refine ⟨ad, e, fun j p hj => hc j p ?_⟩
  rw [List.getElem?_take] at hj
  split at hj
  · exact hj
  · cases hj
theorem rr_drop {α : Type} {R : α → List Value → Prop} {size : Nat} {w : World} {A : Option Addr} {xs : List α} (h : ReadsRow R size w A xs.length xs) {m c : Nat} (hm : m ≤ xs.length) (hc : xs.length ≤ c) : ReadsRow R size w (if c = m then A else A.map (·.add (m * size))) (xs.length - m) (xs.drop m) := by
  refine ⟨List.length_drop, by have := h.2.1; omega, fun hp => ?_⟩
  obtain ⟨ad, rfl, hcell⟩ := h.2.2 (by omega)
  rw [if_neg (by omega)]
  refine ⟨ad.add (m * size), rfl, fun j p hj => ?_⟩
  rw [List.getElem?_drop] at hj
  obtain ⟨cs, h1, h2, h3⟩ := hcell (m + j) p hj
  refine ⟨cs, h1, h2, fun i u hu => ?_⟩
  rw [add_add, show m * size + (j * size + i) = (m + j) * size + i by rw [Nat.add_mul]; omega]
  exact h3 i u hu
theorem free_cut {L : List S79} (hn : (L.map (fun x => x.f0)).Nodup) {j : Nat} (hj : j < L.length) {id : Int} (hid : L[j].f0 = id) : L.take j ++ L.drop (j + 1) = freeL L id := by
  have key : ∀ i (hi : i < L.length), i ≠ j → decide (L[i].f0 ≠ id) = true := fun i hi hne => decide_eq_true (fun e => hne (ids_at hn hi hj (e.trans hid.symm)))
  have h1 : (L.take j).filter (fun x => decide (x.f0 ≠ id)) = L.take j := List.filter_eq_self.2 (fun x hx => by
    obtain ⟨i, hi, rfl⟩ := List.mem_iff_getElem.1 hx
    rw [List.length_take] at hi
    rw [List.getElem_take]
    exact key i (by omega) (by omega))
  have h2 : (L.drop (j + 1)).filter (fun x => decide (x.f0 ≠ id)) = L.drop (j + 1) := List.filter_eq_self.2 (fun x hx => by
    obtain ⟨i, hi, rfl⟩ := List.mem_iff_getElem.1 hx
    rw [List.length_drop] at hi
    rw [List.getElem_drop]
    exact key (j + 1 + i) (by omega) (by omega))
  have h3 : L = L.take j ++ L[j] :: L.drop (j + 1) := by rw [← List.drop_eq_getElem_cons hj, List.take_append_drop]
  unfold freeL
  conv => rhs; rw [h3]
  rw [List.filter_append, h1, List.filter_cons, if_neg (by simp [hid]), h2]
theorem free_same {L : List S79} {id : Int} (h : L.find? (fun x => decide (x.f0 = id)) = none) : freeL L id = L := by
  unfold freeL
  refine List.filter_eq_self.2 (fun x hx => ?_)
  have := List.find?_eq_none.1 h x hx
  simpa using this
def FrPost (w0 : World) (rb : Nat) (G : Nat → Prop) (last : Int) (L : List S79) (w : World) (e : Ending) (w' : World) : Prop := e = .returned (.tuple #[]) ∧ RefSt w0 w' rb (fun k => G k ∨ w.heap.size ≤ k) last L ∧ Chg G w w'
section
variable {P : Program} {ops : Array Oper} {o : Oper} {a : Act} {Q : Exit → Act → World → Prop} {Kc : Act → World → Prop}
theorem store_step {W w1 : World} (hw : Region.wanted o (yielded ops a.tmps) = true) (hn : o.dst = none) (hrun : (execOp a.eval o).run P W = .ok .skip w1) (h : Kc a w1) : if Region.wanted o (yielded ops a.tmps) = true then Oper.wp P o a W Kc Q else Kc (a.put none undef) W := by
  rw [if_pos hw]
  unfold Oper.wp
  rw [hrun]
  show Kc (a.put o.dst undef) w1
  rw [hn]
  exact h
end
set_option maxHeartbeats 8000000 in
set_option maxRecDepth 100000 in
theorem rfree_calls (w0 : World) (rb : Nat) (G : Nat → Prop) (last : Int) (L : List S79) (id : Int) (w : World) (h : RefSt w0 w rb G last L) (hB : BndL L 100000) (hn : (L.map (fun x => x.f0)).Nodup) :
    Calls Try.prog 23 #[.pointer (some ⟨rb, 0, none⟩), .int .i64 id] w (FrPost w0 rb G last (freeL L id) w) := by
  rcases idx_cases L id with ⟨h1, h2⟩ | ⟨j, h1, hj, h2, h3⟩
  · obtain ⟨A, c, hrd⟩ := h.rd
    have k0 := hrd.k0
    have hm := Kd.C_max hrd.r
    have HS := Aside0.mk h; have H := Aside0.mk hrd; have HX := Aside0.mk h1; have HE := Aside0.mk (free_same h2)
    clear h hB hn h1 h2 hrd
    go_enter Try.func23, Try.ntmps23
    go_wp2_with (first | (go_at_call 42; have hp := find_calls rb A c last L id w H.out; rw [HX.out] at hp; (with_reducible refine hp.mono ?_); rintro e w1 ⟨rfl, rfl⟩; clear hp))
    go_end0
    exact ⟨rfl, by rw [HE.out]; exact HS.out.mono (fun k hk => .inl hk), Chg.refl _ _⟩
  · have hs := h.bound
    obtain ⟨v, hbk, hR⟩ := hs.b
    obtain ⟨A, c, ev, hlc, hrow⟩ := rows_of hR
    subst ev
    have hrd : Rd w rb A c last L := ⟨hbk, (Kd.R_reads' hR).2.2, hlc⟩
    have k0 := hrd.k0
    have hm := Kd.C_max hrd.r
    have HS := Aside0.mk hs; have H := Aside0.mk hrd; have HX := Aside0.mk h1; have HE := Aside0.mk (free_cut hn hj h3); have HR := Aside0.mk hR; have HBN := Aside0.mk hB.1; have HBK := Aside0.mk hbk; have HLC := Aside0.mk hlc; have HLT := Aside0.mk (show (rb < w.heap.size) from blk_lt hbk)
    have HG := Aside0.mk h.g; have HLO := Aside0.mk h.lo; have HB0 := Aside0.mk h.hb
    have hlt : (j : Int) < (L.length : Int) := by omega
    have hd0 : decide ((j : Int) < 0) = false := decide_eq_false (by omega)
    have hd1 : decide ((0 : Int) ≤ (j : Int)) = true := decide_eq_true (by omega)
    have hd2 : decide (0 ≤ (j : Int)) = true := decide_eq_true (by omega)
    clear h hB hn h1 h2 h3 hrow hrd hs hR hbk
    obtain ⟨i9, hi9, _, hsz9, _⟩ := info_parts info79
    have hcut1 := cut_to (P := Try.prog) 28 79 .i64 Try.underlying28 hi9 A L.length c (j : Int) (by omega) (by omega) hlc
    have hcut2 := cut_from (P := Try.prog) 28 79 .i64 Try.underlying28 hi9 4 hsz9 A L.length c ((j : Int) + 1) (by omega) (by omega)
    have hsum : IntKind.i64.wrap ((j : Int) + 1) = (j : Int) + 1 := by exact IntWalk.i64_in _ (by omega)
    rw [Int.toNat_natCast] at hcut1
    rw [show ((j : Int) + 1).toNat = j + 1 by omega] at hcut2
    obtain ⟨A2, hA2⟩ : ∃ A2, A2 = (if c = j + 1 then A else A.map (·.add ((j + 1) * 4))) := ⟨_, rfl⟩
    rw [← hA2] at hcut2
    have HA2 := Aside0.mk hA2
    clear hA2 hi9 hsz9 hlc
    go_enter Try.func23, Try.ntmps23
    go_wp2_with (first | (go_at_call 42; have hp := find_calls rb A c last L id w H.out; rw [HX.out] at hp; (with_reducible refine hp.mono ?_); rintro e w1 ⟨rfl, rfl⟩; clear hp))
    refine start_ (n := 20) (S := (fun w' => w'.cell? ⟨rb, 0, none⟩ = some (.slice A L.length c))) (ds := [16, 19]) (Sh.m 0 20) (by kernel_rfl) rfl rfl k0 (fun hHeld => ?_)
    (have HBa := Aside0.mk (below_drew1 (Below.refl w.heap.size w)); generalize w.drew = W1 at HBa hHeld ⊢)
    refine pure_ (i := 0) (N := some 10) (v := ?_) (a' := ?_) (Sh.m 1 19) rfl rfl (by kernel_rfl) (fun _ _ _ h => h) (Or.inl ⟨by rfl, ?_⟩) ?_ ?_
    rotate_left
    · intro w'
      go_simp
      with_reducible rfl
    rotate_left
    · simp only [Act.put, List.setIfInBounds_toArray, List.set_cons_zero, List.set_cons_succ, i64_w, i32_w]
      rfl
    refine pure_ (i := 2) (N := some 12) (v := ?_) (a' := ?_) #[true, false, true, false, false, false, false, false, false, false, false, false, false, false, false, false, false, false, false, false] rfl rfl (by kernel_rfl) (fun _ _ _ h => h) (Or.inl ⟨by rfl, ?_⟩) ?_ ?_
    rotate_left
    · intro w'
      go_simp
      with_reducible rfl
    rotate_left
    · simp only [Act.put, List.setIfInBounds_toArray, List.set_cons_zero, List.set_cons_succ, i64_w, i32_w]
      rfl
    refine pure_ (i := 3) (N := some 13) (v := ?_) (a' := ?_) #[true, false, true, true, false, false, false, false, false, false, false, false, false, false, false, false, false, false, false, false] rfl rfl (by kernel_rfl) (fun _ _ _ h => h) (Or.inl ⟨by rfl, ?_⟩) ?_ ?_
    rotate_left
    · intro w'
      go_simp
      with_reducible rfl
    rotate_left
    · simp only [Act.put, List.setIfInBounds_toArray, List.set_cons_zero, List.set_cons_succ, i64_w, i32_w]
      rfl
    refine pure_ (i := 4) (N := some 14) (v := ?_) (a' := ?_) #[true, false, true, true, true, false, false, false, false, false, false, false, false, false, false, false, false, false, false, false] rfl rfl (by kernel_rfl) (fun _ _ _ h => h) (Or.inl ⟨by rfl, ?_⟩) ?_ ?_
    rotate_left
    · intro w'
      go_simp
      with_reducible rfl
    rotate_left
    · simp only [Act.put, List.setIfInBounds_toArray, List.set_cons_zero, List.set_cons_succ, i64_w, i32_w]
      rfl
    refine take_ (i := 5) (N := some 15) (v := ?_) (a' := ?_) #[true, false, true, true, true, true, false, false, false, false, false, false, false, false, false, false, false, false, false, false] rfl rfl (by kernel_rfl) (fun _ _ _ h => h) (Or.inl ⟨by rfl, ?_⟩) hHeld ?_ ?_
    rotate_left
    · rintro w' s0
      go_simp
      with_reducible rfl
    rotate_left
    · simp only [Act.put, List.setIfInBounds_toArray, List.set_cons_zero, List.set_cons_succ, i64_w, i32_w]
      rfl
    refine pure_ (i := 6) (N := some 16) (v := ?_) (a' := ?_) #[true, false, true, true, true, true, true, false, false, false, false, false, false, false, false, false, false, false, false, false] rfl rfl (by kernel_rfl) (fun _ _ _ h => h) (Or.inl ⟨by rfl, ?_⟩) ?_ ?_
    rotate_left
    · intro w'
      go_simp
      with_reducible rfl
    rotate_left
    · simp only [Act.put, List.setIfInBounds_toArray, List.set_cons_zero, List.set_cons_succ, i64_w, i32_w]
      rfl
    refine pure_ (i := 7) (N := some 17) (v := ?_) (a' := ?_) #[true, false, true, true, true, true, true, true, false, false, false, false, false, false, false, false, false, false, false, false] rfl rfl (by kernel_rfl) (fun _ _ _ h => h) (Or.inl ⟨by rfl, ?_⟩) ?_ ?_
    rotate_left
    · intro w'
      go_simp
      with_reducible rfl
    rotate_left
    · simp only [Act.put, List.setIfInBounds_toArray, List.set_cons_zero, List.set_cons_succ, i64_w, i32_w]
      rfl
    refine pure_ (i := 9) (N := some 19) (v := ?_) (a' := ?_) #[true, false, true, true, true, true, true, true, false, true, false, false, false, false, false, false, false, false, false, false] rfl rfl (by kernel_rfl) (fun _ _ _ h => h) (Or.inl ⟨by rfl, ?_⟩) ?_ ?_
    rotate_left
    · intro w'
      go_simp
      with_reducible rfl
    rotate_left
    · simp only [Act.put, List.setIfInBounds_toArray, List.set_cons_zero, List.set_cons_succ, i64_w, i32_w]
      rfl
    refine pure_ (i := 10) (N := some 20) (v := ?_) (a' := ?_) #[true, false, true, true, true, true, true, true, false, true, true, false, false, false, false, false, false, false, false, false] rfl rfl (by kernel_rfl) (fun _ _ _ h => h) (Or.inl ⟨by rfl, ?_⟩) ?_ ?_
    rotate_left
    · intro w'
      go_simp
      with_reducible rfl
    rotate_left
    · simp only [Act.put, List.setIfInBounds_toArray, List.set_cons_zero, List.set_cons_succ, i64_w, i32_w]
      rfl
    refine pure_ (i := 11) (N := some 21) (v := ?_) (a' := ?_) #[true, false, true, true, true, true, true, true, false, true, true, true, false, false, false, false, false, false, false, false] rfl rfl (by kernel_rfl) (fun _ _ _ h => h) (Or.inl ⟨by rfl, ?_⟩) ?_ ?_
    rotate_left
    · intro w'
      go_simp
      with_reducible rfl
    rotate_left
    · simp only [Act.put, List.setIfInBounds_toArray, List.set_cons_zero, List.set_cons_succ, i64_w, i32_w]
      rfl
    refine take_ (i := 12) (N := some 22) (v := ?_) (a' := ?_) #[true, false, true, true, true, true, true, true, false, true, true, true, true, false, false, false, false, false, false, false] rfl rfl (by kernel_rfl) (fun _ _ _ h => h) (Or.inl ⟨by rfl, ?_⟩) hHeld ?_ ?_
    rotate_left
    · rintro w' s0
      go_simp
      with_reducible rfl
    rotate_left
    · simp only [Act.put, List.setIfInBounds_toArray, List.set_cons_zero, List.set_cons_succ, i64_w, i32_w]
      rfl
    refine pure_ (i := 13) (N := some 23) (v := ?_) (a' := ?_) #[true, false, true, true, true, true, true, true, false, true, true, true, true, true, false, false, false, false, false, false] rfl rfl (by kernel_rfl) (fun _ _ _ h => h) (Or.inl ⟨by rfl, ?_⟩) ?_ ?_
    rotate_left
    · intro w'
      go_simp
      with_reducible rfl
    rotate_left
    · simp only [Act.put, List.setIfInBounds_toArray, List.set_cons_zero, List.set_cons_succ, i64_w, i32_w]
      rfl
    refine pure_ (i := 14) (N := some 24) (v := ?_) (a' := ?_) #[true, false, true, true, true, true, true, true, false, true, true, true, true, true, true, false, false, false, false, false] rfl rfl (by kernel_rfl) (fun _ _ _ h => h) (Or.inl ⟨by rfl, ?_⟩) ?_ ?_
    rotate_left
    · intro w'
      go_simp
      with_reducible rfl
    rotate_left
    · simp only [Act.put, List.setIfInBounds_toArray, List.set_cons_zero, List.set_cons_succ, i64_w, i32_w]
      rfl
    refine pure_ (i := 15) (N := some 25) (v := ?_) (a' := ?_) #[true, false, true, true, true, true, true, true, false, true, true, true, true, true, true, true, false, false, false, false] rfl rfl (by kernel_rfl) (fun _ _ _ h => h) (Or.inl ⟨by rfl, ?_⟩) ?_ ?_
    rotate_left
    · intro w'
      go_simp
      with_reducible rfl
    rotate_left
    · simp only [Act.put, List.setIfInBounds_toArray, List.set_cons_zero, List.set_cons_succ, i64_w, i32_w]
      rfl
    refine one_ (i := 1) (N := some 11) #[true, true, true, true, true, true, true, true, false, true, true, true, true, true, true, true, false, false, false, false] rfl rfl (by kernel_rfl) (by decide) (fun K hK => ?_)
    refine Kd.R_lit_step k79 (w0 := w0) w0.heap.size 79 rfl (N := 11) rfl (xs := ([] : List S79)) (inner := []) (ok := (fun k => G k ∨ w.heap.size ≤ k)) (okp := fun _ => False) ?hr (Reps.none _ _) (fun _ hk => hk.elim) (.inr HBa.out.size) (below_step HB0.out HBa.out) (Nat.le_trans HB0.out.size HBa.out.size) (by simp) ?_
    case hr => first | (go_simp; done) | (go_simp; rfl)
    intro v1 W2 hO hb hg hnw
    obtain ⟨b1, hb1, hb2⟩ := hnw
    have HO1 := Aside0.mk hO; have HB1 := Aside0.mk hb; have HN1 := Aside0.mk hb1; have HBL := Aside0.mk (Nat.le_trans HBa.out.size hb2); have HSZ := Aside0.mk (Nat.le_trans HBa.out.size hg.size); have HC1 := Aside0.mk ((Chg.ofBelow (F := G) HBa.out).trans (Chg.ofGrown (F := G) hg (fun k e => by cases e)) (fun _ _ h => h)); have HR1 := Aside0.mk (Kd.R_grown (Kd.R_below HR.out HBa.out) hg (fun k _ e => by cases e)); have k2 := (Chg.ofGrown (F := fun _ => False) hg (fun k e => by cases e)).cell hHeld (fun q => q)
    have HBK2 := Aside0.mk (blk_grown (blk_below HBK.out HBa.out) hg (fun e => by cases e))
    clear hO hb hg hb1 hb2
    refine hK.out _ _ k2 (fun hHeld => ?_)
    clear hK K
    refine norm_ (a' := ?_) ?_ ?_
    rotate_left
    · show Act.put _ (some 11) _ = _
      simp only [Act.put, List.setIfInBounds_toArray, List.set_cons_zero, List.set_cons_succ, i64_w, i32_w]
      rfl
    refine one_ (i := 8) (N := some 18) (Sh.m 16 4) rfl rfl (by kernel_rfl) (by decide) (fun K hK => ?_)
    refine Kd.R_append_rows_step k79 (w0 := w0) w0.heap.size rfl (.tmp 11) (.tmp 17) 28 79 zero79 64 rfl Try.underlying28 info79 rfl (by decide) (by decide) v1 [] (L.take j) A j c (fun k => G k ∨ w.heap.size ≤ k) (fun k => (G k ∧ k < w.heap.size) ∧ some k ≠ (Value.slice A L.length c).ownBlock) rfl rfl HO1.out (rr_take (rows_at HR1.out) (by omega)) (fun _ _ h => h) (fun k hk => ⟨.inl hk.1.1, fun e => by rw [HN1.out] at e; injection e with e; have := HBL.out; have := hk.1.2; omega⟩) (fun k hk => .inr (Nat.le_trans HSZ.out hk)) HB1.out HB1.out.size (by have := HBN.out; simp only [List.length_nil]; omega) ?_
    intro v2 W3 ho hb hg hat
    rw [List.nil_append] at ho
    have HO2 := Aside0.mk ho; have HB2 := Aside0.mk hb; have HN2 := Aside0.mk (show ∃ b, v2.ownBlock = some b ∧ w.heap.size ≤ b from hat.elim (fun e => ⟨b1, e.trans HN1.out, HBL.out⟩) (fun ⟨b, e, hb⟩ => ⟨b, e, Nat.le_trans HSZ.out hb⟩)); have HSZ2 := Aside0.mk (Nat.le_trans HSZ.out hg.size); have HC2 := Aside0.mk (HC1.out.trans (Chg.ofGrown (F := fun k => some k = v1.ownBlock) hg (fun k e => e)) (fun k hk e => by rw [HN1.out] at e; injection e with e; have := HBL.out; omega)); have HR2 := Aside0.mk (Kd.R_grown HR1.out hg (fun k hk e => by rw [HN1.out] at e; injection e with e; have := HBL.out; have := hk.2; omega)); have k3 := (Chg.ofGrown (F := fun k => some k = v1.ownBlock) hg (fun k e => e)).cell hHeld (fun e => by rw [HN1.out] at e; injection e with e; have h1 : rb = b1 := e; have := HBL.out; have := HLT.out; omega)
    have HBK3 := Aside0.mk (blk_grown HBK2.out hg (fun e => by rw [HN1.out] at e; injection e with e; have := HBL.out; have := HLT.out; omega))
    clear ho hb hg hat HO1 HB1 HC1 HR1 HN1 HBL
    refine hK.out _ _ k3 (fun hHeld => ?_)
    clear hK K
    refine norm_ (a' := ?_) ?_ ?_
    rotate_left
    · show Act.put _ (some 18) _ = _
      simp only [Act.put, List.setIfInBounds_toArray, List.set_cons_zero, List.set_cons_succ, i64_w, i32_w]
      rfl
    refine last_ (i := 16) (N := some 26) (Sh.m 17 3) rfl rfl (by kernel_rfl) (by decide) (fun K hK => ?_)
    refine Kd.R_append_rows_step k79 (w0 := w0) w0.heap.size rfl (.tmp 18) (.tmp 25) 28 79 zero79 64 rfl Try.underlying28 info79 rfl (by decide) (by decide) v2 (L.take j) (L.drop (j + 1)) A2 (L.length - (j + 1)) (c - (j + 1)) (fun k => G k ∨ w.heap.size ≤ k) (fun k => (G k ∧ k < w.heap.size) ∧ some k ≠ (Value.slice A L.length c).ownBlock) rfl rfl HO2.out (HA2.out ▸ rr_drop (rows_at HR2.out) (by omega) HLC.out) (fun _ _ h => h) (fun k hk => ⟨.inl hk.1.1, fun e => by obtain ⟨b, h1, h2⟩ := HN2.out; rw [h1] at e; injection e with e; have := hk.1.2; omega⟩) (fun k hk => .inr (Nat.le_trans HSZ2.out hk)) HB2.out HB2.out.size (by have := HBN.out; rw [List.length_take]; omega) ?_
    intro v3 W4 ho hb hg hat
    rw [HE.out] at ho
    obtain ⟨A7, c7, e7⟩ := Kd.R_slice ho
    subst e7
    have HO3 := Aside0.mk ho; have HB3 := Aside0.mk hb; have HC3 := Aside0.mk (HC2.out.trans (Chg.ofGrown (F := fun k => some k = v2.ownBlock) hg (fun k e => e)) (fun k hk e => by obtain ⟨b, h1, h2⟩ := HN2.out; rw [h1] at e; injection e with e; omega)); have HBK4 := Aside0.mk (blk_grown HBK3.out hg (fun e => by obtain ⟨b, h1, h2⟩ := HN2.out; rw [h1] at e; injection e with e; have := HLT.out; omega))
    have k4 := (blk_cell HBK4.out 0).trans rfl
    have f4 := blk_frozen HBK4.out 0
    clear ho hb hg hat
    refine hK.out _ _ ?_
    clear hK K
    refine norm_ (a' := ?_) ?_ ?_
    rotate_left
    · show Act.put _ (some 26) _ = _
      simp only [Act.put, List.setIfInBounds_toArray, List.set_cons_zero, List.set_cons_succ, i64_w, i32_w]
      rfl
    refine pure_ (i := 17) (N := some 27) (v := ?_) (a' := ?_) (Sh.m 18 2) rfl rfl (by kernel_rfl) (fun _ _ _ h => h) (Or.inl ⟨by rfl, ?_⟩) ?_ ?_
    rotate_left
    · intro w'
      go_simp
      with_reducible rfl
    rotate_left
    · simp only [Act.put, List.setIfInBounds_toArray, List.set_cons_zero, List.set_cons_succ, i64_w, i32_w]
      rfl
    refine pure_ (i := 18) (N := some 28) (v := ?_) (a' := ?_) (Sh.m 19 1) rfl rfl (by kernel_rfl) (fun _ _ _ h => h) (Or.inl ⟨by rfl, ?_⟩) ?_ ?_
    rotate_left
    · intro w'
      go_simp
      with_reducible rfl
    rotate_left
    · simp only [Act.put, List.setIfInBounds_toArray, List.set_cons_zero, List.set_cons_succ, i64_w, i32_w]
      rfl
    refine last_ (i := 19) (N := none) (Sh.m 20 0) rfl rfl (by kernel_rfl) (by decide) (fun K hK => ?_)
    refine store_step rfl rfl (w1 := W4.setCell ⟨rb, 0, none⟩ (.slice A7 (freeL L id).length c7)) ?hr ?_
    case hr => first | (go_simp; done) | (go_simp; rfl)
    refine hK.out _ _ ?_
    clear hK K
    refine done_ (by kernel_rfl) ?_
    go_wp2
    go_end0
    refine ⟨rfl, ⟨⟨_, (blk_set HBK4.out 0 _).trans rfl, Kd.R_set HO3.out HBK4.out (by decide) 0 _⟩, .inl HG.out, HLO.out, HB3.out.setCell HLO.out _⟩, HC3.out.trans (Chg.setCell W4 rb 0 _) (fun k _ e => by rw [e]; exact HG.out)⟩
end Go.Proofs.Ytimlfdfmgajbnaa.PA
/-
The document's put: a text in its place, in a row of its own, or the row that came.
-/
namespace Go.Proofs.Ytimlfdfmgajbnaa.PA
open Go.RowKit Go.Proofs.YtimlfdfmgajbnaaW.PrintWords Go.Proofs.YtimlfdfmgajbnaaW.PrintLast Go.Proofs.YtimlfdfmgajbnaaW.PrintMore
set_option linter.unusedVariables false
set_option linter.unusedSimpArgs false
def PutPost (A : Option Addr) (c : Nat) (l : List ByteArray) (s : ByteArray) (w : World) (e : Ending) (w' : World) : Prop := ∃ v', e = .returned v' ∧ Below w.heap.size w w' ∧ ((v' = .slice A l.length c ∧ putS l s = l) ∨ Kd.R Kd.string 9 w' w.heap.size (fun _ => True) v' (putS l s))
theorem putS_less {x s : ByteArray} {l : List ByteArray} (h : Op.bytesLess x.toList s.toList = true) : putS (x :: l) s = x :: putS l s := by
  rw [putS, if_pos (by rw [← ByteArray.toList_eq, ← ByteArray.toList_eq]; exact h)]
theorem putS_eq {x s : ByteArray} {l : List ByteArray} (h : Op.bytesLess x.toList s.toList = false) (he : x = s) : putS (x :: l) s = x :: l := by
  rw [putS, if_neg (by rw [← ByteArray.toList_eq, ← ByteArray.toList_eq, h]; simp), if_pos (by rw [he])]
theorem putS_new {x s : ByteArray} {l : List ByteArray} (h : Op.bytesLess x.toList s.toList = false) (he : x ≠ s) : putS (x :: l) s = s :: x :: l := by
  rw [putS, if_neg (by rw [← ByteArray.toList_eq, ← ByteArray.toList_eq, h]; simp), if_neg (fun e => he (toList_inj (by rw [ByteArray.toList_eq, ByteArray.toList_eq]; exact e)))]
set_option maxHeartbeats 8000000 in
set_option maxRecDepth 100000 in
theorem rput_calls (A : Option Addr) (c : Nat) (l : List ByteArray) (s : ByteArray) (w : World) (hr : Kd.C Kd.string w A l.length l) (hc : l.length ≤ c) (hl : l.length ≤ 1000000) :
    Calls Try.prog 45 #[.slice A l.length c, .string s] w (PutPost A c l s w) := by
  have HR := Aside0.mk hr; have HC := Aside0.mk hc
  clear hr hc
  go_enter Try.func45, Try.ntmps45
  go_wp2
  go_loop [5] (fun v5 => ∃ i : Nat, i ≤ l.length ∧ v5 = .int .i64 i ∧ Aside0 (putS l s = l.take i ++ putS (l.drop i) s)) (fun v5 => l.length - (intOf v5).toNat)
  case atStart => exact ⟨0, Nat.zero_le _, rfl, ⟨by simp⟩⟩
  case round =>
    obtain ⟨i, hi, rfl, HP⟩ := hrel
    obtain ⟨i9, hi9, _, hsz9, _⟩ := info_parts info9
    have hcut1 := cut_to (P := Try.prog) 32 9 .i64 Try.underlying32 hi9 A l.length c (i : Int) (by omega) (by omega) HC.out
    have hcut2 := cut_from (P := Try.prog) 32 9 .i64 Try.underlying32 hi9 1 hsz9 A l.length c (i : Int) (by omega) (by omega)
    rw [Int.toNat_natCast] at hcut1 hcut2
    obtain ⟨A2, hA2⟩ : ∃ A2, A2 = (if c = i then A else A.map (·.add (i * 1))) := ⟨_, rfl⟩
    rw [← hA2] at hcut2
    have HA2 := Aside0.mk hA2
    clear hA2 hi9 hsz9
    by_cases hlt : i < l.length
    · have hd := List.drop_eq_getElem_cons hlt
      have hd1 : decide ((i : Int) < (l.length : Int)) = true := decide_eq_true (by omega)
      have hd0 : decide (0 ≤ (i : Int)) = true := decide_eq_true (by omega)
      obtain ⟨ad, e0, hx⟩ := Kd.at_string HR.out (i : Int) (by omega) (by omega)
      cases e0
      rw [rdS l i hlt, Int.toNat_natCast] at hx
      obtain ⟨x, hxe⟩ : ∃ x, x = l[i] := ⟨_, rfl⟩
      rw [← hxe] at hx hd
      cases hb : Op.bytesLess x.toList s.toList with
      | true =>
        have HN := Aside0.mk (show putS l s = l.take (i + 1) ++ putS (l.drop (i + 1)) s by rw [HP.out, hd, putS_less hb, List.take_succ_eq_append_getElem hlt, ← hxe, List.append_assoc]; rfl)
        clear hd hxe
        go_wp2
        go_round
        case rel => exact ⟨i + 1, by omega, by first | rfl | go_num, HN⟩
        case measure => simp [intOf]; omega
      | false =>
        by_cases he : x = s
        · have hq : (x.toList == s.toList) = true := by rw [he]; exact beq_self_eq_true _
          have HE := Aside0.mk (show putS l s = l by rw [HP.out, hd, putS_eq hb he, ← hd, List.take_append_drop])
          clear hd hxe he
          go_wp2
          go_ret
          exact ⟨_, rfl, Below.refl _ _, .inl ⟨rfl, HE.out⟩⟩
        · have hq : (x.toList == s.toList) = false := beq_eq_false_iff_ne.2 (fun e => he (toList_inj e))
          have HEN := Aside0.mk (show putS l s = l.take i ++ [s] ++ l.drop i by rw [HP.out, hd, putS_new hb he]; simp)
          clear hd hxe he
          have HE := Aside0.mk (show putS l s = l.take i ++ [s] ++ l.drop i by exact HEN.out)
          go_wp2_with (first | ((with_reducible refine gate_dst (N := 34) rfl ?_); refine Kd.R_lit Kd.string _ 9 ?hg (N := 34) ?hd (xs := ([] : List ByteArray)) (inner := []) (ok := fun _ => True) (okp := fun _ => True) ?hr ?hp (fun _ hk => hk) trivial (Below.refl _ _) (Nat.le_refl _) (by simp) ?_; (case hd => rfl); (case hg => rfl); (case hr => first | (go_simp; done) | (go_simp; rfl)); (case hp => exact (Reps.none _ _)); intro v1 W1 hO hb hg_ hnew_; have HO1 := Aside0.mk hO; have HB1 := Aside0.mk hb; clear hg_ hnew_ hO hb) | ((with_reducible refine gate_builtin (b := .append) (xs := #[.tmp 34, .tmp 37]) rfl ?_); at_builtin; refine Kd.R_append_rows Kd.string (w0 := w) w.heap.size rfl (.tmp 34) (.tmp 37) 32 9 (.string ⟨#[]⟩) 16 rfl Try.underlying32 info9 rfl (by decide) (by omega) v1 [] (l.take i) (some ad) i c (fun _ => True) (fun _ => False) rfl rfl HO1.out (rr_take (Kd.C_below HR.out HB1.out) (by omega)) (fun _ _ h => h) (fun _ h => h.elim) (fun _ _ => trivial) HB1.out HB1.out.size (by simp only [List.length_nil]; omega) ?_; intro v2 W2 ho hb hg hat; rw [List.nil_append] at ho; have HO2 := Aside0.mk ho; have HB2 := Aside0.mk hb; clear ho hb hg hat) | ((with_reducible refine gate_builtin (b := .append) (xs := #[.tmp 39, .tmp 41]) rfl ?_); at_builtin; refine Kd.R_append Kd.string (w0 := w) w.heap.size rfl (.tmp 39) (.tmp 41) 32 9 (.string ⟨#[]⟩) 16 rfl Try.underlying32 info9 rfl (by decide) (by omega) v2 (l.take i) s [.string s] (fun _ => True) (fun _ => False) rfl rfl rfl (fun _ hk => hk.elim) (fun _ _ => trivial) HO2.out HB2.out HB2.out.size (by rw [List.length_take]; omega) ?_; intro v3 W3 ho hb hg hat; have HO3 := Aside0.mk ho; have HB3 := Aside0.mk hb; clear ho hb hg hat) | ((with_reducible refine gate_builtin (b := .append) (xs := #[.tmp 43, .tmp 46]) rfl ?_); at_builtin; refine Kd.R_append_rows Kd.string (w0 := w) w.heap.size rfl (.tmp 43) (.tmp 46) 32 9 (.string ⟨#[]⟩) 16 rfl Try.underlying32 info9 rfl (by decide) (by omega) v3 (l.take i ++ [s]) (l.drop i) A2 (l.length - i) (c - i) (fun _ => True) (fun _ => False) rfl rfl HO3.out (HA2.out ▸ rr_drop (Kd.C_below HR.out HB3.out) (by omega) HC.out) (fun _ _ h => h) (fun _ h => h.elim) (fun _ _ => trivial) HB3.out HB3.out.size (by rw [List.length_append, List.length_take, List.length_singleton]; omega) ?_; intro v4 W4 ho hb hg hat; have HO4 := Aside0.mk ho; have HB4 := Aside0.mk hb; clear ho hb hg hat))
          go_ret
          exact ⟨_, rfl, HB4.out, .inr (by rw [HE.out]; exact HO4.out)⟩
    · have hie := Aside0.mk (show i = l.length by omega)
      have hd1 : decide ((i : Int) < (l.length : Int)) = false := decide_eq_false (by omega)
      have HEN := Aside0.mk (show putS l s = l.take i ++ [s] ++ l.drop i by rw [HP.out, List.drop_eq_nil_of_le (by omega)]; simp [putS])
      have HE := Aside0.mk (show putS l s = l.take i ++ [s] ++ l.drop i by exact HEN.out)
      go_wp2_with (first | ((with_reducible refine gate_dst (N := 34) rfl ?_); refine Kd.R_lit Kd.string _ 9 ?hg (N := 34) ?hd (xs := ([] : List ByteArray)) (inner := []) (ok := fun _ => True) (okp := fun _ => True) ?hr ?hp (fun _ hk => hk) trivial (Below.refl _ _) (Nat.le_refl _) (by simp) ?_; (case hd => rfl); (case hg => rfl); (case hr => first | (go_simp; done) | (go_simp; rfl)); (case hp => exact (Reps.none _ _)); intro v1 W1 hO hb hg_ hnew_; have HO1 := Aside0.mk hO; have HB1 := Aside0.mk hb; clear hg_ hnew_ hO hb) | ((with_reducible refine gate_builtin (b := .append) (xs := #[.tmp 34, .tmp 37]) rfl ?_); at_builtin; refine Kd.R_append_rows Kd.string (w0 := w) w.heap.size rfl (.tmp 34) (.tmp 37) 32 9 (.string ⟨#[]⟩) 16 rfl Try.underlying32 info9 rfl (by decide) (by omega) v1 [] (l.take i) A i c (fun _ => True) (fun _ => False) rfl rfl HO1.out (rr_take (Kd.C_below HR.out HB1.out) (by omega)) (fun _ _ h => h) (fun _ h => h.elim) (fun _ _ => trivial) HB1.out HB1.out.size (by simp only [List.length_nil]; omega) ?_; intro v2 W2 ho hb hg hat; rw [List.nil_append] at ho; have HO2 := Aside0.mk ho; have HB2 := Aside0.mk hb; clear ho hb hg hat) | ((with_reducible refine gate_builtin (b := .append) (xs := #[.tmp 39, .tmp 41]) rfl ?_); at_builtin; refine Kd.R_append Kd.string (w0 := w) w.heap.size rfl (.tmp 39) (.tmp 41) 32 9 (.string ⟨#[]⟩) 16 rfl Try.underlying32 info9 rfl (by decide) (by omega) v2 (l.take i) s [.string s] (fun _ => True) (fun _ => False) rfl rfl rfl (fun _ hk => hk.elim) (fun _ _ => trivial) HO2.out HB2.out HB2.out.size (by rw [List.length_take]; omega) ?_; intro v3 W3 ho hb hg hat; have HO3 := Aside0.mk ho; have HB3 := Aside0.mk hb; clear ho hb hg hat) | ((with_reducible refine gate_builtin (b := .append) (xs := #[.tmp 43, .tmp 46]) rfl ?_); at_builtin; refine Kd.R_append_rows Kd.string (w0 := w) w.heap.size rfl (.tmp 43) (.tmp 46) 32 9 (.string ⟨#[]⟩) 16 rfl Try.underlying32 info9 rfl (by decide) (by omega) v3 (l.take i ++ [s]) (l.drop i) A2 (l.length - i) (c - i) (fun _ => True) (fun _ => False) rfl rfl HO3.out (HA2.out ▸ rr_drop (Kd.C_below HR.out HB3.out) (by omega) HC.out) (fun _ _ h => h) (fun _ h => h.elim) (fun _ _ => trivial) HB3.out HB3.out.size (by rw [List.length_append, List.length_take, List.length_singleton]; omega) ?_; intro v4 W4 ho hb hg hat; have HO4 := Aside0.mk ho; have HB4 := Aside0.mk hb; clear ho hb hg hat))
      go_ret
      exact ⟨_, rfl, HB4.out, .inr (by rw [HE.out]; exact HO4.out)⟩
end Go.Proofs.Ytimlfdfmgajbnaa.PA
/-
The document's locks with their row: a work's fields, read and written.
-/
namespace Go.Proofs.Ytimlfdfmgajbnaa.PA
open Go.RowKit Go.Proofs.YtimlfdfmgajbnaaW.PrintWords Go.Proofs.YtimlfdfmgajbnaaW.PrintLast Go.Proofs.YtimlfdfmgajbnaaW.PrintMore
set_option linter.unusedVariables false
set_option linter.unusedSimpArgs false
structure RG (w0 w : World) (rb g cap n : Nat) (OK : Nat → Prop) (last : Int) (L : List S79) : Prop where
  b : w.heap[rb]? = some (.cells #[.slice (some ⟨g, 0, none⟩) n cap, .int .i64 last] 30 (0, 0))
  r : Kd.R k79 79 w w0.heap.size OK (.slice (some ⟨g, 0, none⟩) n cap) L
  t : ∃ cells, w.heap[g]? = some (.cells cells 79 (0, 0))
  g : OK rb
  lo : w0.heap.size ≤ rb
  hb : Below w0.heap.size w0 w
section
variable {w0 w w' : World} {rb g cap n : Nat} {OK : Nat → Prop} {last : Int} {L : List S79}
theorem RG.len (h : RG w0 w rb g cap n OK last L) : n = L.length := (Kd.R_reads' h.r).1
theorem RG.st (h : RG w0 w rb g cap n OK last L) : RefSt w0 w rb OK last L := ⟨⟨_, h.b, h.r⟩, h.g, h.lo, h.hb⟩
theorem RG.ne (h : RG w0 w rb g cap n OK last L) : rb ≠ g := by
  obtain ⟨cells, ht⟩ := h.t
  exact blk_ne h.b ht (by decide)
theorem RG.gok (h : RG w0 w rb g cap n OK last L) : OK g := h.r.1 g rfl
theorem RG.base (h : RG w0 w rb g cap n OK last L) : w0.heap.size ≤ g := Kd.R_base h.r g rfl
theorem RG.lt (h : RG w0 w rb g cap n OK last L) : rb < w.heap.size ∧ g < w.heap.size := by
  obtain ⟨cells, ht⟩ := h.t
  exact ⟨blk_lt h.b, blk_lt ht⟩
theorem RG.below (h : RG w0 w rb g cap n OK last L) (hb : Below w.heap.size w w') : RG w0 w' rb g cap n OK last L := by
  obtain ⟨cells, ht⟩ := h.t
  exact ⟨blk_below h.b hb, Kd.R_below h.r hb, ⟨cells, blk_below ht hb⟩, h.g, h.lo, below_step h.hb hb⟩
theorem RG.rd (h : RG w0 w rb g cap n OK last L) : Rd w rb (some ⟨g, 0, none⟩) cap last L := by
  have hl := h.len
  subst hl
  exact ⟨h.b, (Kd.R_reads' h.r).2.2, (Kd.R_reads' h.r).2.1⟩
theorem RG.k0 (h : RG w0 w rb g cap n OK last L) : w.cell? ⟨rb, 0, none⟩ = some (.slice (some ⟨g, 0, none⟩) n cap) := (blk_cell h.b 0).trans rfl
theorem RG.k1 (h : RG w0 w rb g cap n OK last L) : w.cell? ⟨rb, 1, none⟩ = some (.int .i64 last) := (blk_cell h.b 1).trans rfl
theorem RG.fz (h : RG w0 w rb g cap n OK last L) (i : Nat) : w.frozen? ⟨rb, i, none⟩ = false := blk_frozen h.b i
theorem RG.fg (h : RG w0 w rb g cap n OK last L) (i : Nat) : w.frozen? ⟨g, i, none⟩ = false := by
  obtain ⟨cells, ht⟩ := h.t
  exact blk_frozen ht i
/-- A work's fields. -/
structure Fl (w : World) (base g j : Nat) (ok : Nat → Prop) (x : S79) (v1 v2 : Value) : Prop where
  f0 : w.cell? ⟨g, j * 4, none⟩ = some (.int .i64 x.f0)
  f1 : w.cell? ⟨g, j * 4 + 1, none⟩ = some v1
  f2 : w.cell? ⟨g, j * 4 + 2, none⟩ = some v2
  f3 : w.cell? ⟨g, j * 4 + 3, none⟩ = some (.int .i64 x.f3)
  r1 : Kd.R Kd.string 9 w base ok v1 x.f1
  r2 : Kd.R Kd.string 9 w base ok v2 x.f2
theorem Fl.below {base j : Nat} {ok : Nat → Prop} {x : S79} {v1 v2 : Value} (h : Fl w base g j ok x v1 v2) (hb : Below w.heap.size w w') : Fl w' base g j ok x v1 v2 :=
  ⟨pw_cell_below hb h.f0, pw_cell_below hb h.f1, pw_cell_below hb h.f2, pw_cell_below hb h.f3, Kd.R_below h.r1 hb, Kd.R_below h.r2 hb⟩
theorem RG.fl (h : RG w0 w rb g cap n OK last L) {j : Nat} (hj : j < L.length) : ∃ v1 v2, Fl w w0.heap.size g j (fun k => OK k ∧ k ≠ g) L[j] v1 v2 := by
  have hl := h.len
  obtain ⟨c, hc, hM, hcell, _⟩ := Kd.R_elem h.r z79 (j : Int) (by omega) (by omega)
  rw [Int.toNat_natCast, List.getD_eq_getElem?_getD, List.getElem?_eq_getElem hj] at hM
  rw [Int.toNat_natCast] at hcell
  obtain ⟨v1, v2, rfl, r1, r2⟩ := k79_openM hM
  exact ⟨v1, v2, hcell 0 _ rfl, hcell 1 _ rfl, hcell 2 _ rfl, hcell 3 _ rfl, r1, r2⟩
theorem RG.seg (h : RG w0 w rb g cap n OK last L) {j q : Nat} (hj : j < L.length) (hq : q < 4) {c : List Value} (hc : c.length = 4) (hcc : ∀ i u, c[i]? = some u → w.cell? ⟨g, j * 4 + i, none⟩ = some u) (u : Value) (x' : S79) (hM : k79.M w w0.heap.size (fun k => OK k ∧ k ≠ g) x' (c.take q ++ [u] ++ c.drop (q + 1))) :
    RG w0 (w.setCell ⟨g, j * 4 + q, none⟩ u) rb g cap n OK last (L.set j x') := by
  have hl := h.len
  obtain ⟨h1, h2⟩ := Kd.R_seg h.r (j : Int) (by omega) (by omega) (c := c) (seg := [u]) (j := q) hc (by rw [Int.toNat_natCast]; exact hcc) (by show q + 1 ≤ 4; omega) (x' := x') (okp := fun k => OK k ∧ k ≠ g) hM (fun k hk => hk)
  rw [Int.toNat_natCast] at h1
  obtain ⟨cells, ht⟩ := h.t
  exact ⟨blk_far h.b (p := ⟨g, j * 4 + q, none⟩) h.ne u, h1, ⟨_, blk_set ht _ u⟩, h.g, h.lo, h.hb.setCell h.base _⟩
theorem RG.set1 (h : RG w0 w rb g cap n OK last L) {j : Nat} (hj : j < L.length) {u : Value} {l' : List ByteArray} (hu : Kd.R Kd.string 9 w w0.heap.size (fun k => OK k ∧ k ≠ g) u l') :
    RG w0 (w.setCell ⟨g, j * 4 + 1, none⟩ u) rb g cap n OK last (L.set j ⟨L[j].f0, l', L[j].f2, L[j].f3⟩) := by
  obtain ⟨v1, v2, f⟩ := h.fl hj
  refine h.seg hj (q := 1) (by omega) (c := [.int .i64 L[j].f0, v1, v2, .int .i64 L[j].f3]) rfl (fun i y hy => ?_) u _ (k79_mkM _ _ _ ⟨L[j].f0, l', L[j].f2, L[j].f3⟩ hu f.r2)
  match i, hy with
  | 0, hy => cases hy; exact f.f0
  | 1, hy => cases hy; exact f.f1
  | 2, hy => cases hy; exact f.f2
  | 3, hy => cases hy; exact f.f3
theorem RG.set2 (h : RG w0 w rb g cap n OK last L) {j : Nat} (hj : j < L.length) {u : Value} {l' : List ByteArray} (hu : Kd.R Kd.string 9 w w0.heap.size (fun k => OK k ∧ k ≠ g) u l') :
    RG w0 (w.setCell ⟨g, j * 4 + 2, none⟩ u) rb g cap n OK last (L.set j ⟨L[j].f0, L[j].f1, l', L[j].f3⟩) := by
  obtain ⟨v1, v2, f⟩ := h.fl hj
  refine h.seg hj (q := 2) (by omega) (c := [.int .i64 L[j].f0, v1, v2, .int .i64 L[j].f3]) rfl (fun i y hy => ?_) u _ (k79_mkM _ _ _ ⟨L[j].f0, L[j].f1, l', L[j].f3⟩ f.r1 hu)
  match i, hy with
  | 0, hy => cases hy; exact f.f0
  | 1, hy => cases hy; exact f.f1
  | 2, hy => cases hy; exact f.f2
  | 3, hy => cases hy; exact f.f3
theorem RG.set3 (h : RG w0 w rb g cap n OK last L) {j : Nat} (hj : j < L.length) (t : Int) :
    RG w0 (w.setCell ⟨g, j * 4 + 3, none⟩ (.int .i64 t)) rb g cap n OK last (L.set j ⟨L[j].f0, L[j].f1, L[j].f2, t⟩) := by
  obtain ⟨v1, v2, f⟩ := h.fl hj
  refine h.seg hj (q := 3) (by omega) (c := [.int .i64 L[j].f0, v1, v2, .int .i64 L[j].f3]) rfl (fun i y hy => ?_) _ _ (k79_mkM _ _ _ ⟨L[j].f0, L[j].f1, L[j].f2, t⟩ f.r1 f.r2)
  match i, hy with
  | 0, hy => cases hy; exact f.f0
  | 1, hy => cases hy; exact f.f1
  | 2, hy => cases hy; exact f.f2
  | 3, hy => cases hy; exact f.f3
theorem RG.setLast (h : RG w0 w rb g cap n OK last L) (t : Int) : RG w0 (w.setCell ⟨rb, 1, none⟩ (.int .i64 t)) rb g cap n OK t L := by
  obtain ⟨cells, ht⟩ := h.t
  exact ⟨(blk_set h.b 1 _).trans rfl, Kd.R_set h.r h.b (by decide) 1 _, ⟨cells, blk_far ht (p := ⟨rb, 1, none⟩) (Ne.symm h.ne) _⟩, h.g, h.lo, h.hb.setCell h.lo _⟩
/-- A row of texts is none of the works' row. -/
theorem RG.row (h : RG w0 w rb g cap n OK last L) {base : Nat} {ok : Nat → Prop} {v : Value} {xs : List ByteArray} (hr : Kd.R Kd.string 9 w base ok v xs) (i : Nat) (u : Value) : Kd.R Kd.string 9 (w.setCell ⟨g, i, none⟩ u) base ok v xs := by
  obtain ⟨cells, ht⟩ := h.t
  exact Kd.R_set hr ht (by decide) i u
end
theorem RefSt.rg {w0 w : World} {rb : Nat} {G : Nat → Prop} {last : Int} {L : List S79} (h : RefSt w0 w rb G last L) (hp : 0 < L.length) : ∃ g cap, RG w0 w rb g cap L.length G last L := by
  obtain ⟨v, h1, h2⟩ := h.b
  obtain ⟨g, cap, e, _, _, ht⟩ := Kd.R_form h2 hp
  subst e
  exact ⟨g, cap, h1, h2, ht, h.g, h.lo, h.hb⟩
theorem set_setL {L : List S79} (hn : (L.map (fun x => x.f0)).Nodup) {j : Nat} (hj : j < L.length) (x' : S79) (h : L[j].f0 = x'.f0) : L.set j x' = setL L x' := by
  unfold setL
  refine List.ext_getElem (by simp) (fun i h1 h2 => ?_)
  rw [List.getElem_set, List.getElem_map]
  have hi : i < L.length := by simpa using h2
  by_cases e : j = i
  · subst e
    rw [if_pos rfl, if_pos h]
  · rw [if_neg e, if_neg (fun e2 => e (ids_at hn hj hi (h.trans e2.symm)))]
/-- Where a work stands that has been asked for. -/
theorem with_at (L : List S79) (id : Int) : (∃ j : Nat, idxL L id = j ∧ withL L id = L ∧ ∃ h : j < L.length, L[j] = getL L id) ∨ (idxL L id = -1 ∧ withL L id = L ++ [newW id] ∧ getL L id = newW id) := by
  rcases idx_cases L id with ⟨h1, h2⟩ | ⟨j, h1, hj, h2, h3⟩
  · right
    refine ⟨h1, ?_, ?_⟩
    · unfold withL; rw [h2]
    · unfold getL; rw [h2]; rfl
  · left
    refine ⟨j, h1, ?_, hj, ?_⟩
    · unfold withL; rw [h2]
    · unfold getL; rw [h2]; rfl
theorem keptL_any {L : List S79} {id : Int} {W : List ByteArray} {t : Int} : (L.any fun y => condK id W t y) = decide (keptL L id W t ≠ []) := by
  rw [Bool.eq_iff_iff, List.any_eq_true, decide_eq_true_eq]
  unfold keptL condK
  constructor
  · rintro ⟨y, hy, h⟩ e
    have := List.map_eq_nil_iff.1 e
    have h2 := List.filter_eq_nil_iff.1 this y hy
    exact h2 h
  · intro h
    apply Classical.byContradiction
    intro hn
    refine h ?_
    rw [List.map_eq_nil_iff]
    exact List.filter_eq_nil_iff.2 (fun y hy hc => hn ⟨y, hy, hc⟩)
theorem joinS_snoc (H W : List ByteArray) (s : ByteArray) : joinS H (W ++ [s]) = putS (joinS H W) s := by unfold joinS; rw [List.foldl_append]; rfl
theorem putS_len (l : List ByteArray) (s : ByteArray) : (putS l s).length ≤ l.length + 1 := by
  induction l with
  | nil => simp [putS]
  | cons x l ih =>
    unfold putS
    split
    · simp only [List.length_cons]; omega
    · split <;> simp only [List.length_cons] <;> omega
theorem wantsS_len (H : List ByteArray) : ∀ (ns W : List ByteArray), (wantsS H W ns).length ≤ W.length + ns.length
  | [], W => Nat.le_refl _
  | n :: ns, W => by
    show (wantsS H (if n ∈ H ∨ star ∈ H then W else putS W n) ns).length ≤ W.length + (ns.length + 1)
    have h2 := putS_len W n
    by_cases h : n ∈ H ∨ star ∈ H
    · rw [if_pos h]
      have := wantsS_len H ns W
      omega
    · rw [if_neg h]
      have := wantsS_len H ns (putS W n)
      omega
theorem joinS_len : ∀ (W H : List ByteArray), (joinS H W).length ≤ H.length + W.length
  | [], H => Nat.le_refl _
  | s :: W, H => by
    show (joinS (putS H s) W).length ≤ _
    have := joinS_len W (putS H s)
    have h2 := putS_len H s
    simp only [List.length_cons]
    omega
theorem bnd_ask {L : List S79} {B : Nat} (h : BndL L B) (last id : Int) (ns : List ByteArray) : BndL (askL L last id ns).1 (B + 1 + ns.length) := by
  have hw : (withL L id).length ≤ B + 1 ∧ ∀ x ∈ withL L id, x.f1.length + x.f2.length ≤ B := by
    rcases with_at L id with ⟨j, _, h2, _⟩ | ⟨_, h2, _⟩
    · rw [h2]; exact ⟨by have := h.1; omega, h.2⟩
    · rw [h2]
      refine ⟨by have := h.1; simp; omega, fun x hx => ?_⟩
      rcases List.mem_append.1 hx with hx | hx
      · exact h.2 x hx
      · rw [List.mem_singleton.1 hx]; exact Nat.zero_le _
  have hg := hw.2 _ (getL_mem L id)
  have h1 := wantsS_len (getL L id).f1 ns (getL L id).f2
  have key : ∀ x' : S79, x'.f1.length + x'.f2.length ≤ B + ns.length → BndL (setL (withL L id) x') (B + 1 + ns.length) := fun x' hx' => by
    refine ⟨by unfold setL; rw [List.length_map]; have := hw.1; omega, fun x hx => ?_⟩
    rcases mem_setL hx with rfl | hm
    · omega
    · have := hw.2 x hm; omega
  by_cases hk : keptL (withL L id) id (wantsS (getL L id).f1 (getL L id).f2 ns) (turnS last (getL L id)) = []
  · rw [askL_yes L last id ns rfl rfl hk]
    refine key _ ?_
    have h2 := joinS_len (wantsS (getL L id).f1 (getL L id).f2 ns) (getL L id).f1
    show (joinS (getL L id).f1 (wantsS (getL L id).f1 (getL L id).f2 ns)).length + 0 ≤ _
    omega
  · rw [askL_no L last id ns rfl rfl hk]
    refine key _ ?_
    show (getL L id).f1.length + (wantsS (getL L id).f1 (getL L id).f2 ns).length ≤ _
    omega
theorem bnd_free {L : List S79} {B : Nat} (h : BndL L B) (id : Int) : BndL (freeL L id) B :=
  ⟨Nat.le_trans (List.length_filter_le _ _) h.1, fun x hx => h.2 x (List.mem_filter.1 hx).1⟩
end Go.Proofs.Ytimlfdfmgajbnaa.PA
/-
The walk of the law LockOne: it returns true, whatever comes in.
-/
namespace Go.Proofs.Ytimlfdfmgajbnaa.PA
open Go.RowKit Go.Proofs.YtimlfdfmgajbnaaW.PrintWords Go.Proofs.YtimlfdfmgajbnaaW.PrintLast Go.Proofs.YtimlfdfmgajbnaaW.PrintMore
set_option linter.unusedVariables false
set_option linter.unusedSimpArgs false
theorem pick_ev (a b : Int) (hb : 1 ≤ b) (hb2 : b ≤ 100) : ∃ r, storemankit_Pick.f a b = some r ∧ 0 ≤ r ∧ r < b := by
  have h1 := Int.tmod_lt_of_pos a (show 0 < b by omega)
  have h2 : -b < Int.tmod a b := Int.lt_tmod_of_pos a (show 0 < b by omega)
  unfold storemankit_Pick.f
  rw [if_neg (by omega), if_neg (by omega)]
  by_cases h : Int.tmod a b < 0
  · rw [if_pos h, wrapI (by omega) (by omega)]; exact ⟨_, rfl, by omega, by omega⟩
  · rw [if_neg h]; exact ⟨_, rfl, by omega, h1⟩
theorem C_chg {w w' : World} {F : Nat → Prop} {A : Option Addr} {n : Nat} {xs : List ByteArray} (h : Kd.C Kd.string w A n xs) (hc : Chg F w w') (hA : ∀ ad, A = some ad → ¬ F ad.block) : Kd.C Kd.string w' A n xs :=
  ⟨h.1, h.2.1, fun hn => by
    obtain ⟨ad, e, hq⟩ := h.2.2 hn
    refine ⟨ad, e, fun j p hj => ?_⟩
    obtain ⟨c, hs, hr, hcell⟩ := hq j p hj
    refine ⟨c, hs, hr, fun i u hu => ?_⟩
    have h1 := hcell i u hu
    have hlt := World.block_lt_of_cell? w _ h1
    unfold World.cell? at h1 ⊢
    have hbk : (ad.add (j * Kd.string.sz + i)).block = ad.block := by unfold Addr.add; split <;> rfl
    rw [hc.block _ hlt (by rw [hbk]; exact hA ad e)]
    exact h1⟩
theorem C_lt {w : World} {A : Option Addr} {n : Nat} {xs : List ByteArray} (h : Kd.C Kd.string w A n xs) (hn : 0 < n) : ∀ ad, A = some ad → ad.block < w.heap.size := fun ad e => by
  obtain ⟨ad', e', hx⟩ := Kd.at_string h 0 (by omega) (by omega)
  rw [e] at e'
  injection e' with e'
  subst e'
  have h1 := World.block_lt_of_cell? w _ hx
  have hbk : (ad.add (0 : Int).toNat).block = ad.block := by unfold Addr.add; split <;> rfl
  rwa [hbk] at h1
theorem sameBig_l0 (l : List ByteArray) (hl : l.length ≤ 9223372036854775807) : ∀ n i, i + n = l.length → ∀ k, n < k → storemankit_SameTexts.l0 k l l (i : Int) = some true := by
  intro n
  induction n with
  | zero =>
    intro i hi k hk
    obtain ⟨k, rfl⟩ : ∃ j, k = j + 1 := ⟨k - 1, by omega⟩
    simp only [storemankit_SameTexts.l0]
    rw [if_neg (by omega)]
  | succ n ih =>
    intro i hi k hk
    obtain ⟨k, rfl⟩ : ∃ j, k = j + 1 := ⟨k - 1, by omega⟩
    simp only [storemankit_SameTexts.l0]
    rw [if_pos (by omega), if_pos (by omega), if_pos (by omega)]
    simp only [if_true]
    rw [wrapI (by omega) (by omega)]
    exact ih (i + 1) (by omega) k (by omega)
theorem sameBig (l : List ByteArray) (hl : l.length ≤ 9223372036854775807) : storemankit_SameTexts.f (l.length + 1) l l = some true := by
  unfold storemankit_SameTexts.f
  rw [if_pos rfl]
  exact sameBig_l0 l hl l.length 0 (by omega) _ (by omega)
/-- The cells of a step. -/
structure Ps (w : World) (ad : Addr) (i : Int) (x : S34) (A2 : Option Addr) (c2 : Nat) : Prop where
  h0 : w.cell? (ad.add (i.toNat * 3)) = some (.int .i64 x.f0)
  h1 : w.cell? ⟨(ad.add (i.toNat * 3)).block, (ad.add (i.toNat * 3)).off + 1, none⟩ = some (.int .i64 x.f1)
  h2 : w.cell? ⟨(ad.add (i.toNat * 3)).block, (ad.add (i.toNat * 3)).off + 2, none⟩ = some (.slice A2 x.f2.length c2)
  hc : x.f2.length ≤ c2
  hC : Kd.C Kd.string w A2 x.f2.length x.f2
theorem Ps.below {w w' : World} {ad : Addr} {i : Int} {x : S34} {A2 : Option Addr} {c2 : Nat} (h : Ps w ad i x A2 c2) (hb : Below w.heap.size w w') : Ps w' ad i x A2 c2 := ⟨cell_keep h.h0 hb, cell_keep h.h1 hb, cell_keep h.h2 hb, h.hc, Kd.C_below h.hC hb⟩
/-- The locks behind so many steps. -/
def SI (w wr : World) (lb : Nat) (m : List S34) (i : Int) : Prop := ∃ last L B F, S1 w wr lb last L B F ∧ Excl L ∧ (B : Int) ≤ i + namesIn (m.take i.toNat)
def goodS (x : S34) : Prop := (Lit.int .i64 x.f0).wf = true ∧ (Lit.int .i64 x.f1).wf = true ∧ (List.length x.f2 * 16 ≤ 140737488351232 ∧ ∀ y ∈ x.f2, y.size ≤ 140737488351232)
theorem SI.B {w wr : World} {lb : Nat} {m : List S34} {i : Int} {B : Nat} (hB : (B : Int) ≤ i + namesIn (m.take i.toNat)) (hn : namesIn m ≤ 2000) (hi : i ≤ 60) : B ≤ 2100 := by
  have : namesIn (m.take i.toNat) ≤ namesIn m := by
    unfold namesIn
    conv => rhs; rw [← List.take_append_drop i.toNat m]
    rw [List.map_append, List.sum_append]
    omega
  omega
theorem names_step {m : List S34} {i : Int} (h0 : 0 ≤ i) (h1 : i < m.length) : namesIn (m.take (i + 1).toNat) = namesIn (m.take i.toNat) + (rd_T34 m i).f2.length := by
  have e : (i + 1).toNat = i.toNat + 1 := by omega
  have hl : i.toNat < m.length := by omega
  have er : rd_T34 m i = m[i.toNat] := by have := rd34 m i.toNat hl; rwa [Int.toNat_of_nonneg h0] at this
  rw [e, er, List.take_succ_eq_append_getElem hl]
  unfold namesIn
  rw [List.map_append, List.sum_append]
  simp
end Go.Proofs.Ytimlfdfmgajbnaa.PA
/-
The document's locks, as they are turned: Ask.
-/
namespace Go.Proofs.Ytimlfdfmgajbnaa.PA
open Go.RowKit Go.Proofs.YtimlfdfmgajbnaaW.PrintWords Go.Proofs.YtimlfdfmgajbnaaW.PrintLast Go.Proofs.YtimlfdfmgajbnaaW.PrintMore
set_option linter.unusedVariables false
set_option linter.unusedSimpArgs false
theorem intq {a b : Int} (h : a = b) : Value.int .i64 a = .int .i64 b := by rw [h]
theorem rhas_calls (A : Option Addr) (c : Nat) (l : List ByteArray) (s : ByteArray) (w : World) (hr : Kd.C Kd.string w A l.length l) (hc : l.length ≤ c) (b : Bool) (hb : b = decide (s ∈ l)) :
    Calls Try.prog 44 #[.slice A l.length c, .string s] w fun e w' => e = .returned (.bool b) ∧ Below w.heap.size w w' := by
  have hK := rhas_ev l s (Kd.C_max hr) (l.length + 1) (by omega)
  rw [← hb] at hK
  exact (storemanref24_has.calls _ A c l s b w hr hc hK).mono fun e w' ⟨h1, h2⟩ => ⟨h1, h2.below⟩
/-- put, for rows of one's own. -/
theorem rputR_calls {w0 w : World} {ok : Nat → Prop} {v : Value} {l : List ByteArray} (s : ByteArray) (hb : Below w0.heap.size w0 w) (h : Kd.R Kd.string 9 w w0.heap.size ok v l) (hok : ∀ k, w.heap.size ≤ k → ok k) (hl : l.length ≤ 1000000) :
    Calls Try.prog 45 #[v, .string s] w fun e w' => ∃ v', e = .returned v' ∧ Kd.R Kd.string 9 w' w0.heap.size ok v' (putS l s) ∧ Below w.heap.size w w' := by
  obtain ⟨A, c, e, hc, hC⟩ := Kd.R_reads h
  subst e
  refine (rput_calls A c l s w hC hc hl).mono fun e w' ⟨v', he, hb', hr⟩ => ⟨v', he, ?_, hb'⟩
  rcases hr with ⟨e1, e2⟩ | hr
  · rw [e1, e2]; exact Kd.R_below h hb'
  · exact Kd.R_lower (Kd.R_mono (Kd.R_bound hr) (fun k hk => hok k hk.2.1)) hb.size
theorem set_at {L : List S79} {j : Nat} (hj : j < L.length) (a : S79) : ∃ h : j < (L.set j a).length, (L.set j a)[j] = a := ⟨by rw [List.length_set]; exact hj, List.getElem_set_self _⟩
theorem rask_no {w0 w : World} {rb g cap n : Nat} {OK : Nat → Prop} {last : Int} {L : List S79} (h : RG w0 w rb g cap n OK last L) (hn : (L.map (fun x => x.f0)).Nodup) {j : Nat} (hj : j < L.length) {x : S79} (hx : L[j] = x) {id : Int} (hid : x.f0 = id) {v : Value} {W : List ByteArray} (hW : Kd.R Kd.string 9 w w0.heap.size (fun k => OK k ∧ k ≠ g) v W) (t m : Int) :
    RefSt w0 (((w.setCell ⟨g, j * 4 + 2, none⟩ v).setCell ⟨g, j * 4 + 3, none⟩ (.int .i64 t)).setCell ⟨rb, 1, none⟩ (.int .i64 m)) rb OK m (setL L ⟨id, x.f1, W, t⟩) := by
  have h1 := h.set2 hj hW
  rw [hx] at h1
  obtain ⟨hj2, e2⟩ := set_at hj ⟨x.f0, x.f1, W, x.f3⟩
  have h2 := h1.set3 hj2 t
  rw [e2, List.set_set] at h2
  have h3 := (h2.setLast m).st
  rwa [set_setL hn hj _ (by rw [hx]), hid] at h3
theorem rask_yes {w0 w : World} {rb g cap n : Nat} {OK : Nat → Prop} {last : Int} {L : List S79} {id : Int} {J O : List ByteArray} {o : Int} {j : Nat} (hj : j < L.length) (h : RG w0 w rb g cap n OK last (L.set j ⟨id, J, O, o⟩)) (hn : (L.map (fun x => x.f0)).Nodup) (hid : L[j].f0 = id) :
    RefSt w0 ((w.setCell ⟨g, j * 4 + 2, none⟩ (.slice none 0 0)).setCell ⟨g, j * 4 + 3, none⟩ (.int .i64 0)) rb OK last (setL L ⟨id, J, [], 0⟩) := by
  obtain ⟨hj1, e1⟩ := set_at hj ⟨id, J, O, o⟩
  have h1 := h.set2 hj1 (Kd.R_nil Kd.string 9 w w0.heap.size (fun k => OK k ∧ k ≠ g))
  rw [e1, List.set_set] at h1
  obtain ⟨hj2, e2⟩ := set_at hj ⟨id, J, [], o⟩
  have h2 := (h1.set3 hj2 0).st
  rw [e2, List.set_set] at h2
  rwa [set_setL hn hj _ hid] at h2
theorem chg_g {g rb : Nat} (w : World) (a : Nat) (u : Value) : Chg (fun k => k = g ∨ k = rb) w (w.setCell ⟨g, a, none⟩ u) := (Chg.setCell w g a u).mono (fun _ _ e => .inl e)
theorem chg_r {g rb : Nat} (w : World) (a : Nat) (u : Value) : Chg (fun k => k = g ∨ k = rb) w (w.setCell ⟨rb, a, none⟩ u) := (Chg.setCell w rb a u).mono (fun _ _ e => .inr e)
abbrev OKD (G : Nat → Prop) (w : World) (k : Nat) : Prop := G k ∨ w.heap.size ≤ k
theorem set_same {L : List S79} {j : Nat} (hj : j < L.length) {x : S79} (h : L[j] = x) {id : Int} (hid : x.f0 = id) : L.set j ⟨id, x.f1, x.f2, x.f3⟩ = L := by
  subst hid
  have : (⟨x.f0, x.f1, x.f2, x.f3⟩ : S79) = L[j] := h.symm
  rw [this, List.set_getElem_self]
def AskRPost (w0 : World) (rb : Nat) (G : Nat → Prop) (L : List S79) (last id : Int) (ns : List ByteArray) (w : World) (e : Ending) (w' : World) : Prop := e = .returned (.bool (askL L last id ns).2.2) ∧ RefSt w0 w' rb (fun k => G k ∨ w.heap.size ≤ k) (askL L last id ns).2.1 (askL L last id ns).1 ∧ Chg G w w'
attribute [local go_sem] max2_int max_two
set_option maxHeartbeats 16000000 in
set_option maxRecDepth 100000 in
theorem rask_calls (w0 : World) (rb : Nat) (G : Nat → Prop) (last : Int) (L : List S79) (id : Int) (A2 : Option Addr) (c2 : Nat) (ns : List ByteArray) (B : Nat) (w : World) (h : RefSt w0 w rb G last L) (hn : (L.map (fun x => x.f0)).Nodup) (hB : BndL L B) (hbn : B + ns.length ≤ 100000) (hla : 0 ≤ last ∧ last ≤ 1000000)
    (hr : Kd.C Kd.string w A2 ns.length ns) (hc0 : ns.length ≤ c2) (hfar : 0 < ns.length → ∀ ad, A2 = some ad → ¬ G ad.block) :
    Calls Try.prog 25 #[.pointer (some ⟨rb, 0, none⟩), .int .i64 id, .slice A2 ns.length c2] w (AskRPost w0 rb G L last id ns w) := by
  obtain ⟨L1, hL1⟩ : ∃ L1, L1 = withL L id := ⟨_, rfl⟩
  obtain ⟨x, hx⟩ : ∃ x, x = getL L id := ⟨_, rfl⟩
  have hs := h.bound
  obtain ⟨v, hbk, hR⟩ := hs.b
  obtain ⟨A, c, ev, hlc, hCC⟩ := Kd.R_reads hR
  subst ev
  have hrd : Rd w rb A c last L := ⟨hbk, hCC, hlc⟩
  have k0 := hrd.k0
  have hm := Kd.C_max hrd.r
  have HS := Aside0.mk hs; have H := Aside0.mk hrd; have HR := Aside0.mk hR; have HBK := Aside0.mk hbk; have HG := Aside0.mk h.g; have HLO := Aside0.mk h.lo; have HB0 := Aside0.mk h.hb; have HND := Aside0.mk hn; have HBL := Aside0.mk hB; have HBN := Aside0.mk hbn; have HLA := Aside0.mk hla; have HNS := Aside0.mk hr; have HC0 := Aside0.mk hc0; have HFAR := Aside0.mk hfar; have HL1 := Aside0.mk hL1; have HX := Aside0.mk hx
  have HN1 := Aside0.mk (show (L1.map (fun x => x.f0)).Nodup by rw [hL1]; exact withL_nodup hn id)
  have HXI := Aside0.mk (show x.f0 = id by rw [hx]; exact getL_id L id)
  clear h hs hn hB hbn hla hr hc0 hfar hL1 hx hR hbk hrd hCC hlc
  go_enter Try.func25, Try.ntmps25
  go_upto_if 19 with (first | (go_at_call 42; (with_reducible refine (find_calls rb A c last L id w H.out).mono ?_); rintro e w1 ⟨rfl, rfl⟩))
  go_cut [7] (fun v7 wc => ∃ j : Nat, v7 = .int .i64 j ∧ Aside0 (RefSt w0 wc rb (fun k => G k ∨ w.heap.size ≤ k) last L1) ∧ Aside0 (∃ h : j < L1.length, L1[j] = x) ∧ Aside0 (Chg G w wc))
  case first =>
    rcases with_at L id with ⟨j, h1, h2, hj, h3⟩ | ⟨h1, h2, h3⟩
    · have HSX := Aside0.mk (show RefSt w0 w rb (fun k => G k ∨ w.heap.size ≤ k) last L1 by rw [HL1.out, h2]; exact HS.out.mono (fun k hk => .inl hk.1))
      have HJ := Aside0.mk (show ∃ h : j < L1.length, L1[j] = x by have e := HL1.out; rw [h2] at e; subst e; exact ⟨hj, by rw [h3, HX.out]⟩)
      rw [h1]
      have hd0 : decide ((j : Int) < 0) = false := decide_eq_false (by omega)
      clear h1 h2 h3
      go_wp2
      go_meet
      case rel => exact ⟨j, rfl, HSX, HJ, ⟨Chg.refl _ _⟩⟩
    · rw [h1]
      have HLL := Aside0.mk (show L ++ [newW id] = L1 by rw [HL1.out, h2])
      have HLN := Aside0.mk (show L1.length = L.length + 1 by rw [← HLL.out]; simp)
      have HJ := Aside0.mk (show ∃ h : L.length < L1.length, L1[L.length] = x by refine ⟨by have := HLN.out; omega, ?_⟩; rw [HX.out, h3]; have e := HLL.out; subst e; simp)
      have hlb : (L1.length : Int) ≤ 1000000 := by have h4 := HLN.out; have := HBL.out.1; have := HBN.out; omega
      have hlp : 1 ≤ (L1.length : Int) := by have := HLN.out; omega
      clear h1 h2 h3
      go_wp2_with (first | ((with_reducible refine gate_builtin (b := .append) (xs := #[.tmp 24, .tmp 27]) rfl ?_); at_builtin; refine Kd.R_append k79 (w0 := w0) w0.heap.size rfl (.tmp 24) (.tmp 27) 28 79 zero79 64 rfl Try.underlying28 info79 rfl (by decide) (by decide) (.slice A L.length c) L (newW id) [.int .i64 id, .slice none 0 0, .slice none 0 0, .int .i64 0] (fun k => G k ∨ w.heap.size ≤ k) (fun _ => False) rfl rfl (k79_mkM _ _ _ (newW id) (Kd.R_nil _ _ _ _ _) (Kd.R_nil _ _ _ _ _)) (fun _ hk => hk.elim) (fun k hk => .inr hk) (Kd.R_mono HR.out (fun k hk => .inl hk.1)) HB0.out HB0.out.size (by have := HBL.out.1; have := HBN.out; omega) ?_; intro v1 W1 ho hb hg hat; rw [HLL.out] at ho; obtain ⟨A7, c7, e7⟩ := Kd.R_slice ho; subst e7; have HO1 := Aside0.mk ho; have HB1 := Aside0.mk hb; have HBK1 := Aside0.mk (blk_grown HBK.out hg (Kd.R_ne HR.out HBK.out (by decide))); have HC1 := Aside0.mk (Chg.ofGrown (F := G) hg (fun k e => (HR.out.1 k e.symm).1)); have kc := (blk_cell HBK1.out 0).trans rfl; have kf := blk_frozen HBK1.out 0; clear ho hb hg hat k0))
      go_meet
      case rel => exact ⟨L.length, intq (by have := HLN.out; omega), ⟨⟨⟨_, (blk_set HBK1.out 0 _).trans rfl, Kd.R_set HO1.out HBK1.out (by decide) 0 _⟩, .inl HG.out, HLO.out, HB1.out.setCell HLO.out _⟩⟩, HJ, ⟨HC1.out.trans (Chg.setCell W1 rb 0 _) (fun k _ e => by rw [e]; exact HG.out)⟩⟩
  case rest =>
    obtain ⟨j, rfl, HS1, HJ, HC1⟩ := hcut
    obtain ⟨hj, hjx⟩ := HJ.out
    obtain ⟨g, cap, hrg⟩ := HS1.out.rg (by omega)
    obtain ⟨v1, v2, hfl⟩ := hrg.fl hj
    rw [hjx] at hfl
    obtain ⟨A3, c3, e3⟩ := Kd.R_slice hfl.r1
    subst e3
    obtain ⟨A4, c4, e4⟩ := Kd.R_slice hfl.r2
    subst e4
    have HRG := Aside0.mk hrg; have HFL := Aside0.mk hfl; have HJX := Aside0.mk hjx
    clear k0
    have k0 := hrg.k0; have k1 := hrg.k1; have f1 := hfl.f1; have f2 := hfl.f2; have f3 := hfl.f3
    have hlt : (j : Int) < (L1.length : Int) := by omega
    have hd0 : decide (0 ≤ (j : Int)) = true := decide_eq_true (by omega)
    clear hrg hfl hjx HS HS1 HR HBK H
    go_wp2
    have HBX := Aside0.mk (show x.f1.length + x.f2.length ≤ B by rw [HX.out]; rcases getL_cases L id with hm | e; exact HBL.out.2 _ hm; rw [e]; exact Nat.zero_le _)
    have HSZ := Aside0.mk HC1.out.size
    go_loopw [9, 10] (fun v9 v10 wr => ∃ i : Nat, i ≤ ns.length ∧ v10 = .int .i64 i ∧ Aside0 (Kd.R Kd.string 9 wr w0.heap.size (fun k => ((G k ∨ w.heap.size ≤ k) ∧ k ≠ g)) v9 (wantsS x.f1 x.f2 (ns.take i))) ∧ Aside0 (Below wc.heap.size wc wr)) (fun _ v10 _ => ns.length - (intOf v10).toNat)
    case atStart => exact ⟨0, Nat.zero_le _, rfl, ⟨HFL.out.r2⟩, ⟨Below.refl _ _⟩⟩
    case round =>
      clear k0 k1 f1 f2 f3
      obtain ⟨i, hi, rfl, HO, HB⟩ := hrel
      have HF := Aside0.mk (HFL.out.below HB.out)
      have f1 := HF.out.f1
      have hln : ns.length ≤ 100000 := by have := HBN.out; omega
      by_cases hl : i < ns.length
      · have hd : decide ((i : Int) < (ns.length : Int)) = true := decide_eq_true (by omega)
        have hd3 : decide (0 ≤ (i : Int)) = true := decide_eq_true (by omega)
        have hN := Kd.C_below (C_chg HNS.out HC1.out (fun ad e => HFAR.out (by omega) ad e)) HB.out
        obtain ⟨ad, e0, y⟩ := Kd.at_string hN (i : Int) (by omega) (by omega)
        cases e0
        rw [rdS ns i hl, Int.toNat_natCast] at y
        obtain ⟨s, hse⟩ : ∃ s, s = ns[i] := ⟨_, rfl⟩
        rw [← hse] at y
        have HTK := Aside0.mk (show wantsS x.f1 x.f2 (ns.take (i + 1)) = if s ∈ x.f1 ∨ star ∈ x.f1 then wantsS x.f1 x.f2 (ns.take i) else putS (wantsS x.f1 x.f2 (ns.take i)) s by rw [List.take_succ_eq_append_getElem hl, wantsS_snoc, ← hse])
        have HWL := Aside0.mk (show (wantsS x.f1 x.f2 (ns.take i)).length ≤ 1000000 by have h1 := wantsS_len x.f1 (ns.take i) x.f2; have h2 := HBX.out; have h3 := HBN.out; rw [List.length_take] at h1; omega)
        clear hse hN
        by_cases hm1 : s ∈ x.f1
        · have HM1 := Aside0.mk (decide_eq_true hm1).symm
          have HTN := Aside0.mk (show wantsS x.f1 x.f2 (ns.take i) = wantsS x.f1 x.f2 (ns.take (i + 1)) by rw [HTK.out, if_pos (.inl hm1)])
          clear hm1 HTK
          rw [HTN.out] at HO
          go_wp2
          refine start_ (n := 18) (S := (fun w' => w'.cell? ⟨g, j * 4 + 1, none⟩ = some (.slice A3 x.f1.length c3) ∧ w'.cell? (ad.add i) = some (.string s))) (ds := []) (Sh.m 0 18) (by kernel_rfl) rfl rfl ⟨f1, y⟩ (fun hHeld => ?_)
          (have hb := below_drew1 (Below.refl wr.heap.size wr); have nn_ := Aside0.mk (Kd.R_below HO.out hb); clear HO; have HO := nn_; clear nn_; have nn_ := Aside0.mk (below_step HB.out hb); clear HB; have HB := nn_; clear nn_; have nn_ := Aside0.mk (HF.out.below hb); clear HF; have HF := nn_; clear nn_; clear f1 y hb; generalize wr.drew = W1 at HO HB HF hHeld ⊢)
          refine pure_ (i := 0) (N := some 53) (v := ?_) (a' := ?_) (Sh.m 1 17) rfl rfl (by kernel_rfl) (fun _ _ _ h => h) (Or.inl ⟨by rfl, ?_⟩) ?_ ?_
          rotate_left
          · intro w'
            go_simp
            with_reducible rfl
          rotate_left
          · simp only [Act.put, List.setIfInBounds_toArray, List.set_cons_zero, List.set_cons_succ, i64_w, i32_w]
            rfl
          refine pure_ (i := 1) (N := some 54) (v := ?_) (a' := ?_) (Sh.m 2 16) rfl rfl (by kernel_rfl) (fun _ _ _ h => h) (Or.inl ⟨by rfl, ?_⟩) ?_ ?_
          rotate_left
          · intro w'
            go_simp
            with_reducible rfl
          rotate_left
          · simp only [Act.put, List.setIfInBounds_toArray, List.set_cons_zero, List.set_cons_succ, i64_w, i32_w]
            rfl
          refine pure_ (i := 2) (N := some 55) (v := ?_) (a' := ?_) (Sh.m 3 15) rfl rfl (by kernel_rfl) (fun _ _ _ h => h) (Or.inl ⟨by rfl, ?_⟩) ?_ ?_
          rotate_left
          · intro w'
            go_simp
            with_reducible rfl
          rotate_left
          · simp only [Act.put, List.setIfInBounds_toArray, List.set_cons_zero, List.set_cons_succ, i64_w, i32_w]
            rfl
          refine take_ (i := 3) (N := some 56) (v := ?_) (a' := ?_) (Sh.m 4 14) rfl rfl (by kernel_rfl) (fun _ _ _ h => h) (Or.inl ⟨by rfl, ?_⟩) hHeld ?_ ?_
          rotate_left
          · rintro w' ⟨s0, s1⟩
            go_simp
            with_reducible rfl
          rotate_left
          · simp only [Act.put, List.setIfInBounds_toArray, List.set_cons_zero, List.set_cons_succ, i64_w, i32_w]
            rfl
          refine pure_ (i := 4) (N := some 57) (v := ?_) (a' := ?_) (Sh.m 5 13) rfl rfl (by kernel_rfl) (fun _ _ _ h => h) (Or.inl ⟨by rfl, ?_⟩) ?_ ?_
          rotate_left
          · intro w'
            go_simp
            with_reducible rfl
          rotate_left
          · simp only [Act.put, List.setIfInBounds_toArray, List.set_cons_zero, List.set_cons_succ, i64_w, i32_w]
            rfl
          refine pure_ (i := 5) (N := some 58) (v := ?_) (a' := ?_) (Sh.m 6 12) rfl rfl (by kernel_rfl) (fun _ _ _ h => h) (Or.inl ⟨by rfl, ?_⟩) ?_ ?_
          rotate_left
          · intro w'
            go_simp
            with_reducible rfl
          rotate_left
          · simp only [Act.put, List.setIfInBounds_toArray, List.set_cons_zero, List.set_cons_succ, i64_w, i32_w]
            rfl
          refine pure_ (i := 6) (N := some 59) (v := ?_) (a' := ?_) (Sh.m 7 11) rfl rfl (by kernel_rfl) (fun _ _ _ h => h) (Or.inl ⟨by rfl, ?_⟩) ?_ ?_
          rotate_left
          · intro w'
            go_simp
            with_reducible rfl
          rotate_left
          · simp only [Act.put, List.setIfInBounds_toArray, List.set_cons_zero, List.set_cons_succ, i64_w, i32_w]
            rfl
          refine take_ (i := 7) (N := some 60) (v := ?_) (a' := ?_) (Sh.m 8 10) rfl rfl (by kernel_rfl) (fun _ _ _ h => h) (Or.inl ⟨by rfl, ?_⟩) hHeld ?_ ?_
          rotate_left
          · rintro w' ⟨s0, s1⟩
            go_simp
            with_reducible rfl
          rotate_left
          · simp only [Act.put, List.setIfInBounds_toArray, List.set_cons_zero, List.set_cons_succ, i64_w, i32_w]
            rfl
          refine one_ (i := 8) (N := some 61) (Sh.m 9 9) rfl rfl (by kernel_rfl) (by decide) (fun K hK => ?_)
          refine goes_ Try.func44 (by kernel_rfl) rfl #[.slice A3 x.f1.length c3, .string s] (by rfl) rfl rfl (by (try simp only [List.map_toArray, List.map_cons, List.map_nil]); first | done | rfl) ?_
          with_reducible refine (rhas_calls A3 c3 x.f1 s _ (Kd.R_reads' HF.out.r1).2.2 (Kd.R_reads' HF.out.r1).2.1 true HM1.out).mono ?_
          rintro e W2 ⟨rfl, hb⟩
          refine ⟨_, rfl, ?_⟩
          obtain ⟨f1, y⟩ := hHeld
          have nn_ := Aside0.mk (Kd.R_below HO.out hb); clear HO; have HO := nn_; clear nn_; have nn_ := Aside0.mk (below_step HB.out hb); clear HB; have HB := nn_; clear nn_; have nn_ := Aside0.mk (HF.out.below hb); clear HF; have HF := nn_; clear nn_
          refine hK.out _ _ ⟨pw_cell_below hb f1, pw_cell_below hb y⟩ (fun hHeld => ?_)
          clear hK K
          refine norm_ (a' := ?_) ?_ ?_
          rotate_left
          · show Act.put _ (some 61) _ = _
            simp only [Act.put, List.setIfInBounds_toArray, List.set_cons_zero, List.set_cons_succ, i64_w, i32_w]
            rfl
          refine pure_ (i := 9) (N := some 62) (v := ?_) (a' := ?_) (Sh.m 10 8) rfl rfl (by kernel_rfl) (fun _ _ _ h => h) (Or.inl ⟨by rfl, ?_⟩) ?_ ?_
          rotate_left
          · intro w'
            go_simp
            with_reducible rfl
          rotate_left
          · simp only [Act.put, List.setIfInBounds_toArray, List.set_cons_zero, List.set_cons_succ, i64_w, i32_w]
            rfl
          refine pure_ (i := 10) (N := some 63) (v := ?_) (a' := ?_) (Sh.m 11 7) rfl rfl (by kernel_rfl) (fun _ _ _ h => h) (Or.inl ⟨by rfl, ?_⟩) ?_ ?_
          rotate_left
          · intro w'
            go_simp
            with_reducible rfl
          rotate_left
          · simp only [Act.put, List.setIfInBounds_toArray, List.set_cons_zero, List.set_cons_succ, i64_w, i32_w]
            rfl
          refine pure_ (i := 11) (N := some 64) (v := undef) (a' := ?_) (Sh.m 12 6) rfl rfl (by kernel_rfl) (fun _ _ _ h => h) (Or.inr ⟨by rfl, rfl⟩) ?_ ?_
          rotate_left
          · simp only [Act.put, List.setIfInBounds_toArray, List.set_cons_zero, List.set_cons_succ, i64_w, i32_w]
            rfl
          refine pure_ (i := 12) (N := some 65) (v := undef) (a' := ?_) (Sh.m 13 5) rfl rfl (by kernel_rfl) (fun _ _ _ h => h) (Or.inr ⟨by rfl, rfl⟩) ?_ ?_
          rotate_left
          · simp only [Act.put, List.setIfInBounds_toArray, List.set_cons_zero, List.set_cons_succ, i64_w, i32_w]
            rfl
          refine pure_ (i := 13) (N := some 66) (v := undef) (a' := ?_) (Sh.m 14 4) rfl rfl (by kernel_rfl) (fun _ _ _ h => h) (Or.inr ⟨by rfl, rfl⟩) ?_ ?_
          rotate_left
          · simp only [Act.put, List.setIfInBounds_toArray, List.set_cons_zero, List.set_cons_succ, i64_w, i32_w]
            rfl
          refine pure_ (i := 14) (N := some 67) (v := undef) (a' := ?_) (Sh.m 15 3) rfl rfl (by kernel_rfl) (fun _ _ _ h => h) (Or.inr ⟨by rfl, rfl⟩) ?_ ?_
          rotate_left
          · simp only [Act.put, List.setIfInBounds_toArray, List.set_cons_zero, List.set_cons_succ, i64_w, i32_w]
            rfl
          refine pure_ (i := 15) (N := some 68) (v := undef) (a' := ?_) (Sh.m 16 2) rfl rfl (by kernel_rfl) (fun _ _ _ h => h) (Or.inr ⟨by rfl, rfl⟩) ?_ ?_
          rotate_left
          · simp only [Act.put, List.setIfInBounds_toArray, List.set_cons_zero, List.set_cons_succ, i64_w, i32_w]
            rfl
          refine pure_ (i := 16) (N := some 69) (v := undef) (a' := ?_) (Sh.m 17 1) rfl rfl (by kernel_rfl) (fun _ _ _ h => h) (Or.inr ⟨by rfl, rfl⟩) ?_ ?_
          rotate_left
          · simp only [Act.put, List.setIfInBounds_toArray, List.set_cons_zero, List.set_cons_succ, i64_w, i32_w]
            rfl
          refine pure_ (i := 17) (N := some 70) (v := ?_) (a' := ?_) (Sh.m 18 0) rfl rfl (by kernel_rfl) (fun _ _ _ h => h) (Or.inl ⟨by rfl, ?_⟩) ?_ ?_
          rotate_left
          · intro w'
            go_simp
            with_reducible rfl
          rotate_left
          · simp only [Act.put, List.setIfInBounds_toArray, List.set_cons_zero, List.set_cons_succ, i64_w, i32_w]
            rfl
          refine done_ (by kernel_rfl) ?_
          go_wp2
          go_roundw
          case rel => exact ⟨i + 1, by omega, by first | rfl | go_num, HO, HB⟩
          case measure => simp [intOf]; omega
        have HM1 := Aside0.mk (decide_eq_false hm1).symm
        by_cases hm2 : star ∈ x.f1
        · have HM2 := Aside0.mk (decide_eq_true hm2).symm
          have HTN := Aside0.mk (show wantsS x.f1 x.f2 (ns.take i) = wantsS x.f1 x.f2 (ns.take (i + 1)) by rw [HTK.out, if_pos (.inr hm2)])
          clear hm1 hm2 HTK
          rw [HTN.out] at HO
          go_wp2
          refine start_ (n := 18) (S := (fun w' => w'.cell? ⟨g, j * 4 + 1, none⟩ = some (.slice A3 x.f1.length c3) ∧ w'.cell? (ad.add i) = some (.string s))) (ds := []) (Sh.m 0 18) (by kernel_rfl) rfl rfl ⟨f1, y⟩ (fun hHeld => ?_)
          (have hb := below_drew1 (Below.refl wr.heap.size wr); have nn_ := Aside0.mk (Kd.R_below HO.out hb); clear HO; have HO := nn_; clear nn_; have nn_ := Aside0.mk (below_step HB.out hb); clear HB; have HB := nn_; clear nn_; have nn_ := Aside0.mk (HF.out.below hb); clear HF; have HF := nn_; clear nn_; clear f1 y hb; generalize wr.drew = W1 at HO HB HF hHeld ⊢)
          refine pure_ (i := 0) (N := some 53) (v := ?_) (a' := ?_) (Sh.m 1 17) rfl rfl (by kernel_rfl) (fun _ _ _ h => h) (Or.inl ⟨by rfl, ?_⟩) ?_ ?_
          rotate_left
          · intro w'
            go_simp
            with_reducible rfl
          rotate_left
          · simp only [Act.put, List.setIfInBounds_toArray, List.set_cons_zero, List.set_cons_succ, i64_w, i32_w]
            rfl
          refine pure_ (i := 1) (N := some 54) (v := ?_) (a' := ?_) (Sh.m 2 16) rfl rfl (by kernel_rfl) (fun _ _ _ h => h) (Or.inl ⟨by rfl, ?_⟩) ?_ ?_
          rotate_left
          · intro w'
            go_simp
            with_reducible rfl
          rotate_left
          · simp only [Act.put, List.setIfInBounds_toArray, List.set_cons_zero, List.set_cons_succ, i64_w, i32_w]
            rfl
          refine pure_ (i := 2) (N := some 55) (v := ?_) (a' := ?_) (Sh.m 3 15) rfl rfl (by kernel_rfl) (fun _ _ _ h => h) (Or.inl ⟨by rfl, ?_⟩) ?_ ?_
          rotate_left
          · intro w'
            go_simp
            with_reducible rfl
          rotate_left
          · simp only [Act.put, List.setIfInBounds_toArray, List.set_cons_zero, List.set_cons_succ, i64_w, i32_w]
            rfl
          refine take_ (i := 3) (N := some 56) (v := ?_) (a' := ?_) (Sh.m 4 14) rfl rfl (by kernel_rfl) (fun _ _ _ h => h) (Or.inl ⟨by rfl, ?_⟩) hHeld ?_ ?_
          rotate_left
          · rintro w' ⟨s0, s1⟩
            go_simp
            with_reducible rfl
          rotate_left
          · simp only [Act.put, List.setIfInBounds_toArray, List.set_cons_zero, List.set_cons_succ, i64_w, i32_w]
            rfl
          refine pure_ (i := 4) (N := some 57) (v := ?_) (a' := ?_) (Sh.m 5 13) rfl rfl (by kernel_rfl) (fun _ _ _ h => h) (Or.inl ⟨by rfl, ?_⟩) ?_ ?_
          rotate_left
          · intro w'
            go_simp
            with_reducible rfl
          rotate_left
          · simp only [Act.put, List.setIfInBounds_toArray, List.set_cons_zero, List.set_cons_succ, i64_w, i32_w]
            rfl
          refine pure_ (i := 5) (N := some 58) (v := ?_) (a' := ?_) (Sh.m 6 12) rfl rfl (by kernel_rfl) (fun _ _ _ h => h) (Or.inl ⟨by rfl, ?_⟩) ?_ ?_
          rotate_left
          · intro w'
            go_simp
            with_reducible rfl
          rotate_left
          · simp only [Act.put, List.setIfInBounds_toArray, List.set_cons_zero, List.set_cons_succ, i64_w, i32_w]
            rfl
          refine pure_ (i := 6) (N := some 59) (v := ?_) (a' := ?_) (Sh.m 7 11) rfl rfl (by kernel_rfl) (fun _ _ _ h => h) (Or.inl ⟨by rfl, ?_⟩) ?_ ?_
          rotate_left
          · intro w'
            go_simp
            with_reducible rfl
          rotate_left
          · simp only [Act.put, List.setIfInBounds_toArray, List.set_cons_zero, List.set_cons_succ, i64_w, i32_w]
            rfl
          refine take_ (i := 7) (N := some 60) (v := ?_) (a' := ?_) (Sh.m 8 10) rfl rfl (by kernel_rfl) (fun _ _ _ h => h) (Or.inl ⟨by rfl, ?_⟩) hHeld ?_ ?_
          rotate_left
          · rintro w' ⟨s0, s1⟩
            go_simp
            with_reducible rfl
          rotate_left
          · simp only [Act.put, List.setIfInBounds_toArray, List.set_cons_zero, List.set_cons_succ, i64_w, i32_w]
            rfl
          refine one_ (i := 8) (N := some 61) (Sh.m 9 9) rfl rfl (by kernel_rfl) (by decide) (fun K hK => ?_)
          refine goes_ Try.func44 (by kernel_rfl) rfl #[.slice A3 x.f1.length c3, .string s] (by rfl) rfl rfl (by (try simp only [List.map_toArray, List.map_cons, List.map_nil]); first | done | rfl) ?_
          with_reducible refine (rhas_calls A3 c3 x.f1 s _ (Kd.R_reads' HF.out.r1).2.2 (Kd.R_reads' HF.out.r1).2.1 false HM1.out).mono ?_
          rintro e W2 ⟨rfl, hb⟩
          refine ⟨_, rfl, ?_⟩
          obtain ⟨f1, y⟩ := hHeld
          have nn_ := Aside0.mk (Kd.R_below HO.out hb); clear HO; have HO := nn_; clear nn_; have nn_ := Aside0.mk (below_step HB.out hb); clear HB; have HB := nn_; clear nn_; have nn_ := Aside0.mk (HF.out.below hb); clear HF; have HF := nn_; clear nn_
          refine hK.out _ _ ⟨pw_cell_below hb f1, pw_cell_below hb y⟩ (fun hHeld => ?_)
          clear hK K
          refine norm_ (a' := ?_) ?_ ?_
          rotate_left
          · show Act.put _ (some 61) _ = _
            simp only [Act.put, List.setIfInBounds_toArray, List.set_cons_zero, List.set_cons_succ, i64_w, i32_w]
            rfl
          refine pure_ (i := 9) (N := some 62) (v := ?_) (a' := ?_) (Sh.m 10 8) rfl rfl (by kernel_rfl) (fun _ _ _ h => h) (Or.inl ⟨by rfl, ?_⟩) ?_ ?_
          rotate_left
          · intro w'
            go_simp
            with_reducible rfl
          rotate_left
          · simp only [Act.put, List.setIfInBounds_toArray, List.set_cons_zero, List.set_cons_succ, i64_w, i32_w]
            rfl
          refine pure_ (i := 10) (N := some 63) (v := ?_) (a' := ?_) (Sh.m 11 7) rfl rfl (by kernel_rfl) (fun _ _ _ h => h) (Or.inl ⟨by rfl, ?_⟩) ?_ ?_
          rotate_left
          · intro w'
            go_simp
            with_reducible rfl
          rotate_left
          · simp only [Act.put, List.setIfInBounds_toArray, List.set_cons_zero, List.set_cons_succ, i64_w, i32_w]
            rfl
          refine pure_ (i := 11) (N := some 64) (v := ?_) (a' := ?_) (Sh.m 12 6) rfl rfl (by kernel_rfl) (fun _ _ _ h => h) (Or.inl ⟨by rfl, ?_⟩) ?_ ?_
          rotate_left
          · intro w'
            go_simp
            with_reducible rfl
          rotate_left
          · simp only [Act.put, List.setIfInBounds_toArray, List.set_cons_zero, List.set_cons_succ, i64_w, i32_w]
            rfl
          refine pure_ (i := 12) (N := some 65) (v := ?_) (a' := ?_) (Sh.m 13 5) rfl rfl (by kernel_rfl) (fun _ _ _ h => h) (Or.inl ⟨by rfl, ?_⟩) ?_ ?_
          rotate_left
          · intro w'
            go_simp
            with_reducible rfl
          rotate_left
          · simp only [Act.put, List.setIfInBounds_toArray, List.set_cons_zero, List.set_cons_succ, i64_w, i32_w]
            rfl
          refine pure_ (i := 13) (N := some 66) (v := ?_) (a' := ?_) (Sh.m 14 4) rfl rfl (by kernel_rfl) (fun _ _ _ h => h) (Or.inl ⟨by rfl, ?_⟩) ?_ ?_
          rotate_left
          · intro w'
            go_simp
            with_reducible rfl
          rotate_left
          · simp only [Act.put, List.setIfInBounds_toArray, List.set_cons_zero, List.set_cons_succ, i64_w, i32_w]
            rfl
          refine take_ (i := 14) (N := some 67) (v := ?_) (a' := ?_) (Sh.m 15 3) rfl rfl (by kernel_rfl) (fun _ _ _ h => h) (Or.inl ⟨by rfl, ?_⟩) hHeld ?_ ?_
          rotate_left
          · rintro w' ⟨s0, s1⟩
            go_simp
            with_reducible rfl
          rotate_left
          · simp only [Act.put, List.setIfInBounds_toArray, List.set_cons_zero, List.set_cons_succ, i64_w, i32_w]
            rfl
          refine one_ (i := 15) (N := some 68) (Sh.m 16 2) rfl rfl (by kernel_rfl) (by decide) (fun K hK => ?_)
          refine goes_ Try.func44 (by kernel_rfl) rfl #[.slice A3 x.f1.length c3, .string star] (by rfl) rfl rfl (by (try simp only [List.map_toArray, List.map_cons, List.map_nil]); first | done | rfl) ?_
          with_reducible refine (rhas_calls A3 c3 x.f1 star _ (Kd.R_reads' HF.out.r1).2.2 (Kd.R_reads' HF.out.r1).2.1 true HM2.out).mono ?_
          rintro e W2 ⟨rfl, hb⟩
          refine ⟨_, rfl, ?_⟩
          obtain ⟨f1, y⟩ := hHeld
          have nn_ := Aside0.mk (Kd.R_below HO.out hb); clear HO; have HO := nn_; clear nn_; have nn_ := Aside0.mk (below_step HB.out hb); clear HB; have HB := nn_; clear nn_; have nn_ := Aside0.mk (HF.out.below hb); clear HF; have HF := nn_; clear nn_
          refine hK.out _ _ ⟨pw_cell_below hb f1, pw_cell_below hb y⟩ (fun hHeld => ?_)
          clear hK K
          refine norm_ (a' := ?_) ?_ ?_
          rotate_left
          · show Act.put _ (some 68) _ = _
            simp only [Act.put, List.setIfInBounds_toArray, List.set_cons_zero, List.set_cons_succ, i64_w, i32_w]
            rfl
          refine pure_ (i := 16) (N := some 69) (v := ?_) (a' := ?_) (Sh.m 17 1) rfl rfl (by kernel_rfl) (fun _ _ _ h => h) (Or.inl ⟨by rfl, ?_⟩) ?_ ?_
          rotate_left
          · intro w'
            go_simp
            with_reducible rfl
          rotate_left
          · simp only [Act.put, List.setIfInBounds_toArray, List.set_cons_zero, List.set_cons_succ, i64_w, i32_w]
            rfl
          refine pure_ (i := 17) (N := some 70) (v := ?_) (a' := ?_) (Sh.m 18 0) rfl rfl (by kernel_rfl) (fun _ _ _ h => h) (Or.inl ⟨by rfl, ?_⟩) ?_ ?_
          rotate_left
          · intro w'
            go_simp
            with_reducible rfl
          rotate_left
          · simp only [Act.put, List.setIfInBounds_toArray, List.set_cons_zero, List.set_cons_succ, i64_w, i32_w]
            rfl
          refine done_ (by kernel_rfl) ?_
          go_wp2
          go_roundw
          case rel => exact ⟨i + 1, by omega, by first | rfl | go_num, HO, HB⟩
          case measure => simp [intOf]; omega
        · have HM2 := Aside0.mk (decide_eq_false hm2).symm
          have HTN := Aside0.mk (show putS (wantsS x.f1 x.f2 (ns.take i)) s = wantsS x.f1 x.f2 (ns.take (i + 1)) by rw [HTK.out, if_neg (by rintro (h | h); exact hm1 h; exact hm2 h)])
          clear hm1 hm2 HTK
          go_wp2
          refine start_ (n := 18) (S := (fun w' => w'.cell? ⟨g, j * 4 + 1, none⟩ = some (.slice A3 x.f1.length c3) ∧ w'.cell? (ad.add i) = some (.string s))) (ds := []) (Sh.m 0 18) (by kernel_rfl) rfl rfl ⟨f1, y⟩ (fun hHeld => ?_)
          (have hb := below_drew1 (Below.refl wr.heap.size wr); have nn_ := Aside0.mk (Kd.R_below HO.out hb); clear HO; have HO := nn_; clear nn_; have nn_ := Aside0.mk (below_step HB.out hb); clear HB; have HB := nn_; clear nn_; have nn_ := Aside0.mk (HF.out.below hb); clear HF; have HF := nn_; clear nn_; clear f1 y hb; generalize wr.drew = W1 at HO HB HF hHeld ⊢)
          refine pure_ (i := 0) (N := some 53) (v := ?_) (a' := ?_) (Sh.m 1 17) rfl rfl (by kernel_rfl) (fun _ _ _ h => h) (Or.inl ⟨by rfl, ?_⟩) ?_ ?_
          rotate_left
          · intro w'
            go_simp
            with_reducible rfl
          rotate_left
          · simp only [Act.put, List.setIfInBounds_toArray, List.set_cons_zero, List.set_cons_succ, i64_w, i32_w]
            rfl
          refine pure_ (i := 1) (N := some 54) (v := ?_) (a' := ?_) (Sh.m 2 16) rfl rfl (by kernel_rfl) (fun _ _ _ h => h) (Or.inl ⟨by rfl, ?_⟩) ?_ ?_
          rotate_left
          · intro w'
            go_simp
            with_reducible rfl
          rotate_left
          · simp only [Act.put, List.setIfInBounds_toArray, List.set_cons_zero, List.set_cons_succ, i64_w, i32_w]
            rfl
          refine pure_ (i := 2) (N := some 55) (v := ?_) (a' := ?_) (Sh.m 3 15) rfl rfl (by kernel_rfl) (fun _ _ _ h => h) (Or.inl ⟨by rfl, ?_⟩) ?_ ?_
          rotate_left
          · intro w'
            go_simp
            with_reducible rfl
          rotate_left
          · simp only [Act.put, List.setIfInBounds_toArray, List.set_cons_zero, List.set_cons_succ, i64_w, i32_w]
            rfl
          refine take_ (i := 3) (N := some 56) (v := ?_) (a' := ?_) (Sh.m 4 14) rfl rfl (by kernel_rfl) (fun _ _ _ h => h) (Or.inl ⟨by rfl, ?_⟩) hHeld ?_ ?_
          rotate_left
          · rintro w' ⟨s0, s1⟩
            go_simp
            with_reducible rfl
          rotate_left
          · simp only [Act.put, List.setIfInBounds_toArray, List.set_cons_zero, List.set_cons_succ, i64_w, i32_w]
            rfl
          refine pure_ (i := 4) (N := some 57) (v := ?_) (a' := ?_) (Sh.m 5 13) rfl rfl (by kernel_rfl) (fun _ _ _ h => h) (Or.inl ⟨by rfl, ?_⟩) ?_ ?_
          rotate_left
          · intro w'
            go_simp
            with_reducible rfl
          rotate_left
          · simp only [Act.put, List.setIfInBounds_toArray, List.set_cons_zero, List.set_cons_succ, i64_w, i32_w]
            rfl
          refine pure_ (i := 5) (N := some 58) (v := ?_) (a' := ?_) (Sh.m 6 12) rfl rfl (by kernel_rfl) (fun _ _ _ h => h) (Or.inl ⟨by rfl, ?_⟩) ?_ ?_
          rotate_left
          · intro w'
            go_simp
            with_reducible rfl
          rotate_left
          · simp only [Act.put, List.setIfInBounds_toArray, List.set_cons_zero, List.set_cons_succ, i64_w, i32_w]
            rfl
          refine pure_ (i := 6) (N := some 59) (v := ?_) (a' := ?_) (Sh.m 7 11) rfl rfl (by kernel_rfl) (fun _ _ _ h => h) (Or.inl ⟨by rfl, ?_⟩) ?_ ?_
          rotate_left
          · intro w'
            go_simp
            with_reducible rfl
          rotate_left
          · simp only [Act.put, List.setIfInBounds_toArray, List.set_cons_zero, List.set_cons_succ, i64_w, i32_w]
            rfl
          refine take_ (i := 7) (N := some 60) (v := ?_) (a' := ?_) (Sh.m 8 10) rfl rfl (by kernel_rfl) (fun _ _ _ h => h) (Or.inl ⟨by rfl, ?_⟩) hHeld ?_ ?_
          rotate_left
          · rintro w' ⟨s0, s1⟩
            go_simp
            with_reducible rfl
          rotate_left
          · simp only [Act.put, List.setIfInBounds_toArray, List.set_cons_zero, List.set_cons_succ, i64_w, i32_w]
            rfl
          refine one_ (i := 8) (N := some 61) (Sh.m 9 9) rfl rfl (by kernel_rfl) (by decide) (fun K hK => ?_)
          refine goes_ Try.func44 (by kernel_rfl) rfl #[.slice A3 x.f1.length c3, .string s] (by rfl) rfl rfl (by (try simp only [List.map_toArray, List.map_cons, List.map_nil]); first | done | rfl) ?_
          with_reducible refine (rhas_calls A3 c3 x.f1 s _ (Kd.R_reads' HF.out.r1).2.2 (Kd.R_reads' HF.out.r1).2.1 false HM1.out).mono ?_
          rintro e W2 ⟨rfl, hb⟩
          refine ⟨_, rfl, ?_⟩
          obtain ⟨f1, y⟩ := hHeld
          have nn_ := Aside0.mk (Kd.R_below HO.out hb); clear HO; have HO := nn_; clear nn_; have nn_ := Aside0.mk (below_step HB.out hb); clear HB; have HB := nn_; clear nn_; have nn_ := Aside0.mk (HF.out.below hb); clear HF; have HF := nn_; clear nn_
          refine hK.out _ _ ⟨pw_cell_below hb f1, pw_cell_below hb y⟩ (fun hHeld => ?_)
          clear hK K
          refine norm_ (a' := ?_) ?_ ?_
          rotate_left
          · show Act.put _ (some 61) _ = _
            simp only [Act.put, List.setIfInBounds_toArray, List.set_cons_zero, List.set_cons_succ, i64_w, i32_w]
            rfl
          refine pure_ (i := 9) (N := some 62) (v := ?_) (a' := ?_) (Sh.m 10 8) rfl rfl (by kernel_rfl) (fun _ _ _ h => h) (Or.inl ⟨by rfl, ?_⟩) ?_ ?_
          rotate_left
          · intro w'
            go_simp
            with_reducible rfl
          rotate_left
          · simp only [Act.put, List.setIfInBounds_toArray, List.set_cons_zero, List.set_cons_succ, i64_w, i32_w]
            rfl
          refine pure_ (i := 10) (N := some 63) (v := ?_) (a' := ?_) (Sh.m 11 7) rfl rfl (by kernel_rfl) (fun _ _ _ h => h) (Or.inl ⟨by rfl, ?_⟩) ?_ ?_
          rotate_left
          · intro w'
            go_simp
            with_reducible rfl
          rotate_left
          · simp only [Act.put, List.setIfInBounds_toArray, List.set_cons_zero, List.set_cons_succ, i64_w, i32_w]
            rfl
          refine pure_ (i := 11) (N := some 64) (v := ?_) (a' := ?_) (Sh.m 12 6) rfl rfl (by kernel_rfl) (fun _ _ _ h => h) (Or.inl ⟨by rfl, ?_⟩) ?_ ?_
          rotate_left
          · intro w'
            go_simp
            with_reducible rfl
          rotate_left
          · simp only [Act.put, List.setIfInBounds_toArray, List.set_cons_zero, List.set_cons_succ, i64_w, i32_w]
            rfl
          refine pure_ (i := 12) (N := some 65) (v := ?_) (a' := ?_) (Sh.m 13 5) rfl rfl (by kernel_rfl) (fun _ _ _ h => h) (Or.inl ⟨by rfl, ?_⟩) ?_ ?_
          rotate_left
          · intro w'
            go_simp
            with_reducible rfl
          rotate_left
          · simp only [Act.put, List.setIfInBounds_toArray, List.set_cons_zero, List.set_cons_succ, i64_w, i32_w]
            rfl
          refine pure_ (i := 13) (N := some 66) (v := ?_) (a' := ?_) (Sh.m 14 4) rfl rfl (by kernel_rfl) (fun _ _ _ h => h) (Or.inl ⟨by rfl, ?_⟩) ?_ ?_
          rotate_left
          · intro w'
            go_simp
            with_reducible rfl
          rotate_left
          · simp only [Act.put, List.setIfInBounds_toArray, List.set_cons_zero, List.set_cons_succ, i64_w, i32_w]
            rfl
          refine take_ (i := 14) (N := some 67) (v := ?_) (a' := ?_) (Sh.m 15 3) rfl rfl (by kernel_rfl) (fun _ _ _ h => h) (Or.inl ⟨by rfl, ?_⟩) hHeld ?_ ?_
          rotate_left
          · rintro w' ⟨s0, s1⟩
            go_simp
            with_reducible rfl
          rotate_left
          · simp only [Act.put, List.setIfInBounds_toArray, List.set_cons_zero, List.set_cons_succ, i64_w, i32_w]
            rfl
          refine one_ (i := 15) (N := some 68) (Sh.m 16 2) rfl rfl (by kernel_rfl) (by decide) (fun K hK => ?_)
          refine goes_ Try.func44 (by kernel_rfl) rfl #[.slice A3 x.f1.length c3, .string star] (by rfl) rfl rfl (by (try simp only [List.map_toArray, List.map_cons, List.map_nil]); first | done | rfl) ?_
          with_reducible refine (rhas_calls A3 c3 x.f1 star _ (Kd.R_reads' HF.out.r1).2.2 (Kd.R_reads' HF.out.r1).2.1 false HM2.out).mono ?_
          rintro e W2 ⟨rfl, hb⟩
          refine ⟨_, rfl, ?_⟩
          obtain ⟨f1, y⟩ := hHeld
          have nn_ := Aside0.mk (Kd.R_below HO.out hb); clear HO; have HO := nn_; clear nn_; have nn_ := Aside0.mk (below_step HB.out hb); clear HB; have HB := nn_; clear nn_; have nn_ := Aside0.mk (HF.out.below hb); clear HF; have HF := nn_; clear nn_
          refine hK.out _ _ ⟨pw_cell_below hb f1, pw_cell_below hb y⟩ (fun hHeld => ?_)
          clear hK K
          refine norm_ (a' := ?_) ?_ ?_
          rotate_left
          · show Act.put _ (some 68) _ = _
            simp only [Act.put, List.setIfInBounds_toArray, List.set_cons_zero, List.set_cons_succ, i64_w, i32_w]
            rfl
          refine pure_ (i := 16) (N := some 69) (v := ?_) (a' := ?_) (Sh.m 17 1) rfl rfl (by kernel_rfl) (fun _ _ _ h => h) (Or.inl ⟨by rfl, ?_⟩) ?_ ?_
          rotate_left
          · intro w'
            go_simp
            with_reducible rfl
          rotate_left
          · simp only [Act.put, List.setIfInBounds_toArray, List.set_cons_zero, List.set_cons_succ, i64_w, i32_w]
            rfl
          refine pure_ (i := 17) (N := some 70) (v := ?_) (a' := ?_) (Sh.m 18 0) rfl rfl (by kernel_rfl) (fun _ _ _ h => h) (Or.inl ⟨by rfl, ?_⟩) ?_ ?_
          rotate_left
          · intro w'
            go_simp
            with_reducible rfl
          rotate_left
          · simp only [Act.put, List.setIfInBounds_toArray, List.set_cons_zero, List.set_cons_succ, i64_w, i32_w]
            rfl
          refine done_ (by kernel_rfl) ?_
          obtain ⟨f1, y⟩ := hHeld
          go_wp2_with (first | (go_at_call 45; (with_reducible refine (rputR_calls s (below_step HRG.out.hb HB.out) HO.out (fun k hk => ⟨.inr (Nat.le_trans HSZ.out (Nat.le_trans HB.out.size hk)), Nat.ne_of_gt (Nat.lt_of_lt_of_le HRG.out.lt.2 (Nat.le_trans HB.out.size hk))⟩) HWL.out).mono ?_); rintro e W3 ⟨v3, rfl, hR, hb⟩; have HO3 := Aside0.mk hR; have HB3 := Aside0.mk (below_step HB.out hb); clear hR hb))
          rw [HTN.out] at HO3
          go_roundw
          case rel => exact ⟨i + 1, by omega, by first | rfl | go_num, HO3, HB3⟩
          case measure => simp [intOf]; omega
      · obtain rfl : i = ns.length := by omega
        have hd : decide ((ns.length : Int) < (ns.length : Int)) = false := decide_eq_false (by omega)
        rw [List.take_length] at HO
        obtain ⟨W, hW⟩ : ∃ W, W = wantsS x.f1 x.f2 ns := ⟨_, rfl⟩
        rw [← hW] at HO
        have HWE := Aside0.mk hW
        clear hW
        have HRG1 := Aside0.mk (HRG.out.below HB.out)
        have k0 := HRG1.out.k0; have k1 := HRG1.out.k1; have f2 := HF.out.f2; have f3 := HF.out.f3
        obtain ⟨A5, c5, e5⟩ := Kd.R_slice HO.out
        subst e5
        obtain ⟨wx, hwx⟩ : ∃ wx, wx = wr := ⟨_, rfl⟩
        obtain ⟨t, ht⟩ : ∃ t, t = turnS last x := ⟨_, rfl⟩
        have HTT := Aside0.mk ht
        have hl2 : wrap64 (last + 1) = last + 1 := wrapI (by have := HLA.out; omega) (by have := HLA.out; omega)
        go_upto_if 82 with (fail)
        go_cut [11] (fun v11 w2 => v11 = .int .i64 t ∧ Aside0 (w2 = wr))
        case first =>
          by_cases h0 : x.f3 = 0
          · have hb0 : (x.f3 == 0) = true := by rw [h0]; rfl
            have HT2 := Aside0.mk (show t = last + 1 by rw [HTT.out]; unfold turnS; rw [if_pos h0])
            clear h0 ht
            go_wp2
            go_meet
            case rel => exact ⟨by rw [HT2.out, wrapI (by have := HLA.out; omega) (by have := HLA.out; omega)], ⟨rfl⟩⟩
          · have hb0 : (x.f3 == 0) = false := beq_eq_false_iff_ne.2 h0
            have HT2 := Aside0.mk (show t = x.f3 by rw [HTT.out]; unfold turnS; rw [if_neg h0])
            clear h0 ht
            go_wp2
            go_meet
            case rel => exact ⟨by rw [HT2.out], ⟨rfl⟩⟩
        case rest =>
          obtain ⟨rfl, hw2⟩ := hcut
          have hw3 := hw2.out
          rw [hw3]
          clear hw3 hw2 hwx hl2 ht hd k0 k1 f1 f2 f3
          have k0 := HRG1.out.k0
          have hlm : L1.length ≤ 9223372036854775807 := Kd.C_max (HRG1.out.rd).r
          go_wp2
          go_loopw [12, 13] (fun v12 v13 wk => ∃ (i : Nat) (kb : Bool), i ≤ L1.length ∧ v13 = .int .i64 i ∧ v12 = .bool kb ∧ Aside0 (kb = (L1.take i).any (fun y => condK id W t y)) ∧ Aside0 (Below wr.heap.size wr wk)) (fun _ v13 _ => L1.length - (intOf v13).toNat)
          case atStart => exact ⟨0, false, Nat.zero_le _, rfl, rfl, ⟨rfl⟩, ⟨Below.refl _ _⟩⟩
          case round =>
            clear k0
            obtain ⟨i, kb, hi, rfl, rfl, HK0, HBk⟩ := hrel
            have HR2 := Aside0.mk (HRG1.out.below HBk.out)
            have k0 := HR2.out.k0
            by_cases hl : i < L1.length
            · have hd : decide ((i : Int) < (L1.length : Int)) = true := decide_eq_true (by omega)
              have hd3 : decide (0 ≤ (i : Int)) = true := decide_eq_true (by omega)
              obtain ⟨u1, u2, hfl⟩ := HR2.out.fl hl
              obtain ⟨B1, b1, e1⟩ := Kd.R_slice hfl.r1
              subst e1
              obtain ⟨B2, b2, e2⟩ := Kd.R_slice hfl.r2
              subst e2
              have HFI := Aside0.mk hfl
              have y0 := hfl.f0; have y1 := hfl.f1; have y2 := hfl.f2; have y3 := hfl.f3
              clear hfl
              have HKN := Aside0.mk (show ((L1.take (i + 1)).any fun y => condK id W t y) = (kb || condK id W t L1[i]) by rw [List.take_succ_eq_append_getElem hl, List.any_append, ← HK0.out]; simp)
              cases kb with
              | true =>
                go_wp2
                go_roundw
                case rel => exact ⟨i + 1, true, by omega, by first | rfl | go_num, rfl, ⟨by rw [HKN.out]; rfl⟩, HBk⟩
                case measure => simp [intOf]; omega
              | false =>
                by_cases hij : i = j
                · have hne : ((i : Int) != (j : Int)) = false := bne_eq_false_iff_eq.2 (by omega)
                  have HCF := Aside0.mk (show condK id W t L1[i] = false by unfold condK; subst hij; rw [HJX.out, HXI.out]; simp)
                  clear hij
                  go_wp2
                  go_roundw
                  case rel => exact ⟨i + 1, false, by omega, by first | rfl | go_num, rfl, ⟨by rw [HKN.out, HCF.out]; rfl⟩, HBk⟩
                  case measure => simp [intOf]; omega
                · have hne : ((i : Int) != (j : Int)) = true := bne_iff_ne.2 (by omega)
                  obtain ⟨KK, hK⟩ := rkeeps_ev L1[i] W t (Kd.C_max (Kd.R_reads' HFI.out.r1).2.2) (Kd.C_max (Kd.R_reads' HFI.out.r2).2.2) (Kd.C_max (Kd.R_reads' HO.out).2.2)
                  obtain ⟨kk, hkk⟩ : ∃ kk, kk = keepB L1[i].f1 L1[i].f2 L1[i].f3 W t := ⟨_, rfl⟩
                  rw [← hkk] at hK
                  have HK := Aside0.mk hK
                  have HCF := Aside0.mk (show condK id W t L1[i] = kk by have e : decide (L1[i].f0 ≠ id) = true := decide_eq_true (fun e => hij (ids_at HN1.out hl hj (by rw [HJX.out, HXI.out]; exact e))); unfold condK; rw [e, Bool.true_and, hkk])
                  clear hK hkk hij
                  go_wp2_with (first | (go_at_call 46; (with_reducible refine (storemanref24_keeps.calls KK L1[i].f0 B1 b1 L1[i].f1 B2 b2 L1[i].f2 L1[i].f3 A5 c5 W t kk _ (Kd.R_reads' HFI.out.r1).2.2 (Kd.R_reads' HFI.out.r1).2.1 (Kd.R_reads' HFI.out.r2).2.2 (Kd.R_reads' HFI.out.r2).2.1 (Kd.C_below (Kd.R_reads' HO.out).2.2 HBk.out) (Kd.R_reads' HO.out).2.1 HK.out).mono ?_); rintro e W3 ⟨rfl, hb⟩; have HB3 := Aside0.mk (below_step HBk.out hb); clear hb))
                  go_roundw
                  case rel => exact ⟨i + 1, kk, by omega, by first | rfl | go_num, rfl, ⟨by rw [HKN.out, HCF.out]; rfl⟩, HB3⟩
                  case measure => simp [intOf]; omega
            · obtain rfl : i = L1.length := by omega
              have hd : decide ((L1.length : Int) < (L1.length : Int)) = false := decide_eq_false (by omega)
              rw [List.take_length, keptL_any] at HK0
              have HOk := Aside0.mk (Kd.R_below HO.out HBk.out)
              have k1 := HR2.out.k1; have fg := HR2.out.fg; have fz := HR2.out.fz
              obtain ⟨v1', v2', hfl⟩ := HR2.out.fl hj
              rw [HJX.out] at hfl
              obtain ⟨B1, b1, e1⟩ := Kd.R_slice hfl.r1
              subst e1
              obtain ⟨B2, b2, e2⟩ := Kd.R_slice hfl.r2
              subst e2
              have HFJ := Aside0.mk hfl
              have f1 := hfl.f1; have f2 := hfl.f2; have f3 := hfl.f3
              clear hfl
              have HCW := Aside0.mk (show Chg G w wr from (HC1.out.step HB.out).step HBk.out)
              by_cases hk : keptL L1 id W t = []
              · obtain rfl : kb = false := by rw [HK0.out, hk]; simp
                have HA := Aside0.mk (show askL L last id ns = (setL L1 ⟨id, joinS x.f1 W, [], 0⟩, last, true) by have e := askL_yes L last id ns (W := W) (t := t) (by rw [HWE.out, HX.out]) (by rw [HTT.out, HX.out]) (by rw [← HL1.out]; exact hk); rw [← HX.out, ← HL1.out] at e; exact e)
                clear hk HK0
                have hwl : W.length ≤ 1000000 := by have h1 := wantsS_len x.f1 ns x.f2; rw [← HWE.out] at h1; have h2 := HBX.out; have h3 := HBN.out; omega
                have HJL := Aside0.mk (show ∀ i, (joinS x.f1 (W.take i)).length ≤ 1000000 from fun i => by have h0 := joinS_len (W.take i) x.f1; have h1 := wantsS_len x.f1 ns x.f2; rw [← HWE.out] at h1; have h2 := HBX.out; have h3 := HBN.out; rw [List.length_take] at h0; omega)
                go_wp2
                clear k0 k1 f1 f2 f3 fg fz
                obtain ⟨wj, rfl⟩ : ∃ wj : World, wj = wr := ⟨_, rfl⟩
                go_loopw [14] (fun v14 wr => ∃ i : Nat, i ≤ W.length ∧ v14 = .int .i64 i ∧ Aside0 (RG w0 wr rb g cap L1.length (fun k => G k ∨ w.heap.size ≤ k) last (L1.set j ⟨id, joinS x.f1 (W.take i), x.f2, x.f3⟩)) ∧ Aside0 (Kd.R Kd.string 9 wr w0.heap.size (fun k => ((G k ∨ w.heap.size ≤ k) ∧ k ≠ g)) (.slice A5 W.length c5) W) ∧ Aside0 (Chg (fun k => k = g ∨ k = rb) wj wr)) (fun v14 _ => W.length - (intOf v14).toNat)
                case atStart => exact ⟨0, Nat.zero_le _, rfl, ⟨by have e : L1.set j ⟨id, joinS x.f1 (W.take 0), x.f2, x.f3⟩ = L1 := (set_same hj HJX.out HXI.out); rw [e]; exact HR2.out⟩, ⟨HOk.out⟩, ⟨Chg.refl _ _⟩⟩
                case round =>
                  obtain ⟨i, hi, rfl, HRi, HOi, HCi⟩ := hrel
                  obtain ⟨hj1, ej⟩ := set_at hj ⟨id, joinS x.f1 (W.take i), x.f2, x.f3⟩
                  obtain ⟨v1i, v2i, hfl⟩ := HRi.out.fl hj1
                  rw [ej] at hfl
                  obtain ⟨H, hH⟩ : ∃ H, H = joinS x.f1 (W.take i) := ⟨_, rfl⟩
                  have hr1 := hfl.r1
                  rw [show (⟨id, joinS x.f1 (W.take i), x.f2, x.f3⟩ : S79).f1 = joinS x.f1 (W.take i) from rfl, ← hH] at hr1
                  obtain ⟨D1, d1, e1⟩ := Kd.R_slice hr1
                  subst e1
                  have HH := Aside0.mk hH
                  have HF1 := Aside0.mk hr1
                  have f1 := hfl.f1; have f2 := hfl.f2; have f3 := hfl.f3
                  have HHL := Aside0.mk (show H.length ≤ 1000000 by rw [hH]; exact HJL.out i)
                  have HEJ := Aside0.mk ej
                  clear hr1 hfl hH ej
                  by_cases hl : i < W.length
                  · have hd : decide ((i : Int) < (W.length : Int)) = true := decide_eq_true (by omega)
                    have hd3 : decide (0 ≤ (i : Int)) = true := decide_eq_true (by omega)
                    obtain ⟨ad, e0, y⟩ := Kd.at_string (Kd.R_reads' HOi.out).2.2 (i : Int) (by omega) (by omega)
                    cases e0
                    rw [rdS W i hl, Int.toNat_natCast] at y
                    obtain ⟨s, hse⟩ : ∃ s, s = W[i] := ⟨_, rfl⟩
                    rw [← hse] at y
                    have HTK := Aside0.mk (show joinS x.f1 (W.take (i + 1)) = putS H s by rw [List.take_succ_eq_append_getElem hl, joinS_snoc, ← hse, HH.out])
                    clear hse f2 f3
                    go_wp2
                    refine start_ (n := 13) (S := (fun w' => w'.cell? ⟨g, j * 4 + 1, none⟩ = some (.slice D1 H.length d1) ∧ w'.cell? (ad.add i) = some (.string s))) (ds := [12]) (Sh.m 0 13) (by kernel_rfl) rfl rfl ⟨f1, y⟩ (fun hHeld => ?_)
                    (have hb := below_drew1 (Below.refl wr.heap.size wr); have nn_ := Aside0.mk (HRi.out.below hb); clear HRi; have HRi := nn_; clear nn_; have nn_ := Aside0.mk (Kd.R_below HOi.out hb); clear HOi; have HOi := nn_; clear nn_; have nn_ := Aside0.mk (HCi.out.step hb); clear HCi; have HCi := nn_; clear nn_; have nn_ := Aside0.mk (Kd.R_below HF1.out hb); clear HF1; have HF1 := nn_; clear nn_; clear f1 y hb; generalize wr.drew = W1 at HRi HOi HCi HF1 hHeld ⊢)
                    refine pure_ (i := 0) (N := some 139) (v := ?_) (a' := ?_) (Sh.m 1 12) rfl rfl (by kernel_rfl) (fun _ _ _ h => h) (Or.inl ⟨by rfl, ?_⟩) ?_ ?_
                    rotate_left
                    · intro w'
                      go_simp
                      with_reducible rfl
                    rotate_left
                    · simp only [Act.put, List.setIfInBounds_toArray, List.set_cons_zero, List.set_cons_succ, i64_w, i32_w]
                      rfl
                    refine pure_ (i := 1) (N := some 140) (v := ?_) (a' := ?_) (Sh.m 2 11) rfl rfl (by kernel_rfl) (fun _ _ _ h => h) (Or.inl ⟨by rfl, ?_⟩) ?_ ?_
                    rotate_left
                    · intro w'
                      go_simp
                      with_reducible rfl
                    rotate_left
                    · simp only [Act.put, List.setIfInBounds_toArray, List.set_cons_zero, List.set_cons_succ, i64_w, i32_w]
                      rfl
                    refine pure_ (i := 2) (N := some 141) (v := ?_) (a' := ?_) (Sh.m 3 10) rfl rfl (by kernel_rfl) (fun _ _ _ h => h) (Or.inl ⟨by rfl, ?_⟩) ?_ ?_
                    rotate_left
                    · intro w'
                      go_simp
                      with_reducible rfl
                    rotate_left
                    · simp only [Act.put, List.setIfInBounds_toArray, List.set_cons_zero, List.set_cons_succ, i64_w, i32_w]
                      rfl
                    refine pure_ (i := 3) (N := some 142) (v := ?_) (a' := ?_) (Sh.m 4 9) rfl rfl (by kernel_rfl) (fun _ _ _ h => h) (Or.inl ⟨by rfl, ?_⟩) ?_ ?_
                    rotate_left
                    · intro w'
                      go_simp
                      with_reducible rfl
                    rotate_left
                    · simp only [Act.put, List.setIfInBounds_toArray, List.set_cons_zero, List.set_cons_succ, i64_w, i32_w]
                      rfl
                    refine take_ (i := 4) (N := some 143) (v := ?_) (a' := ?_) (Sh.m 5 8) rfl rfl (by kernel_rfl) (fun _ _ _ h => h) (Or.inl ⟨by rfl, ?_⟩) hHeld ?_ ?_
                    rotate_left
                    · rintro w' ⟨s0, s1⟩
                      go_simp
                      with_reducible rfl
                    rotate_left
                    · simp only [Act.put, List.setIfInBounds_toArray, List.set_cons_zero, List.set_cons_succ, i64_w, i32_w]
                      rfl
                    refine pure_ (i := 5) (N := some 144) (v := ?_) (a' := ?_) (Sh.m 6 7) rfl rfl (by kernel_rfl) (fun _ _ _ h => h) (Or.inl ⟨by rfl, ?_⟩) ?_ ?_
                    rotate_left
                    · intro w'
                      go_simp
                      with_reducible rfl
                    rotate_left
                    · simp only [Act.put, List.setIfInBounds_toArray, List.set_cons_zero, List.set_cons_succ, i64_w, i32_w]
                      rfl
                    refine pure_ (i := 6) (N := some 145) (v := ?_) (a' := ?_) (Sh.m 7 6) rfl rfl (by kernel_rfl) (fun _ _ _ h => h) (Or.inl ⟨by rfl, ?_⟩) ?_ ?_
                    rotate_left
                    · intro w'
                      go_simp
                      with_reducible rfl
                    rotate_left
                    · simp only [Act.put, List.setIfInBounds_toArray, List.set_cons_zero, List.set_cons_succ, i64_w, i32_w]
                      rfl
                    refine pure_ (i := 7) (N := some 146) (v := ?_) (a' := ?_) (Sh.m 8 5) rfl rfl (by kernel_rfl) (fun _ _ _ h => h) (Or.inl ⟨by rfl, ?_⟩) ?_ ?_
                    rotate_left
                    · intro w'
                      go_simp
                      with_reducible rfl
                    rotate_left
                    · simp only [Act.put, List.setIfInBounds_toArray, List.set_cons_zero, List.set_cons_succ, i64_w, i32_w]
                      rfl
                    refine take_ (i := 8) (N := some 147) (v := ?_) (a' := ?_) (Sh.m 9 4) rfl rfl (by kernel_rfl) (fun _ _ _ h => h) (Or.inl ⟨by rfl, ?_⟩) hHeld ?_ ?_
                    rotate_left
                    · rintro w' ⟨s0, s1⟩
                      go_simp
                      with_reducible rfl
                    rotate_left
                    · simp only [Act.put, List.setIfInBounds_toArray, List.set_cons_zero, List.set_cons_succ, i64_w, i32_w]
                      rfl
                    refine one_ (i := 9) (N := some 148) (Sh.m 10 3) rfl rfl (by kernel_rfl) (by decide) (fun K hK => ?_)
                    refine goes_ Try.func45 (by kernel_rfl) rfl #[.slice D1 H.length d1, .string s] (by rfl) rfl rfl (by (try simp only [List.map_toArray, List.map_cons, List.map_nil]); first | done | rfl) ?_
                    with_reducible refine (rputR_calls s HRi.out.hb HF1.out (fun k hk => ⟨.inr (Nat.le_trans (Nat.le_trans HCW.out.size HCi.out.size) hk), Nat.ne_of_gt (Nat.lt_of_lt_of_le HRi.out.lt.2 hk)⟩) HHL.out).mono ?_
                    rintro e W2 ⟨v3, rfl, hR, hb⟩
                    refine ⟨_, rfl, ?_⟩
                    obtain ⟨D3, d3, e3⟩ := Kd.R_slice hR
                    subst e3
                    have HF3 := Aside0.mk hR
                    obtain ⟨f1, y⟩ := hHeld
                    have nn_ := Aside0.mk (HRi.out.below hb); clear HRi; have HRi := nn_; clear nn_; have nn_ := Aside0.mk (Kd.R_below HOi.out hb); clear HOi; have HOi := nn_; clear nn_; have nn_ := Aside0.mk (HCi.out.step hb); clear HCi; have HCi := nn_; clear nn_
                    have fgW := HRi.out.fg
                    refine hK.out _ _ ⟨pw_cell_below hb f1, pw_cell_below hb y⟩ (fun hHeld => ?_)
                    clear hK K
                    refine norm_ (a' := ?_) ?_ ?_
                    rotate_left
                    · show Act.put _ (some 148) _ = _
                      simp only [Act.put, List.setIfInBounds_toArray, List.set_cons_zero, List.set_cons_succ, i64_w, i32_w]
                      rfl
                    refine pure_ (i := 10) (N := some 149) (v := ?_) (a' := ?_) (Sh.m 11 2) rfl rfl (by kernel_rfl) (fun _ _ _ h => h) (Or.inl ⟨by rfl, ?_⟩) ?_ ?_
                    rotate_left
                    · intro w'
                      go_simp
                      with_reducible rfl
                    rotate_left
                    · simp only [Act.put, List.setIfInBounds_toArray, List.set_cons_zero, List.set_cons_succ, i64_w, i32_w]
                      rfl
                    refine pure_ (i := 11) (N := some 150) (v := ?_) (a' := ?_) (Sh.m 12 1) rfl rfl (by kernel_rfl) (fun _ _ _ h => h) (Or.inl ⟨by rfl, ?_⟩) ?_ ?_
                    rotate_left
                    · intro w'
                      go_simp
                      with_reducible rfl
                    rotate_left
                    · simp only [Act.put, List.setIfInBounds_toArray, List.set_cons_zero, List.set_cons_succ, i64_w, i32_w]
                      rfl
                    refine last_ (i := 12) (N := none) (Sh.m 13 0) rfl rfl (by kernel_rfl) (by decide) (fun K hK => ?_)
                    obtain ⟨f1, y⟩ := hHeld
                    refine store_step rfl rfl (w1 := W2.setCell ⟨g, j * 4 + 1, none⟩ (.slice D3 (putS H s).length d3)) ?hr ?_
                    case hr => first | (go_simp; done) | (go_simp; rfl)
                    refine hK.out _ _ ?_
                    clear hK K
                    refine done_ (by kernel_rfl) ?_
                    have HRn := Aside0.mk (HRi.out.set1 hj1 HF3.out)
                    rw [HEJ.out, List.set_set, ← HTK.out] at HRn
                    have HOn := Aside0.mk (HRi.out.row HOi.out (j * 4 + 1) (.slice D3 (putS H s).length d3))
                    have HCn := Aside0.mk (HCi.out.trans (chg_g (rb := rb) W2 (j * 4 + 1) (.slice D3 (putS H s).length d3)) (fun _ _ h => h))
                    go_wp2
                    go_roundw
                    case rel => exact ⟨i + 1, by omega, by first | rfl | go_num, ⟨by have h := HRn.out; rw [HTK.out] at h ⊢; exact h⟩, HOn, HCn⟩
                    case measure => simp [intOf]; omega
                  · obtain rfl : i = W.length := by omega
                    have hd : decide ((W.length : Int) < (W.length : Int)) = false := decide_eq_false (by omega)
                    rw [List.take_length] at HRi
                    have fg := HRi.out.fg
                    go_wp2
                    go_ret
                    refine ⟨by rw [HA.out]; rfl, by rw [HA.out]; exact rask_yes hj HRi.out HN1.out (by rw [HJX.out]; exact HXI.out), HCW.out.trans ((HCi.out.trans (chg_g _ _ _) (fun _ _ h => h)).trans (chg_g _ _ _) (fun _ _ h => h)) (fun k hlt e => e.elim (fun e => (show OKD G w k from by rw [e]; exact HR2.out.gok).elim (fun h => h) (fun h => absurd hlt (Nat.not_lt.2 h))) (fun e => by rw [e]; exact HG.out))⟩
              · obtain rfl : kb = true := by rw [HK0.out]; exact decide_eq_true hk
                have HA := Aside0.mk (show askL L last id ns = (setL L1 ⟨id, x.f1, W, t⟩, mxI last t, false) by have e := askL_no L last id ns (W := W) (t := t) (by rw [HWE.out, HX.out]) (by rw [HTT.out, HX.out]) (by rw [← HL1.out]; exact hk); rw [← HX.out, ← HL1.out] at e; exact e)
                clear hk HK0
                go_wp2
                all_goals go_ret
                all_goals refine ⟨by rw [HA.out]; rfl, ?_, HCW.out.trans (((chg_g _ _ _).trans (chg_g _ _ _) (fun _ _ h => h)).trans (chg_r _ _ _) (fun _ _ h => h)) (fun k hlt e => e.elim (fun e => (show OKD G w k from by rw [e]; exact HR2.out.gok).elim (fun h => h) (fun h => absurd hlt (Nat.not_lt.2 h))) (fun e => by rw [e]; exact HG.out))⟩
                all_goals rw [HA.out]
                all_goals first | (show RefSt w0 _ rb _ (mxI last t) _; rw [show mxI last t = t from if_pos (by assumption)]; exact rask_no HR2.out HN1.out hj HJX.out HXI.out HOk.out t t) | (show RefSt w0 _ rb _ (mxI last t) _; rw [show mxI last t = last from if_neg (by omega)]; exact rask_no HR2.out HN1.out hj HJX.out HXI.out HOk.out t last)
end Go.Proofs.Ytimlfdfmgajbnaa.PA
-- Printed by a program of this session (wip/tools: the kit's printer with functions that are given by hand). Not trusted: Lean checks it.
namespace Go.Proofs.Ytimlfdfmgajbnaa.PA
open Go.RowKit Go.Proofs.YtimlfdfmgajbnaaW.PrintWords Go.Proofs.YtimlfdfmgajbnaaW.PrintLast Go.Proofs.YtimlfdfmgajbnaaW.PrintMore
attribute [local go_sem] max2_int min2_int max_two min_two max_three min_three max_four min_four   -- for this text's walks alone
set_option linter.unusedVariables false
set_option linter.unusedSimpArgs false

/-! ### storemankit_KeptTexts: function 26 -/
def storemankit_KeptTexts.l0 : Nat → List ByteArray → List ByteArray → Int → Option (Bool)
  | 0, _, _, _ => none
  | k + 1, x1, x5, x6 => if x6 < (x5.length : Int) then (if x6 < (x1.length : Int) then (if 0 ≤ x6 then (if ((rdOf ByteArray.empty x5 x6).toList = (rdOf ByteArray.empty x1 x6).toList) then (if x6 ≥ (x1.length : Int) then ((storemankit_markText.f 1 (wrap64 (x6 - (x1.length : Int)))).bind fun t189 => (if ((rdOf ByteArray.empty x5 x6).toList = t189.toList) then (storemankit_KeptTexts.l0 k x1 x5 (wrap64 (x6 + 1))) else (some false))) else (storemankit_KeptTexts.l0 k x1 x5 (wrap64 (x6 + 1)))) else (some false)) else (none)) else (if x6 ≥ (x1.length : Int) then (if 0 ≤ x6 then ((storemankit_markText.f 1 (wrap64 (x6 - (x1.length : Int)))).bind fun t191 => (if ((rdOf ByteArray.empty x5 x6).toList = t191.toList) then (storemankit_KeptTexts.l0 k x1 x5 (wrap64 (x6 + 1))) else (some false))) else (none)) else (storemankit_KeptTexts.l0 k x1 x5 (wrap64 (x6 + 1))))) else (some true)
def storemankit_KeptTexts.f (k : Nat) (l0 : List ByteArray) (lF : List ByteArray) (l1 : List ByteArray) : Option (Bool) := if (l0.length : Int) = (l1.length : Int) then (if (wrap64 ((l1.length : Int) + 12)) = (lF.length : Int) then (storemankit_KeptTexts.l0 k l1 (lF) 0) else (none)) else (some false)
theorem storemankit_KeptTexts.mono_l : ∀ k, (∀ y0 y1 y2, LeO (storemankit_KeptTexts.l0 k y0 y1 y2) (storemankit_KeptTexts.l0 (k + 1) y0 y1 y2))
  | 0 => fun _ _ _ r h => by simp [storemankit_KeptTexts.l0] at h
  | k + 1 => by
    have ih0 := storemankit_KeptTexts.mono_l k
    · intro y0 y1 y2
      unfold storemankit_KeptTexts.l0
      repeat' first
      | (with_reducible exact ih0 _ _ _)
      | (with_reducible exact LeO.refl _)
      | (with_reducible exact LeO.none _)
      | (with_reducible refine LeO.ite ?_ ?_)
      | (with_reducible refine LeO.bind ?_ (fun _ => ?_))
      | exact ih0 _ _ _
      | exact LeO.none _
      | refine LeO.ite ?_ ?_
      | refine LeO.bind ?_ (fun _ => ?_)
theorem storemankit_KeptTexts.mono : ∀ a0 a1 a2 k, LeO (storemankit_KeptTexts.f k a0 a1 a2) (storemankit_KeptTexts.f (k + 1) a0 a1 a2) := by
  intro a0 a1 a2 k
  have ih0 := storemankit_KeptTexts.mono_l k
  unfold storemankit_KeptTexts.f
  repeat' first
      | (with_reducible exact ih0 _ _ _)
      | (with_reducible exact LeO.refl _)
      | (with_reducible exact LeO.none _)
      | (with_reducible refine LeO.ite ?_ ?_)
      | (with_reducible refine LeO.bind ?_ (fun _ => ?_))
      | exact ih0 _ _ _
      | exact LeO.none _
      | refine LeO.ite ?_ ?_
      | refine LeO.bind ?_ (fun _ => ?_)
def storemankit_KeptTexts.T7 : Bool × List (List Nat × List Nat) := (true, [([], []), ([], []), ([1], [1]), ([0, 2], [0, 2]), ([3], [3]), ([4], [4]), ([4], [4]), ([5, 6, 4], [4, 5, 6]), ([7, 4], [4, 7]), ([4], [4]), ([4], [4]), ([9, 10, 4], [4, 9, 10]), ([11, 4], [4, 11]), ([8, 12, 4], [4, 8, 12]), ([13, 4], [4, 13]), ([4, 14], [4, 14]), ([15, 4], [15]), ([16], [16]), ([16], [16]), ([18, 16], [16, 18]), ([17, 19, 16], [16, 17, 19]), ([20, 16, 16], [16, 20]), ([21], [21]), ([21], [21]), ([22, 23, 21], [21, 22, 23]), ([24, 21], [21, 24]), ([21], [21]), ([21], [21]), ([27, 21], [21, 27]), ([26, 28, 21], [21, 26, 28]), ([29, 21, 21], [21, 29]), ([25, 30, 21], [21, 25, 30]), ([31, 21], [21, 31]), ([21, 32, 16], [16, 21, 32]), ([16, 33], [16, 33])])
def storemankit_KeptTexts.B7 : List Nat := [0, 0, 2, 7, 15, 31, 31, 127, 255, 31, 31, 1567, 3615, 8191, 16383, 32767, 65535, 131071, 131071, 393215, 1048575, 2097151, 4194303, 4194303, 16777215, 33554431, 4194303, 4194303, 138412031, 473956351, 1010827263, 2147483647, 4294967295, 8589934591, 17179869183]
theorem storemankit_KeptTexts.tab7 : rtab .any (opsOf Try.f26 7) = storemankit_KeptTexts.T7 := by kernel_rfl
theorem storemankit_KeptTexts.bits7 : waitsOk storemankit_KeptTexts.T7.2 storemankit_KeptTexts.B7 = true := by kernel_rfl
set_option maxHeartbeats 8000000 in
set_option maxRecDepth 100000 in
theorem storemankit_KeptTexts.calls (k : Nat) (A0 : Option Addr) (c0 : Nat) (l0 : List ByteArray) (lF : List ByteArray) (A1 : Option Addr) (c1 : Nat) (l1 : List ByteArray) (r : Bool) (w : World) (hrF : Kd.C Kd.string w A0 lF.length lF) (hcF : lF.length ≤ c0) (hr0 : Kd.C Kd.string w A0 l0.length l0) (hc0 : l0.length ≤ c0) (hr1 : Kd.C Kd.string w A1 l1.length l1) (hc1 : l1.length ≤ c1) (h : storemankit_KeptTexts.f k l0 lF l1 = some r) (hr_ : r = true := by first | rfl | exact Aside0.out (by assumption)) :
    Calls Try.prog 26 #[.slice A0 l0.length c0, .slice A1 l1.length c1] w fun e w' => e = .returned (.bool r) ∧ Below w.heap.size w w' := by
  have HRT := Aside0.mk hr_
  clear hr_
  have HRF := Aside0.mk hrF
  have HCF := Aside0.mk hcF
  clear hrF hcF
  have HR0 := Aside0.mk hr0
  have HC0 := Aside0.mk hc0
  clear hr0 hc0
  have HR1 := Aside0.mk hr1
  have HC1 := Aside0.mk hc1
  clear hr1 hc1
  have HB := Aside0.mk (Below.refl w.heap.size w)
  have H : (if (l0.length : Int) = (l1.length : Int) then (if (wrap64 ((l1.length : Int) + 12)) = (lF.length : Int) then (storemankit_KeptTexts.l0 k l1 (lF) 0) else (none)) else (some false)) = some r := h
  clear h
  by_cases c3 : (l0.length : Int) = (l1.length : Int)
  · rw [if_pos c3] at H
    have c3b0 : ((l0.length : Int) == (l1.length : Int)) = true := beq_iff_eq.mpr c3
    have c3b1 : ((l0.length : Int) != (l1.length : Int)) = false := bne_eq_false_iff_eq.mpr c3
    have c3b2 : (l0.length == l1.length) = true := by first | simpa using c3 | (simp at c3 ⊢; omega)
    clear c3
    by_cases c4 : (wrap64 ((l1.length : Int) + 12)) = (lF.length : Int)
    · rw [if_pos c4] at H
      have c4b0 := eq_true c4
      have c4b1 : decide ((wrap64 ((l1.length : Int) + 12)) = (lF.length : Int)) = true := decide_eq_true c4
      obtain ⟨y182, hy182⟩ : ∃ y_ : List ByteArray, y_ = (lF) := ⟨_, rfl⟩
      replace H : (storemankit_KeptTexts.l0 k l1 y182 0) = some r := by first | (rw [hy182]; with_reducible exact H) | (have H2_ := (Option.bind_some _ _).symm.trans H; rw [hy182]; with_reducible exact H2_) | (have H2_ := (Option.bind_some _ _).symm.trans H; with_reducible exact H2_) | with_reducible exact H | (rw [hy182]; exact H) | exact H
      have Ny182 := Aside0.mk hy182
      clear hy182
      have H' := Aside0.mk H
      clear H
      have q5 : ((wrap64 ((l1.length : Int) + 12)) : Int) = (lF.length : Int) := of_decide_eq_true Sh.A
      obtain ⟨i05, hi05, _, hsz5, _⟩ := info_parts info9
      have hroom5 : lF.length ≤ c0 := HCF.out
      have hcut5 := Mine.cut_cap (P := Try.prog) 32 9 .i64 Try.underlying32 hi05 A0 l0.length c0 (wrap64 ((l1.length : Int) + 12)) (by omega) (by omega)
      rw [show ((wrap64 ((l1.length : Int) + 12)) : Int).toNat = lF.length from by omega, ← Ny182.out] at hcut5
      have HR185 := Aside0.mk HRF.out
      rw [← Ny182.out] at HR185
      have HC185 := Aside0.mk (show y182.length ≤ c0 from by rw [Ny182.out]; omega)
      clear hroom5 hi05 hsz5
      replace q5 := eq_true q5
      (try (rename ((wrap64 ((l1.length : Int) + 12)) : Int) = (lF.length : Int) => hk_; clear hk_))
      go_enter Try.func26, Try.ntmps26
      go_wp2
      go_loopg [6] k (fun kq v6 w' => ∃ (x6_1 : Int), v6 = .int .i64 x6_1 ∧ Aside0 (storemankit_KeptTexts.l0 kq l1 y182 x6_1 = some r) ∧ Aside0 (kq ≤ k) ∧ Aside0 (Below w.heap.size w w'))
      case atStart => exact ⟨(0), (by first | rfl | (simp; done) | (simp [*]; done)), H', ⟨Nat.le_refl _⟩, ⟨Sh.B⟩⟩
      case round =>
        clear H'
        try clear c1
        try clear c2
        try clear p2
        try clear c3
        try clear c3b0
        try clear c3b1
        try clear c3b2
        try clear c4
        try clear c4b0
        try clear c4b1
        try clear q5
        try clear q5
        obtain ⟨x6_1, rfl, HA, HK1, HB⟩ := hrel
        cases gk with
        | zero => exact absurd HA.out (by simp [storemankit_KeptTexts.l0])
        | succ k1 =>
          have H := HA.out
          clear HA
          simp only [storemankit_KeptTexts.l0] at H
          by_cases c6 : x6_1 < (y182.length : Int)
          · rw [if_pos c6] at H
            have c6b0 : decide (x6_1 < (y182.length : Int)) = true := decide_eq_true c6
            clear c6
            by_cases c7 : x6_1 < (l1.length : Int)
            · rw [if_pos c7] at H
              have c7b0 : decide (x6_1 < (l1.length : Int)) = true := decide_eq_true c7
              clear c7
              by_cases c8 : 0 ≤ x6_1
              · rw [if_pos c8] at H
                have c8b0 : decide (0 ≤ x6_1) = true := decide_eq_true c8
                clear c8
                by_cases c9 : ((rdOf ByteArray.empty y182 x6_1).toList = (rdOf ByteArray.empty l1 x6_1).toList)
                · rw [if_pos c9] at H
                  have c9b0 : ((rdOf ByteArray.empty y182 x6_1).toList == (rdOf ByteArray.empty l1 x6_1).toList) = true := beq_iff_eq.mpr c9
                  have c9b1 : ((rdOf ByteArray.empty y182 x6_1).toList != (rdOf ByteArray.empty l1 x6_1).toList) = false := bne_eq_false_iff_eq.mpr c9
                  clear c9
                  by_cases c10 : x6_1 ≥ (l1.length : Int)
                  · rw [if_pos c10] at H
                    have c10b0 : decide ((l1.length : Int) ≤ x6_1) = true := decide_eq_true c10
                    clear c10
                    replace H := Option.bind_eq_some_iff.mp H
                    obtain ⟨t189, A110, H⟩ := H
                    replace H : (if ((rdOf ByteArray.empty y182 x6_1).toList = t189.toList) then (storemankit_KeptTexts.l0 k1 l1 y182 (wrap64 (x6_1 + 1))) else (some false)) = some r := H
                    have A11 := Aside0.mk A110
                    clear A110
                    by_cases c12 : ((rdOf ByteArray.empty y182 x6_1).toList = t189.toList)
                    · rw [if_pos c12] at H
                      have c12b0 : ((rdOf ByteArray.empty y182 x6_1).toList == t189.toList) = true := beq_iff_eq.mpr c12
                      have c12b1 : ((rdOf ByteArray.empty y182 x6_1).toList != t189.toList) = false := bne_eq_false_iff_eq.mpr c12
                      clear c12
                      have H' := Aside0.mk H
                      clear H
                      try go_wp2
                      have n0_ := Aside0.mk (below_drew1 HB.out)
                      clear HB
                      have HB := n0_
                      clear n0_
                      have p186 : 0 ≤ (x6_1 : Int) := of_decide_eq_true Sh.A
                      have q186 : x6_1 < (y182.length : Int) := of_decide_eq_true Sh.A
                      obtain ⟨ad186, e186, hx186_0⟩ := Kd.at_string HR185.out x6_1 p186 q186
                      have hw186_0 := hx186_0
                      cases e186
                      replace hx186_0 := (HB.out.cell (World.block_lt_of_cell? w _ hx186_0)).trans hx186_0
                      replace p186 := eq_true p186
                      replace q186 := eq_true q186
                      have p187 : 0 ≤ (x6_1 : Int) := of_decide_eq_true Sh.A
                      have q187 : x6_1 < (l1.length : Int) := of_decide_eq_true Sh.A
                      obtain ⟨ad187, e187, hx187_0⟩ := Kd.at_string HR1.out x6_1 p187 q187
                      have hw187_0 := hx187_0
                      cases e187
                      replace hx187_0 := (HB.out.cell (World.block_lt_of_cell? w _ hx187_0)).trans hx187_0
                      replace p187 := eq_true p187
                      replace q187 := eq_true q187
                      have p188 : 0 ≤ (x6_1 : Int) := of_decide_eq_true Sh.A
                      have q188 : x6_1 < (y182.length : Int) := of_decide_eq_true Sh.A
                      obtain ⟨ad188, e188, hx188_0⟩ := Kd.at_string HR185.out x6_1 p188 q188
                      have hw188_0 := hx188_0
                      obtain rfl : ad186 = ad188 := (by injection e188)
                      replace hx188_0 := (HB.out.cell (World.block_lt_of_cell? w _ hx188_0)).trans hx188_0
                      replace p188 := eq_true p188
                      replace q188 := eq_true q188
                      refine start_ (n := 35) (S := fun w' => w'.cell? (ad186.add (x6_1).toNat) = some (.string (rdOf ByteArray.empty y182 x6_1)) ∧ w'.cell? (ad187.add (x6_1).toNat) = some (.string (rdOf ByteArray.empty l1 x6_1)) ∧ w'.cell? (ad186.add (x6_1).toNat) = some (.string (rdOf ByteArray.empty y182 x6_1))) (ds := []) #[false, false, false, false, false, false, false, false, false, false, false, false, false, false, false, false, false, false, false, false, false, false, false, false, false, false, false, false, false, false, false, false, false, false, false] (by kernel_rfl) rfl rfl ⟨((HB.out.cell (World.block_lt_of_cell? w _ hw186_0)).trans hw186_0), ((HB.out.cell (World.block_lt_of_cell? w _ hw187_0)).trans hw187_0), ((HB.out.cell (World.block_lt_of_cell? w _ hw188_0)).trans hw188_0)⟩ (fun hHeld => ?_); refine with_tabW storemankit_KeptTexts.tab7 storemankit_KeptTexts.bits7 (fun HT_ HW_ => ?_)
                      generalize wr.drew = w13 at HB hx186_0 hx187_0 hx188_0 hHeld ⊢
                      refine pure_ (i := 0) (N := some 23) (v := ?_) (a' := ?_) #[true, false, false, false, false, false, false, false, false, false, false, false, false, false, false, false, false, false, false, false, false, false, false, false, false, false, false, false, false, false, false, false, false, false, false] rfl rfl (any_of HT_.out (by kernel_rfl)) (fun _ _ _ h => h) (Or.inl ⟨by rfl, ?_⟩) ?_ ?_
                      rotate_left
                      · intro w'
                        go_simp
                        with_reducible rfl
                      rotate_left
                      · simp only [Act.put, List.setIfInBounds_toArray, List.set_cons_zero, List.set_cons_succ, i64_w, i32_w]
                        rfl
                      refine pure_ (i := 1) (N := some 24) (v := ?_) (a' := ?_) #[true, true, false, false, false, false, false, false, false, false, false, false, false, false, false, false, false, false, false, false, false, false, false, false, false, false, false, false, false, false, false, false, false, false, false] rfl rfl (any_of HT_.out (by kernel_rfl)) (fun _ _ _ h => h) (Or.inl ⟨by rfl, ?_⟩) ?_ ?_
                      rotate_left
                      · intro w'
                        go_simp
                        with_reducible rfl
                      rotate_left
                      · simp only [Act.put, List.setIfInBounds_toArray, List.set_cons_zero, List.set_cons_succ, i64_w, i32_w]
                        rfl
                      refine pure_ (i := 2) (N := some 25) (v := ?_) (a' := ?_) #[true, true, true, false, false, false, false, false, false, false, false, false, false, false, false, false, false, false, false, false, false, false, false, false, false, false, false, false, false, false, false, false, false, false, false] rfl rfl (any_of HT_.out (by kernel_rfl)) (fun _ _ _ h => h) (Or.inl ⟨by rfl, ?_⟩) ?_ ?_
                      rotate_left
                      · intro w'
                        go_simp
                        with_reducible rfl
                      rotate_left
                      · simp only [Act.put, List.setIfInBounds_toArray, List.set_cons_zero, List.set_cons_succ, i64_w, i32_w]
                        rfl
                      refine pure_ (i := 3) (N := some 26) (v := ?_) (a' := ?_) #[true, true, true, true, false, false, false, false, false, false, false, false, false, false, false, false, false, false, false, false, false, false, false, false, false, false, false, false, false, false, false, false, false, false, false] rfl rfl (any_of HT_.out (by kernel_rfl)) (fun _ _ _ h => h) (Or.inl ⟨by rfl, ?_⟩) ?_ ?_
                      rotate_left
                      · intro w'
                        go_simp
                        with_reducible rfl
                      rotate_left
                      · simp only [Act.put, List.setIfInBounds_toArray, List.set_cons_zero, List.set_cons_succ, i64_w, i32_w]
                        rfl
                      refine pure_ (i := 4) (N := some 27) (v := ?_) (a' := ?_) #[true, true, true, true, true, false, false, false, false, false, false, false, false, false, false, false, false, false, false, false, false, false, false, false, false, false, false, false, false, false, false, false, false, false, false] rfl rfl (any_of HT_.out (by kernel_rfl)) (fun _ _ _ h => h) (Or.inl ⟨by rfl, ?_⟩) ?_ ?_
                      rotate_left
                      · intro w'
                        go_simp
                        with_reducible rfl
                      rotate_left
                      · simp only [Act.put, List.setIfInBounds_toArray, List.set_cons_zero, List.set_cons_succ, i64_w, i32_w]
                        rfl
                      refine pure_ (i := 5) (N := some 28) (v := ?_) (a' := ?_) #[true, true, true, true, true, true, false, false, false, false, false, false, false, false, false, false, false, false, false, false, false, false, false, false, false, false, false, false, false, false, false, false, false, false, false] rfl rfl (any_of HT_.out (by kernel_rfl)) (fun _ _ _ h => h) (Or.inl ⟨by rfl, ?_⟩) ?_ ?_
                      rotate_left
                      · intro w'
                        go_simp
                        with_reducible rfl
                      rotate_left
                      · simp only [Act.put, List.setIfInBounds_toArray, List.set_cons_zero, List.set_cons_succ, i64_w, i32_w]
                        rfl
                      refine pure_ (i := 6) (N := some 29) (v := ?_) (a' := ?_) #[true, true, true, true, true, true, true, false, false, false, false, false, false, false, false, false, false, false, false, false, false, false, false, false, false, false, false, false, false, false, false, false, false, false, false] rfl rfl (any_of HT_.out (by kernel_rfl)) (fun _ _ _ h => h) (Or.inl ⟨by rfl, ?_⟩) ?_ ?_
                      rotate_left
                      · intro w'
                        go_simp
                        with_reducible rfl
                      rotate_left
                      · simp only [Act.put, List.setIfInBounds_toArray, List.set_cons_zero, List.set_cons_succ, i64_w, i32_w]
                        rfl
                      refine pure_ (i := 7) (N := some 30) (v := ?_) (a' := ?_) #[true, true, true, true, true, true, true, true, false, false, false, false, false, false, false, false, false, false, false, false, false, false, false, false, false, false, false, false, false, false, false, false, false, false, false] rfl rfl (any_of HT_.out (by kernel_rfl)) (fun _ _ _ h => h) (Or.inl ⟨by rfl, ?_⟩) ?_ ?_
                      rotate_left
                      · intro w'
                        go_simp
                        with_reducible rfl
                      rotate_left
                      · simp only [Act.put, List.setIfInBounds_toArray, List.set_cons_zero, List.set_cons_succ, i64_w, i32_w]
                        rfl
                      refine pure_ (i := 9) (N := some 32) (v := ?_) (a' := ?_) #[true, true, true, true, true, true, true, true, false, true, false, false, false, false, false, false, false, false, false, false, false, false, false, false, false, false, false, false, false, false, false, false, false, false, false] rfl rfl (any_of HT_.out (by kernel_rfl)) (fun _ _ _ h => h) (Or.inl ⟨by rfl, ?_⟩) ?_ ?_
                      rotate_left
                      · intro w'
                        go_simp
                        with_reducible rfl
                      rotate_left
                      · simp only [Act.put, List.setIfInBounds_toArray, List.set_cons_zero, List.set_cons_succ, i64_w, i32_w]
                        rfl
                      refine pure_ (i := 10) (N := some 33) (v := ?_) (a' := ?_) #[true, true, true, true, true, true, true, true, false, true, true, false, false, false, false, false, false, false, false, false, false, false, false, false, false, false, false, false, false, false, false, false, false, false, false] rfl rfl (any_of HT_.out (by kernel_rfl)) (fun _ _ _ h => h) (Or.inl ⟨by rfl, ?_⟩) ?_ ?_
                      rotate_left
                      · intro w'
                        go_simp
                        with_reducible rfl
                      rotate_left
                      · simp only [Act.put, List.setIfInBounds_toArray, List.set_cons_zero, List.set_cons_succ, i64_w, i32_w]
                        rfl
                      refine pure_ (i := 11) (N := some 34) (v := ?_) (a' := ?_) #[true, true, true, true, true, true, true, true, false, true, true, true, false, false, false, false, false, false, false, false, false, false, false, false, false, false, false, false, false, false, false, false, false, false, false] rfl rfl (any_of HT_.out (by kernel_rfl)) (fun _ _ _ h => h) (Or.inl ⟨by rfl, ?_⟩) ?_ ?_
                      rotate_left
                      · intro w'
                        go_simp
                        with_reducible rfl
                      rotate_left
                      · simp only [Act.put, List.setIfInBounds_toArray, List.set_cons_zero, List.set_cons_succ, i64_w, i32_w]
                        rfl
                      refine take_ (i := 8) (N := some 31) (v := ?_) (a' := ?_) #[true, true, true, true, true, true, true, true, true, true, true, true, false, false, false, false, false, false, false, false, false, false, false, false, false, false, false, false, false, false, false, false, false, false, false] rfl rfl (take_ofW HT_.out HW_.out (by kernel_rfl)) (fun _ _ _ h => h) (Or.inl ⟨by rfl, ?_⟩) hHeld ?_ ?_
                      rotate_left
                      · rintro w' ⟨s0, s1, s2⟩
                        go_simp
                        with_reducible rfl
                      rotate_left
                      · simp only [Act.put, List.setIfInBounds_toArray, List.set_cons_zero, List.set_cons_succ, i64_w, i32_w]
                        rfl
                      refine take_ (i := 12) (N := some 35) (v := ?_) (a' := ?_) #[true, true, true, true, true, true, true, true, true, true, true, true, true, false, false, false, false, false, false, false, false, false, false, false, false, false, false, false, false, false, false, false, false, false, false] rfl rfl (take_ofW HT_.out HW_.out (by kernel_rfl)) (fun _ _ _ h => h) (Or.inl ⟨by rfl, ?_⟩) hHeld ?_ ?_
                      rotate_left
                      · rintro w' ⟨s0, s1, s2⟩
                        go_simp
                        with_reducible rfl
                      rotate_left
                      · simp only [Act.put, List.setIfInBounds_toArray, List.set_cons_zero, List.set_cons_succ, i64_w, i32_w]
                        rfl
                      refine pure_ (i := 13) (N := some 36) (v := ?_) (a' := ?_) #[true, true, true, true, true, true, true, true, true, true, true, true, true, true, false, false, false, false, false, false, false, false, false, false, false, false, false, false, false, false, false, false, false, false, false] rfl rfl (any_of HT_.out (by kernel_rfl)) (fun _ _ _ h => h) (Or.inl ⟨by rfl, ?_⟩) ?_ ?_
                      rotate_left
                      · intro w'
                        go_simp
                        with_reducible rfl
                      rotate_left
                      · simp only [Act.put, List.setIfInBounds_toArray, List.set_cons_zero, List.set_cons_succ, i64_w, i32_w]
                        rfl
                      refine pure_ (i := 14) (N := some 37) (v := ?_) (a' := ?_) #[true, true, true, true, true, true, true, true, true, true, true, true, true, true, true, false, false, false, false, false, false, false, false, false, false, false, false, false, false, false, false, false, false, false, false] rfl rfl (any_of HT_.out (by kernel_rfl)) (fun _ _ _ h => h) (Or.inl ⟨by rfl, ?_⟩) ?_ ?_
                      rotate_left
                      · intro w'
                        go_simp
                        with_reducible rfl
                      rotate_left
                      · simp only [Act.put, List.setIfInBounds_toArray, List.set_cons_zero, List.set_cons_succ, i64_w, i32_w]
                        rfl
                      refine pure_ (i := 15) (N := some 38) (v := ?_) (a' := ?_) #[true, true, true, true, true, true, true, true, true, true, true, true, true, true, true, true, false, false, false, false, false, false, false, false, false, false, false, false, false, false, false, false, false, false, false] rfl rfl (any_of HT_.out (by kernel_rfl)) (fun _ _ _ h => h) (Or.inl ⟨by rfl, ?_⟩) ?_ ?_
                      rotate_left
                      · intro w'
                        go_simp
                        with_reducible rfl
                      rotate_left
                      · simp only [Act.put, List.setIfInBounds_toArray, List.set_cons_zero, List.set_cons_succ, i64_w, i32_w]
                        rfl
                      refine pure_ (i := 16) (N := some 39) (v := ?_) (a' := ?_) #[true, true, true, true, true, true, true, true, true, true, true, true, true, true, true, true, true, false, false, false, false, false, false, false, false, false, false, false, false, false, false, false, false, false, false] rfl rfl (any_of HT_.out (by kernel_rfl)) (fun _ _ _ h => h) (Or.inl ⟨by rfl, ?_⟩) ?_ ?_
                      rotate_left
                      · intro w'
                        go_simp
                        with_reducible rfl
                      rotate_left
                      · simp only [Act.put, List.setIfInBounds_toArray, List.set_cons_zero, List.set_cons_succ, i64_w, i32_w]
                        rfl
                      refine pure_ (i := 17) (N := some 40) (v := ?_) (a' := ?_) #[true, true, true, true, true, true, true, true, true, true, true, true, true, true, true, true, true, true, false, false, false, false, false, false, false, false, false, false, false, false, false, false, false, false, false] rfl rfl (any_of HT_.out (by kernel_rfl)) (fun _ _ _ h => h) (Or.inl ⟨by rfl, ?_⟩) ?_ ?_
                      rotate_left
                      · intro w'
                        go_simp
                        with_reducible rfl
                      rotate_left
                      · simp only [Act.put, List.setIfInBounds_toArray, List.set_cons_zero, List.set_cons_succ, i64_w, i32_w]
                        rfl
                      refine pure_ (i := 18) (N := some 41) (v := ?_) (a' := ?_) #[true, true, true, true, true, true, true, true, true, true, true, true, true, true, true, true, true, true, true, false, false, false, false, false, false, false, false, false, false, false, false, false, false, false, false] rfl rfl (any_of HT_.out (by kernel_rfl)) (fun _ _ _ h => h) (Or.inl ⟨by rfl, ?_⟩) ?_ ?_
                      rotate_left
                      · intro w'
                        go_simp
                        with_reducible rfl
                      rotate_left
                      · simp only [Act.put, List.setIfInBounds_toArray, List.set_cons_zero, List.set_cons_succ, i64_w, i32_w]
                        rfl
                      refine pure_ (i := 19) (N := some 42) (v := ?_) (a' := ?_) #[true, true, true, true, true, true, true, true, true, true, true, true, true, true, true, true, true, true, true, true, false, false, false, false, false, false, false, false, false, false, false, false, false, false, false] rfl rfl (any_of HT_.out (by kernel_rfl)) (fun _ _ _ h => h) (Or.inl ⟨by rfl, ?_⟩) ?_ ?_
                      rotate_left
                      · intro w'
                        go_simp
                        with_reducible rfl
                      rotate_left
                      · simp only [Act.put, List.setIfInBounds_toArray, List.set_cons_zero, List.set_cons_succ, i64_w, i32_w]
                        rfl
                      refine pure_ (i := 20) (N := some 43) (v := ?_) (a' := ?_) #[true, true, true, true, true, true, true, true, true, true, true, true, true, true, true, true, true, true, true, true, true, false, false, false, false, false, false, false, false, false, false, false, false, false, false] rfl rfl (any_of HT_.out (by kernel_rfl)) (fun _ _ _ h => h) (Or.inl ⟨by rfl, ?_⟩) ?_ ?_
                      rotate_left
                      · intro w'
                        go_simp
                        with_reducible rfl
                      rotate_left
                      · simp only [Act.put, List.setIfInBounds_toArray, List.set_cons_zero, List.set_cons_succ, i64_w, i32_w]
                        rfl
                      refine pure_ (i := 21) (N := some 44) (v := ?_) (a' := ?_) #[true, true, true, true, true, true, true, true, true, true, true, true, true, true, true, true, true, true, true, true, true, true, false, false, false, false, false, false, false, false, false, false, false, false, false] rfl rfl (any_of HT_.out (by kernel_rfl)) (fun _ _ _ h => h) (Or.inl ⟨by rfl, ?_⟩) ?_ ?_
                      rotate_left
                      · intro w'
                        go_simp
                        with_reducible rfl
                      rotate_left
                      · simp only [Act.put, List.setIfInBounds_toArray, List.set_cons_zero, List.set_cons_succ, i64_w, i32_w]
                        rfl
                      refine pure_ (i := 22) (N := some 45) (v := ?_) (a' := ?_) #[true, true, true, true, true, true, true, true, true, true, true, true, true, true, true, true, true, true, true, true, true, true, true, false, false, false, false, false, false, false, false, false, false, false, false] rfl rfl (any_of HT_.out (by kernel_rfl)) (fun _ _ _ h => h) (Or.inl ⟨by rfl, ?_⟩) ?_ ?_
                      rotate_left
                      · intro w'
                        go_simp
                        with_reducible rfl
                      rotate_left
                      · simp only [Act.put, List.setIfInBounds_toArray, List.set_cons_zero, List.set_cons_succ, i64_w, i32_w]
                        rfl
                      refine pure_ (i := 23) (N := some 46) (v := ?_) (a' := ?_) #[true, true, true, true, true, true, true, true, true, true, true, true, true, true, true, true, true, true, true, true, true, true, true, true, false, false, false, false, false, false, false, false, false, false, false] rfl rfl (any_of HT_.out (by kernel_rfl)) (fun _ _ _ h => h) (Or.inl ⟨by rfl, ?_⟩) ?_ ?_
                      rotate_left
                      · intro w'
                        go_simp
                        with_reducible rfl
                      rotate_left
                      · simp only [Act.put, List.setIfInBounds_toArray, List.set_cons_zero, List.set_cons_succ, i64_w, i32_w]
                        rfl
                      refine pure_ (i := 24) (N := some 47) (v := ?_) (a' := ?_) #[true, true, true, true, true, true, true, true, true, true, true, true, true, true, true, true, true, true, true, true, true, true, true, true, true, false, false, false, false, false, false, false, false, false, false] rfl rfl (any_of HT_.out (by kernel_rfl)) (fun _ _ _ h => h) (Or.inl ⟨by rfl, ?_⟩) ?_ ?_
                      rotate_left
                      · intro w'
                        go_simp
                        with_reducible rfl
                      rotate_left
                      · simp only [Act.put, List.setIfInBounds_toArray, List.set_cons_zero, List.set_cons_succ, i64_w, i32_w]
                        rfl
                      refine pure_ (i := 26) (N := some 49) (v := ?_) (a' := ?_) #[true, true, true, true, true, true, true, true, true, true, true, true, true, true, true, true, true, true, true, true, true, true, true, true, true, false, true, false, false, false, false, false, false, false, false] rfl rfl (any_of HT_.out (by kernel_rfl)) (fun _ _ _ h => h) (Or.inl ⟨by rfl, ?_⟩) ?_ ?_
                      rotate_left
                      · intro w'
                        go_simp
                        with_reducible rfl
                      rotate_left
                      · simp only [Act.put, List.setIfInBounds_toArray, List.set_cons_zero, List.set_cons_succ, i64_w, i32_w]
                        rfl
                      refine pure_ (i := 27) (N := some 50) (v := ?_) (a' := ?_) #[true, true, true, true, true, true, true, true, true, true, true, true, true, true, true, true, true, true, true, true, true, true, true, true, true, false, true, true, false, false, false, false, false, false, false] rfl rfl (any_of HT_.out (by kernel_rfl)) (fun _ _ _ h => h) (Or.inl ⟨by rfl, ?_⟩) ?_ ?_
                      rotate_left
                      · intro w'
                        go_simp
                        with_reducible rfl
                      rotate_left
                      · simp only [Act.put, List.setIfInBounds_toArray, List.set_cons_zero, List.set_cons_succ, i64_w, i32_w]
                        rfl
                      refine pure_ (i := 28) (N := some 51) (v := ?_) (a' := ?_) #[true, true, true, true, true, true, true, true, true, true, true, true, true, true, true, true, true, true, true, true, true, true, true, true, true, false, true, true, true, false, false, false, false, false, false] rfl rfl (any_of HT_.out (by kernel_rfl)) (fun _ _ _ h => h) (Or.inl ⟨by rfl, ?_⟩) ?_ ?_
                      rotate_left
                      · intro w'
                        go_simp
                        with_reducible rfl
                      rotate_left
                      · simp only [Act.put, List.setIfInBounds_toArray, List.set_cons_zero, List.set_cons_succ, i64_w, i32_w]
                        rfl
                      refine pure_ (i := 29) (N := some 52) (v := ?_) (a' := ?_) #[true, true, true, true, true, true, true, true, true, true, true, true, true, true, true, true, true, true, true, true, true, true, true, true, true, false, true, true, true, true, false, false, false, false, false] rfl rfl (any_of HT_.out (by kernel_rfl)) (fun _ _ _ h => h) (Or.inl ⟨by rfl, ?_⟩) ?_ ?_
                      rotate_left
                      · intro w'
                        go_simp
                        with_reducible rfl
                      rotate_left
                      · simp only [Act.put, List.setIfInBounds_toArray, List.set_cons_zero, List.set_cons_succ, i64_w, i32_w]
                        rfl
                      refine take_ (i := 25) (N := some 48) (v := ?_) (a' := ?_) #[true, true, true, true, true, true, true, true, true, true, true, true, true, true, true, true, true, true, true, true, true, true, true, true, true, true, true, true, true, true, false, false, false, false, false] rfl rfl (take_ofW HT_.out HW_.out (by kernel_rfl)) (fun _ _ _ h => h) (Or.inl ⟨by rfl, ?_⟩) hHeld ?_ ?_
                      rotate_left
                      · rintro w' ⟨s0, s1, s2⟩
                        go_simp
                        with_reducible rfl
                      rotate_left
                      · simp only [Act.put, List.setIfInBounds_toArray, List.set_cons_zero, List.set_cons_succ, i64_w, i32_w]
                        rfl
                      refine one_ (i := 30) (N := some 53) #[true, true, true, true, true, true, true, true, true, true, true, true, true, true, true, true, true, true, true, true, true, true, true, true, true, true, true, true, true, true, true, false, false, false, false] rfl rfl (one_of HT_.out (by kernel_rfl)) (by decide) (fun K hK => ?_)
                      refine goes_ Try.func43 (by kernel_rfl) rfl #[.int .i64 1, .int .i64 (wrap64 (x6_1 - (l1.length : Int)))] (by rfl) rfl rfl (by (try simp only [List.map_toArray, List.map_cons, List.map_nil]); first | done | rfl | (simp only [List.length_drop, List.length_take]; rfl)) ?_
                      with_reducible refine (storemankit_markText.calls 1 (wrap64 (x6_1 - (l1.length : Int))) t189 _ A11.out).mono ?_
                      rintro e w14 ⟨rfl, hb⟩
                      refine ⟨_, rfl, ?_⟩
                      have n0_ := Aside0.mk (below_step Sh.B hb)
                      clear HB
                      have HB := n0_
                      clear n0_
                      (try clear hb)
                      (try clear hb2)
                      (try clear hk)
                      (try clear hi)
                      refine hK.out _ _ ⟨((HB.out.cell (World.block_lt_of_cell? w _ hw186_0)).trans hw186_0), ((HB.out.cell (World.block_lt_of_cell? w _ hw187_0)).trans hw187_0), ((HB.out.cell (World.block_lt_of_cell? w _ hw188_0)).trans hw188_0)⟩ (fun hHeld => ?_)
                      clear hK K
                      refine norm_ (a' := ?_) ?_ ?_
                      rotate_left
                      · show Act.put _ (some 53) _ = _
                        simp only [Act.put, List.setIfInBounds_toArray, List.set_cons_zero, List.set_cons_succ, i64_w, i32_w]
                        rfl
                      refine pure_ (i := 31) (N := some 54) (v := ?_) (a' := ?_) #[true, true, true, true, true, true, true, true, true, true, true, true, true, true, true, true, true, true, true, true, true, true, true, true, true, true, true, true, true, true, true, true, false, false, false] rfl rfl (any_of HT_.out (by kernel_rfl)) (fun _ _ _ h => h) (Or.inl ⟨by rfl, ?_⟩) ?_ ?_
                      rotate_left
                      · intro w'
                        go_simp
                        with_reducible rfl
                      rotate_left
                      · simp only [Act.put, List.setIfInBounds_toArray, List.set_cons_zero, List.set_cons_succ, i64_w, i32_w]
                        rfl
                      refine pure_ (i := 32) (N := some 55) (v := ?_) (a' := ?_) #[true, true, true, true, true, true, true, true, true, true, true, true, true, true, true, true, true, true, true, true, true, true, true, true, true, true, true, true, true, true, true, true, true, false, false] rfl rfl (any_of HT_.out (by kernel_rfl)) (fun _ _ _ h => h) (Or.inl ⟨by rfl, ?_⟩) ?_ ?_
                      rotate_left
                      · intro w'
                        go_simp
                        with_reducible rfl
                      rotate_left
                      · simp only [Act.put, List.setIfInBounds_toArray, List.set_cons_zero, List.set_cons_succ, i64_w, i32_w]
                        rfl
                      refine pure_ (i := 33) (N := some 56) (v := ?_) (a' := ?_) #[true, true, true, true, true, true, true, true, true, true, true, true, true, true, true, true, true, true, true, true, true, true, true, true, true, true, true, true, true, true, true, true, true, true, false] rfl rfl (any_of HT_.out (by kernel_rfl)) (fun _ _ _ h => h) (Or.inl ⟨by rfl, ?_⟩) ?_ ?_
                      rotate_left
                      · intro w'
                        go_simp
                        with_reducible rfl
                      rotate_left
                      · simp only [Act.put, List.setIfInBounds_toArray, List.set_cons_zero, List.set_cons_succ, i64_w, i32_w]
                        rfl
                      refine pure_ (i := 34) (N := some 57) (v := ?_) (a' := ?_) #[true, true, true, true, true, true, true, true, true, true, true, true, true, true, true, true, true, true, true, true, true, true, true, true, true, true, true, true, true, true, true, true, true, true, true] rfl rfl (any_of HT_.out (by kernel_rfl)) (fun _ _ _ h => h) (Or.inl ⟨by rfl, ?_⟩) ?_ ?_
                      rotate_left
                      · intro w'
                        go_simp
                        with_reducible rfl
                      rotate_left
                      · simp only [Act.put, List.setIfInBounds_toArray, List.set_cons_zero, List.set_cons_succ, i64_w, i32_w]
                        rfl
                      refine done_ (done_of HT_.out (by kernel_rfl)) ?_
                      try go_wp2
                      go_roundg k1
                      case measure => have := HK1.out; omega
                      case rel => exact ⟨(wrap64 (x6_1 + 1)), (by first | rfl | (simp; done) | (simp [*]; done)), H', ⟨by have := HK1.out; omega⟩, ⟨Sh.B⟩⟩
                    · rw [if_neg c12] at H
                      have c12b0 : ((rdOf ByteArray.empty y182 x6_1).toList == t189.toList) = false := beq_eq_false_iff_ne.mpr c12
                      have c12b1 : ((rdOf ByteArray.empty y182 x6_1).toList != t189.toList) = true := bne_iff_ne.mpr c12
                      exact absurd ((Option.some.inj H).trans HRT.out) (by decide)
                  · rw [if_neg c10] at H
                    have c10b0 : decide ((l1.length : Int) ≤ x6_1) = false := decide_eq_false c10
                    clear c10
                    have H' := Aside0.mk H
                    clear H
                    try go_wp2
                    have n0_ := Aside0.mk (below_drew1 HB.out)
                    clear HB
                    have HB := n0_
                    clear n0_
                    have p186 : 0 ≤ (x6_1 : Int) := of_decide_eq_true Sh.A
                    have q186 : x6_1 < (y182.length : Int) := of_decide_eq_true Sh.A
                    obtain ⟨ad186, e186, hx186_0⟩ := Kd.at_string HR185.out x6_1 p186 q186
                    have hw186_0 := hx186_0
                    cases e186
                    replace hx186_0 := (HB.out.cell (World.block_lt_of_cell? w _ hx186_0)).trans hx186_0
                    replace p186 := eq_true p186
                    replace q186 := eq_true q186
                    have p187 : 0 ≤ (x6_1 : Int) := of_decide_eq_true Sh.A
                    have q187 : x6_1 < (l1.length : Int) := of_decide_eq_true Sh.A
                    obtain ⟨ad187, e187, hx187_0⟩ := Kd.at_string HR1.out x6_1 p187 q187
                    have hw187_0 := hx187_0
                    cases e187
                    replace hx187_0 := (HB.out.cell (World.block_lt_of_cell? w _ hx187_0)).trans hx187_0
                    replace p187 := eq_true p187
                    replace q187 := eq_true q187
                    refine start_ (n := 35) (S := fun w' => w'.cell? (ad186.add (x6_1).toNat) = some (.string (rdOf ByteArray.empty y182 x6_1)) ∧ w'.cell? (ad187.add (x6_1).toNat) = some (.string (rdOf ByteArray.empty l1 x6_1))) (ds := []) #[false, false, false, false, false, false, false, false, false, false, false, false, false, false, false, false, false, false, false, false, false, false, false, false, false, false, false, false, false, false, false, false, false, false, false] (by kernel_rfl) rfl rfl ⟨((HB.out.cell (World.block_lt_of_cell? w _ hw186_0)).trans hw186_0), ((HB.out.cell (World.block_lt_of_cell? w _ hw187_0)).trans hw187_0)⟩ (fun hHeld => ?_); refine with_tabW storemankit_KeptTexts.tab7 storemankit_KeptTexts.bits7 (fun HT_ HW_ => ?_)
                    generalize wr.drew = w15 at HB hx186_0 hx187_0 hHeld ⊢
                    refine pure_ (i := 0) (N := some 23) (v := ?_) (a' := ?_) #[true, false, false, false, false, false, false, false, false, false, false, false, false, false, false, false, false, false, false, false, false, false, false, false, false, false, false, false, false, false, false, false, false, false, false] rfl rfl (any_of HT_.out (by kernel_rfl)) (fun _ _ _ h => h) (Or.inl ⟨by rfl, ?_⟩) ?_ ?_
                    rotate_left
                    · intro w'
                      go_simp
                      with_reducible rfl
                    rotate_left
                    · simp only [Act.put, List.setIfInBounds_toArray, List.set_cons_zero, List.set_cons_succ, i64_w, i32_w]
                      rfl
                    refine pure_ (i := 1) (N := some 24) (v := ?_) (a' := ?_) #[true, true, false, false, false, false, false, false, false, false, false, false, false, false, false, false, false, false, false, false, false, false, false, false, false, false, false, false, false, false, false, false, false, false, false] rfl rfl (any_of HT_.out (by kernel_rfl)) (fun _ _ _ h => h) (Or.inl ⟨by rfl, ?_⟩) ?_ ?_
                    rotate_left
                    · intro w'
                      go_simp
                      with_reducible rfl
                    rotate_left
                    · simp only [Act.put, List.setIfInBounds_toArray, List.set_cons_zero, List.set_cons_succ, i64_w, i32_w]
                      rfl
                    refine pure_ (i := 2) (N := some 25) (v := ?_) (a' := ?_) #[true, true, true, false, false, false, false, false, false, false, false, false, false, false, false, false, false, false, false, false, false, false, false, false, false, false, false, false, false, false, false, false, false, false, false] rfl rfl (any_of HT_.out (by kernel_rfl)) (fun _ _ _ h => h) (Or.inl ⟨by rfl, ?_⟩) ?_ ?_
                    rotate_left
                    · intro w'
                      go_simp
                      with_reducible rfl
                    rotate_left
                    · simp only [Act.put, List.setIfInBounds_toArray, List.set_cons_zero, List.set_cons_succ, i64_w, i32_w]
                      rfl
                    refine pure_ (i := 3) (N := some 26) (v := ?_) (a' := ?_) #[true, true, true, true, false, false, false, false, false, false, false, false, false, false, false, false, false, false, false, false, false, false, false, false, false, false, false, false, false, false, false, false, false, false, false] rfl rfl (any_of HT_.out (by kernel_rfl)) (fun _ _ _ h => h) (Or.inl ⟨by rfl, ?_⟩) ?_ ?_
                    rotate_left
                    · intro w'
                      go_simp
                      with_reducible rfl
                    rotate_left
                    · simp only [Act.put, List.setIfInBounds_toArray, List.set_cons_zero, List.set_cons_succ, i64_w, i32_w]
                      rfl
                    refine pure_ (i := 4) (N := some 27) (v := ?_) (a' := ?_) #[true, true, true, true, true, false, false, false, false, false, false, false, false, false, false, false, false, false, false, false, false, false, false, false, false, false, false, false, false, false, false, false, false, false, false] rfl rfl (any_of HT_.out (by kernel_rfl)) (fun _ _ _ h => h) (Or.inl ⟨by rfl, ?_⟩) ?_ ?_
                    rotate_left
                    · intro w'
                      go_simp
                      with_reducible rfl
                    rotate_left
                    · simp only [Act.put, List.setIfInBounds_toArray, List.set_cons_zero, List.set_cons_succ, i64_w, i32_w]
                      rfl
                    refine pure_ (i := 5) (N := some 28) (v := ?_) (a' := ?_) #[true, true, true, true, true, true, false, false, false, false, false, false, false, false, false, false, false, false, false, false, false, false, false, false, false, false, false, false, false, false, false, false, false, false, false] rfl rfl (any_of HT_.out (by kernel_rfl)) (fun _ _ _ h => h) (Or.inl ⟨by rfl, ?_⟩) ?_ ?_
                    rotate_left
                    · intro w'
                      go_simp
                      with_reducible rfl
                    rotate_left
                    · simp only [Act.put, List.setIfInBounds_toArray, List.set_cons_zero, List.set_cons_succ, i64_w, i32_w]
                      rfl
                    refine pure_ (i := 6) (N := some 29) (v := ?_) (a' := ?_) #[true, true, true, true, true, true, true, false, false, false, false, false, false, false, false, false, false, false, false, false, false, false, false, false, false, false, false, false, false, false, false, false, false, false, false] rfl rfl (any_of HT_.out (by kernel_rfl)) (fun _ _ _ h => h) (Or.inl ⟨by rfl, ?_⟩) ?_ ?_
                    rotate_left
                    · intro w'
                      go_simp
                      with_reducible rfl
                    rotate_left
                    · simp only [Act.put, List.setIfInBounds_toArray, List.set_cons_zero, List.set_cons_succ, i64_w, i32_w]
                      rfl
                    refine pure_ (i := 7) (N := some 30) (v := ?_) (a' := ?_) #[true, true, true, true, true, true, true, true, false, false, false, false, false, false, false, false, false, false, false, false, false, false, false, false, false, false, false, false, false, false, false, false, false, false, false] rfl rfl (any_of HT_.out (by kernel_rfl)) (fun _ _ _ h => h) (Or.inl ⟨by rfl, ?_⟩) ?_ ?_
                    rotate_left
                    · intro w'
                      go_simp
                      with_reducible rfl
                    rotate_left
                    · simp only [Act.put, List.setIfInBounds_toArray, List.set_cons_zero, List.set_cons_succ, i64_w, i32_w]
                      rfl
                    refine pure_ (i := 9) (N := some 32) (v := ?_) (a' := ?_) #[true, true, true, true, true, true, true, true, false, true, false, false, false, false, false, false, false, false, false, false, false, false, false, false, false, false, false, false, false, false, false, false, false, false, false] rfl rfl (any_of HT_.out (by kernel_rfl)) (fun _ _ _ h => h) (Or.inl ⟨by rfl, ?_⟩) ?_ ?_
                    rotate_left
                    · intro w'
                      go_simp
                      with_reducible rfl
                    rotate_left
                    · simp only [Act.put, List.setIfInBounds_toArray, List.set_cons_zero, List.set_cons_succ, i64_w, i32_w]
                      rfl
                    refine pure_ (i := 10) (N := some 33) (v := ?_) (a' := ?_) #[true, true, true, true, true, true, true, true, false, true, true, false, false, false, false, false, false, false, false, false, false, false, false, false, false, false, false, false, false, false, false, false, false, false, false] rfl rfl (any_of HT_.out (by kernel_rfl)) (fun _ _ _ h => h) (Or.inl ⟨by rfl, ?_⟩) ?_ ?_
                    rotate_left
                    · intro w'
                      go_simp
                      with_reducible rfl
                    rotate_left
                    · simp only [Act.put, List.setIfInBounds_toArray, List.set_cons_zero, List.set_cons_succ, i64_w, i32_w]
                      rfl
                    refine pure_ (i := 11) (N := some 34) (v := ?_) (a' := ?_) #[true, true, true, true, true, true, true, true, false, true, true, true, false, false, false, false, false, false, false, false, false, false, false, false, false, false, false, false, false, false, false, false, false, false, false] rfl rfl (any_of HT_.out (by kernel_rfl)) (fun _ _ _ h => h) (Or.inl ⟨by rfl, ?_⟩) ?_ ?_
                    rotate_left
                    · intro w'
                      go_simp
                      with_reducible rfl
                    rotate_left
                    · simp only [Act.put, List.setIfInBounds_toArray, List.set_cons_zero, List.set_cons_succ, i64_w, i32_w]
                      rfl
                    refine take_ (i := 8) (N := some 31) (v := ?_) (a' := ?_) #[true, true, true, true, true, true, true, true, true, true, true, true, false, false, false, false, false, false, false, false, false, false, false, false, false, false, false, false, false, false, false, false, false, false, false] rfl rfl (take_ofW HT_.out HW_.out (by kernel_rfl)) (fun _ _ _ h => h) (Or.inl ⟨by rfl, ?_⟩) hHeld ?_ ?_
                    rotate_left
                    · rintro w' ⟨s0, s1⟩
                      go_simp
                      with_reducible rfl
                    rotate_left
                    · simp only [Act.put, List.setIfInBounds_toArray, List.set_cons_zero, List.set_cons_succ, i64_w, i32_w]
                      rfl
                    refine take_ (i := 12) (N := some 35) (v := ?_) (a' := ?_) #[true, true, true, true, true, true, true, true, true, true, true, true, true, false, false, false, false, false, false, false, false, false, false, false, false, false, false, false, false, false, false, false, false, false, false] rfl rfl (take_ofW HT_.out HW_.out (by kernel_rfl)) (fun _ _ _ h => h) (Or.inl ⟨by rfl, ?_⟩) hHeld ?_ ?_
                    rotate_left
                    · rintro w' ⟨s0, s1⟩
                      go_simp
                      with_reducible rfl
                    rotate_left
                    · simp only [Act.put, List.setIfInBounds_toArray, List.set_cons_zero, List.set_cons_succ, i64_w, i32_w]
                      rfl
                    refine pure_ (i := 13) (N := some 36) (v := ?_) (a' := ?_) #[true, true, true, true, true, true, true, true, true, true, true, true, true, true, false, false, false, false, false, false, false, false, false, false, false, false, false, false, false, false, false, false, false, false, false] rfl rfl (any_of HT_.out (by kernel_rfl)) (fun _ _ _ h => h) (Or.inl ⟨by rfl, ?_⟩) ?_ ?_
                    rotate_left
                    · intro w'
                      go_simp
                      with_reducible rfl
                    rotate_left
                    · simp only [Act.put, List.setIfInBounds_toArray, List.set_cons_zero, List.set_cons_succ, i64_w, i32_w]
                      rfl
                    refine pure_ (i := 14) (N := some 37) (v := ?_) (a' := ?_) #[true, true, true, true, true, true, true, true, true, true, true, true, true, true, true, false, false, false, false, false, false, false, false, false, false, false, false, false, false, false, false, false, false, false, false] rfl rfl (any_of HT_.out (by kernel_rfl)) (fun _ _ _ h => h) (Or.inl ⟨by rfl, ?_⟩) ?_ ?_
                    rotate_left
                    · intro w'
                      go_simp
                      with_reducible rfl
                    rotate_left
                    · simp only [Act.put, List.setIfInBounds_toArray, List.set_cons_zero, List.set_cons_succ, i64_w, i32_w]
                      rfl
                    refine pure_ (i := 15) (N := some 38) (v := ?_) (a' := ?_) #[true, true, true, true, true, true, true, true, true, true, true, true, true, true, true, true, false, false, false, false, false, false, false, false, false, false, false, false, false, false, false, false, false, false, false] rfl rfl (any_of HT_.out (by kernel_rfl)) (fun _ _ _ h => h) (Or.inl ⟨by rfl, ?_⟩) ?_ ?_
                    rotate_left
                    · intro w'
                      go_simp
                      with_reducible rfl
                    rotate_left
                    · simp only [Act.put, List.setIfInBounds_toArray, List.set_cons_zero, List.set_cons_succ, i64_w, i32_w]
                      rfl
                    refine pure_ (i := 16) (N := some 39) (v := ?_) (a' := ?_) #[true, true, true, true, true, true, true, true, true, true, true, true, true, true, true, true, true, false, false, false, false, false, false, false, false, false, false, false, false, false, false, false, false, false, false] rfl rfl (any_of HT_.out (by kernel_rfl)) (fun _ _ _ h => h) (Or.inl ⟨by rfl, ?_⟩) ?_ ?_
                    rotate_left
                    · intro w'
                      go_simp
                      with_reducible rfl
                    rotate_left
                    · simp only [Act.put, List.setIfInBounds_toArray, List.set_cons_zero, List.set_cons_succ, i64_w, i32_w]
                      rfl
                    refine pure_ (i := 17) (N := some 40) (v := ?_) (a' := ?_) #[true, true, true, true, true, true, true, true, true, true, true, true, true, true, true, true, true, true, false, false, false, false, false, false, false, false, false, false, false, false, false, false, false, false, false] rfl rfl (any_of HT_.out (by kernel_rfl)) (fun _ _ _ h => h) (Or.inl ⟨by rfl, ?_⟩) ?_ ?_
                    rotate_left
                    · intro w'
                      go_simp
                      with_reducible rfl
                    rotate_left
                    · simp only [Act.put, List.setIfInBounds_toArray, List.set_cons_zero, List.set_cons_succ, i64_w, i32_w]
                      rfl
                    refine pure_ (i := 18) (N := some 41) (v := ?_) (a' := ?_) #[true, true, true, true, true, true, true, true, true, true, true, true, true, true, true, true, true, true, true, false, false, false, false, false, false, false, false, false, false, false, false, false, false, false, false] rfl rfl (any_of HT_.out (by kernel_rfl)) (fun _ _ _ h => h) (Or.inl ⟨by rfl, ?_⟩) ?_ ?_
                    rotate_left
                    · intro w'
                      go_simp
                      with_reducible rfl
                    rotate_left
                    · simp only [Act.put, List.setIfInBounds_toArray, List.set_cons_zero, List.set_cons_succ, i64_w, i32_w]
                      rfl
                    refine pure_ (i := 19) (N := some 42) (v := ?_) (a' := ?_) #[true, true, true, true, true, true, true, true, true, true, true, true, true, true, true, true, true, true, true, true, false, false, false, false, false, false, false, false, false, false, false, false, false, false, false] rfl rfl (any_of HT_.out (by kernel_rfl)) (fun _ _ _ h => h) (Or.inl ⟨by rfl, ?_⟩) ?_ ?_
                    rotate_left
                    · intro w'
                      go_simp
                      with_reducible rfl
                    rotate_left
                    · simp only [Act.put, List.setIfInBounds_toArray, List.set_cons_zero, List.set_cons_succ, i64_w, i32_w]
                      rfl
                    refine pure_ (i := 20) (N := some 43) (v := ?_) (a' := ?_) #[true, true, true, true, true, true, true, true, true, true, true, true, true, true, true, true, true, true, true, true, true, false, false, false, false, false, false, false, false, false, false, false, false, false, false] rfl rfl (any_of HT_.out (by kernel_rfl)) (fun _ _ _ h => h) (Or.inl ⟨by rfl, ?_⟩) ?_ ?_
                    rotate_left
                    · intro w'
                      go_simp
                      with_reducible rfl
                    rotate_left
                    · simp only [Act.put, List.setIfInBounds_toArray, List.set_cons_zero, List.set_cons_succ, i64_w, i32_w]
                      rfl
                    refine pure_ (i := 21) (N := some 44) (v := ?_) (a' := ?_) #[true, true, true, true, true, true, true, true, true, true, true, true, true, true, true, true, true, true, true, true, true, true, false, false, false, false, false, false, false, false, false, false, false, false, false] rfl rfl (any_of HT_.out (by kernel_rfl)) (fun _ _ _ h => h) (Or.inl ⟨by rfl, ?_⟩) ?_ ?_
                    rotate_left
                    · intro w'
                      go_simp
                      with_reducible rfl
                    rotate_left
                    · simp only [Act.put, List.setIfInBounds_toArray, List.set_cons_zero, List.set_cons_succ, i64_w, i32_w]
                      rfl
                    refine pure_ (i := 22) (N := some 45) (v := undef) (a' := ?_) #[true, true, true, true, true, true, true, true, true, true, true, true, true, true, true, true, true, true, true, true, true, true, true, false, false, false, false, false, false, false, false, false, false, false, false] rfl rfl (any_of HT_.out (by kernel_rfl)) (fun _ _ _ h => h) (Or.inr ⟨by rfl, rfl⟩) ?_ ?_
                    rotate_left
                    · simp only [Act.put, List.setIfInBounds_toArray, List.set_cons_zero, List.set_cons_succ, i64_w, i32_w]
                      rfl
                    refine pure_ (i := 23) (N := some 46) (v := undef) (a' := ?_) #[true, true, true, true, true, true, true, true, true, true, true, true, true, true, true, true, true, true, true, true, true, true, true, true, false, false, false, false, false, false, false, false, false, false, false] rfl rfl (any_of HT_.out (by kernel_rfl)) (fun _ _ _ h => h) (Or.inr ⟨by rfl, rfl⟩) ?_ ?_
                    rotate_left
                    · simp only [Act.put, List.setIfInBounds_toArray, List.set_cons_zero, List.set_cons_succ, i64_w, i32_w]
                      rfl
                    refine pure_ (i := 24) (N := some 47) (v := undef) (a' := ?_) #[true, true, true, true, true, true, true, true, true, true, true, true, true, true, true, true, true, true, true, true, true, true, true, true, true, false, false, false, false, false, false, false, false, false, false] rfl rfl (any_of HT_.out (by kernel_rfl)) (fun _ _ _ h => h) (Or.inr ⟨by rfl, rfl⟩) ?_ ?_
                    rotate_left
                    · simp only [Act.put, List.setIfInBounds_toArray, List.set_cons_zero, List.set_cons_succ, i64_w, i32_w]
                      rfl
                    refine pure_ (i := 25) (N := some 48) (v := undef) (a' := ?_) #[true, true, true, true, true, true, true, true, true, true, true, true, true, true, true, true, true, true, true, true, true, true, true, true, true, true, false, false, false, false, false, false, false, false, false] rfl rfl (any_of HT_.out (by kernel_rfl)) (fun _ _ _ h => h) (Or.inr ⟨by rfl, rfl⟩) ?_ ?_
                    rotate_left
                    · simp only [Act.put, List.setIfInBounds_toArray, List.set_cons_zero, List.set_cons_succ, i64_w, i32_w]
                      rfl
                    refine pure_ (i := 26) (N := some 49) (v := undef) (a' := ?_) #[true, true, true, true, true, true, true, true, true, true, true, true, true, true, true, true, true, true, true, true, true, true, true, true, true, true, true, false, false, false, false, false, false, false, false] rfl rfl (any_of HT_.out (by kernel_rfl)) (fun _ _ _ h => h) (Or.inr ⟨by rfl, rfl⟩) ?_ ?_
                    rotate_left
                    · simp only [Act.put, List.setIfInBounds_toArray, List.set_cons_zero, List.set_cons_succ, i64_w, i32_w]
                      rfl
                    refine pure_ (i := 27) (N := some 50) (v := undef) (a' := ?_) #[true, true, true, true, true, true, true, true, true, true, true, true, true, true, true, true, true, true, true, true, true, true, true, true, true, true, true, true, false, false, false, false, false, false, false] rfl rfl (any_of HT_.out (by kernel_rfl)) (fun _ _ _ h => h) (Or.inr ⟨by rfl, rfl⟩) ?_ ?_
                    rotate_left
                    · simp only [Act.put, List.setIfInBounds_toArray, List.set_cons_zero, List.set_cons_succ, i64_w, i32_w]
                      rfl
                    refine pure_ (i := 28) (N := some 51) (v := undef) (a' := ?_) #[true, true, true, true, true, true, true, true, true, true, true, true, true, true, true, true, true, true, true, true, true, true, true, true, true, true, true, true, true, false, false, false, false, false, false] rfl rfl (any_of HT_.out (by kernel_rfl)) (fun _ _ _ h => h) (Or.inr ⟨by rfl, rfl⟩) ?_ ?_
                    rotate_left
                    · simp only [Act.put, List.setIfInBounds_toArray, List.set_cons_zero, List.set_cons_succ, i64_w, i32_w]
                      rfl
                    refine pure_ (i := 29) (N := some 52) (v := undef) (a' := ?_) #[true, true, true, true, true, true, true, true, true, true, true, true, true, true, true, true, true, true, true, true, true, true, true, true, true, true, true, true, true, true, false, false, false, false, false] rfl rfl (any_of HT_.out (by kernel_rfl)) (fun _ _ _ h => h) (Or.inr ⟨by rfl, rfl⟩) ?_ ?_
                    rotate_left
                    · simp only [Act.put, List.setIfInBounds_toArray, List.set_cons_zero, List.set_cons_succ, i64_w, i32_w]
                      rfl
                    refine pure_ (i := 30) (N := some 53) (v := undef) (a' := ?_) #[true, true, true, true, true, true, true, true, true, true, true, true, true, true, true, true, true, true, true, true, true, true, true, true, true, true, true, true, true, true, true, false, false, false, false] rfl rfl (any_of HT_.out (by kernel_rfl)) (fun _ _ _ h => h) (Or.inr ⟨by rfl, rfl⟩) ?_ ?_
                    rotate_left
                    · simp only [Act.put, List.setIfInBounds_toArray, List.set_cons_zero, List.set_cons_succ, i64_w, i32_w]
                      rfl
                    refine pure_ (i := 31) (N := some 54) (v := undef) (a' := ?_) #[true, true, true, true, true, true, true, true, true, true, true, true, true, true, true, true, true, true, true, true, true, true, true, true, true, true, true, true, true, true, true, true, false, false, false] rfl rfl (any_of HT_.out (by kernel_rfl)) (fun _ _ _ h => h) (Or.inr ⟨by rfl, rfl⟩) ?_ ?_
                    rotate_left
                    · simp only [Act.put, List.setIfInBounds_toArray, List.set_cons_zero, List.set_cons_succ, i64_w, i32_w]
                      rfl
                    refine pure_ (i := 32) (N := some 55) (v := undef) (a' := ?_) #[true, true, true, true, true, true, true, true, true, true, true, true, true, true, true, true, true, true, true, true, true, true, true, true, true, true, true, true, true, true, true, true, true, false, false] rfl rfl (any_of HT_.out (by kernel_rfl)) (fun _ _ _ h => h) (Or.inr ⟨by rfl, rfl⟩) ?_ ?_
                    rotate_left
                    · simp only [Act.put, List.setIfInBounds_toArray, List.set_cons_zero, List.set_cons_succ, i64_w, i32_w]
                      rfl
                    refine pure_ (i := 33) (N := some 56) (v := ?_) (a' := ?_) #[true, true, true, true, true, true, true, true, true, true, true, true, true, true, true, true, true, true, true, true, true, true, true, true, true, true, true, true, true, true, true, true, true, true, false] rfl rfl (any_of HT_.out (by kernel_rfl)) (fun _ _ _ h => h) (Or.inl ⟨by rfl, ?_⟩) ?_ ?_
                    rotate_left
                    · intro w'
                      go_simp
                      with_reducible rfl
                    rotate_left
                    · simp only [Act.put, List.setIfInBounds_toArray, List.set_cons_zero, List.set_cons_succ, i64_w, i32_w]
                      rfl
                    refine pure_ (i := 34) (N := some 57) (v := ?_) (a' := ?_) #[true, true, true, true, true, true, true, true, true, true, true, true, true, true, true, true, true, true, true, true, true, true, true, true, true, true, true, true, true, true, true, true, true, true, true] rfl rfl (any_of HT_.out (by kernel_rfl)) (fun _ _ _ h => h) (Or.inl ⟨by rfl, ?_⟩) ?_ ?_
                    rotate_left
                    · intro w'
                      go_simp
                      with_reducible rfl
                    rotate_left
                    · simp only [Act.put, List.setIfInBounds_toArray, List.set_cons_zero, List.set_cons_succ, i64_w, i32_w]
                      rfl
                    refine done_ (done_of HT_.out (by kernel_rfl)) ?_
                    try go_wp2
                    go_roundg k1
                    case measure => have := HK1.out; omega
                    case rel => exact ⟨(wrap64 (x6_1 + 1)), (by first | rfl | (simp; done) | (simp [*]; done)), H', ⟨by have := HK1.out; omega⟩, ⟨Sh.B⟩⟩
                · rw [if_neg c9] at H
                  have c9b0 : ((rdOf ByteArray.empty y182 x6_1).toList == (rdOf ByteArray.empty l1 x6_1).toList) = false := beq_eq_false_iff_ne.mpr c9
                  have c9b1 : ((rdOf ByteArray.empty y182 x6_1).toList != (rdOf ByteArray.empty l1 x6_1).toList) = true := bne_iff_ne.mpr c9
                  exact absurd ((Option.some.inj H).trans HRT.out) (by decide)
              · rw [if_neg c8] at H
                exact absurd H (by simp)
            · rw [if_neg c7] at H
              have c7b0 : decide (x6_1 < (l1.length : Int)) = false := decide_eq_false c7
              clear c7
              by_cases c16 : x6_1 ≥ (l1.length : Int)
              · rw [if_pos c16] at H
                have c16b0 : decide ((l1.length : Int) ≤ x6_1) = true := decide_eq_true c16
                clear c16
                by_cases c17 : 0 ≤ x6_1
                · rw [if_pos c17] at H
                  have c17b0 : decide (0 ≤ x6_1) = true := decide_eq_true c17
                  clear c17
                  replace H := Option.bind_eq_some_iff.mp H
                  obtain ⟨t191, A180, H⟩ := H
                  replace H : (if ((rdOf ByteArray.empty y182 x6_1).toList = t191.toList) then (storemankit_KeptTexts.l0 k1 l1 y182 (wrap64 (x6_1 + 1))) else (some false)) = some r := H
                  have A18 := Aside0.mk A180
                  clear A180
                  by_cases c19 : ((rdOf ByteArray.empty y182 x6_1).toList = t191.toList)
                  · rw [if_pos c19] at H
                    have c19b0 : ((rdOf ByteArray.empty y182 x6_1).toList == t191.toList) = true := beq_iff_eq.mpr c19
                    have c19b1 : ((rdOf ByteArray.empty y182 x6_1).toList != t191.toList) = false := bne_eq_false_iff_eq.mpr c19
                    clear c19
                    have H' := Aside0.mk H
                    clear H
                    try go_wp2
                    have n0_ := Aside0.mk (below_drew1 HB.out)
                    clear HB
                    have HB := n0_
                    clear n0_
                    have p190 : 0 ≤ (x6_1 : Int) := of_decide_eq_true Sh.A
                    have q190 : x6_1 < (y182.length : Int) := of_decide_eq_true Sh.A
                    obtain ⟨ad190, e190, hx190_0⟩ := Kd.at_string HR185.out x6_1 p190 q190
                    have hw190_0 := hx190_0
                    cases e190
                    replace hx190_0 := (HB.out.cell (World.block_lt_of_cell? w _ hx190_0)).trans hx190_0
                    replace p190 := eq_true p190
                    replace q190 := eq_true q190
                    refine start_ (n := 35) (S := fun w' => w'.cell? (ad190.add (x6_1).toNat) = some (.string (rdOf ByteArray.empty y182 x6_1))) (ds := []) #[false, false, false, false, false, false, false, false, false, false, false, false, false, false, false, false, false, false, false, false, false, false, false, false, false, false, false, false, false, false, false, false, false, false, false] (by kernel_rfl) rfl rfl (((HB.out.cell (World.block_lt_of_cell? w _ hw190_0)).trans hw190_0)) (fun hHeld => ?_); refine with_tabW storemankit_KeptTexts.tab7 storemankit_KeptTexts.bits7 (fun HT_ HW_ => ?_)
                    generalize wr.drew = w20 at HB hx190_0 hHeld ⊢
                    refine pure_ (i := 0) (N := some 23) (v := ?_) (a' := ?_) #[true, false, false, false, false, false, false, false, false, false, false, false, false, false, false, false, false, false, false, false, false, false, false, false, false, false, false, false, false, false, false, false, false, false, false] rfl rfl (any_of HT_.out (by kernel_rfl)) (fun _ _ _ h => h) (Or.inl ⟨by rfl, ?_⟩) ?_ ?_
                    rotate_left
                    · intro w'
                      go_simp
                      with_reducible rfl
                    rotate_left
                    · simp only [Act.put, List.setIfInBounds_toArray, List.set_cons_zero, List.set_cons_succ, i64_w, i32_w]
                      rfl
                    refine pure_ (i := 1) (N := some 24) (v := ?_) (a' := ?_) #[true, true, false, false, false, false, false, false, false, false, false, false, false, false, false, false, false, false, false, false, false, false, false, false, false, false, false, false, false, false, false, false, false, false, false] rfl rfl (any_of HT_.out (by kernel_rfl)) (fun _ _ _ h => h) (Or.inl ⟨by rfl, ?_⟩) ?_ ?_
                    rotate_left
                    · intro w'
                      go_simp
                      with_reducible rfl
                    rotate_left
                    · simp only [Act.put, List.setIfInBounds_toArray, List.set_cons_zero, List.set_cons_succ, i64_w, i32_w]
                      rfl
                    refine pure_ (i := 2) (N := some 25) (v := ?_) (a' := ?_) #[true, true, true, false, false, false, false, false, false, false, false, false, false, false, false, false, false, false, false, false, false, false, false, false, false, false, false, false, false, false, false, false, false, false, false] rfl rfl (any_of HT_.out (by kernel_rfl)) (fun _ _ _ h => h) (Or.inl ⟨by rfl, ?_⟩) ?_ ?_
                    rotate_left
                    · intro w'
                      go_simp
                      with_reducible rfl
                    rotate_left
                    · simp only [Act.put, List.setIfInBounds_toArray, List.set_cons_zero, List.set_cons_succ, i64_w, i32_w]
                      rfl
                    refine pure_ (i := 3) (N := some 26) (v := ?_) (a' := ?_) #[true, true, true, true, false, false, false, false, false, false, false, false, false, false, false, false, false, false, false, false, false, false, false, false, false, false, false, false, false, false, false, false, false, false, false] rfl rfl (any_of HT_.out (by kernel_rfl)) (fun _ _ _ h => h) (Or.inl ⟨by rfl, ?_⟩) ?_ ?_
                    rotate_left
                    · intro w'
                      go_simp
                      with_reducible rfl
                    rotate_left
                    · simp only [Act.put, List.setIfInBounds_toArray, List.set_cons_zero, List.set_cons_succ, i64_w, i32_w]
                      rfl
                    refine pure_ (i := 4) (N := some 27) (v := ?_) (a' := ?_) #[true, true, true, true, true, false, false, false, false, false, false, false, false, false, false, false, false, false, false, false, false, false, false, false, false, false, false, false, false, false, false, false, false, false, false] rfl rfl (any_of HT_.out (by kernel_rfl)) (fun _ _ _ h => h) (Or.inl ⟨by rfl, ?_⟩) ?_ ?_
                    rotate_left
                    · intro w'
                      go_simp
                      with_reducible rfl
                    rotate_left
                    · simp only [Act.put, List.setIfInBounds_toArray, List.set_cons_zero, List.set_cons_succ, i64_w, i32_w]
                      rfl
                    refine pure_ (i := 5) (N := some 28) (v := undef) (a' := ?_) #[true, true, true, true, true, true, false, false, false, false, false, false, false, false, false, false, false, false, false, false, false, false, false, false, false, false, false, false, false, false, false, false, false, false, false] rfl rfl (any_of HT_.out (by kernel_rfl)) (fun _ _ _ h => h) (Or.inr ⟨by rfl, rfl⟩) ?_ ?_
                    rotate_left
                    · simp only [Act.put, List.setIfInBounds_toArray, List.set_cons_zero, List.set_cons_succ, i64_w, i32_w]
                      rfl
                    refine pure_ (i := 6) (N := some 29) (v := undef) (a' := ?_) #[true, true, true, true, true, true, true, false, false, false, false, false, false, false, false, false, false, false, false, false, false, false, false, false, false, false, false, false, false, false, false, false, false, false, false] rfl rfl (any_of HT_.out (by kernel_rfl)) (fun _ _ _ h => h) (Or.inr ⟨by rfl, rfl⟩) ?_ ?_
                    rotate_left
                    · simp only [Act.put, List.setIfInBounds_toArray, List.set_cons_zero, List.set_cons_succ, i64_w, i32_w]
                      rfl
                    refine pure_ (i := 7) (N := some 30) (v := undef) (a' := ?_) #[true, true, true, true, true, true, true, true, false, false, false, false, false, false, false, false, false, false, false, false, false, false, false, false, false, false, false, false, false, false, false, false, false, false, false] rfl rfl (any_of HT_.out (by kernel_rfl)) (fun _ _ _ h => h) (Or.inr ⟨by rfl, rfl⟩) ?_ ?_
                    rotate_left
                    · simp only [Act.put, List.setIfInBounds_toArray, List.set_cons_zero, List.set_cons_succ, i64_w, i32_w]
                      rfl
                    refine pure_ (i := 8) (N := some 31) (v := undef) (a' := ?_) #[true, true, true, true, true, true, true, true, true, false, false, false, false, false, false, false, false, false, false, false, false, false, false, false, false, false, false, false, false, false, false, false, false, false, false] rfl rfl (any_of HT_.out (by kernel_rfl)) (fun _ _ _ h => h) (Or.inr ⟨by rfl, rfl⟩) ?_ ?_
                    rotate_left
                    · simp only [Act.put, List.setIfInBounds_toArray, List.set_cons_zero, List.set_cons_succ, i64_w, i32_w]
                      rfl
                    refine pure_ (i := 9) (N := some 32) (v := undef) (a' := ?_) #[true, true, true, true, true, true, true, true, true, true, false, false, false, false, false, false, false, false, false, false, false, false, false, false, false, false, false, false, false, false, false, false, false, false, false] rfl rfl (any_of HT_.out (by kernel_rfl)) (fun _ _ _ h => h) (Or.inr ⟨by rfl, rfl⟩) ?_ ?_
                    rotate_left
                    · simp only [Act.put, List.setIfInBounds_toArray, List.set_cons_zero, List.set_cons_succ, i64_w, i32_w]
                      rfl
                    refine pure_ (i := 10) (N := some 33) (v := undef) (a' := ?_) #[true, true, true, true, true, true, true, true, true, true, true, false, false, false, false, false, false, false, false, false, false, false, false, false, false, false, false, false, false, false, false, false, false, false, false] rfl rfl (any_of HT_.out (by kernel_rfl)) (fun _ _ _ h => h) (Or.inr ⟨by rfl, rfl⟩) ?_ ?_
                    rotate_left
                    · simp only [Act.put, List.setIfInBounds_toArray, List.set_cons_zero, List.set_cons_succ, i64_w, i32_w]
                      rfl
                    refine pure_ (i := 11) (N := some 34) (v := undef) (a' := ?_) #[true, true, true, true, true, true, true, true, true, true, true, true, false, false, false, false, false, false, false, false, false, false, false, false, false, false, false, false, false, false, false, false, false, false, false] rfl rfl (any_of HT_.out (by kernel_rfl)) (fun _ _ _ h => h) (Or.inr ⟨by rfl, rfl⟩) ?_ ?_
                    rotate_left
                    · simp only [Act.put, List.setIfInBounds_toArray, List.set_cons_zero, List.set_cons_succ, i64_w, i32_w]
                      rfl
                    refine pure_ (i := 12) (N := some 35) (v := undef) (a' := ?_) #[true, true, true, true, true, true, true, true, true, true, true, true, true, false, false, false, false, false, false, false, false, false, false, false, false, false, false, false, false, false, false, false, false, false, false] rfl rfl (any_of HT_.out (by kernel_rfl)) (fun _ _ _ h => h) (Or.inr ⟨by rfl, rfl⟩) ?_ ?_
                    rotate_left
                    · simp only [Act.put, List.setIfInBounds_toArray, List.set_cons_zero, List.set_cons_succ, i64_w, i32_w]
                      rfl
                    refine pure_ (i := 13) (N := some 36) (v := undef) (a' := ?_) #[true, true, true, true, true, true, true, true, true, true, true, true, true, true, false, false, false, false, false, false, false, false, false, false, false, false, false, false, false, false, false, false, false, false, false] rfl rfl (any_of HT_.out (by kernel_rfl)) (fun _ _ _ h => h) (Or.inr ⟨by rfl, rfl⟩) ?_ ?_
                    rotate_left
                    · simp only [Act.put, List.setIfInBounds_toArray, List.set_cons_zero, List.set_cons_succ, i64_w, i32_w]
                      rfl
                    refine pure_ (i := 14) (N := some 37) (v := undef) (a' := ?_) #[true, true, true, true, true, true, true, true, true, true, true, true, true, true, true, false, false, false, false, false, false, false, false, false, false, false, false, false, false, false, false, false, false, false, false] rfl rfl (any_of HT_.out (by kernel_rfl)) (fun _ _ _ h => h) (Or.inr ⟨by rfl, rfl⟩) ?_ ?_
                    rotate_left
                    · simp only [Act.put, List.setIfInBounds_toArray, List.set_cons_zero, List.set_cons_succ, i64_w, i32_w]
                      rfl
                    refine pure_ (i := 15) (N := some 38) (v := ?_) (a' := ?_) #[true, true, true, true, true, true, true, true, true, true, true, true, true, true, true, true, false, false, false, false, false, false, false, false, false, false, false, false, false, false, false, false, false, false, false] rfl rfl (any_of HT_.out (by kernel_rfl)) (fun _ _ _ h => h) (Or.inl ⟨by rfl, ?_⟩) ?_ ?_
                    rotate_left
                    · intro w'
                      go_simp
                      with_reducible rfl
                    rotate_left
                    · simp only [Act.put, List.setIfInBounds_toArray, List.set_cons_zero, List.set_cons_succ, i64_w, i32_w]
                      rfl
                    refine pure_ (i := 16) (N := some 39) (v := ?_) (a' := ?_) #[true, true, true, true, true, true, true, true, true, true, true, true, true, true, true, true, true, false, false, false, false, false, false, false, false, false, false, false, false, false, false, false, false, false, false] rfl rfl (any_of HT_.out (by kernel_rfl)) (fun _ _ _ h => h) (Or.inl ⟨by rfl, ?_⟩) ?_ ?_
                    rotate_left
                    · intro w'
                      go_simp
                      with_reducible rfl
                    rotate_left
                    · simp only [Act.put, List.setIfInBounds_toArray, List.set_cons_zero, List.set_cons_succ, i64_w, i32_w]
                      rfl
                    refine pure_ (i := 17) (N := some 40) (v := ?_) (a' := ?_) #[true, true, true, true, true, true, true, true, true, true, true, true, true, true, true, true, true, true, false, false, false, false, false, false, false, false, false, false, false, false, false, false, false, false, false] rfl rfl (any_of HT_.out (by kernel_rfl)) (fun _ _ _ h => h) (Or.inl ⟨by rfl, ?_⟩) ?_ ?_
                    rotate_left
                    · intro w'
                      go_simp
                      with_reducible rfl
                    rotate_left
                    · simp only [Act.put, List.setIfInBounds_toArray, List.set_cons_zero, List.set_cons_succ, i64_w, i32_w]
                      rfl
                    refine pure_ (i := 18) (N := some 41) (v := ?_) (a' := ?_) #[true, true, true, true, true, true, true, true, true, true, true, true, true, true, true, true, true, true, true, false, false, false, false, false, false, false, false, false, false, false, false, false, false, false, false] rfl rfl (any_of HT_.out (by kernel_rfl)) (fun _ _ _ h => h) (Or.inl ⟨by rfl, ?_⟩) ?_ ?_
                    rotate_left
                    · intro w'
                      go_simp
                      with_reducible rfl
                    rotate_left
                    · simp only [Act.put, List.setIfInBounds_toArray, List.set_cons_zero, List.set_cons_succ, i64_w, i32_w]
                      rfl
                    refine pure_ (i := 19) (N := some 42) (v := ?_) (a' := ?_) #[true, true, true, true, true, true, true, true, true, true, true, true, true, true, true, true, true, true, true, true, false, false, false, false, false, false, false, false, false, false, false, false, false, false, false] rfl rfl (any_of HT_.out (by kernel_rfl)) (fun _ _ _ h => h) (Or.inl ⟨by rfl, ?_⟩) ?_ ?_
                    rotate_left
                    · intro w'
                      go_simp
                      with_reducible rfl
                    rotate_left
                    · simp only [Act.put, List.setIfInBounds_toArray, List.set_cons_zero, List.set_cons_succ, i64_w, i32_w]
                      rfl
                    refine pure_ (i := 20) (N := some 43) (v := ?_) (a' := ?_) #[true, true, true, true, true, true, true, true, true, true, true, true, true, true, true, true, true, true, true, true, true, false, false, false, false, false, false, false, false, false, false, false, false, false, false] rfl rfl (any_of HT_.out (by kernel_rfl)) (fun _ _ _ h => h) (Or.inl ⟨by rfl, ?_⟩) ?_ ?_
                    rotate_left
                    · intro w'
                      go_simp
                      with_reducible rfl
                    rotate_left
                    · simp only [Act.put, List.setIfInBounds_toArray, List.set_cons_zero, List.set_cons_succ, i64_w, i32_w]
                      rfl
                    refine pure_ (i := 21) (N := some 44) (v := ?_) (a' := ?_) #[true, true, true, true, true, true, true, true, true, true, true, true, true, true, true, true, true, true, true, true, true, true, false, false, false, false, false, false, false, false, false, false, false, false, false] rfl rfl (any_of HT_.out (by kernel_rfl)) (fun _ _ _ h => h) (Or.inl ⟨by rfl, ?_⟩) ?_ ?_
                    rotate_left
                    · intro w'
                      go_simp
                      with_reducible rfl
                    rotate_left
                    · simp only [Act.put, List.setIfInBounds_toArray, List.set_cons_zero, List.set_cons_succ, i64_w, i32_w]
                      rfl
                    refine pure_ (i := 22) (N := some 45) (v := ?_) (a' := ?_) #[true, true, true, true, true, true, true, true, true, true, true, true, true, true, true, true, true, true, true, true, true, true, true, false, false, false, false, false, false, false, false, false, false, false, false] rfl rfl (any_of HT_.out (by kernel_rfl)) (fun _ _ _ h => h) (Or.inl ⟨by rfl, ?_⟩) ?_ ?_
                    rotate_left
                    · intro w'
                      go_simp
                      with_reducible rfl
                    rotate_left
                    · simp only [Act.put, List.setIfInBounds_toArray, List.set_cons_zero, List.set_cons_succ, i64_w, i32_w]
                      rfl
                    refine pure_ (i := 23) (N := some 46) (v := ?_) (a' := ?_) #[true, true, true, true, true, true, true, true, true, true, true, true, true, true, true, true, true, true, true, true, true, true, true, true, false, false, false, false, false, false, false, false, false, false, false] rfl rfl (any_of HT_.out (by kernel_rfl)) (fun _ _ _ h => h) (Or.inl ⟨by rfl, ?_⟩) ?_ ?_
                    rotate_left
                    · intro w'
                      go_simp
                      with_reducible rfl
                    rotate_left
                    · simp only [Act.put, List.setIfInBounds_toArray, List.set_cons_zero, List.set_cons_succ, i64_w, i32_w]
                      rfl
                    refine pure_ (i := 24) (N := some 47) (v := ?_) (a' := ?_) #[true, true, true, true, true, true, true, true, true, true, true, true, true, true, true, true, true, true, true, true, true, true, true, true, true, false, false, false, false, false, false, false, false, false, false] rfl rfl (any_of HT_.out (by kernel_rfl)) (fun _ _ _ h => h) (Or.inl ⟨by rfl, ?_⟩) ?_ ?_
                    rotate_left
                    · intro w'
                      go_simp
                      with_reducible rfl
                    rotate_left
                    · simp only [Act.put, List.setIfInBounds_toArray, List.set_cons_zero, List.set_cons_succ, i64_w, i32_w]
                      rfl
                    refine pure_ (i := 26) (N := some 49) (v := ?_) (a' := ?_) #[true, true, true, true, true, true, true, true, true, true, true, true, true, true, true, true, true, true, true, true, true, true, true, true, true, false, true, false, false, false, false, false, false, false, false] rfl rfl (any_of HT_.out (by kernel_rfl)) (fun _ _ _ h => h) (Or.inl ⟨by rfl, ?_⟩) ?_ ?_
                    rotate_left
                    · intro w'
                      go_simp
                      with_reducible rfl
                    rotate_left
                    · simp only [Act.put, List.setIfInBounds_toArray, List.set_cons_zero, List.set_cons_succ, i64_w, i32_w]
                      rfl
                    refine pure_ (i := 27) (N := some 50) (v := ?_) (a' := ?_) #[true, true, true, true, true, true, true, true, true, true, true, true, true, true, true, true, true, true, true, true, true, true, true, true, true, false, true, true, false, false, false, false, false, false, false] rfl rfl (any_of HT_.out (by kernel_rfl)) (fun _ _ _ h => h) (Or.inl ⟨by rfl, ?_⟩) ?_ ?_
                    rotate_left
                    · intro w'
                      go_simp
                      with_reducible rfl
                    rotate_left
                    · simp only [Act.put, List.setIfInBounds_toArray, List.set_cons_zero, List.set_cons_succ, i64_w, i32_w]
                      rfl
                    refine pure_ (i := 28) (N := some 51) (v := ?_) (a' := ?_) #[true, true, true, true, true, true, true, true, true, true, true, true, true, true, true, true, true, true, true, true, true, true, true, true, true, false, true, true, true, false, false, false, false, false, false] rfl rfl (any_of HT_.out (by kernel_rfl)) (fun _ _ _ h => h) (Or.inl ⟨by rfl, ?_⟩) ?_ ?_
                    rotate_left
                    · intro w'
                      go_simp
                      with_reducible rfl
                    rotate_left
                    · simp only [Act.put, List.setIfInBounds_toArray, List.set_cons_zero, List.set_cons_succ, i64_w, i32_w]
                      rfl
                    refine pure_ (i := 29) (N := some 52) (v := ?_) (a' := ?_) #[true, true, true, true, true, true, true, true, true, true, true, true, true, true, true, true, true, true, true, true, true, true, true, true, true, false, true, true, true, true, false, false, false, false, false] rfl rfl (any_of HT_.out (by kernel_rfl)) (fun _ _ _ h => h) (Or.inl ⟨by rfl, ?_⟩) ?_ ?_
                    rotate_left
                    · intro w'
                      go_simp
                      with_reducible rfl
                    rotate_left
                    · simp only [Act.put, List.setIfInBounds_toArray, List.set_cons_zero, List.set_cons_succ, i64_w, i32_w]
                      rfl
                    refine take_ (i := 25) (N := some 48) (v := ?_) (a' := ?_) #[true, true, true, true, true, true, true, true, true, true, true, true, true, true, true, true, true, true, true, true, true, true, true, true, true, true, true, true, true, true, false, false, false, false, false] rfl rfl (take_ofW HT_.out HW_.out (by kernel_rfl)) (fun _ _ _ h => h) (Or.inl ⟨by rfl, ?_⟩) hHeld ?_ ?_
                    rotate_left
                    · intro w' s0
                      go_simp
                      with_reducible rfl
                    rotate_left
                    · simp only [Act.put, List.setIfInBounds_toArray, List.set_cons_zero, List.set_cons_succ, i64_w, i32_w]
                      rfl
                    refine one_ (i := 30) (N := some 53) #[true, true, true, true, true, true, true, true, true, true, true, true, true, true, true, true, true, true, true, true, true, true, true, true, true, true, true, true, true, true, true, false, false, false, false] rfl rfl (one_of HT_.out (by kernel_rfl)) (by decide) (fun K hK => ?_)
                    refine goes_ Try.func43 (by kernel_rfl) rfl #[.int .i64 1, .int .i64 (wrap64 (x6_1 - (l1.length : Int)))] (by rfl) rfl rfl (by (try simp only [List.map_toArray, List.map_cons, List.map_nil]); first | done | rfl | (simp only [List.length_drop, List.length_take]; rfl)) ?_
                    with_reducible refine (storemankit_markText.calls 1 (wrap64 (x6_1 - (l1.length : Int))) t191 _ A18.out).mono ?_
                    rintro e w21 ⟨rfl, hb⟩
                    refine ⟨_, rfl, ?_⟩
                    have n0_ := Aside0.mk (below_step Sh.B hb)
                    clear HB
                    have HB := n0_
                    clear n0_
                    (try clear hb)
                    (try clear hb2)
                    (try clear hk)
                    (try clear hi)
                    refine hK.out _ _ (((HB.out.cell (World.block_lt_of_cell? w _ hw190_0)).trans hw190_0)) (fun hHeld => ?_)
                    clear hK K
                    refine norm_ (a' := ?_) ?_ ?_
                    rotate_left
                    · show Act.put _ (some 53) _ = _
                      simp only [Act.put, List.setIfInBounds_toArray, List.set_cons_zero, List.set_cons_succ, i64_w, i32_w]
                      rfl
                    refine pure_ (i := 31) (N := some 54) (v := ?_) (a' := ?_) #[true, true, true, true, true, true, true, true, true, true, true, true, true, true, true, true, true, true, true, true, true, true, true, true, true, true, true, true, true, true, true, true, false, false, false] rfl rfl (any_of HT_.out (by kernel_rfl)) (fun _ _ _ h => h) (Or.inl ⟨by rfl, ?_⟩) ?_ ?_
                    rotate_left
                    · intro w'
                      go_simp
                      with_reducible rfl
                    rotate_left
                    · simp only [Act.put, List.setIfInBounds_toArray, List.set_cons_zero, List.set_cons_succ, i64_w, i32_w]
                      rfl
                    refine pure_ (i := 32) (N := some 55) (v := ?_) (a' := ?_) #[true, true, true, true, true, true, true, true, true, true, true, true, true, true, true, true, true, true, true, true, true, true, true, true, true, true, true, true, true, true, true, true, true, false, false] rfl rfl (any_of HT_.out (by kernel_rfl)) (fun _ _ _ h => h) (Or.inl ⟨by rfl, ?_⟩) ?_ ?_
                    rotate_left
                    · intro w'
                      go_simp
                      with_reducible rfl
                    rotate_left
                    · simp only [Act.put, List.setIfInBounds_toArray, List.set_cons_zero, List.set_cons_succ, i64_w, i32_w]
                      rfl
                    refine pure_ (i := 33) (N := some 56) (v := ?_) (a' := ?_) #[true, true, true, true, true, true, true, true, true, true, true, true, true, true, true, true, true, true, true, true, true, true, true, true, true, true, true, true, true, true, true, true, true, true, false] rfl rfl (any_of HT_.out (by kernel_rfl)) (fun _ _ _ h => h) (Or.inl ⟨by rfl, ?_⟩) ?_ ?_
                    rotate_left
                    · intro w'
                      go_simp
                      with_reducible rfl
                    rotate_left
                    · simp only [Act.put, List.setIfInBounds_toArray, List.set_cons_zero, List.set_cons_succ, i64_w, i32_w]
                      rfl
                    refine pure_ (i := 34) (N := some 57) (v := ?_) (a' := ?_) #[true, true, true, true, true, true, true, true, true, true, true, true, true, true, true, true, true, true, true, true, true, true, true, true, true, true, true, true, true, true, true, true, true, true, true] rfl rfl (any_of HT_.out (by kernel_rfl)) (fun _ _ _ h => h) (Or.inl ⟨by rfl, ?_⟩) ?_ ?_
                    rotate_left
                    · intro w'
                      go_simp
                      with_reducible rfl
                    rotate_left
                    · simp only [Act.put, List.setIfInBounds_toArray, List.set_cons_zero, List.set_cons_succ, i64_w, i32_w]
                      rfl
                    refine done_ (done_of HT_.out (by kernel_rfl)) ?_
                    try go_wp2
                    go_roundg k1
                    case measure => have := HK1.out; omega
                    case rel => exact ⟨(wrap64 (x6_1 + 1)), (by first | rfl | (simp; done) | (simp [*]; done)), H', ⟨by have := HK1.out; omega⟩, ⟨Sh.B⟩⟩
                  · rw [if_neg c19] at H
                    have c19b0 : ((rdOf ByteArray.empty y182 x6_1).toList == t191.toList) = false := beq_eq_false_iff_ne.mpr c19
                    have c19b1 : ((rdOf ByteArray.empty y182 x6_1).toList != t191.toList) = true := bne_iff_ne.mpr c19
                    exact absurd ((Option.some.inj H).trans HRT.out) (by decide)
                · rw [if_neg c17] at H
                  exact absurd H (by simp)
              · rw [if_neg c16] at H
                have c16b0 : decide ((l1.length : Int) ≤ x6_1) = false := decide_eq_false c16
                clear c16
                have H' := Aside0.mk H
                clear H
                try go_wp2
                have n0_ := Aside0.mk (below_drew1 HB.out)
                clear HB
                have HB := n0_
                clear n0_
                refine start_ (n := 35) (S := fun w' => True) (ds := []) #[false, false, false, false, false, false, false, false, false, false, false, false, false, false, false, false, false, false, false, false, false, false, false, false, false, false, false, false, false, false, false, false, false, false, false] (by kernel_rfl) rfl rfl trivial (fun hHeld => ?_); refine with_tabW storemankit_KeptTexts.tab7 storemankit_KeptTexts.bits7 (fun HT_ HW_ => ?_)
                generalize wr.drew = w22 at HB hHeld ⊢
                refine pure_ (i := 0) (N := some 23) (v := ?_) (a' := ?_) #[true, false, false, false, false, false, false, false, false, false, false, false, false, false, false, false, false, false, false, false, false, false, false, false, false, false, false, false, false, false, false, false, false, false, false] rfl rfl (any_of HT_.out (by kernel_rfl)) (fun _ _ _ h => h) (Or.inl ⟨by rfl, ?_⟩) ?_ ?_
                rotate_left
                · intro w'
                  go_simp
                  with_reducible rfl
                rotate_left
                · simp only [Act.put, List.setIfInBounds_toArray, List.set_cons_zero, List.set_cons_succ, i64_w, i32_w]
                  rfl
                refine pure_ (i := 1) (N := some 24) (v := ?_) (a' := ?_) #[true, true, false, false, false, false, false, false, false, false, false, false, false, false, false, false, false, false, false, false, false, false, false, false, false, false, false, false, false, false, false, false, false, false, false] rfl rfl (any_of HT_.out (by kernel_rfl)) (fun _ _ _ h => h) (Or.inl ⟨by rfl, ?_⟩) ?_ ?_
                rotate_left
                · intro w'
                  go_simp
                  with_reducible rfl
                rotate_left
                · simp only [Act.put, List.setIfInBounds_toArray, List.set_cons_zero, List.set_cons_succ, i64_w, i32_w]
                  rfl
                refine pure_ (i := 2) (N := some 25) (v := ?_) (a' := ?_) #[true, true, true, false, false, false, false, false, false, false, false, false, false, false, false, false, false, false, false, false, false, false, false, false, false, false, false, false, false, false, false, false, false, false, false] rfl rfl (any_of HT_.out (by kernel_rfl)) (fun _ _ _ h => h) (Or.inl ⟨by rfl, ?_⟩) ?_ ?_
                rotate_left
                · intro w'
                  go_simp
                  with_reducible rfl
                rotate_left
                · simp only [Act.put, List.setIfInBounds_toArray, List.set_cons_zero, List.set_cons_succ, i64_w, i32_w]
                  rfl
                refine pure_ (i := 3) (N := some 26) (v := ?_) (a' := ?_) #[true, true, true, true, false, false, false, false, false, false, false, false, false, false, false, false, false, false, false, false, false, false, false, false, false, false, false, false, false, false, false, false, false, false, false] rfl rfl (any_of HT_.out (by kernel_rfl)) (fun _ _ _ h => h) (Or.inl ⟨by rfl, ?_⟩) ?_ ?_
                rotate_left
                · intro w'
                  go_simp
                  with_reducible rfl
                rotate_left
                · simp only [Act.put, List.setIfInBounds_toArray, List.set_cons_zero, List.set_cons_succ, i64_w, i32_w]
                  rfl
                refine pure_ (i := 4) (N := some 27) (v := ?_) (a' := ?_) #[true, true, true, true, true, false, false, false, false, false, false, false, false, false, false, false, false, false, false, false, false, false, false, false, false, false, false, false, false, false, false, false, false, false, false] rfl rfl (any_of HT_.out (by kernel_rfl)) (fun _ _ _ h => h) (Or.inl ⟨by rfl, ?_⟩) ?_ ?_
                rotate_left
                · intro w'
                  go_simp
                  with_reducible rfl
                rotate_left
                · simp only [Act.put, List.setIfInBounds_toArray, List.set_cons_zero, List.set_cons_succ, i64_w, i32_w]
                  rfl
                refine pure_ (i := 5) (N := some 28) (v := undef) (a' := ?_) #[true, true, true, true, true, true, false, false, false, false, false, false, false, false, false, false, false, false, false, false, false, false, false, false, false, false, false, false, false, false, false, false, false, false, false] rfl rfl (any_of HT_.out (by kernel_rfl)) (fun _ _ _ h => h) (Or.inr ⟨by rfl, rfl⟩) ?_ ?_
                rotate_left
                · simp only [Act.put, List.setIfInBounds_toArray, List.set_cons_zero, List.set_cons_succ, i64_w, i32_w]
                  rfl
                refine pure_ (i := 6) (N := some 29) (v := undef) (a' := ?_) #[true, true, true, true, true, true, true, false, false, false, false, false, false, false, false, false, false, false, false, false, false, false, false, false, false, false, false, false, false, false, false, false, false, false, false] rfl rfl (any_of HT_.out (by kernel_rfl)) (fun _ _ _ h => h) (Or.inr ⟨by rfl, rfl⟩) ?_ ?_
                rotate_left
                · simp only [Act.put, List.setIfInBounds_toArray, List.set_cons_zero, List.set_cons_succ, i64_w, i32_w]
                  rfl
                refine pure_ (i := 7) (N := some 30) (v := undef) (a' := ?_) #[true, true, true, true, true, true, true, true, false, false, false, false, false, false, false, false, false, false, false, false, false, false, false, false, false, false, false, false, false, false, false, false, false, false, false] rfl rfl (any_of HT_.out (by kernel_rfl)) (fun _ _ _ h => h) (Or.inr ⟨by rfl, rfl⟩) ?_ ?_
                rotate_left
                · simp only [Act.put, List.setIfInBounds_toArray, List.set_cons_zero, List.set_cons_succ, i64_w, i32_w]
                  rfl
                refine pure_ (i := 8) (N := some 31) (v := undef) (a' := ?_) #[true, true, true, true, true, true, true, true, true, false, false, false, false, false, false, false, false, false, false, false, false, false, false, false, false, false, false, false, false, false, false, false, false, false, false] rfl rfl (any_of HT_.out (by kernel_rfl)) (fun _ _ _ h => h) (Or.inr ⟨by rfl, rfl⟩) ?_ ?_
                rotate_left
                · simp only [Act.put, List.setIfInBounds_toArray, List.set_cons_zero, List.set_cons_succ, i64_w, i32_w]
                  rfl
                refine pure_ (i := 9) (N := some 32) (v := undef) (a' := ?_) #[true, true, true, true, true, true, true, true, true, true, false, false, false, false, false, false, false, false, false, false, false, false, false, false, false, false, false, false, false, false, false, false, false, false, false] rfl rfl (any_of HT_.out (by kernel_rfl)) (fun _ _ _ h => h) (Or.inr ⟨by rfl, rfl⟩) ?_ ?_
                rotate_left
                · simp only [Act.put, List.setIfInBounds_toArray, List.set_cons_zero, List.set_cons_succ, i64_w, i32_w]
                  rfl
                refine pure_ (i := 10) (N := some 33) (v := undef) (a' := ?_) #[true, true, true, true, true, true, true, true, true, true, true, false, false, false, false, false, false, false, false, false, false, false, false, false, false, false, false, false, false, false, false, false, false, false, false] rfl rfl (any_of HT_.out (by kernel_rfl)) (fun _ _ _ h => h) (Or.inr ⟨by rfl, rfl⟩) ?_ ?_
                rotate_left
                · simp only [Act.put, List.setIfInBounds_toArray, List.set_cons_zero, List.set_cons_succ, i64_w, i32_w]
                  rfl
                refine pure_ (i := 11) (N := some 34) (v := undef) (a' := ?_) #[true, true, true, true, true, true, true, true, true, true, true, true, false, false, false, false, false, false, false, false, false, false, false, false, false, false, false, false, false, false, false, false, false, false, false] rfl rfl (any_of HT_.out (by kernel_rfl)) (fun _ _ _ h => h) (Or.inr ⟨by rfl, rfl⟩) ?_ ?_
                rotate_left
                · simp only [Act.put, List.setIfInBounds_toArray, List.set_cons_zero, List.set_cons_succ, i64_w, i32_w]
                  rfl
                refine pure_ (i := 12) (N := some 35) (v := undef) (a' := ?_) #[true, true, true, true, true, true, true, true, true, true, true, true, true, false, false, false, false, false, false, false, false, false, false, false, false, false, false, false, false, false, false, false, false, false, false] rfl rfl (any_of HT_.out (by kernel_rfl)) (fun _ _ _ h => h) (Or.inr ⟨by rfl, rfl⟩) ?_ ?_
                rotate_left
                · simp only [Act.put, List.setIfInBounds_toArray, List.set_cons_zero, List.set_cons_succ, i64_w, i32_w]
                  rfl
                refine pure_ (i := 13) (N := some 36) (v := undef) (a' := ?_) #[true, true, true, true, true, true, true, true, true, true, true, true, true, true, false, false, false, false, false, false, false, false, false, false, false, false, false, false, false, false, false, false, false, false, false] rfl rfl (any_of HT_.out (by kernel_rfl)) (fun _ _ _ h => h) (Or.inr ⟨by rfl, rfl⟩) ?_ ?_
                rotate_left
                · simp only [Act.put, List.setIfInBounds_toArray, List.set_cons_zero, List.set_cons_succ, i64_w, i32_w]
                  rfl
                refine pure_ (i := 14) (N := some 37) (v := undef) (a' := ?_) #[true, true, true, true, true, true, true, true, true, true, true, true, true, true, true, false, false, false, false, false, false, false, false, false, false, false, false, false, false, false, false, false, false, false, false] rfl rfl (any_of HT_.out (by kernel_rfl)) (fun _ _ _ h => h) (Or.inr ⟨by rfl, rfl⟩) ?_ ?_
                rotate_left
                · simp only [Act.put, List.setIfInBounds_toArray, List.set_cons_zero, List.set_cons_succ, i64_w, i32_w]
                  rfl
                refine pure_ (i := 15) (N := some 38) (v := ?_) (a' := ?_) #[true, true, true, true, true, true, true, true, true, true, true, true, true, true, true, true, false, false, false, false, false, false, false, false, false, false, false, false, false, false, false, false, false, false, false] rfl rfl (any_of HT_.out (by kernel_rfl)) (fun _ _ _ h => h) (Or.inl ⟨by rfl, ?_⟩) ?_ ?_
                rotate_left
                · intro w'
                  go_simp
                  with_reducible rfl
                rotate_left
                · simp only [Act.put, List.setIfInBounds_toArray, List.set_cons_zero, List.set_cons_succ, i64_w, i32_w]
                  rfl
                refine pure_ (i := 16) (N := some 39) (v := ?_) (a' := ?_) #[true, true, true, true, true, true, true, true, true, true, true, true, true, true, true, true, true, false, false, false, false, false, false, false, false, false, false, false, false, false, false, false, false, false, false] rfl rfl (any_of HT_.out (by kernel_rfl)) (fun _ _ _ h => h) (Or.inl ⟨by rfl, ?_⟩) ?_ ?_
                rotate_left
                · intro w'
                  go_simp
                  with_reducible rfl
                rotate_left
                · simp only [Act.put, List.setIfInBounds_toArray, List.set_cons_zero, List.set_cons_succ, i64_w, i32_w]
                  rfl
                refine pure_ (i := 17) (N := some 40) (v := ?_) (a' := ?_) #[true, true, true, true, true, true, true, true, true, true, true, true, true, true, true, true, true, true, false, false, false, false, false, false, false, false, false, false, false, false, false, false, false, false, false] rfl rfl (any_of HT_.out (by kernel_rfl)) (fun _ _ _ h => h) (Or.inl ⟨by rfl, ?_⟩) ?_ ?_
                rotate_left
                · intro w'
                  go_simp
                  with_reducible rfl
                rotate_left
                · simp only [Act.put, List.setIfInBounds_toArray, List.set_cons_zero, List.set_cons_succ, i64_w, i32_w]
                  rfl
                refine pure_ (i := 18) (N := some 41) (v := ?_) (a' := ?_) #[true, true, true, true, true, true, true, true, true, true, true, true, true, true, true, true, true, true, true, false, false, false, false, false, false, false, false, false, false, false, false, false, false, false, false] rfl rfl (any_of HT_.out (by kernel_rfl)) (fun _ _ _ h => h) (Or.inl ⟨by rfl, ?_⟩) ?_ ?_
                rotate_left
                · intro w'
                  go_simp
                  with_reducible rfl
                rotate_left
                · simp only [Act.put, List.setIfInBounds_toArray, List.set_cons_zero, List.set_cons_succ, i64_w, i32_w]
                  rfl
                refine pure_ (i := 19) (N := some 42) (v := ?_) (a' := ?_) #[true, true, true, true, true, true, true, true, true, true, true, true, true, true, true, true, true, true, true, true, false, false, false, false, false, false, false, false, false, false, false, false, false, false, false] rfl rfl (any_of HT_.out (by kernel_rfl)) (fun _ _ _ h => h) (Or.inl ⟨by rfl, ?_⟩) ?_ ?_
                rotate_left
                · intro w'
                  go_simp
                  with_reducible rfl
                rotate_left
                · simp only [Act.put, List.setIfInBounds_toArray, List.set_cons_zero, List.set_cons_succ, i64_w, i32_w]
                  rfl
                refine pure_ (i := 20) (N := some 43) (v := ?_) (a' := ?_) #[true, true, true, true, true, true, true, true, true, true, true, true, true, true, true, true, true, true, true, true, true, false, false, false, false, false, false, false, false, false, false, false, false, false, false] rfl rfl (any_of HT_.out (by kernel_rfl)) (fun _ _ _ h => h) (Or.inl ⟨by rfl, ?_⟩) ?_ ?_
                rotate_left
                · intro w'
                  go_simp
                  with_reducible rfl
                rotate_left
                · simp only [Act.put, List.setIfInBounds_toArray, List.set_cons_zero, List.set_cons_succ, i64_w, i32_w]
                  rfl
                refine pure_ (i := 21) (N := some 44) (v := ?_) (a' := ?_) #[true, true, true, true, true, true, true, true, true, true, true, true, true, true, true, true, true, true, true, true, true, true, false, false, false, false, false, false, false, false, false, false, false, false, false] rfl rfl (any_of HT_.out (by kernel_rfl)) (fun _ _ _ h => h) (Or.inl ⟨by rfl, ?_⟩) ?_ ?_
                rotate_left
                · intro w'
                  go_simp
                  with_reducible rfl
                rotate_left
                · simp only [Act.put, List.setIfInBounds_toArray, List.set_cons_zero, List.set_cons_succ, i64_w, i32_w]
                  rfl
                refine pure_ (i := 22) (N := some 45) (v := undef) (a' := ?_) #[true, true, true, true, true, true, true, true, true, true, true, true, true, true, true, true, true, true, true, true, true, true, true, false, false, false, false, false, false, false, false, false, false, false, false] rfl rfl (any_of HT_.out (by kernel_rfl)) (fun _ _ _ h => h) (Or.inr ⟨by rfl, rfl⟩) ?_ ?_
                rotate_left
                · simp only [Act.put, List.setIfInBounds_toArray, List.set_cons_zero, List.set_cons_succ, i64_w, i32_w]
                  rfl
                refine pure_ (i := 23) (N := some 46) (v := undef) (a' := ?_) #[true, true, true, true, true, true, true, true, true, true, true, true, true, true, true, true, true, true, true, true, true, true, true, true, false, false, false, false, false, false, false, false, false, false, false] rfl rfl (any_of HT_.out (by kernel_rfl)) (fun _ _ _ h => h) (Or.inr ⟨by rfl, rfl⟩) ?_ ?_
                rotate_left
                · simp only [Act.put, List.setIfInBounds_toArray, List.set_cons_zero, List.set_cons_succ, i64_w, i32_w]
                  rfl
                refine pure_ (i := 24) (N := some 47) (v := undef) (a' := ?_) #[true, true, true, true, true, true, true, true, true, true, true, true, true, true, true, true, true, true, true, true, true, true, true, true, true, false, false, false, false, false, false, false, false, false, false] rfl rfl (any_of HT_.out (by kernel_rfl)) (fun _ _ _ h => h) (Or.inr ⟨by rfl, rfl⟩) ?_ ?_
                rotate_left
                · simp only [Act.put, List.setIfInBounds_toArray, List.set_cons_zero, List.set_cons_succ, i64_w, i32_w]
                  rfl
                refine pure_ (i := 25) (N := some 48) (v := undef) (a' := ?_) #[true, true, true, true, true, true, true, true, true, true, true, true, true, true, true, true, true, true, true, true, true, true, true, true, true, true, false, false, false, false, false, false, false, false, false] rfl rfl (any_of HT_.out (by kernel_rfl)) (fun _ _ _ h => h) (Or.inr ⟨by rfl, rfl⟩) ?_ ?_
                rotate_left
                · simp only [Act.put, List.setIfInBounds_toArray, List.set_cons_zero, List.set_cons_succ, i64_w, i32_w]
                  rfl
                refine pure_ (i := 26) (N := some 49) (v := undef) (a' := ?_) #[true, true, true, true, true, true, true, true, true, true, true, true, true, true, true, true, true, true, true, true, true, true, true, true, true, true, true, false, false, false, false, false, false, false, false] rfl rfl (any_of HT_.out (by kernel_rfl)) (fun _ _ _ h => h) (Or.inr ⟨by rfl, rfl⟩) ?_ ?_
                rotate_left
                · simp only [Act.put, List.setIfInBounds_toArray, List.set_cons_zero, List.set_cons_succ, i64_w, i32_w]
                  rfl
                refine pure_ (i := 27) (N := some 50) (v := undef) (a' := ?_) #[true, true, true, true, true, true, true, true, true, true, true, true, true, true, true, true, true, true, true, true, true, true, true, true, true, true, true, true, false, false, false, false, false, false, false] rfl rfl (any_of HT_.out (by kernel_rfl)) (fun _ _ _ h => h) (Or.inr ⟨by rfl, rfl⟩) ?_ ?_
                rotate_left
                · simp only [Act.put, List.setIfInBounds_toArray, List.set_cons_zero, List.set_cons_succ, i64_w, i32_w]
                  rfl
                refine pure_ (i := 28) (N := some 51) (v := undef) (a' := ?_) #[true, true, true, true, true, true, true, true, true, true, true, true, true, true, true, true, true, true, true, true, true, true, true, true, true, true, true, true, true, false, false, false, false, false, false] rfl rfl (any_of HT_.out (by kernel_rfl)) (fun _ _ _ h => h) (Or.inr ⟨by rfl, rfl⟩) ?_ ?_
                rotate_left
                · simp only [Act.put, List.setIfInBounds_toArray, List.set_cons_zero, List.set_cons_succ, i64_w, i32_w]
                  rfl
                refine pure_ (i := 29) (N := some 52) (v := undef) (a' := ?_) #[true, true, true, true, true, true, true, true, true, true, true, true, true, true, true, true, true, true, true, true, true, true, true, true, true, true, true, true, true, true, false, false, false, false, false] rfl rfl (any_of HT_.out (by kernel_rfl)) (fun _ _ _ h => h) (Or.inr ⟨by rfl, rfl⟩) ?_ ?_
                rotate_left
                · simp only [Act.put, List.setIfInBounds_toArray, List.set_cons_zero, List.set_cons_succ, i64_w, i32_w]
                  rfl
                refine pure_ (i := 30) (N := some 53) (v := undef) (a' := ?_) #[true, true, true, true, true, true, true, true, true, true, true, true, true, true, true, true, true, true, true, true, true, true, true, true, true, true, true, true, true, true, true, false, false, false, false] rfl rfl (any_of HT_.out (by kernel_rfl)) (fun _ _ _ h => h) (Or.inr ⟨by rfl, rfl⟩) ?_ ?_
                rotate_left
                · simp only [Act.put, List.setIfInBounds_toArray, List.set_cons_zero, List.set_cons_succ, i64_w, i32_w]
                  rfl
                refine pure_ (i := 31) (N := some 54) (v := undef) (a' := ?_) #[true, true, true, true, true, true, true, true, true, true, true, true, true, true, true, true, true, true, true, true, true, true, true, true, true, true, true, true, true, true, true, true, false, false, false] rfl rfl (any_of HT_.out (by kernel_rfl)) (fun _ _ _ h => h) (Or.inr ⟨by rfl, rfl⟩) ?_ ?_
                rotate_left
                · simp only [Act.put, List.setIfInBounds_toArray, List.set_cons_zero, List.set_cons_succ, i64_w, i32_w]
                  rfl
                refine pure_ (i := 32) (N := some 55) (v := undef) (a' := ?_) #[true, true, true, true, true, true, true, true, true, true, true, true, true, true, true, true, true, true, true, true, true, true, true, true, true, true, true, true, true, true, true, true, true, false, false] rfl rfl (any_of HT_.out (by kernel_rfl)) (fun _ _ _ h => h) (Or.inr ⟨by rfl, rfl⟩) ?_ ?_
                rotate_left
                · simp only [Act.put, List.setIfInBounds_toArray, List.set_cons_zero, List.set_cons_succ, i64_w, i32_w]
                  rfl
                refine pure_ (i := 33) (N := some 56) (v := ?_) (a' := ?_) #[true, true, true, true, true, true, true, true, true, true, true, true, true, true, true, true, true, true, true, true, true, true, true, true, true, true, true, true, true, true, true, true, true, true, false] rfl rfl (any_of HT_.out (by kernel_rfl)) (fun _ _ _ h => h) (Or.inl ⟨by rfl, ?_⟩) ?_ ?_
                rotate_left
                · intro w'
                  go_simp
                  with_reducible rfl
                rotate_left
                · simp only [Act.put, List.setIfInBounds_toArray, List.set_cons_zero, List.set_cons_succ, i64_w, i32_w]
                  rfl
                refine pure_ (i := 34) (N := some 57) (v := ?_) (a' := ?_) #[true, true, true, true, true, true, true, true, true, true, true, true, true, true, true, true, true, true, true, true, true, true, true, true, true, true, true, true, true, true, true, true, true, true, true] rfl rfl (any_of HT_.out (by kernel_rfl)) (fun _ _ _ h => h) (Or.inl ⟨by rfl, ?_⟩) ?_ ?_
                rotate_left
                · intro w'
                  go_simp
                  with_reducible rfl
                rotate_left
                · simp only [Act.put, List.setIfInBounds_toArray, List.set_cons_zero, List.set_cons_succ, i64_w, i32_w]
                  rfl
                refine done_ (done_of HT_.out (by kernel_rfl)) ?_
                try go_wp2
                go_roundg k1
                case measure => have := HK1.out; omega
                case rel => exact ⟨(wrap64 (x6_1 + 1)), (by first | rfl | (simp; done) | (simp [*]; done)), H', ⟨by have := HK1.out; omega⟩, ⟨Sh.B⟩⟩
          · rw [if_neg c6] at H
            have c6b0 : decide (x6_1 < (y182.length : Int)) = false := decide_eq_false c6
            clear c6
            obtain rfl := Option.some.inj H
            go_wp2
            go_ret
            exact ⟨by first | rfl | (simp [errW_none, errW_some] <;> rfl) | (simp [*, errW_none, errW_some] <;> rfl), Sh.B⟩
    · rw [if_neg c4] at H
      exact absurd H (by simp)
  · rw [if_neg c3] at H
    have c3b0 : ((l0.length : Int) == (l1.length : Int)) = false := beq_eq_false_iff_ne.mpr c3
    have c3b1 : ((l0.length : Int) != (l1.length : Int)) = true := bne_iff_ne.mpr c3
    have c3b2 : (l0.length == l1.length) = false := by first | simpa using c3 | (simp at c3 ⊢; omega)
    exact absurd ((Option.some.inj H).trans HRT.out) (by decide)

end Go.Proofs.Ytimlfdfmgajbnaa.PA
/-
Rows of texts that are lent: the marks behind them; what was lent and is whole was kept; what is written over.
-/
namespace Go.Proofs.Ytimlfdfmgajbnaa.PA
open Go.RowKit Go.Proofs.YtimlfdfmgajbnaaW.PrintWords Go.Proofs.YtimlfdfmgajbnaaW.PrintLast Go.Proofs.YtimlfdfmgajbnaaW.PrintMore
set_option linter.unusedVariables false
set_option linter.unusedSimpArgs false
def mkT (j : Nat) : ByteArray := (storemankit_markText.f 1 (j : Int)).getD ByteArray.empty
theorem markT_is (j : Nat) : storemankit_markText.f 1 (j : Int) = some (mkT j) := rfl
def marksT : List ByteArray := (List.range 12).map mkT
theorem marksT_len : marksT.length = 12 := rfl
theorem lentT_l0 (l : List ByteArray) (hl : l.length ≤ 1000000) : ∀ (n i k : Nat), i + n = 12 → n < k → storemankit_LentTexts.l0 k l (l ++ (List.range i).map mkT) (i : Int) = some (l ++ marksT) := by
  intro n
  induction n with
  | zero =>
    intro i k hi hk
    obtain ⟨k, rfl⟩ : ∃ j, k = j + 1 := ⟨k - 1, by omega⟩
    obtain rfl : i = 12 := by omega
    simp only [storemankit_LentTexts.l0]
    rw [if_neg (by omega), if_pos (by simp; omega)]
    rfl
  | succ n ih =>
    intro i k hi hk
    obtain ⟨k, rfl⟩ : ∃ j, k = j + 1 := ⟨k - 1, by omega⟩
    simp only [storemankit_LentTexts.l0]
    rw [if_pos (by omega), markT_is, Option.bind_some, if_pos (by simp; omega), wrapI (by omega) (by omega)]
    have e : l ++ (List.range i).map mkT ++ [mkT i] = l ++ (List.range (i + 1)).map mkT := by rw [List.range_succ, List.map_append, List.append_assoc]; rfl
    rw [e]
    exact ih (i + 1) k (by omega) (by omega)
theorem lentT_ev (l : List ByteArray) (hl : l.length ≤ 1000000) : storemankit_LentTexts.f 13 l = some (l ++ marksT) := by
  unfold storemankit_LentTexts.f
  rw [wrapI (by omega) (by omega), if_pos (by omega), if_pos (by omega), Option.bind_some, if_pos (by simp; omega)]
  have := lentT_l0 l hl 12 0 13 (by omega) (by omega)
  simpa using this
theorem keptT_l0 (l : List ByteArray) (hl : l.length ≤ 1000000) : ∀ (n i k : Nat), i + n = l.length + 12 → n < k → storemankit_KeptTexts.l0 k l (l ++ marksT) (i : Int) = some true := by
  intro n
  induction n with
  | zero =>
    intro i k hi hk
    obtain ⟨k, rfl⟩ : ∃ j, k = j + 1 := ⟨k - 1, by omega⟩
    simp only [storemankit_KeptTexts.l0]
    rw [if_neg (by rw [List.length_append, marksT_len]; omega)]
  | succ n ih =>
    intro i k hi hk
    obtain ⟨k, rfl⟩ : ∃ j, k = j + 1 := ⟨k - 1, by omega⟩
    simp only [storemankit_KeptTexts.l0]
    rw [if_pos (by rw [List.length_append, marksT_len]; omega)]
    by_cases h : i < l.length
    · have e1 : rdOf ByteArray.empty (l ++ marksT) (i : Int) = rdOf ByteArray.empty l (i : Int) := by simp only [rdOf, Int.toNat_natCast, List.getD_eq_getElem?_getD, List.getElem?_append_left h]
      rw [if_pos (by omega), if_pos (by omega), if_pos (by rw [e1]), if_neg (by omega), wrapI (by omega) (by omega)]
      exact ih (i + 1) k (by omega) (by omega)
    · have h2 : i - l.length < 12 := by omega
      have e1 : rdOf ByteArray.empty (l ++ marksT) (i : Int) = mkT (i - l.length) := by
        have h3 : marksT[i - l.length]? = some (mkT (i - l.length)) := by
          unfold marksT
          rw [List.getElem?_map, List.getElem?_range h2]
          rfl
        simp only [rdOf, Int.toNat_natCast, List.getD_eq_getElem?_getD]
        rw [List.getElem?_append_right (by omega), h3]
        rfl
      have e2 : wrap64 ((i : Int) - (l.length : Int)) = ((i - l.length : Nat) : Int) := by rw [wrapI (by omega) (by omega)]; omega
      rw [if_neg (by omega), if_pos (by omega), if_pos (by omega), e2, markT_is, Option.bind_some, if_pos (by rw [e1]), wrapI (by omega) (by omega)]
      exact ih (i + 1) k (by omega) (by omega)
theorem keptT_ev (l : List ByteArray) (hl : l.length ≤ 1000000) : storemankit_KeptTexts.f (l.length + 13) l (l ++ marksT) l = some true := by
  unfold storemankit_KeptTexts.f
  rw [if_pos rfl, wrapI (by omega) (by omega), if_pos (by rw [List.length_append, marksT_len]; omega)]
  exact keptT_l0 l hl (l.length + 12) 0 _ (by omega) (by omega)
def mk2 (j : Nat) : ByteArray := (storemankit_markText.f 2 (j : Int)).getD ByteArray.empty
theorem mk2_is (j : Nat) : storemankit_markText.f 2 (j : Int) = some (mk2 j) := rfl
def OverPost (A : Option Addr) (w : World) (e : Ending) (w' : World) : Prop := e = .returned (.tuple #[]) ∧ Chg (fun k => ∃ ad, A = some ad ∧ k = ad.block) w w'
set_option maxHeartbeats 1000000 in
theorem over_calls (A : Option Addr) (n c base : Nat) (ok : Nat → Prop) (xs : List ByteArray) (w : World) (h : Kd.R Kd.string 9 w base ok (.slice A (n + 12) c) xs) (hn : n ≤ 1000000) :
    Calls Try.prog 27 #[.slice A n c] w (OverPost A w) := by
  obtain ⟨hl, hc, _⟩ := Kd.R_reads' h
  obtain ⟨g, cap, e, _, _, _⟩ := Kd.R_form h (by omega)
  injection e with e1 e2 e3
  subst e1; subst e3
  obtain ⟨i9, hi9, _, hsz9, _⟩ := info_parts info9
  have hcut := Mine.cut_cap (P := Try.prog) 32 9 .i64 Try.underlying32 hi9 (some ⟨g, 0, none⟩) n c ((n : Int) + 12) (by omega) (by omega)
  obtain ⟨m, hm⟩ : ∃ m, m = n + 12 := ⟨_, rfl⟩
  rw [← hm] at h hl hc
  rw [show ((n : Int) + 12).toNat = m by omega] at hcut
  have HM := Aside0.mk hm
  have H := Aside0.mk h
  have HX := Aside0.mk hl
  have hd12 : m ≤ 2000000 := by omega
  clear h hl hc hi9 hsz9 hm
  go_enter Try.func27, Try.ntmps27
  go_wp2
  go_loopw [3] (fun v3 wr => ∃ (i : Nat) (ys : List ByteArray), i ≤ m ∧ v3 = .int .i64 i ∧ Aside0 (ys.length = m) ∧ Aside0 (Kd.R Kd.string 9 wr base ok (.slice (some ⟨g, 0, none⟩) (m) c) ys) ∧ Aside0 (Chg (fun k => k = g) w wr)) (fun v3 _ => m - (intOf v3).toNat)
  case atStart => exact ⟨0, xs, Nat.zero_le _, rfl, ⟨HX.out.symm⟩, H, ⟨Chg.refl _ _⟩⟩
  case round =>
    obtain ⟨i, ys, hi, rfl, HY, HR, HC⟩ := hrel
    obtain ⟨q, hq⟩ : ∃ q, q = mk2 i := ⟨_, rfl⟩
    have HQ := Aside0.mk (show storemankit_markText.f 2 (i : Int) = some q by rw [hq]; exact mk2_is i)
    clear hq
    by_cases hlt : i < m
    · have hd : decide ((i : Int) < (m : Int)) = true := decide_eq_true (by omega)
      have hd0 : decide (0 ≤ (i : Int)) = true := decide_eq_true (by omega)
      have HR1 := HR.out
      rw [show m = ys.length from HY.out.symm] at HR1
      obtain ⟨hcell, hfz⟩ := Kd.R_cell ByteArray.empty HR1 (i : Int) (by omega) (by have := HY.out; omega)
      rw [Int.toNat_natCast] at hcell hfz
      have HRy := Aside0.mk HR1
      clear HR1
      go_wp2_with (first | (go_at_call 43; (with_reducible refine (storemankit_markText.calls 2 (i : Int) q _ HQ.out).mono ?_); rintro e W2 ⟨rfl, hb⟩; have hcell2 := pw_cell_below hb hcell; have hfz2 := (hb.frozen (p := ⟨g, i, none⟩) (Kd.R_lt HRy.out g rfl)).trans hfz; have HR2 := Aside0.mk (Kd.R_below HRy.out hb); have HC2 := Aside0.mk (HC.out.step hb); clear hb hcell hfz))
      have HP := Aside0.mk (Kd.R_putg HR2.out (i : Int) q)
      go_roundw
      case rel =>
        have h1 := HP.out.1
        rw [Int.toNat_natCast, HY.out] at h1
        exact ⟨i + 1, ys.set i q, by omega, by first | rfl | go_num, ⟨by rw [List.length_set]; exact HY.out⟩, ⟨h1⟩, ⟨HC2.out.trans (Chg.setCell W2 g i _) (fun _ _ h => h)⟩⟩
      case measure => simp [intOf]; omega
    · obtain rfl : i = m := by omega
      have hd : decide ((i : Int) < (i : Int)) = false := decide_eq_false (by omega)
      go_wp2
      go_end0
      exact ⟨rfl, HC.out.mono (fun k _ e => ⟨_, rfl, e⟩)⟩
end Go.Proofs.Ytimlfdfmgajbnaa.PA
