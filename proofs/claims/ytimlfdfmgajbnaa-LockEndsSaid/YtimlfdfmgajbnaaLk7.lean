/-
maps.Copy of sets of texts; what a work that asks comes to; one work's places turned.
-/
import Derived.Test.YtimlfdfmgajbnaaLk6
namespace Go.Proofs.Ytimlfdfmgajbnaa.PA
open Go.RowKit Go.Proofs.YtimlfdfmgajbnaaW.PrintWords Go.Proofs.YtimlfdfmgajbnaaW.PrintLast Go.Proofs.YtimlfdfmgajbnaaW.PrintMore
open Go.Proofs.Ytimlfdfmgajbnaa.Mp
set_option linter.unusedVariables false
set_option linter.unusedSimpArgs false
/-! ### maps.Copy -/
set_option maxHeartbeats 8000000 in
set_option maxRecDepth 100000 in
theorem copy_calls (a na b nb : Nat) (A B : List ByteArray) (w : World) (ha : SetIs w a na A) (hb : SetIs w b nb B) (hab : a ≠ b) (hn : na + nb ≤ 1000000) :
    Calls Try.prog 34 #[.map (some a), .map (some b)] w fun e w' => e = .returned (.tuple #[]) ∧ ∃ n T, SetIs w' a n T ∧ (∀ x, x ∈ T ↔ x ∈ A ∨ x ∈ B) ∧ n ≤ na + nb ∧ Chg (fun k => k = a) w w' := by
  have HA := Aside0.mk ha
  have HB := Aside0.mk hb
  have HLA := Aside0.mk ha.lt
  have HLB := Aside0.mk hb.lt
  have HNE := Aside0.mk hab
  have HNN := Aside0.mk hn
  clear ha hb hab hn
  go_enter Try.func34, Try.ntmps34
  go_wp2_with (first | (at_range; refine range_event HB.out rfl _ rfl keyed9 Try.underlying57 rfl ?_; intro ri hri W2 cnt hrg hcnt hg; have HRI := Aside0.mk (by rw [hri]; exact Nat.le_refl _ : w.heap.size ≤ ri); have HCN := Aside0.mk hcnt; have HRG := Aside0.mk hrg; have HA2 := Aside0.mk (HA.out.kept hg (fun h => by cases h)); have HC := Aside0.mk (Chg.ofGrown (F := fun k => k = a) hg (fun k h => by cases h)); clear HA HB hri hrg hcnt hg))
  go_frame
  go_loopw [4, 5] (fun v4 v5 wr => ∃ left cnt m S, Aside0 (Ranges Try.prog 9 wr b ri nb (setF B) left cnt) ∧ Aside0 (SetIs wr a m S) ∧ Aside0 (∀ x, x ∈ S ↔ x ∈ A ∨ (x ∈ B ∧ left (sLit x) = false)) ∧ Aside0 (m + cnt ≤ na + nb) ∧ Aside0 (Chg (fun k => k = a) w wr)) (fun _ _ wr => wr.rangeLeft b ri)
  case atStart => exact ⟨_, cnt, na, A, ⟨HRG.out⟩, ⟨HA2.out⟩, ⟨fun x => ⟨.inl, fun h => by rcases h with h | ⟨h, hl⟩; exact h; rw [setF_at, if_pos h] at hl; cases hl⟩⟩, ⟨by have := HCN.out; omega⟩, ⟨HC.out⟩⟩
  case round =>
    clear HRG HA2 HC
    obtain ⟨left, cnt, m, S, HRG, HA, HS, HLE, HC⟩ := hrel
    have HMS := Aside0.mk (HRG.out.left_eq)
    go_wp2_with (first | (at_next; refine next_event (fun x : List UInt8 => Value.string ⟨x.toArray⟩) (fun key kl hk => by obtain ⟨x, hx, _⟩ := Maps.keyOf_str Try.underlying9 hk; exact ⟨x, hx⟩) HRG.out rfl _ rfl keyed9 rfl ?_ ?_))
    · intro hl0
      have HZ := Aside0.mk (show ∀ x, x ∈ S ↔ x ∈ A ∨ x ∈ B from fun x => by rw [HS.out x, hl0]; simp)
      clear hl0
      go_wp2
      go_end0
      exact ⟨rfl, m, S, HA.out, HZ.out, by have := HLE.out; omega, HC.out⟩
    · intro x v kl W2 cnt2 hkey hlk hf hrg hlt hg hen
      obtain ⟨rfl, hsz⟩ := key_str hkey
      obtain ⟨s, hs, ekl, rfl⟩ := setF_some hf
      obtain rfl := sLit_inj ekl
      have HKY := Aside0.mk hkey
      have HLT := Aside0.mk hlt
      have HLR := Aside0.mk HRG.out.lt
      have HCn := Aside0.mk (HC.out.trans (Chg.ofGrown (F := fun k => k = ri) hg (fun k h => by injection h)) (fun k hk e => absurd HRI.out (by rw [← e]; exact Nat.not_le.2 hk)))
      have HA2 := Aside0.mk (HA.out.kept hg (fun h => by injection h with h; have h1 := HRI.out; have h2 := HLA.out; omega))
      have HRGn := Aside0.mk hrg
      have HM := Aside0.mk (show ∀ y, y ∈ (⟨x.toArray⟩ :: S : List ByteArray) ↔ y ∈ A ∨ (y ∈ B ∧ (left (sLit y) && !(sLit y).sameKey (sLit ⟨x.toArray⟩)) = false) by
        intro y
        rw [List.mem_cons, HS.out y]
        by_cases e : y = ⟨x.toArray⟩
        · rw [e]
          have h4 : (sLit ⟨x.toArray⟩).sameKey (sLit ⟨x.toArray⟩) = true := (same_sLit _ _).2 rfl
          rw [h4]
          simp [hs]
        · have h4 : (sLit y).sameKey (sLit ⟨x.toArray⟩) = false := by rw [← Bool.not_eq_true]; exact fun h => e ((same_sLit _ _).1 h)
          rw [h4]
          simp [e])
      clear HA HC HRG hg hrg hlt hsz hf hkey hlk hs ekl
      have HA := HA2
      have HC := HCn
      have HRG := HRGn
      clear HA2 HCn HRGn
      go_wp2_with (first | (at_mapUpdate; refine update_event HA.out rfl _ _ _ rfl keyed9 Try.underlying57 (by have := HLE.out; have := HNN.out; unfold maxLen; omega) rfl rfl rfl HKY.out ?_; intro W3 hm hg; have HRGn := Aside0.mk (HRG.out.kept hg (fun h => by injection h with h; exact HNE.out h.symm) (fun h => by injection h with h; have h1 := HRI.out; have h2 := HLA.out; omega)); have HCn := Aside0.mk (HC.out.trans (Chg.ofGrown (F := fun k => k = a) hg (fun k h => by injection h)) (fun k hk e => e)); have HAn := Aside0.mk (MapIs.congr hm (setF_upd (T := ⟨x.toArray⟩ :: S) (fun y => List.mem_cons))); clear HA HRG HC hm hg; have HA := HAn; have HRG := HRGn; have HC := HCn; clear HAn HRGn HCn))
      go_roundw
      case rel => exact ⟨_, _, _, _, _, _, _, _, _, _, ⟨_, cnt2, m + 1, _, ⟨HRG.out⟩, ⟨HA.out⟩, ⟨HM.out⟩, ⟨by have := HLE.out; have := HLT.out; omega⟩, ⟨HC.out⟩⟩, rfl⟩
      case measure => rw [HRG.out.left_eq, HMS.out]; exact HLT.out
/-! ### what is asked for -/
/-- A text in its place among rising ones, once. -/
def putS : List ByteArray → ByteArray → List ByteArray
  | [], s => [s]
  | x :: l, s => if Op.bytesLess x.data.toList s.data.toList = true then x :: putS l s else if x.data.toList = s.data.toList then x :: l else s :: x :: l
theorem toList_inj {a b : ByteArray} (h : a.toList = b.toList) : a = b := by
  have h1 : a.data.toList = b.data.toList := by rw [← ByteArray.toList_eq, ← ByteArray.toList_eq, h]
  exact Go.WideShapes.bytes_inj h1
theorem mem_putS : ∀ {l : List ByteArray} {s x : ByteArray}, x ∈ putS l s ↔ x = s ∨ x ∈ l
  | [], s, x => by simp [putS]
  | y :: l, s, x => by
    unfold putS
    split
    · rw [List.mem_cons, mem_putS, List.mem_cons]
      constructor
      · rintro (h | h | h)
        · exact .inr (.inl h)
        · exact .inl h
        · exact .inr (.inr h)
      · rintro (h | h | h)
        · exact .inr (.inl h)
        · exact .inl h
        · exact .inr (.inr h)
    · split
      · rename_i h
        have e := Go.WideShapes.bytes_inj h
        rw [e]
        simp only [List.mem_cons]
        constructor
        · intro h; exact .inr h
        · rintro (h | h)
          · exact .inl h
          · exact h
      · simp only [List.mem_cons]
/-- What one that holds some names and waits for some waits for if it asks for more. -/
def wantsS (H W : List ByteArray) (ns : List ByteArray) : List ByteArray := ns.foldl (fun W n => if n ∈ H ∨ star ∈ H then W else putS W n) W
theorem wantsS_snoc (H W ns : List ByteArray) (n : ByteArray) : wantsS H W (ns ++ [n]) = if n ∈ H ∨ star ∈ H then wantsS H W ns else putS (wantsS H W ns) n := by unfold wantsS; rw [List.foldl_append]; rfl
def joinS (H W : List ByteArray) : List ByteArray := W.foldl putS H
theorem mem_joinS : ∀ {W H : List ByteArray} {x : ByteArray}, x ∈ joinS H W ↔ x ∈ H ∨ x ∈ W
  | [], H, x => by simp [joinS]
  | y :: W, H, x => by
    show x ∈ joinS (putS H y) W ↔ _
    rw [mem_joinS, mem_putS, List.mem_cons]
    constructor
    · rintro ((h | h) | h)
      · exact .inr (.inl h)
      · exact .inl h
      · exact .inr (.inr h)
    · rintro (h | h | h)
      · exact .inl (.inr h)
      · exact .inl (.inl h)
      · exact .inr h
/-! ### one work's places turned -/
def replQ (Q : List PW) (q' : PW) : List PW := Q.map (fun x => if x.2.f0 = q'.2.f0 then q' else x)
theorem mem_replQ {Q : List PW} {q q' x : PW} (hq : q ∈ Q) (hid : q'.2.f0 = q.2.f0) : x ∈ replQ Q q' ↔ x = q' ∨ (x ∈ Q ∧ x.2.f0 ≠ q.2.f0) := by
  unfold replQ
  rw [List.mem_map]
  constructor
  · rintro ⟨y, hy, rfl⟩
    split
    · exact .inl rfl
    · rename_i h; exact .inr ⟨hy, fun e => h (e.trans hid.symm)⟩
  · rintro (rfl | ⟨h1, h2⟩)
    · exact ⟨q, hq, by rw [if_pos hid.symm]⟩
    · exact ⟨x, h1, by rw [if_neg (fun e => h2 (e.trans hid))]⟩
theorem ids_replQ (Q : List PW) (q' : PW) : idsOf (replQ Q q') = idsOf Q := by
  unfold idsOf replQ
  rw [List.map_map]
  apply List.map_congr_left
  intro x hx
  simp only [Function.comp]
  split
  · rename_i h; exact h.symm
  · rfl
theorem ks_replQ {Q : List PW} {q q' : PW} (hn : (idsOf Q).Nodup) (hq : q ∈ Q) (hid : q'.2.f0 = q.2.f0) (hk : q'.1.k = q.1.k) : (replQ Q q').map (fun x => x.1.k) = Q.map (fun x => x.1.k) := by
  unfold replQ
  rw [List.map_map]
  apply List.map_congr_left
  intro x hx
  simp only [Function.comp]
  split
  · rename_i h
    have : x = q := ids_inj hn hx hq (h.trans hid)
    rw [this, hk]
  · rfl
theorem find_replQ {Q : List PW} {q q' : PW} (hn : (idsOf Q).Nodup) (hq : q ∈ Q) (hid : q'.2.f0 = q.2.f0) (hk : q'.1.k = q.1.k) (kl : Lit) : worksF (replQ Q q') kl = worksF Q kl := by
  have hn' : (idsOf (replQ Q q')).Nodup := by rw [ids_replQ]; exact hn
  cases h : worksF Q kl with
  | some v =>
    obtain ⟨x, hx, rfl, rfl⟩ := worksF_some h
    by_cases e : x.2.f0 = q.2.f0
    · have ex : x = q := ids_inj hn hx hq e
      rw [e, ← hid, worksF_mem hn' ((mem_replQ hq hid).2 (.inl rfl)), ex]
      unfold ptr
      rw [hk]
    · exact worksF_mem hn' ((mem_replQ hq hid).2 (.inr ⟨hx, e⟩))
  | none =>
    cases h2 : worksF (replQ Q q') kl with
    | none => rfl
    | some v =>
      obtain ⟨x, hx, rfl, rfl⟩ := worksF_some h2
      rcases (mem_replQ hq hid).1 hx with rfl | ⟨hx, _⟩
      · rw [hid, worksF_mem hn hq] at h; cases h
      · rw [worksF_mem hn hx] at h; cases h
theorem maps_apart {mb : Nat} : ∀ {Q : List PW}, (mapsOf mb Q).Nodup → (idsOf Q).Nodup → ∀ {x q : PW}, x ∈ Q → q ∈ Q → x.2.f0 ≠ q.2.f0 → x.1.hb ≠ q.1.hb ∧ x.1.hb ≠ q.1.wb ∧ x.1.wb ≠ q.1.hb ∧ x.1.wb ≠ q.1.wb := by
  intro Q hm
  have hm' := (List.nodup_cons.1 hm).2
  clear hm
  induction Q with
  | nil => intro _ x q hx; cases hx
  | cons y Q ih =>
    intro hn x q hx hq hne
    obtain ⟨h1, h2⟩ := List.nodup_cons.1 hn
    rw [List.flatMap_cons] at hm'
    obtain ⟨m1, m2, m3⟩ := List.nodup_append.1 hm'
    have far : ∀ z ∈ Q, y.1.hb ≠ z.1.hb ∧ y.1.hb ≠ z.1.wb ∧ y.1.wb ≠ z.1.hb ∧ y.1.wb ≠ z.1.wb := fun z hz => by
      have a1 : z.1.hb ∈ Q.flatMap (fun q => [q.1.hb, q.1.wb]) := List.mem_flatMap.2 ⟨z, hz, by simp⟩
      have a2 : z.1.wb ∈ Q.flatMap (fun q => [q.1.hb, q.1.wb]) := List.mem_flatMap.2 ⟨z, hz, by simp⟩
      exact ⟨m3 _ (by simp) _ a1, m3 _ (by simp) _ a2, m3 _ (by simp) _ a1, m3 _ (by simp) _ a2⟩
    rcases List.mem_cons.1 hx with ex | hx' <;> rcases List.mem_cons.1 hq with eq | hq'
    · rw [ex, eq] at hne; exact absurd rfl hne
    · rw [ex]; exact far q hq'
    · rw [eq]
      have := far x hx'
      exact ⟨this.1.symm, this.2.2.1.symm, this.2.1.symm, this.2.2.2.symm⟩
    · exact ih m2 h2 hx' hq' hne
theorem hb_ne_wb {mb : Nat} {Q : List PW} (hm : (mapsOf mb Q).Nodup) {q : PW} (hq : q ∈ Q) : q.1.hb ≠ q.1.wb := by
  have hm' := (List.nodup_cons.1 hm).2
  clear hm
  induction Q with
  | nil => cases hq
  | cons y Q ih =>
    rw [List.flatMap_cons] at hm'
    obtain ⟨m1, m2, m3⟩ := List.nodup_append.1 hm'
    rcases List.mem_cons.1 hq with e | hq'
    · rw [e]; simpa using m1
    · exact ih hq' m2
theorem maps_replQ {mb : Nat} {q q' : PW} (hhb : q'.1.hb = q.1.hb) (hid : q'.2.f0 = q.2.f0) : ∀ {Q : List PW}, (mapsOf mb Q).Nodup → (idsOf Q).Nodup → q ∈ Q → (q'.1.wb = q.1.wb ∨ q'.1.wb ∉ mapsOf mb Q) → (mapsOf mb (replQ Q q')).Nodup := by
  intro Q hm hn hq hwb
  have key : ∀ {R : List PW}, (R.flatMap (fun q => [q.1.hb, q.1.wb])).Nodup → (idsOf R).Nodup → (∀ x ∈ R, x.2.f0 = q.2.f0 → x = q) → (q'.1.wb = q.1.wb ∨ q'.1.wb ∉ R.flatMap (fun q => [q.1.hb, q.1.wb])) → ((replQ R q').flatMap (fun q => [q.1.hb, q.1.wb])).Nodup ∧ ∀ k, k ∈ (replQ R q').flatMap (fun q => [q.1.hb, q.1.wb]) → k ∈ R.flatMap (fun q => [q.1.hb, q.1.wb]) ∨ (k = q'.1.wb ∧ q ∈ R) := by
    intro R
    induction R with
    | nil => intro _ _ _ _; exact ⟨List.nodup_nil, fun k h => by cases h⟩
    | cons y R ih =>
      intro hm hn he hw
      obtain ⟨h1, h2⟩ := List.nodup_cons.1 hn
      rw [List.flatMap_cons] at hm hw
      obtain ⟨m1, m2, m3⟩ := List.nodup_append.1 hm
      have hw2 : q'.1.wb = q.1.wb ∨ q'.1.wb ∉ R.flatMap (fun q => [q.1.hb, q.1.wb]) := hw.imp id (fun h hh => h (List.mem_append.2 (.inr hh)))
      obtain ⟨i1, i2⟩ := ih m2 h2 (fun x hx => he x (by simp [hx])) hw2
      have hmem : ∀ z ∈ R, z.1.hb ∈ R.flatMap (fun q => [q.1.hb, q.1.wb]) ∧ z.1.wb ∈ R.flatMap (fun q => [q.1.hb, q.1.wb]) := fun z hz => ⟨List.mem_flatMap.2 ⟨z, hz, by simp⟩, List.mem_flatMap.2 ⟨z, hz, by simp⟩⟩
      show (((if y.2.f0 = q'.2.f0 then q' else y) :: replQ R q').flatMap _).Nodup ∧ ∀ k, k ∈ ((if y.2.f0 = q'.2.f0 then q' else y) :: replQ R q').flatMap _ → _
      rw [List.flatMap_cons]
      split
      · rename_i e
        have ey : y = q := he y (by simp) (e.trans hid)
        subst ey
        have hnr : y ∉ R := fun h => h1 (List.mem_map.2 ⟨y, h, rfl⟩)
        have i2' : ∀ k, k ∈ (replQ R q').flatMap (fun q => [q.1.hb, q.1.wb]) → k ∈ R.flatMap (fun q => [q.1.hb, q.1.wb]) := fun k hk => (i2 k hk).elim id (fun h => absurd h.2 hnr)
        have hyb : y.1.hb ≠ y.1.wb := by simpa using m1
        have hq'w : q'.1.wb = y.1.wb ∨ (q'.1.wb ≠ y.1.hb ∧ q'.1.wb ∉ R.flatMap (fun q => [q.1.hb, q.1.wb])) := hw.imp id (fun h => ⟨fun e => h (List.mem_append.2 (.inl (by simp [e]))), fun hh => h (List.mem_append.2 (.inr hh))⟩)
        constructor
        · refine List.nodup_append.2 ⟨?_, i1, ?_⟩
          · rw [hhb]
            rcases hq'w with h | h
            · rw [h]; exact m1
            · simpa using fun e => h.1 e.symm
          · intro a ha b hb
            have hb' := i2' b hb
            simp only [List.mem_cons, List.not_mem_nil, or_false] at ha
            rcases ha with rfl | rfl
            · rw [hhb]; exact m3 _ (by simp) _ hb'
            · rcases hq'w with h | h
              · rw [h]; exact m3 _ (by simp) _ hb'
              · rintro rfl; exact h.2 hb'
        · intro k hk
          rcases List.mem_append.1 hk with h | h
          · simp only [List.mem_cons, List.not_mem_nil, or_false] at h
            rcases h with rfl | rfl
            · exact .inl (List.mem_append.2 (.inl (by simp [hhb])))
            · exact .inr ⟨rfl, by simp⟩
          · exact .inl (List.mem_append.2 (.inr (i2' k h)))
      · constructor
        · refine List.nodup_append.2 ⟨m1, i1, fun a ha b hb => ?_⟩
          rcases i2 b hb with h | ⟨rfl, hqR⟩
          · exact m3 a ha b h
          · rcases hw with h | h
            · rw [h]; exact m3 a ha _ (hmem q hqR).2
            · rintro rfl; exact h (List.mem_append.2 (.inl ha))
        · intro k hk
          rcases List.mem_append.1 hk with h | h
          · exact .inl (List.mem_append.2 (.inl h))
          · rcases i2 k h with h | ⟨h, hq⟩
            · exact .inl (List.mem_append.2 (.inr h))
            · exact .inr ⟨h, by simp [hq]⟩
  obtain ⟨h1, h2⟩ := List.nodup_cons.1 hm
  obtain ⟨k1, k2⟩ := key h2 hn (fun x hx e => ids_inj hn hx hq e) (hwb.imp id (fun h hh => h (List.mem_cons.2 (.inr hh))))
  refine List.nodup_cons.2 ⟨fun h => ?_, k1⟩
  rcases k2 _ h with h | ⟨h, _⟩
  · exact h1 h
  · rcases hwb with e | e
    · rw [e] at h; exact h1 (List.mem_flatMap.2 ⟨q, hq, by simp [h]⟩)
    · exact e (by rw [← h]; simp [mapsOf])
theorem mem_maps_foot {lb mb : Nat} {Q : List PW} {k : Nat} (h : k ∈ mapsOf mb Q) : k ∈ footOf lb mb Q := by
  rcases List.mem_cons.1 h with rfl | h
  · simp [footOf]
  · obtain ⟨q, hq, h⟩ := List.mem_flatMap.1 h
    simp only [List.mem_cons, List.not_mem_nil, or_false] at h
    rcases h with rfl | rfl
    · exact (mem_foot hq).2.1
    · exact (mem_foot hq).2.2
theorem k_ne {w : World} {lb mb mn : Nat} {last : Int} {Q : List PW} (h : LockAt w lb mb mn last Q) {x q : PW} (hx : x ∈ Q) (hq : q ∈ Q) (hne : x.2.f0 ≠ q.2.f0) : x.1.k ≠ q.1.k := by
  have hk := h.ks
  have hn := h.ids
  clear h
  induction Q with
  | nil => cases hx
  | cons y Q ih =>
    obtain ⟨a1, a2⟩ := List.nodup_cons.1 hk
    obtain ⟨b1, b2⟩ := List.nodup_cons.1 hn
    rcases List.mem_cons.1 hx with ex | hx' <;> rcases List.mem_cons.1 hq with eq | hq'
    · rw [ex, eq] at hne; exact absurd rfl hne
    · rw [ex]; exact fun e => a1 (List.mem_map.2 ⟨q, hq', e.symm⟩)
    · rw [eq]; exact fun e => a1 (List.mem_map.2 ⟨x, hx', e⟩)
    · exact ih hx' hq' a2 b2
theorem lb_ne {w : World} {lb mb mn : Nat} {last : Int} {Q : List PW} (h : LockAt w lb mb mn last Q) {q : PW} (hq : q ∈ Q) : lb ≠ q.1.k := blk_ne h.l (h.wk q hq).b (by decide)
/-- One work has other places, or holds and waits for something else. -/
theorem LockAt.repl {w w' : World} {lb mb mn : Nat} {last last' : Int} {Q : List PW} {q q' : PW} (h : LockAt w lb mb mn last Q) (hq : q ∈ Q) (hk : q'.1.k = q.1.k) (hid : q'.2.f0 = q.2.f0) (hw : WorkAt w' q') (hl : w'.heap[lb]? = some (.cells #[.map (some mb), .int .i64 last'] 38 (0, 0)))
    (hc : Chg (fun k => k = lb ∨ k = q.1.k ∨ k = q.1.hb ∨ k = q.1.wb) w w') (hhb : q'.1.hb = q.1.hb) (hwb : q'.1.wb = q.1.wb ∨ w.heap.size ≤ q'.1.wb) : LockAt w' lb mb mn last' (replQ Q q') := by
  have hmb : w'.heap[mb]? = w.heap[mb]? := hc.block mb h.m.lt (by
    have hne := maps_ne h.maps hq
    rintro (e | e | e | e)
    · exact cells_ne_map h.l h.m e.symm
    · exact cells_ne_map (h.wk q hq).b h.m e.symm
    · exact hne.1 e
    · exact hne.2 e)
  refine ⟨hl, (h.m.at hmb).congr (fun kl => (find_replQ h.ids hq hid hk kl).symm), fun x hx => ?_, by rw [ids_replQ]; exact h.ids, by rw [ks_replQ h.ids hq hid hk]; exact h.ks, ?_, fun x hx => ?_⟩
  · rcases (mem_replQ hq hid).1 hx with rfl | ⟨hx', hne⟩
    · exact hw
    · have hxw := h.wk x hx'
      have hqw := h.wk q hq
      have ap := maps_apart h.maps h.ids hx' hq hne
      refine hxw.at (hc.block _ (blk_lt hxw.b) ?_) (hc.block _ hxw.h.lt ?_) (hc.block _ hxw.w.lt ?_)
      · rintro (e | e | e | e)
        · exact lb_ne h hx' e.symm
        · exact k_ne h hx' hq hne e
        · exact cells_ne_map hxw.b hqw.h e
        · exact cells_ne_map hxw.b hqw.w e
      · rintro (e | e | e | e)
        · exact cells_ne_map h.l hxw.h e.symm
        · exact cells_ne_map hqw.b hxw.h e.symm
        · exact ap.1 e
        · exact ap.2.1 e
      · rintro (e | e | e | e)
        · exact cells_ne_map h.l hxw.w e.symm
        · exact cells_ne_map hqw.b hxw.w e.symm
        · exact ap.2.2.1 e
        · exact ap.2.2.2 e
  · refine maps_replQ hhb hid h.maps h.ids hq (hwb.imp id (fun hlt hm => ?_))
    have := h.lt _ (mem_maps_foot (lb := lb) hm)
    omega
  · rcases (mem_replQ hq hid).1 hx with rfl | ⟨hx', _⟩
    · rw [hid]; exact h.wf q hq
    · exact h.wf x hx'
end Go.Proofs.Ytimlfdfmgajbnaa.PA
