/-
The works by which one is kept by way of others: lock.beyond.
-/
import Derived.Test.YtimlfdfmgajbnaaLk10
namespace Go.Proofs.Ytimlfdfmgajbnaa.PA
open Go.RowKit Go.Proofs.YtimlfdfmgajbnaaW.PrintWords Go.Proofs.YtimlfdfmgajbnaaW.PrintLast Go.Proofs.YtimlfdfmgajbnaaW.PrintMore
open Go.Proofs.Ytimlfdfmgajbnaa.Mp
set_option linter.unusedVariables false
set_option linter.unusedSimpArgs false
/-! ### sets of numbers -/
def setI (S : List Int) : Lit → Option Value := fun kl => match kl with
  | .int .i64 n => if n ∈ S then some (.int .i64 1) else none
  | _ => none
theorem setI_at (S : List Int) (n : Int) : setI S (.int .i64 n) = if n ∈ S then some (.int .i64 1) else none := rfl
theorem setI_nil (kl : Lit) : setI [] kl = none := by unfold setI; split <;> simp
theorem setI_upd (S : List Int) (n : Int) (kl : Lit) : upd (setI S) (.int .i64 n) (some (.int .i64 1)) kl = setI (n :: S) kl := by
  unfold upd
  split
  · rename_i e
    rw [e, setI_at, if_pos (by simp)]
  · rename_i e
    unfold setI
    split
    · rename_i m
      have : m ≠ n := fun h => e (by rw [h])
      simp [this]
    · rfl
theorem setI_some {S : List Int} {kl : Lit} {v : Value} (h : setI S kl = some v) : ∃ n ∈ S, kl = .int .i64 n ∧ v = .int .i64 1 := by
  unfold setI at h
  split at h
  · rename_i n
    split at h
    · rename_i hn
      cases h
      exact ⟨n, hn, rfl, rfl⟩
    · cases h
  · cases h
theorem zero3' (w : World) : (zeroValue 3).run Try.prog w = .ok (.int .i64 0) w := by kernel_rfl
set_option maxHeartbeats 400000 in
theorem has64_calls (b m : Nat) (S : List Int) (n : Int) (r : Bool) (w : World) (h : MapIs Try.prog 2 w b m (setI S)) (hn : (Lit.int .i64 n).wf = true) (hr : r = decide (n ∈ S)) :
    Calls Try.prog 40 #[.map (some b), .int .i64 n] w fun e w' => e = .returned (.bool r) ∧ w = w' := by
  have HR := Aside0.mk hr
  have HM := Aside0.mk h
  have HK := Aside0.mk (key_i n hn)
  clear hr h hn
  by_cases hm : n ∈ S
  · have HV := Aside0.mk (show (setI S (.int .i64 n)).getD (.int .i64 0) = .int .i64 1 by rw [setI_at, if_pos hm]; rfl)
    have HZ := Aside0.mk (HR.out.trans (decide_eq_true hm))
    clear hm
    go_enter Try.func40, Try.ntmps40
    go_wp2_with (at_lookup; refine lookup_event HM.out rfl _ _ rfl keyed2 Try.underlying72 (zero3' _) rfl rfl HK.out ?_; rw [HV.out])
    go_ret
    exact ⟨by rw [HZ.out]; rfl, rfl⟩
  · have HV := Aside0.mk (show (setI S (.int .i64 n)).getD (.int .i64 0) = .int .i64 0 by rw [setI_at, if_neg hm]; rfl)
    have HZ := Aside0.mk (HR.out.trans (decide_eq_false hm))
    clear hm
    go_enter Try.func40, Try.ntmps40
    go_wp2_with (at_lookup; refine lookup_event HM.out rfl _ _ rfl keyed2 Try.underlying72 (zero3' _) rfl rfl HK.out ?_; rw [HV.out])
    go_ret
    exact ⟨by rw [HZ.out]; rfl, rfl⟩
/-! ### who is come by -/
inductive Reach (Q : List PW) : Int → Int → Prop
  | one {a b : Int} : b ∈ waitsQ Q a → Reach Q a b
  | step {a b c : Int} : b ∈ waitsQ Q a → Reach Q b c → Reach Q a c
structure Dfs (Q : List PW) (id : Int) (S S' : List Int) : Prop where
  sub : ∀ x ∈ S, x ∈ S'
  sound : ∀ x ∈ S', x ∈ S ∨ Reach Q id x
  here : ∀ o ∈ waitsQ Q id, o ∈ S'
  clos : ∀ x ∈ S', x ∉ S → ∀ o ∈ waitsQ Q x, o ∈ S'
theorem Dfs.all {Q : List PW} {id : Int} {S' : List Int} (h : Dfs Q id [] S') (x : Int) : x ∈ S' ↔ Reach Q id x := by
  constructor
  · intro hx
    rcases h.sound x hx with h | h
    · cases h
    · exact h
  · intro hr
    have key : ∀ {a c : Int}, Reach Q a c → (∀ o ∈ waitsQ Q a, o ∈ S') → c ∈ S' := by
      intro a c hac
      induction hac with
      | one hb => intro hw; exact hw _ hb
      | step hb _ ih => intro hw; exact ih (h.clos _ (hw _ hb) (by simp))
    exact key hr h.here
theorem mem_sortI {l : List Int} {x : Int} : x ∈ sortI l ↔ x ∈ l := by unfold sortI; simp
theorem waits_ids {Q : List PW} {id o : Int} (h : o ∈ waitsQ Q id) : ∃ q ∈ Q, q.2.f0 = o := by
  unfold waitsQ at h
  split at h
  · cases h
  · split at h
    · cases h
    · rw [mem_sortI, keptQ_mem] at h
      obtain ⟨q, hq, e, _⟩ := h
      exact ⟨q, hq, e⟩
theorem waits_len (Q : List PW) (id : Int) : (waitsQ Q id).length ≤ Q.length := by
  unfold waitsQ
  split
  · simp
  · split
    · simp
    · rw [sortI_length]
      unfold keptQ
      rw [List.length_map]
      exact List.length_filter_le _ _
/-- What the walk through the works has: locks, its three variables, those that were seen. -/
structure Look (w : World) (lb mb mn : Nat) (last : Int) (Q : List PW) (b1 b2 b3 sb m : Nat) (S : List Int) : Prop where
  L : LockAt w lb mb mn last Q
  far : sb ∉ footOf lb mb Q
  c1 : w.heap[b1]? = some (.cells #[.pointer (some ⟨lb, 0, none⟩)] 25 (0, 0))
  c2 : w.heap[b2]? = some (.cells #[.map (some sb)] 72 (0, 0))
  c3 : w.heap[b3]? = some (.cells #[.func (.func 57) #[] #[.pointer (some ⟨b1, 0, none⟩), .pointer (some ⟨b2, 0, none⟩), .pointer (some ⟨b3, 0, none⟩)]] 40 (0, 0))
  hS : MapIs Try.prog 2 w sb m (setI S)
  hm : m ≤ S.length
  nd : S.Nodup
  sub : ∀ x ∈ S, x ∈ idsOf Q
theorem Look.chg {w w' : World} {lb mb mn : Nat} {last : Int} {Q : List PW} {b1 b2 b3 sb m m' : Nat} {S S' : List Int} (h : Look w lb mb mn last Q b1 b2 b3 sb m S) (hc : Chg (fun k => k = sb) w w') (hS : MapIs Try.prog 2 w' sb m' (setI S')) (hm : m' ≤ S'.length) (nd : S'.Nodup) (sub : ∀ x ∈ S', x ∈ idsOf Q) : Look w' lb mb mn last Q b1 b2 b3 sb m' S' :=
  ⟨h.L.at (fun k hk => hc.block k (h.L.lt k hk) (fun e => h.far (by rw [← e]; exact hk))), h.far, (hc.block _ (blk_lt h.c1) (cells_ne_map h.c1 h.hS)).trans h.c1, (hc.block _ (blk_lt h.c2) (cells_ne_map h.c2 h.hS)).trans h.c2, (hc.block _ (blk_lt h.c3) (cells_ne_map h.c3 h.hS)).trans h.c3, hS, hm, nd, sub⟩
def LookPost (Q : List PW) (sb : Nat) (S : List Int) (id : Int) (w : World) (e : Ending) (w' : World) : Prop := e = .returned (.tuple #[]) ∧ ∃ m' S', MapIs Try.prog 2 w' sb m' (setI S') ∧ m' ≤ S'.length ∧ S'.Nodup ∧ (∀ x ∈ S', x ∈ idsOf Q) ∧ Dfs Q id S S' ∧ Chg (fun k => k = sb) w w'
def unseen (Q : List PW) (S : List Int) : Nat := ((idsOf Q).filter (fun x => decide (x ∉ S))).length
theorem unseen_lt {Q : List PW} {S : List Int} {o : Int} (ho : o ∈ idsOf Q) (hn : o ∉ S) : unseen Q (o :: S) < unseen Q S := by
  unfold unseen
  generalize idsOf Q = l at ho
  induction l with
  | nil => cases ho
  | cons a l ih =>
    have mono : ∀ l : List Int, (l.filter (fun x => decide (x ∉ o :: S))).length ≤ (l.filter (fun x => decide (x ∉ S))).length := by
      intro l
      induction l with
      | nil => simp
      | cons b l ih =>
        rw [List.filter_cons, List.filter_cons]
        by_cases h1 : b ∈ S
        · simp [h1]; simpa using ih
        · by_cases h2 : b = o
          · simp [h1, h2, hn]; have := ih; simp at this; omega
          · simp [h1, h2]; simpa using ih
    rw [List.filter_cons, List.filter_cons]
    by_cases e : a = o
    · have := mono l
      simp [e, hn] at this ⊢
      omega
    · have hl : o ∈ l := by rcases List.mem_cons.1 ho with h | h; exact absurd h.symm e; exact h
      have := ih hl
      by_cases h1 : a ∈ S
      · simp [h1] at this ⊢; exact this
      · simp [h1, e] at this ⊢; exact this
theorem unseen_mono {Q : List PW} {S T : List Int} (h : ∀ x ∈ S, x ∈ T) : unseen Q T ≤ unseen Q S := by
  unfold unseen
  induction idsOf Q with
  | nil => simp
  | cons a l ih =>
    rw [List.filter_cons, List.filter_cons]
    by_cases h1 : a ∈ S
    · simp [h1, h a h1]; simpa using ih
    · by_cases h2 : a ∈ T
      · simp [h1, h2]; simp at ih; omega
      · simp [h1, h2]; simpa using ih
theorem cell_ne_map {P : Program} {w : World} {a : Addr} {v : Value} {b n : Nat} {kt : TypeId} {f : Lit → Option Value} (h : w.cell? a = some v) (hb : MapIs P kt w b n f) : a.block ≠ b := by
  intro e
  obtain ⟨D, ⟨es, clock, h2, _⟩, _⟩ := hb
  unfold World.cell? at h
  rw [e, h2] at h
  cases h
theorem nodup_len {l m : List Int} (h : l.Nodup) (hs : ∀ x ∈ l, x ∈ m) : l.length ≤ m.length := by
  induction l generalizing m with
  | nil => simp
  | cons a l ih =>
    obtain ⟨h1, h2⟩ := List.nodup_cons.1 h
    have ha := hs a (by simp)
    have hm : ∀ x ∈ l, x ∈ m.erase a := fun x hx => (List.mem_erase_of_ne (fun e => h1 (by rw [← e]; exact hx))).2 (hs x (by simp [hx]))
    have := ih h2 hm
    rw [List.length_erase_of_mem ha] at this
    have hp : 0 < m.length := List.length_pos_of_mem ha
    simp
    omega
set_option maxHeartbeats 8000000 in
set_option maxRecDepth 100000 in
theorem look_step (lb mb mn : Nat) (last : Int) (Q : List PW) (b1 b2 b3 sb m : Nat) (S : List Int) (id : Int) (w : World) (h : Look w lb mb mn last Q b1 b2 b3 sb m S) (hid : (Lit.int .i64 id).wf = true) (hmn : mn ≤ 1000000) (hq : Q.length ≤ 1000000)
    (IH : ∀ (m' : Nat) (S' : List Int) (o : Int) (w' : World), unseen Q S' < unseen Q S → (Lit.int .i64 o).wf = true → Look w' lb mb mn last Q b1 b2 b3 sb m' S' → Calls Try.prog 57 #[.int .i64 o, .pointer (some ⟨b1, 0, none⟩), .pointer (some ⟨b2, 0, none⟩), .pointer (some ⟨b3, 0, none⟩)] w' (LookPost Q sb S' o w')) :
    Calls Try.prog 57 #[.int .i64 id, .pointer (some ⟨b1, 0, none⟩), .pointer (some ⟨b2, 0, none⟩), .pointer (some ⟨b3, 0, none⟩)] w (LookPost Q sb S id w) := by
  have HL := Aside0.mk h
  have HI := Aside0.mk hid
  have HMN := Aside0.mk hmn
  have HQ := Aside0.mk hq
  have HIH := Aside0.mk IH
  have d1 := (blk_cell h.c1 0).trans rfl
  clear h hid hmn IH hq
  go_enter Try.func57, Try.ntmps57
  go_wp2_with (first | (go_at_call 16; (with_reducible refine (waits_calls lb mb mn last Q id _ HL.out.L HI.out HMN.out).mono ?_); rintro e w1 ⟨v, rfl, hR, hb⟩; obtain ⟨Av, cv, ev⟩ := Kd.R_slice hR; subst ev; have HRD := Aside0.mk (Kd.R_reads' hR).2.2; have HB := Aside0.mk hb; clear hR hb d1))
  have HL1 := Aside0.mk (HL.out.chg (Chg.ofBelow HB.out) (HL.out.hS.below HB.out) HL.out.hm HL.out.nd HL.out.sub)
  obtain ⟨xs, hxs⟩ : ∃ xs, xs = waitsQ Q id := ⟨_, rfl⟩
  rw [← hxs] at HRD ⊢
  have HXS := Aside0.mk hxs
  have hxl : xs.length ≤ 1000000 := by rw [hxs]; exact Nat.le_trans (waits_len Q id) HQ.out
  clear hxs
  go_loopw [6, 11] (fun v6 v11 wr => ∃ (i m1 : Nat) (S1 : List Int), i ≤ xs.length ∧ v11 = .int .i64 i ∧ Aside0 (Look wr lb mb mn last Q b1 b2 b3 sb m1 S1) ∧ Aside0 (∀ x ∈ S, x ∈ S1) ∧ Aside0 (∀ x ∈ S1, x ∈ S ∨ Reach Q id x) ∧ Aside0 (∀ x ∈ xs.take i, x ∈ S1) ∧ Aside0 (∀ x ∈ S1, x ∉ S → ∀ o ∈ waitsQ Q x, o ∈ S1) ∧ Aside0 (Chg (fun k => k = sb) w1 wr)) (fun _ v11 _ => xs.length - (intOf v11).toNat)
  case atStart => exact ⟨0, m, S, Nat.zero_le _, rfl, ⟨HL1.out⟩, ⟨fun x h => h⟩, ⟨fun x h => .inl h⟩, ⟨fun x h => by simp at h⟩, ⟨fun x h hn => absurd h hn⟩, ⟨Chg.refl _ _⟩⟩
  case round =>
    obtain ⟨i, m1, S1, hi, rfl, HLK, HSUB, HSND, HTK, HCL, HC⟩ := hrel
    by_cases hlt : i < xs.length
    · have hd1 : decide ((i : Int) < (xs.length : Int)) = true := decide_eq_true (by omega)
      have hd2 : decide (0 ≤ (i : Int)) = true := decide_eq_true (by omega)
      obtain ⟨ad, e0, hx⟩ := Kd.at_int HRD.out (i : Int) (by omega) (by omega)
      cases e0
      obtain ⟨o, ho⟩ : ∃ o, o = xs[i] := ⟨_, rfl⟩
      have eo : rd xs (i : Int) = o := by rw [ho]; simp [rd, hlt]
      rw [eo, Int.toNat_natCast] at hx
      have hx2 := HC.out.cell hx (cell_ne_map hx HL1.out.hS)
      have hmem : o ∈ waitsQ Q id := by rw [← HXS.out, ho]; exact List.getElem_mem _
      obtain ⟨q, hq, hqo⟩ := waits_ids hmem
      have HO := Aside0.mk (show o ∈ idsOf Q from List.mem_map.2 ⟨q, hq, hqo⟩)
      have HOW := Aside0.mk (show (Lit.int .i64 o).wf = true by rw [← hqo]; exact HLK.out.L.wf q hq)
      have HMEM := Aside0.mk hmem
      have htk : xs.take (i + 1) = xs.take i ++ [o] := by rw [List.take_succ_eq_append_getElem hlt, ho]
      have HTE := Aside0.mk htk
      clear hx hq hqo eo ho hmem htk
      have d2 := (blk_cell HLK.out.c2 0).trans rfl
      have d3 := (blk_cell HLK.out.c3 0).trans rfl
      by_cases hs : o ∈ S1
      · have HH := Aside0.mk (decide_eq_true hs).symm
        have HT2 := Aside0.mk (show ∀ x ∈ xs.take (i + 1), x ∈ S1 from fun x hx => by
          rw [HTE.out] at hx
          rcases List.mem_append.1 hx with h | h
          · exact HTK.out x h
          · rw [List.mem_singleton.1 h]; exact hs)
        clear hs
        go_wp2_with (first | (go_at_call 40; (with_reducible refine (has64_calls sb m1 S1 o true _ HLK.out.hS HOW.out HH.out).mono ?_); rintro e w' ⟨rfl, rfl⟩))
        go_roundw
        case rel => exact ⟨i + 1, m1, S1, by omega, by first | rfl | (rw [wrapI (by omega) (by omega)]; rfl), ⟨HLK.out⟩, ⟨HSUB.out⟩, ⟨HSND.out⟩, ⟨HT2.out⟩, ⟨HCL.out⟩, ⟨HC.out⟩⟩
        case measure => simp [intOf, wrapI]; omega
      · have HH := Aside0.mk (decide_eq_false hs).symm
        have hun : unseen Q (o :: S1) < unseen Q S := Nat.lt_of_lt_of_le (unseen_lt HO.out hs) (unseen_mono HSUB.out)
        have HND := Aside0.mk (show (o :: S1).Nodup from List.nodup_cons.2 ⟨hs, HLK.out.nd⟩)
        have HSB := Aside0.mk (show ∀ x ∈ o :: S1, x ∈ idsOf Q from fun x hx => by rcases List.mem_cons.1 hx with e | h; rw [e]; exact HO.out; exact HLK.out.sub x h)
        have hlen : S1.length ≤ Q.length := by have := nodup_len HLK.out.nd HLK.out.sub; unfold idsOf at this; simpa using this
        have HMX := Aside0.mk (show m1 < maxLen by have h1 := HLK.out.hm; have h2 := HQ.out; unfold maxLen; omega)
        have HUN := Aside0.mk hun
        clear hs hun hlen
        go_wp2_with (first | (go_at_call 40; (with_reducible refine (has64_calls sb m1 S1 o false _ HLK.out.hS HOW.out HH.out).mono ?_); rintro e w' ⟨rfl, rfl⟩) | (at_mapUpdate; refine update_event HLK.out.hS rfl _ _ _ rfl keyed2 Try.underlying72 HMX.out rfl rfl rfl (key_i o HOW.out) ?_; intro W5 hm hg; have HC5 := Aside0.mk (Chg.ofGrown (F := fun k => k = sb) hg (fun k e => by injection e)); have HL5 := Aside0.mk (HLK.out.chg HC5.out (hm.congr (setI_upd S1 o)) (by have := HLK.out.hm; simp; omega) HND.out HSB.out); have HC6 := Aside0.mk (HC.out.trans HC5.out (fun k _ e => e)); clear hm hg d2 d3 hx2; have d3 := (blk_cell HL5.out.c3 0).trans rfl) | (go_at_call 57; (with_reducible refine (HIH.out (m1 + 1) (o :: S1) o _ HUN.out HOW.out HL5.out).mono ?_); rintro e W7 ⟨rfl, m7, S7, hS7, hm7, hn7, hs7, hdfs, hc7⟩; have HL7 := Aside0.mk (HL5.out.chg hc7 hS7 hm7 hn7 hs7); have HD7 := Aside0.mk hdfs; have HC7 := Aside0.mk (HC6.out.trans hc7 (fun k _ e => e)); clear hS7 hm7 hn7 hs7 hdfs hc7 d3))
        have R1 := Aside0.mk (show ∀ x ∈ S, x ∈ S7 from fun x hx => HD7.out.sub x (List.mem_cons.2 (.inr (HSUB.out x hx))))
        have R2 := Aside0.mk (show ∀ x ∈ S7, x ∈ S ∨ Reach Q id x from fun x hx => by
          rcases HD7.out.sound x hx with h | h
          · rcases List.mem_cons.1 h with e | h
            · rw [e]; exact .inr (Reach.one HMEM.out)
            · exact HSND.out x h
          · exact .inr (Reach.step HMEM.out h))
        have R3 := Aside0.mk (show ∀ x ∈ xs.take (i + 1), x ∈ S7 from fun x hx => by
          rw [HTE.out] at hx
          rcases List.mem_append.1 hx with h | h
          · exact HD7.out.sub x (List.mem_cons.2 (.inr (HTK.out x h)))
          · rw [List.mem_singleton.1 h]; exact HD7.out.sub o (by simp))
        have R4 := Aside0.mk (show ∀ x ∈ S7, x ∉ S → ∀ p ∈ waitsQ Q x, p ∈ S7 from fun x hx hn p hp => by
          by_cases e : x = o
          · rw [e] at hp; exact HD7.out.here p hp
          · by_cases h1 : x ∈ S1
            · exact HD7.out.sub p (List.mem_cons.2 (.inr (HCL.out x h1 hn p hp)))
            · exact HD7.out.clos x hx (fun h => by rcases List.mem_cons.1 h with h | h; exact e h; exact h1 h) p hp)
        go_roundw
        case rel => exact ⟨i + 1, m7, S7, by omega, by first | rfl | (rw [wrapI (by omega) (by omega)]; rfl), ⟨HL7.out⟩, ⟨R1.out⟩, ⟨R2.out⟩, ⟨R3.out⟩, ⟨R4.out⟩, ⟨HC7.out⟩⟩
        case measure => simp [intOf, wrapI]; omega
    · have hie : i = xs.length := by omega
      subst hie
      rw [List.take_length] at HTK
      have hd1 : decide ((xs.length : Int) < (xs.length : Int)) = false := decide_eq_false (by omega)
      clear hlt hi
      go_wp2
      go_end0
      exact ⟨rfl, m1, S1, HLK.out.hS, HLK.out.hm, HLK.out.nd, HLK.out.sub, ⟨HSUB.out, HSND.out, fun o ho => HTK.out o (by rw [HXS.out]; exact ho), HCL.out⟩, (Chg.ofBelow HB.out).trans HC.out (fun k _ e => e)⟩
theorem look_calls (lb mb mn : Nat) (last : Int) (Q : List PW) (b1 b2 b3 sb : Nat) (hmn : mn ≤ 1000000) (hq : Q.length ≤ 1000000) : ∀ (n m : Nat) (S : List Int) (id : Int) (w : World), unseen Q S ≤ n → (Lit.int .i64 id).wf = true → Look w lb mb mn last Q b1 b2 b3 sb m S → Calls Try.prog 57 #[.int .i64 id, .pointer (some ⟨b1, 0, none⟩), .pointer (some ⟨b2, 0, none⟩), .pointer (some ⟨b3, 0, none⟩)] w (LookPost Q sb S id w) := by
  intro n
  induction n with
  | zero => intro m S id w hu hid h; exact look_step lb mb mn last Q b1 b2 b3 sb m S id w h hid hmn hq (fun m' S' o w' hlt => absurd hlt (by omega))
  | succ n ih => intro m S id w hu hid h; exact look_step lb mb mn last Q b1 b2 b3 sb m S id w h hid hmn hq (fun m' S' o w' hlt ho hl => ih m' S' o w' (by omega) ho hl)
end Go.Proofs.Ytimlfdfmgajbnaa.PA
