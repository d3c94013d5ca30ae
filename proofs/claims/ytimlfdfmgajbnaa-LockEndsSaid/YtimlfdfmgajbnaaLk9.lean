/-
lock.Ask: it comes to what askL says.
-/
import Derived.Test.YtimlfdfmgajbnaaLk8
import Derived.IntWalk
namespace Go.Proofs.Ytimlfdfmgajbnaa.PA
open Go.RowKit Go.Proofs.YtimlfdfmgajbnaaW.PrintWords Go.Proofs.YtimlfdfmgajbnaaW.PrintLast Go.Proofs.YtimlfdfmgajbnaaW.PrintMore
open Go.Proofs.Ytimlfdfmgajbnaa.Mp
attribute [local go_sem] max2_int min2_int max_two min_two max_three min_three max_four min_four   -- for this text's walks alone
set_option linter.unusedVariables false
set_option linter.unusedSimpArgs false
/-- What Ask leaves. -/
def AskPost (lb mb : Nat) (last : Int) (Q : List PW) (id : Int) (ns : List ByteArray) (B : Nat) (w : World) (e : Ending) (w' : World) : Prop := ∃ mn' Q', e = .returned (.bool (askL (datQ Q) last id ns).2.2) ∧ LockAt w' lb mb mn' (askL (datQ Q) last id ns).2.1 Q' ∧ datQ Q' = (askL (datQ Q) last id ns).1 ∧ mn' ≤ B + 1 + ns.length ∧ (∀ x ∈ Q', x.1.nh + x.1.nw ≤ B + 1 + ns.length) ∧ Chg (fun k => k ∈ footOf lb mb Q) w w' ∧ ∀ k ∈ footOf lb mb Q', k ∈ footOf lb mb Q ∨ w.heap.size ≤ k
set_option maxHeartbeats 16000000 in
set_option maxRecDepth 100000 in
theorem ask_calls (lb mb mn : Nat) (last : Int) (Q : List PW) (id : Int) (A0 : Option Addr) (c0 : Nat) (ns : List ByteArray) (B : Nat) (w : World) (h : LockAt w lb mb mn last Q) (hid : (Lit.int .i64 id).wf = true) (hmn : mn ≤ B) (hbu : ∀ x ∈ Q, x.1.nh + x.1.nw ≤ B) (hbn : B + ns.length ≤ 100000) (hla : 0 ≤ last ∧ last ≤ 1000000)
    (hr : Kd.C Kd.string w A0 ns.length ns) (hc0 : ns.length ≤ c0) (hsz : ∀ s ∈ ns, s.size ≤ 9223372036854775807) (hfar : 0 < ns.length → ∀ ad, A0 = some ad → ad.block ∉ footOf lb mb Q) :
    Calls Try.prog 14 #[.pointer (some ⟨lb, 0, none⟩), .int .i64 id, .slice A0 ns.length c0] w (AskPost lb mb last Q id ns B w) := by
  have hc := (l_cells h).1
  have hlook := h.m.lookup_run keyed2 Try.underlying36 (zero55 w) (key_i id hid)
  rw [worksF_at] at hlook
  obtain ⟨po, hpo⟩ : ∃ po : Option Addr, po = (Q.find? (fun q => decide (q.2.f0 = id))).map (fun q => ⟨q.1.k, 0, none⟩) := ⟨_, rfl⟩
  have hpo2 : ((Q.find? (fun q => decide (q.2.f0 = id))).map (fun q => ptr q.1)).getD (.pointer none) = .pointer po := by rw [hpo]; cases Q.find? (fun q => decide (q.2.f0 = id)) <;> rfl
  rw [hpo2] at hlook
  have HPO := Aside0.mk hpo
  have hn := eq_nil55 w po
  clear hpo hpo2
  have HL := Aside0.mk h; have HI := Aside0.mk hid; have HMN := Aside0.mk hmn; have HBU := Aside0.mk hbu; have HR := Aside0.mk hr; have HC0 := Aside0.mk hc0; have HSZ := Aside0.mk hsz; have HFAR := Aside0.mk hfar; have HBN := Aside0.mk hbn; have HLA := Aside0.mk hla
  have hlen : (ns.length : Int) ≤ 1000000 := by omega
  have hl1 : IntKind.i64.wrap (last + 1) = last + 1 := by have := hla; exact IntWalk.i64_in _ (by omega)
  clear hr hsz hfar hla
  go_enter Try.func14, Try.ntmps14
  go_upto_if 21 with (first | (go_at_call 31; (with_reducible refine (made_yes lb mb mn last Q _ HL.out).mono ?_); rintro e w' ⟨rfl, rfl⟩))
  go_cut [7] (fun v7 wc => ∃ (q : PW) (Q1 : List PW) (mn1 : Nat), v7 = .pointer (some ⟨q.1.k, 0, none⟩) ∧ Aside0 (LockAt wc lb mb mn1 last Q1) ∧ Aside0 (q ∈ Q1 ∧ q.2.f0 = id) ∧ Aside0 (datQ Q1 = withL (datQ Q) id ∧ q.2 = getL (datQ Q) id) ∧ Aside0 (mn1 ≤ B + 1) ∧ Aside0 (∀ x ∈ Q1, x.1.nh + x.1.nw ≤ B) ∧ Aside0 (Chg (fun k => k ∈ footOf lb mb Q) w wc) ∧ Aside0 (∀ k ∈ footOf lb mb Q1, k ∈ footOf lb mb Q ∨ w.heap.size ≤ k))
  case first =>
    cases hf : Q.find? (fun q => decide (q.2.f0 = id)) with
    | some q =>
      have hq := List.mem_of_find?_eq_some hf
      have hqi : q.2.f0 = id := by simpa using List.find?_some hf
      obtain rfl : po = some ⟨q.1.k, 0, none⟩ := by rw [HPO.out, hf]; rfl
      have HQ := Aside0.mk (show q ∈ Q ∧ q.2.f0 = id from ⟨hq, hqi⟩)
      have HD := Aside0.mk (show datQ Q = withL (datQ Q) id ∧ q.2 = getL (datQ Q) id by unfold withL getL; rw [find_dat, hf]; exact ⟨rfl, rfl⟩)
      clear hq hqi hf
      go_wp2
      go_meet
      case rel => exact ⟨q, Q, mn, rfl, ⟨HL.out⟩, ⟨HQ.out⟩, ⟨HD.out⟩, ⟨by have := HMN.out; omega⟩, ⟨HBU.out⟩, ⟨Chg.refl _ _⟩, ⟨fun k hk => .inl hk⟩⟩
    | none =>
      obtain rfl : po = none := by rw [HPO.out, hf]; rfl
      have HD := Aside0.mk (show (datQ Q).find? (fun x => decide (x.f0 = id)) = none by rw [find_dat, hf]; rfl)
      have HNO := Aside0.mk (show ∀ q ∈ Q, q.2.f0 ≠ id from fun q hq => by simpa using List.find?_eq_none.1 hf q hq)
      clear hf
      go_wp2_with (first | ((with_reducible refine gate_dst (N := 22) rfl ?_); refine make_event rfl rfl 9 ?_; intro b1 hb1 W2 hm hb; have G1 := Aside0.mk (by rw [hb1]; exact Nat.le_refl _ : w.heap.size ≤ b1); have HM1 := Aside0.mk hm; have HB := Aside0.mk hb; clear hm hb hb1) | ((with_reducible refine gate_dst (N := 23) rfl ?_); refine make_event rfl rfl 9 ?_; intro b2 hb2 W3 hm hb; have G2 := Aside0.mk (by rw [hb2]; exact HB.out.size : w.heap.size ≤ b2); have G12 := Aside0.mk (by rw [hb2]; exact Nat.ne_of_lt HM1.out.lt : b1 ≠ b2); have HM1n := Aside0.mk (HM1.out.below hb); clear HM1; have HM1 := HM1n; clear HM1n; have HM2 := Aside0.mk hm; have HBn := Aside0.mk (below_step HB.out hb); clear HB; have HB := HBn; clear HBn; clear hm hb hb2) | ((with_reducible refine gate_dst (N := 25) rfl ?_); refine box_event ?hg (N := 25) ?hd (cs := #[.map (some b1), .map (some b2), .int .i64 0]) (t := 59) ?hr ?_; (case hd => rfl); (case hg => rfl); (case hr => first | (go_simp; done) | (go_simp; rfl)); intro gk hg W4 hbox hb; have G3 := Aside0.mk (by rw [hg]; exact HB.out.size : w.heap.size ≤ gk); have HM1n := Aside0.mk (HM1.out.below hb); have HM2n := Aside0.mk (HM2.out.below hb); clear HM1 HM2; have HM1 := HM1n; have HM2 := HM2n; clear HM1n HM2n; have BK := Aside0.mk hbox; have HBn := Aside0.mk (below_step HB.out hb); clear HB; have HB := HBn; clear HBn; clear hg hbox hb; have cl := (by simp [World.cell?, (HL.out.below HB.out).l] : W4.cell? ⟨lb, 0, none⟩ = some (.map (some mb)))) | (at_mapUpdate; refine update_event (HL.out.below HB.out).m rfl _ _ _ rfl keyed2 Try.underlying36 (by have := HMN.out; have := HBN.out; unfold maxLen; omega) rfl rfl rfl (key_i id HI.out) ?_; intro W5 hm hg; have HM := Aside0.mk hm; have HG := Aside0.mk hg; have HM1n := Aside0.mk (HM1.out.kept hg (fun e => by injection e with e; have h1 := G1.out; have h2 := HL.out.m.lt; omega)); have HM2n := Aside0.mk (HM2.out.kept hg (fun e => by injection e with e; have h1 := G2.out; have h2 := HL.out.m.lt; omega)); have BKn := Aside0.mk (blk_grown BK.out hg (fun e => by injection e with e; have h1 := G3.out; have h2 := HL.out.m.lt; omega)); clear hm hg cl))
      go_meet
      case rel =>
        have hlt : ∀ k, w.heap.size ≤ k → k ∉ footOf lb mb Q := fun k hk hm => absurd (HL.out.lt k hm) (Nat.not_lt.2 hk)
        refine ⟨(⟨gk, b1, b2, 0, 0⟩, newW id), Q ++ [(⟨gk, b1, b2, 0, 0⟩, newW id)], mn + 1, rfl, ⟨?_⟩, ⟨by simp, rfl⟩, ⟨by unfold datQ withL; unfold datQ at HD; rw [HD.out, List.map_append]; rfl, by unfold getL; rw [HD.out]; rfl⟩, ⟨by have := HMN.out; omega⟩, ⟨?_⟩, ⟨?_⟩, ⟨?_⟩⟩
        · exact (HL.out.below HB.out).add (⟨gk, b1, b2, 0, 0⟩, newW id) HNO.out HI.out ⟨BKn.out, MapIs.congr HM1n.out (fun kl => (setF_nil kl).symm), MapIs.congr HM2n.out (fun kl => (setF_nil kl).symm)⟩ HM.out HG.out (hlt _ G3.out) (hlt _ G1.out) (hlt _ G2.out) G12.out
        · intro x hx; rcases List.mem_append.1 hx with h | h; exact HBU.out x h; rw [List.mem_singleton.1 h]; exact Nat.zero_le B
        · exact (Chg.ofBelow HB.out).trans (Chg.ofGrown (F := (fun k => k ∈ footOf lb mb Q)) HG.out (fun k e => by injection e with e; rw [e]; simp [footOf])) (fun k _ h => h)
        · intro k hk; unfold footOf at hk; rw [List.flatMap_append] at hk; simp only [List.mem_cons, List.mem_append, List.flatMap_cons, List.flatMap_nil, List.append_nil, List.not_mem_nil, or_false] at hk; rcases hk with e | e | e | e | e | e
          · exact .inl (by simp [footOf, e])
          · exact .inl (by simp [footOf, e])
          · exact .inl (by unfold footOf; simp only [List.mem_cons]; exact .inr (.inr e))
          · exact .inr (by rw [e]; exact G3.out)
          · exact .inr (by rw [e]; exact G1.out)
          · exact .inr (by rw [e]; exact G2.out)
  case rest =>
    obtain ⟨q, Q1, mn1, rfl, HL1, HQ, HD, HMN1, HBU1, HCH, HFT⟩ := hcut
    clear hlook hc hn HPO HL HMN HBU
    have hA := fun (W' : World) (hC : Chg (fun k => k = q.1.wb) wc W') => (HL1.out.wk q HQ.out.1).b
    clear hA
    have HW1 := Aside0.mk (HL1.out.wk q HQ.out.1)
    have HWB := Aside0.mk (show q.1.k ≠ q.1.wb from cells_ne_map HW1.out.b HW1.out.w); have HHB := Aside0.mk (hb_ne_wb HL1.out.maps HQ.out.1)
    have HSW := Aside0.mk HW1.out.w
    have HLS := Aside0.mk HW1.out.w.lt
    go_wp2
    go_loopw [9, 34] (fun v9 v34 wr => ∃ (i m : Nat) (W : List ByteArray), i ≤ ns.length ∧ v34 = .int .i64 i ∧ Aside0 (W = wantsS q.2.f1 q.2.f2 (ns.take i)) ∧ Aside0 (SetIs wr q.1.wb m W) ∧ Aside0 (m ≤ q.1.nw + i) ∧ Aside0 (Chg (fun k => k = q.1.wb) wc wr)) (fun _ v34 _ => ns.length - (intOf v34).toNat)
    case atStart => exact ⟨0, q.1.nw, q.2.f2, Nat.zero_le _, rfl, ⟨rfl⟩, ⟨HSW.out⟩, ⟨by omega⟩, ⟨Chg.refl _ _⟩⟩
    case round =>
      obtain ⟨i, m, W, hi, rfl, HEQ, HS, HM, HC⟩ := hrel
      have hcell : ∀ j, wr.cell? ⟨q.1.k, j, none⟩ = wc.cell? ⟨q.1.k, j, none⟩ := fun j => World.cell?_of_block (HC.out.block _ (blk_lt HW1.out.b) HWB.out)
      obtain ⟨z0, z1, z2⟩ := w_cells HW1.out
      have c0 := (hcell 0).trans z0
      have c1 := (hcell 1).trans z1
      have c2 := (hcell 2).trans z2
      clear hcell z0 z1 z2
      have HH := Aside0.mk (HW1.out.h.at (HC.out.block _ HW1.out.h.lt HHB.out))
      by_cases hlt : i < ns.length
      · have hd1 : decide ((i : Int) < (ns.length : Int)) = true := decide_eq_true (by omega)
        have hd2 : decide (0 ≤ (i : Int)) = true := decide_eq_true (by omega)
        obtain ⟨ad, e0, hx⟩ := Kd.at_string HR.out (i : Int) (by omega) (by omega)
        cases e0
        obtain ⟨s, hs⟩ : ∃ s, s = ns[i] := ⟨_, rfl⟩
        have es : rdOf ByteArray.empty ns (i : Int) = s := by rw [hs]; simp [rdOf, hlt]
        rw [es, Int.toNat_natCast] at hx
        have hx0 := hx
        replace hx := HCH.out.cell hx (fun hF => HFAR.out (Nat.lt_of_le_of_lt (Nat.zero_le _) hlt) ad rfl (by have hF2 : (ad.add i).block ∈ footOf lb mb Q := hF; rw [add_block] at hF2; exact hF2))
        have hx2 := HC.out.cell hx (fun e => by rcases HFT.out q.1.wb (mem_foot HQ.out.1).2.2 with hh | hh; exact HFAR.out (Nat.lt_of_le_of_lt (Nat.zero_le _) hlt) ad rfl (by have e2 : (ad.add i).block = q.1.wb := e; rw [add_block] at e2; rw [e2]; exact hh); exact absurd (World.block_lt_of_cell? w _ hx0) (by rw [show (ad.add i).block = q.1.wb from e]; exact Nat.not_lt.2 hh))
        have HZS := Aside0.mk (show s.size ≤ 9223372036854775807 from HSZ.out s (by rw [hs]; exact List.getElem_mem _))
        have HTK := Aside0.mk (show wantsS q.2.f1 q.2.f2 (ns.take (i + 1)) = if s ∈ q.2.f1 ∨ star ∈ q.2.f1 then W else putS W s by rw [List.take_succ_eq_append_getElem hlt, wantsS_snoc, ← HEQ.out, ← hs])
        clear hx hs es
        clear hx0
        by_cases hm1 : s ∈ q.2.f1
        · have HH1 := Aside0.mk (decide_eq_true hm1).symm
          have HTN := Aside0.mk (show W = wantsS q.2.f1 q.2.f2 (ns.take (i + 1)) by rw [HTK.out, if_pos (.inl hm1)])
          clear hm1 HTK
          go_wp2_with (first | (go_at_call 32; (with_reducible refine (has_calls q.1.hb q.1.nh q.2.f1 s true _ HH.out HZS.out HH1.out).mono ?_); rintro e w' ⟨rfl, rfl⟩))
          go_roundw
          case rel => exact ⟨i + 1, m, W, by omega, by first | rfl | (rw [wrapI (by omega) (by omega)]; rfl), ⟨HTN.out⟩, ⟨HS.out⟩, ⟨by have := HM.out; omega⟩, ⟨HC.out⟩⟩
          case measure => simp [intOf, wrapI]; omega
        have HH1 := Aside0.mk (decide_eq_false hm1).symm
        by_cases hm2 : star ∈ q.2.f1
        · have HH2 := Aside0.mk (decide_eq_true hm2).symm
          have HTN := Aside0.mk (show W = wantsS q.2.f1 q.2.f2 (ns.take (i + 1)) by rw [HTK.out, if_pos (.inr hm2)])
          clear hm1 hm2 HTK
          go_wp2_with (first | (go_at_call 32; (with_reducible refine (has_calls q.1.hb q.1.nh q.2.f1 s false _ HH.out HZS.out HH1.out).mono ?_); rintro e w' ⟨rfl, rfl⟩) | (go_at_call 32; (with_reducible refine (has_calls q.1.hb q.1.nh q.2.f1 star true _ HH.out star_size HH2.out).mono ?_); rintro e w' ⟨rfl, rfl⟩))
          go_roundw
          case rel => exact ⟨i + 1, m, W, by omega, by first | rfl | (rw [wrapI (by omega) (by omega)]; rfl), ⟨HTN.out⟩, ⟨HS.out⟩, ⟨by have := HM.out; omega⟩, ⟨HC.out⟩⟩
          case measure => simp [intOf, wrapI]; omega
        · have HH2 := Aside0.mk (decide_eq_false hm2).symm
          have HTN := Aside0.mk (show putS W s = wantsS q.2.f1 q.2.f2 (ns.take (i + 1)) by rw [HTK.out, if_neg (by rintro (h | h); exact hm1 h; exact hm2 h)])
          clear hm1 hm2 HTK
          go_wp2_with (first | (go_at_call 32; (with_reducible refine (has_calls q.1.hb q.1.nh q.2.f1 s false _ HH.out HZS.out HH1.out).mono ?_); rintro e w' ⟨rfl, rfl⟩) | (go_at_call 32; (with_reducible refine (has_calls q.1.hb q.1.nh q.2.f1 star false _ HH.out star_size HH2.out).mono ?_); rintro e w' ⟨rfl, rfl⟩) | (at_mapUpdate; refine update_event HS.out rfl _ _ _ rfl keyed9 Try.underlying57 (by have := HM.out; have := HBU1.out q HQ.out.1; have := HBN.out; unfold maxLen; omega) rfl rfl rfl (key_s s HZS.out) ?_; intro W5 hm hg; have HSn := Aside0.mk (MapIs.congr hm (setF_upd (T := putS W s) (fun y => mem_putS))); have HCn := Aside0.mk (HC.out.trans (Chg.ofGrown (F := fun k => k = q.1.wb) hg (fun k h => by injection h)) (fun k hk e => e)); clear HS HC HH hm hg c0 c1 c2 hx2; have HS := HSn; have HC := HCn; clear HSn HCn))
          go_roundw
          case rel => exact ⟨i + 1, m + 1, putS W s, by omega, by first | rfl | (rw [wrapI (by omega) (by omega)]; rfl), ⟨HTN.out⟩, ⟨HS.out⟩, ⟨by have := HM.out; omega⟩, ⟨HC.out⟩⟩
          case measure => simp [intOf, wrapI]; omega
      · have hie : i = ns.length := by omega
        subst hie
        rw [List.take_length] at HEQ
        have hd1 : decide ((ns.length : Int) < (ns.length : Int)) = false := decide_eq_false (by omega)
        clear hlt hi
        obtain ⟨q1, hq1⟩ : ∃ q1 : PW, q1 = (⟨q.1.k, q.1.hb, q.1.wb, q.1.nh, m⟩, ⟨id, q.2.f1, W, q.2.f3⟩) := ⟨_, rfl⟩
        have hid1 : q1.2.f0 = q.2.f0 := by rw [hq1]; exact HQ.out.2.symm
        have HWR := Aside0.mk (show WorkAt wr q1 by rw [hq1]; exact ⟨(HC.out.block _ (blk_lt HW1.out.b) HWB.out).trans HW1.out.b, HH.out, HS.out⟩)
        have hlb : lb ≠ q.1.wb := cells_ne_map HL1.out.l HW1.out.w
        have HL2 := Aside0.mk (HL1.out.repl (q' := q1) HQ.out.1 (by rw [hq1]) hid1 HWR.out ((HC.out.block lb (blk_lt HL1.out.l) hlb).trans HL1.out.l) (HC.out.mono (fun k _ e => .inr (.inr (.inr e)))) (by rw [hq1]) (.inl (by rw [hq1])))
        have HQ1 := Aside0.mk (show q1 ∈ replQ Q1 q1 from (mem_replQ HQ.out.1 hid1).2 (.inl rfl))
        have HCW := Aside0.mk (show Chg (fun k => k ∈ footOf lb mb Q) w wr from HCH.out.trans HC.out (fun k hk e => by rcases HFT.out q.1.wb (mem_foot HQ.out.1).2.2 with hh | hh; rw [e]; exact hh; rw [e] at hk; exact absurd hk (Nat.not_lt.2 hh)))
        obtain ⟨t, ht⟩ : ∃ t, t = turnS last q.2 := ⟨_, rfl⟩
        have HKE := Aside0.mk (show keptQ (replQ Q1 q1) q.1.k W t = keptL (withL (datQ Q) id) id W t by
          have e1 := kept_dat HL2.out HQ1.out W t
          have e2 : q1.1.k = q.1.k := by rw [hq1]
          have e3 : q1.2.f0 = id := by rw [hq1]
          rw [e2, e3] at e1
          rw [e1, dat_repl, HD.out.1]
          have e4 := keptL_set (withL (datQ Q) id) q1.2 W t
          rw [e3] at e4
          exact e4)
        have HKB := Aside0.mk (show wr.heap[q.1.k]? = some (.cells #[.map (some q.1.hb), .map (some q.1.wb), .int .i64 q.2.f3] 59 (0, 0)) from (HC.out.block _ (blk_lt HW1.out.b) HWB.out).trans HW1.out.b)
        have HSQ := Aside0.mk (show SetIs wr q.1.wb m W from HS.out)
        have HBQ := Aside0.mk (show q.1.nh + m ≤ B + ns.length by have h1 := HM.out; have h2 := HBU1.out q HQ.out.1; omega)
        have HTT := Aside0.mk ht
        have HMN2 := Aside0.mk (show mn1 ≤ 1000000 by have h1 := HMN1.out; have h2 := HBN.out; omega)
        have cL := (l_cells HL2.out).2
        have hl2 : wrap64 (last + 1) = last + 1 := wrapI (by have := HLA.out; omega) (by have := HLA.out; omega)
        have HTE := Aside0.mk (show W = wantsS q.2.f1 q.2.f2 ns from HEQ.out)
        have HNL := Aside0.mk hlb
        obtain ⟨wx, hwx⟩ : ∃ wx, wx = wr := ⟨_, rfl⟩
        go_upto_if 64 with (fail)
        go_cut [10] (fun v10 w2 => v10 = .int .i64 t ∧ Aside0 (w2 = wr))
        case first =>
          by_cases h0 : q.2.f3 = 0
          · have hb0 : (q.2.f3 == 0) = true := by rw [h0]; rfl
            have HT2 := Aside0.mk (show t = last + 1 by rw [HTT.out]; unfold turnS; rw [if_pos h0])
            clear h0 ht
            go_wp2
            go_meet
            case rel => exact ⟨by rw [HT2.out], ⟨rfl⟩⟩
          · have hb0 : (q.2.f3 == 0) = false := by rw [beq_eq_false_iff_ne]; exact h0
            have HT2 := Aside0.mk (show t = q.2.f3 by rw [HTT.out]; unfold turnS; rw [if_neg h0])
            clear h0 ht
            go_wp2
            go_meet
            case rel => exact ⟨by rw [HT2.out], ⟨rfl⟩⟩
        case rest =>
          obtain ⟨rfl, hw2⟩ := hcut
          have hw3 := hw2.out
          subst hw3
          clear hw2 hwx hl1 hl2 ht hd1 hlen
          obtain ⟨K, hK⟩ : ∃ K, K = sortI (keptQ (replQ Q1 q1) q.1.k W t) := ⟨_, rfl⟩
          have HK := Aside0.mk hK
          have hKL : K.length = (keptL (withL (datQ Q) id) id W t).length := by rw [hK, sortI_length, HKE.out]
          clear hK
          by_cases hk : keptL (withL (datQ Q) id) id W t = []
          · have hz : K.length = 0 := by rw [hKL, hk]; rfl
            obtain rfl : K = [] := List.length_eq_zero_iff.1 hz
            have HAS := Aside0.mk (show askL (datQ Q) last id ns = (setL (withL (datQ Q) id) ⟨id, joinS q.2.f1 W, [], 0⟩, last, true) by have e := askL_yes (datQ Q) last id ns (W := W) (t := t) (by rw [← HD.out.2]; exact HTE.out) (by rw [← HD.out.2]; exact HTT.out) hk; rw [← HD.out.2] at e; exact e)
            clear hk hz hKL
            go_wp2_with (first | (go_at_call 33; (with_reducible refine (kept_calls lb mb mn1 last (replQ Q1 q1) q.1.k q.1.wb m W t _ HL2.out ⟨_, HKB.out⟩ HSQ.out HMN2.out).mono ?_); rintro e W2 ⟨v, rfl, hR, hb⟩; rw [← HK.out] at hR; obtain ⟨Av, cv, ev⟩ := Kd.R_slice hR; subst ev; have HB2 := Aside0.mk hb; clear hR hb c0 c1 c2 cL; have HL3 := Aside0.mk (HL2.out.below HB2.out); have HB3 := Aside0.mk (blk_below HKB.out HB2.out); have c0 := (blk_cell HB3.out 0).trans rfl; have c1 := (blk_cell HB3.out 1).trans rfl))
            refine start_ (n := 9) (S := (fun w' => w'.cell? ⟨q.1.k, 0, none⟩ = some (.map (some q.1.hb)) ∧ w'.cell? ⟨q.1.k, 1, none⟩ = some (.map (some q.1.wb)))) (ds := []) (Sh.m 0 9) (by kernel_rfl) rfl rfl ⟨c0, c1⟩ (fun hHeld => ?_)
            (have HL4 := Aside0.mk (HL3.out.below (below_drew1 (Below.refl _ W2))); have HB4 := Aside0.mk (blk_drew HB3.out); have HC2 := Aside0.mk (HCW.out.trans (Chg.ofBelow (F := fun _ => False) (below_drew1 HB2.out)) (fun _ _ h => h.elim)); clear c0 c1 HL3 HB3; generalize W2.drew = W3 at HL4 HB4 HC2 hHeld ⊢)
            have HSH4 := Aside0.mk (show SetIs W3 q.1.hb q.1.nh q.2.f1 by have := (HL4.out.wk q1 HQ1.out).h; rw [hq1] at this; exact this)
            have HSW4 := Aside0.mk (show SetIs W3 q.1.wb m W by have := (HL4.out.wk q1 HQ1.out).w; rw [hq1] at this; exact this)
            have HHW := Aside0.mk HHB.out
            have HNM := Aside0.mk (show q.1.nh + m ≤ 1000000 by have h1 := HBQ.out; have h2 := HBN.out; omega)
            refine pure_ (i := 0) (N := some 93) (v := ?_) (a' := ?_) (Sh.m 1 8) rfl rfl (by kernel_rfl) (fun _ _ _ h => h) (Or.inl ⟨by rfl, ?_⟩) ?_ ?_
            rotate_left
            · intro w'
              go_simp
              with_reducible rfl
            rotate_left
            · simp only [Act.put, List.setIfInBounds_toArray, List.set_cons_zero, List.set_cons_succ, i64_w, i32_w]
              rfl
            refine pure_ (i := 1) (N := some 94) (v := ?_) (a' := ?_) (Sh.m 2 7) rfl rfl (by kernel_rfl) (fun _ _ _ h => h) (Or.inl ⟨by rfl, ?_⟩) ?_ ?_
            rotate_left
            · intro w'
              go_simp
              with_reducible rfl
            rotate_left
            · simp only [Act.put, List.setIfInBounds_toArray, List.set_cons_zero, List.set_cons_succ, i64_w, i32_w]
              rfl
            refine pure_ (i := 2) (N := some 95) (v := ?_) (a' := ?_) (Sh.m 3 6) rfl rfl (by kernel_rfl) (fun _ _ _ h => h) (Or.inl ⟨by rfl, ?_⟩) ?_ ?_
            rotate_left
            · intro w'
              go_simp
              with_reducible rfl
            rotate_left
            · simp only [Act.put, List.setIfInBounds_toArray, List.set_cons_zero, List.set_cons_succ, i64_w, i32_w]
              rfl
            refine take_ (i := 3) (N := some 96) (v := ?_) (a' := ?_) (Sh.m 4 5) rfl rfl (by kernel_rfl) (fun _ _ _ h => h) (Or.inl ⟨by rfl, ?_⟩) hHeld ?_ ?_
            rotate_left
            · rintro w' ⟨s0, s1⟩
              go_simp
              with_reducible rfl
            rotate_left
            · simp only [Act.put, List.setIfInBounds_toArray, List.set_cons_zero, List.set_cons_succ, i64_w, i32_w]
              rfl
            refine pure_ (i := 4) (N := some 97) (v := ?_) (a' := ?_) (Sh.m 5 4) rfl rfl (by kernel_rfl) (fun _ _ _ h => h) (Or.inl ⟨by rfl, ?_⟩) ?_ ?_
            rotate_left
            · intro w'
              go_simp
              with_reducible rfl
            rotate_left
            · simp only [Act.put, List.setIfInBounds_toArray, List.set_cons_zero, List.set_cons_succ, i64_w, i32_w]
              rfl
            refine pure_ (i := 5) (N := some 98) (v := ?_) (a' := ?_) (Sh.m 6 3) rfl rfl (by kernel_rfl) (fun _ _ _ h => h) (Or.inl ⟨by rfl, ?_⟩) ?_ ?_
            rotate_left
            · intro w'
              go_simp
              with_reducible rfl
            rotate_left
            · simp only [Act.put, List.setIfInBounds_toArray, List.set_cons_zero, List.set_cons_succ, i64_w, i32_w]
              rfl
            refine pure_ (i := 6) (N := some 99) (v := ?_) (a' := ?_) (Sh.m 7 2) rfl rfl (by kernel_rfl) (fun _ _ _ h => h) (Or.inl ⟨by rfl, ?_⟩) ?_ ?_
            rotate_left
            · intro w'
              go_simp
              with_reducible rfl
            rotate_left
            · simp only [Act.put, List.setIfInBounds_toArray, List.set_cons_zero, List.set_cons_succ, i64_w, i32_w]
              rfl
            refine take_ (i := 7) (N := some 100) (v := ?_) (a' := ?_) (Sh.m 8 1) rfl rfl (by kernel_rfl) (fun _ _ _ h => h) (Or.inl ⟨by rfl, ?_⟩) hHeld ?_ ?_
            rotate_left
            · rintro w' ⟨s0, s1⟩
              go_simp
              with_reducible rfl
            rotate_left
            · simp only [Act.put, List.setIfInBounds_toArray, List.set_cons_zero, List.set_cons_succ, i64_w, i32_w]
              rfl
            refine one_ (i := 8) (N := some 101) (Sh.m 9 0) rfl rfl (by kernel_rfl) (by decide) (fun K hK => ?_)
            refine goes_ Try.func34 (by kernel_rfl) rfl #[.map (some q.1.hb), .map (some q.1.wb)] (by rfl) rfl rfl (by (try simp only [List.map_toArray, List.map_cons, List.map_nil]); first | done | rfl) ?_
            with_reducible refine (copy_calls q.1.hb q.1.nh q.1.wb m q.2.f1 W _ HSH4.out HSW4.out HHW.out HNM.out).mono ?_
            rintro e W2_ ⟨rfl, hpost⟩
            refine ⟨_, rfl, ?_⟩
            obtain ⟨n, T, hT, hTm, hn, hch⟩ := hpost
            have HT := Aside0.mk hT; have HTM := Aside0.mk hTm; have HN := Aside0.mk hn; have HCC := Aside0.mk hch; clear hT hTm hn hch
            have HK4 := Aside0.mk (show W2_.heap[q.1.k]? = some (.cells #[.map (some q.1.hb), .map (some q.1.wb), .int .i64 q.2.f3] 59 (0, 0)) from (HCC.out.block _ (blk_lt HB4.out) (cells_ne_map HB4.out HSH4.out)).trans HB4.out)
            clear hHeld
            refine hK.out _ _ ⟨(blk_cell HK4.out 0).trans rfl, (blk_cell HK4.out 1).trans rfl⟩ (fun hHeld => ?_)
            clear hK K
            refine norm_ (a' := ?_) ?_ ?_
            rotate_left
            · show Act.put _ (some 101) _ = _
              simp only [Act.put, List.setIfInBounds_toArray, List.set_cons_zero, List.set_cons_succ, i64_w, i32_w]
              rfl
            refine done_ (by kernel_rfl) ?_
            go_wp2_with (first | ((with_reducible refine gate_dst (N := 104) rfl ?_); refine make_event rfl rfl 9 ?_; intro b3 hb3 W5 hm hb; have GB3 := Aside0.mk (by rw [hb3]; exact Nat.le_refl _ : W2_.heap.size ≤ b3); have HM3 := Aside0.mk hm; have HK5 := Aside0.mk (blk_below HK4.out hb); have HB5 := Aside0.mk hb; have d1 := (blk_cell HK5.out 1).trans rfl; have d2 := (blk_cell HK5.out 2).trans rfl; have e1 := blk_frozen HK5.out 1; have e2 := blk_frozen HK5.out 2; clear hm hb hb3))
            go_ret
            have hbk := cells_ne_map HK5.out HM3.out
            have hhk := cells_ne_map HK4.out HT.out
            have HW6 : WorkAt ((W5.setCell ⟨q.1.k, 1, none⟩ (.map (some b3))).setCell ⟨q.1.k, 2, none⟩ (.int .i64 0)) ((⟨q.1.k, q.1.hb, b3, n, 0⟩, ⟨id, joinS q.2.f1 W, [], 0⟩) : PW) := by
              refine ⟨?_, ?_, ?_⟩
              · have e := blk_set (blk_set HK5.out 1 (.map (some b3))) 2 (.int .i64 0)
                simpa using e
              · refine MapIs.at (SetIs.congr HT.out (T := joinS q.2.f1 W) (fun x => by rw [HTM.out, mem_joinS])) ?_
                rw [Below.heap_setCell _ ⟨q.1.k, 2, none⟩ _ q.1.hb (Ne.symm hhk), Below.heap_setCell _ ⟨q.1.k, 1, none⟩ _ q.1.hb (Ne.symm hhk)]
                exact HB5.out.block _ HT.out.lt
              · refine MapIs.at (MapIs.congr HM3.out (fun kl => (setF_nil kl).symm)) ?_
                rw [Below.heap_setCell _ ⟨q.1.k, 2, none⟩ _ b3 (Ne.symm hbk), Below.heap_setCell _ ⟨q.1.k, 1, none⟩ _ b3 (Ne.symm hbk)]
            have hlk := lb_ne HL4.out HQ1.out
            have hlh := cells_ne_map HL4.out.l HSH4.out
            have hk1 : q1.1.k = q.1.k := by rw [hq1]
            rw [hk1] at hlk
            have hl5 : ((W5.setCell ⟨q.1.k, 1, none⟩ (.map (some b3))).setCell ⟨q.1.k, 2, none⟩ (.int .i64 0)).heap[lb]? = some (.cells #[.map (some mb), .int .i64 last] 38 (0, 0)) := by
              rw [Below.heap_setCell _ ⟨q.1.k, 2, none⟩ _ lb hlk, Below.heap_setCell _ ⟨q.1.k, 1, none⟩ _ lb hlk]
              have e1 := HCC.out.block lb (blk_lt HL4.out.l) hlh
              rw [HB5.out.block lb (Nat.lt_of_lt_of_le (blk_lt HL4.out.l) HCC.out.size), e1]
              exact HL4.out.l
            have hch : Chg (fun k => k = lb ∨ k = q.1.k ∨ k = q.1.hb ∨ k = q.1.wb) W3 ((W5.setCell ⟨q.1.k, 1, none⟩ (.map (some b3))).setCell ⟨q.1.k, 2, none⟩ (.int .i64 0)) := by
              refine Chg.trans (F := fun k => k = lb ∨ k = q.1.k ∨ k = q.1.hb ∨ k = q.1.wb) (HCC.out.mono (fun k _ e => .inr (.inr (.inl e)))) (Chg.trans (F := fun k => k = q.1.k) (Chg.ofBelow HB5.out) (Chg.trans (Chg.setCell _ _ _ _) (Chg.setCell _ _ _ _) (fun k _ e => e)) (fun k _ e => e)) (fun k _ e => .inr (.inl e))
            obtain ⟨r1, r2, r3, r4, r5⟩ := ask_end (N := B + 1 + ns.length) (q2 := (⟨q.1.k, q.1.hb, b3, n, 0⟩, ⟨id, joinS q.2.f1 W, [], 0⟩)) HL4.out HQ.out.1 hid1 hk1 (by rw [hq1]) (by rw [hq1]) (by exact HQ.out.2.symm) rfl rfl (.inr (Nat.le_trans HCC.out.size GB3.out)) HW6 hl5 hch HC2.out HFT.out (fun x hx => by have := HBU1.out x hx; omega) (by have h1 := HN.out; have h2 := HBQ.out; show n + 0 ≤ _; omega)
            exact ⟨mn1, _, by rw [HAS.out]; rfl, by rw [HAS.out]; exact r1, by rw [HAS.out, r2, HD.out.1], by have := HMN1.out; omega, r3, r4, r5⟩
          · have hne : K ≠ [] := fun e => hk (List.length_eq_zero_iff.1 (by rw [← hKL, e]; rfl))
            obtain ⟨kx, K2, hK2⟩ := List.exists_cons_of_ne_nil hne
            subst hK2
            have HAS := Aside0.mk (show askL (datQ Q) last id ns = (setL (withL (datQ Q) id) ⟨id, q.2.f1, W, t⟩, mxI last t, false) by have e := askL_no (datQ Q) last id ns (W := W) (t := t) (by rw [← HD.out.2]; exact HTE.out) (by rw [← HD.out.2]; exact HTT.out) hk; rw [← HD.out.2] at e; exact e)
            clear hk hne hKL
            by_cases hmx : last < t
            · have hmv : mxI last t = t := by unfold mxI; rw [if_pos hmx]
              have HMV := Aside0.mk hmv; clear hmv
              go_wp2_with (first | (go_at_call 33; (with_reducible refine (kept_calls lb mb mn1 last (replQ Q1 q1) q.1.k q.1.wb m W t _ HL2.out ⟨_, HKB.out⟩ HSQ.out HMN2.out).mono ?_); rintro e W2 ⟨v, rfl, hR, hb⟩; rw [← HK.out] at hR; obtain ⟨Av, cv, ev⟩ := Kd.R_slice hR; subst ev; have HB2 := Aside0.mk hb; clear hR hb c0 c1 c2 cL; have HL3 := Aside0.mk (HL2.out.below HB2.out); have HB3 := Aside0.mk (blk_below HKB.out HB2.out); have d2 := (blk_cell HB3.out 2).trans rfl; have e2 := blk_frozen HB3.out 2; have HB6 := Aside0.mk HL3.out.l; have d1 := (blk_cell HB6.out 1).trans rfl; have e1 := blk_frozen HB6.out 1; have hn1 : lb ≠ q.1.k := lb_ne HL1.out HQ.out.1; have hn2 := Ne.symm hn1))
              go_ret
              have hwq := HL3.out.wk q1 HQ1.out
              rw [hq1] at hwq
              have hh : lb ≠ q.1.hb := cells_ne_map HB6.out hwq.h
              have hw : lb ≠ q.1.wb := cells_ne_map HB6.out hwq.w
              have kh : q.1.k ≠ q.1.hb := cells_ne_map HB3.out hwq.h
              have kw : q.1.k ≠ q.1.wb := cells_ne_map HB3.out hwq.w
              have hk1 : q1.1.k = q.1.k := by rw [hq1]
              have HW6 : WorkAt ((W2.setCell ⟨q.1.k, 2, none⟩ (.int .i64 t)).setCell ⟨lb, 1, none⟩ (.int .i64 t)) ((⟨q.1.k, q.1.hb, q.1.wb, q.1.nh, m⟩, ⟨id, q.2.f1, W, t⟩) : PW) := by
                refine ⟨?_, ?_, ?_⟩
                · have e := blk_far (blk_set HB3.out 2 (.int .i64 t)) (p := ⟨lb, 1, none⟩) hn2 (.int .i64 t)
                  simpa using e
                · refine MapIs.at hwq.h ?_
                  rw [Below.heap_setCell _ ⟨lb, 1, none⟩ _ q.1.hb (Ne.symm hh), Below.heap_setCell _ ⟨q.1.k, 2, none⟩ _ q.1.hb (Ne.symm kh)]
                · refine MapIs.at hwq.w ?_
                  rw [Below.heap_setCell _ ⟨lb, 1, none⟩ _ q.1.wb (Ne.symm hw), Below.heap_setCell _ ⟨q.1.k, 2, none⟩ _ q.1.wb (Ne.symm kw)]
              have hl5 : ((W2.setCell ⟨q.1.k, 2, none⟩ (.int .i64 t)).setCell ⟨lb, 1, none⟩ (.int .i64 t)).heap[lb]? = some (.cells #[.map (some mb), .int .i64 t] 38 (0, 0)) := by
                have e := blk_set (blk_far HB6.out (p := ⟨q.1.k, 2, none⟩) hn1 (.int .i64 t)) 1 (.int .i64 t)
                simpa using e
              have hch : Chg (fun k => k = lb ∨ k = q.1.k ∨ k = q.1.hb ∨ k = q.1.wb) W2 ((W2.setCell ⟨q.1.k, 2, none⟩ (.int .i64 t)).setCell ⟨lb, 1, none⟩ (.int .i64 t)) := Chg.trans (F := fun k => k = lb ∨ k = q.1.k ∨ k = q.1.hb ∨ k = q.1.wb) ((Chg.setCell _ _ _ _).mono (fun k _ e => .inr (.inl e))) (Chg.setCell _ _ _ _) (fun k _ e => .inl e)
              have hcw2 := HCW.out.trans (Chg.ofBelow (F := fun _ => False) HB2.out) (fun _ _ h => h.elim)
              obtain ⟨r1, r2, r3, r4, r5⟩ := ask_end (N := B + 1 + ns.length) (q2 := (⟨q.1.k, q.1.hb, q.1.wb, q.1.nh, m⟩, ⟨id, q.2.f1, W, t⟩)) HL3.out HQ.out.1 hid1 hk1 (by rw [hq1]) (by rw [hq1]) (by exact HQ.out.2.symm) rfl rfl (.inl rfl) HW6 hl5 hch hcw2 HFT.out (fun x hx => by have := HBU1.out x hx; omega) (by have h2 := HBQ.out; show q.1.nh + m ≤ _; omega)
              exact ⟨mn1, _, by rw [HAS.out]; rfl, by rw [HAS.out]; show LockAt _ _ _ _ (mxI last t) _; rw [HMV.out]; exact r1, by rw [HAS.out, r2, HD.out.1], by have := HMN1.out; omega, r3, r4, r5⟩
            · have hmv : mxI last t = last := by unfold mxI; rw [if_neg hmx]
              have HMV := Aside0.mk hmv; clear hmv
              go_wp2_with (first | (go_at_call 33; (with_reducible refine (kept_calls lb mb mn1 last (replQ Q1 q1) q.1.k q.1.wb m W t _ HL2.out ⟨_, HKB.out⟩ HSQ.out HMN2.out).mono ?_); rintro e W2 ⟨v, rfl, hR, hb⟩; rw [← HK.out] at hR; obtain ⟨Av, cv, ev⟩ := Kd.R_slice hR; subst ev; have HB2 := Aside0.mk hb; clear hR hb c0 c1 c2 cL; have HL3 := Aside0.mk (HL2.out.below HB2.out); have HB3 := Aside0.mk (blk_below HKB.out HB2.out); have d2 := (blk_cell HB3.out 2).trans rfl; have e2 := blk_frozen HB3.out 2; have HB6 := Aside0.mk HL3.out.l; have d1 := (blk_cell HB6.out 1).trans rfl; have e1 := blk_frozen HB6.out 1; have hn1 : lb ≠ q.1.k := lb_ne HL1.out HQ.out.1; have hn2 := Ne.symm hn1))
              go_ret
              have hwq := HL3.out.wk q1 HQ1.out
              rw [hq1] at hwq
              have hh : lb ≠ q.1.hb := cells_ne_map HB6.out hwq.h
              have hw : lb ≠ q.1.wb := cells_ne_map HB6.out hwq.w
              have kh : q.1.k ≠ q.1.hb := cells_ne_map HB3.out hwq.h
              have kw : q.1.k ≠ q.1.wb := cells_ne_map HB3.out hwq.w
              have hk1 : q1.1.k = q.1.k := by rw [hq1]
              have HW6 : WorkAt ((W2.setCell ⟨q.1.k, 2, none⟩ (.int .i64 t)).setCell ⟨lb, 1, none⟩ (.int .i64 last)) ((⟨q.1.k, q.1.hb, q.1.wb, q.1.nh, m⟩, ⟨id, q.2.f1, W, t⟩) : PW) := by
                refine ⟨?_, ?_, ?_⟩
                · have e := blk_far (blk_set HB3.out 2 (.int .i64 t)) (p := ⟨lb, 1, none⟩) hn2 (.int .i64 last)
                  simpa using e
                · refine MapIs.at hwq.h ?_
                  rw [Below.heap_setCell _ ⟨lb, 1, none⟩ _ q.1.hb (Ne.symm hh), Below.heap_setCell _ ⟨q.1.k, 2, none⟩ _ q.1.hb (Ne.symm kh)]
                · refine MapIs.at hwq.w ?_
                  rw [Below.heap_setCell _ ⟨lb, 1, none⟩ _ q.1.wb (Ne.symm hw), Below.heap_setCell _ ⟨q.1.k, 2, none⟩ _ q.1.wb (Ne.symm kw)]
              have hl5 : ((W2.setCell ⟨q.1.k, 2, none⟩ (.int .i64 t)).setCell ⟨lb, 1, none⟩ (.int .i64 last)).heap[lb]? = some (.cells #[.map (some mb), .int .i64 last] 38 (0, 0)) := by
                have e := blk_set (blk_far HB6.out (p := ⟨q.1.k, 2, none⟩) hn1 (.int .i64 t)) 1 (.int .i64 last)
                simpa using e
              have hch : Chg (fun k => k = lb ∨ k = q.1.k ∨ k = q.1.hb ∨ k = q.1.wb) W2 ((W2.setCell ⟨q.1.k, 2, none⟩ (.int .i64 t)).setCell ⟨lb, 1, none⟩ (.int .i64 last)) := Chg.trans (F := fun k => k = lb ∨ k = q.1.k ∨ k = q.1.hb ∨ k = q.1.wb) ((Chg.setCell _ _ _ _).mono (fun k _ e => .inr (.inl e))) (Chg.setCell _ _ _ _) (fun k _ e => .inl e)
              have hcw2 := HCW.out.trans (Chg.ofBelow (F := fun _ => False) HB2.out) (fun _ _ h => h.elim)
              obtain ⟨r1, r2, r3, r4, r5⟩ := ask_end (N := B + 1 + ns.length) (q2 := (⟨q.1.k, q.1.hb, q.1.wb, q.1.nh, m⟩, ⟨id, q.2.f1, W, t⟩)) HL3.out HQ.out.1 hid1 hk1 (by rw [hq1]) (by rw [hq1]) (by exact HQ.out.2.symm) rfl rfl (.inl rfl) HW6 hl5 hch hcw2 HFT.out (fun x hx => by have := HBU1.out x hx; omega) (by have h2 := HBQ.out; show q.1.nh + m ≤ _; omega)
              exact ⟨mn1, _, by rw [HAS.out]; rfl, by rw [HAS.out]; show LockAt _ _ _ _ (mxI last t) _; rw [HMV.out]; exact r1, by rw [HAS.out, r2, HD.out.1], by have := HMN1.out; omega, r3, r4, r5⟩
end Go.Proofs.Ytimlfdfmgajbnaa.PA
