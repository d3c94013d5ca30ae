/-
The walk of the law WindowRows: it returns true, whatever comes in.
-/
import Derived.Test.YtdncelkgfdlfpaaRows1
import Derived.Test.YtdncelkgfdlfpaaMine
namespace Go.Proofs.Ytdncelkgfdlfpaa.PA
open Go.RowKit Go.Proofs.YtdncelkgfdlfpaaW.PrintWords Go.Proofs.YtdncelkgfdlfpaaW.PrintLast Go.Proofs.YtdncelkgfdlfpaaW.PrintMore
set_option linter.unusedVariables false
set_option linter.unusedSimpArgs false

theorem full_take {w : World} {A : Option Addr} {l m : List S23} {full : List S23} (h : Kd.C k23 w A full.length full) (e : full = l ++ m) : Kd.C k23 w A l.length l := by
  have := Kd.C_take (m := l.length) h (by rw [e]; simp)
  rw [show full.take l.length = l by rw [e]; simp] at this
  exact this
set_option maxHeartbeats 8000000 in
set_option maxRecDepth 100000 in
theorem WindowRows_goes (A0 : Option Addr) (l : List S23) (c0 : Nat) (w : World) (hr0 : Kd.C k23 w A0 l.length l) (hc0 : l.length ≤ c0) (hg0 : l.length * 16 ≤ 140737488351232 ∧ ∀ x ∈ l, (Lit.int .i64 x.f0).wf = true ∧ (Lit.int .i64 x.f1).wf = true) :
    Calls Try.prog 5 #[.slice A0 l.length c0] w fun e W' => e = .returned (.bool true) ∧ Below w.heap.size w W' := by
  have hu23 := Try.underlying23
  have HB := Aside0.mk (Below.refl w.heap.size w)
  have HR0 := Aside0.mk hr0
  have HC0 := Aside0.mk hc0
  have hlen := hg0.1
  clear hr0 hc0 hg0
  by_cases hl : 300 < l.length
  · have h1 : decide (300 < l.length) = true := decide_eq_true hl
    have h2 : decide ((300 : Int) < (l.length : Int)) = true := decide_eq_true (by omega)
    clear hl hlen
    go_enter Try.func5, Try.ntmps5
    go_wp2_with (first | ((with_reducible refine gate_callee (f := 7) rfl ?_); refine goesL_ (some 4) rfl rfl Try.func7 (by kernel_rfl) rfl #[] rfl (by (try simp only [List.map_toArray, List.map_cons, List.map_nil]); first | done | rfl) ?_; (with_reducible refine (storemanlaw01_awake.calls true _ awake_f rfl).mono ?_); rintro e W1 ⟨rfl, hb⟩; refine ⟨_, rfl, ?_⟩; have HBn := Aside0.mk (below_step HB.out hb); clear HB; have HB := HBn; clear HBn; have nn_ := Aside0.mk (Kd.C_below HR0.out hb); clear HR0; have HR0 := nn_; clear nn_; clear hb))
    go_ret
    exact ⟨rfl, HB.out⟩
  · have h1 : decide (300 < l.length) = false := decide_eq_false hl
    have h2 : decide ((300 : Int) < (l.length : Int)) = false := decide_eq_false (by omega)
    have hl2 : l.length ≤ 300 := by omega
    obtain ⟨full, hfe⟩ : ∃ f, f = l ++ marks23 := ⟨_, rfl⟩
    obtain ⟨k0, q0⟩ := lent_ev l (by omega)
    obtain ⟨k1, q1⟩ := refRows_ev l (by omega)
    obtain ⟨k2, q2⟩ := same_ev (rows23 l) (by have := rows_len l; omega)
    obtain ⟨k3, q3⟩ := count_ev' l (by omega)
    obtain ⟨k4, q4⟩ := refCount_ev l (by omega)
    obtain ⟨k5, q5⟩ := kept_ev l (by omega)
    rw [← hfe] at q0 q5
    obtain ⟨kk, hkk⟩ : ∃ k, k = k0 + k1 + k2 + k3 + k4 + k5 := ⟨_, rfl⟩
    have HL := Aside0.mk (q0 kk (by omega))
    have HRR := Aside0.mk (q1 kk (by omega))
    have HSM := Aside0.mk (q2 kk (by omega))
    have HCN := Aside0.mk (q3 kk (by omega))
    have HCR := Aside0.mk (q4 kk (by omega))
    have HKP := Aside0.mk (q5 kk (by omega))
    have HRW := Aside0.mk (rows_f l (by omega))
    have HFL := Aside0.mk (show l.length ≤ full.length by rw [hfe]; simp)
    have HFE := Aside0.mk hfe
    clear q0 q1 q2 q3 q4 q5 hkk hfe hl hl2 hlen
    go_enter Try.func5, Try.ntmps5
    go_wp2_with (first | ((with_reducible refine gate_callee (f := 7) rfl ?_); refine goesL_ (some 4) rfl rfl Try.func7 (by kernel_rfl) rfl #[] rfl (by (try simp only [List.map_toArray, List.map_cons, List.map_nil]); first | done | rfl) ?_; (with_reducible refine (storemanlaw01_awake.calls true _ awake_f rfl).mono ?_); rintro e W1 ⟨rfl, hb⟩; refine ⟨_, rfl, ?_⟩; have HBn := Aside0.mk (below_step HB.out hb); clear HB; have HB := HBn; clear HBn; have nn_ := Aside0.mk (Kd.C_below HR0.out hb); clear HR0; have HR0 := nn_; clear nn_; clear hb) | ((with_reducible refine gate_callee (f := 16) rfl ?_); refine goesL_ (some 10) rfl rfl Try.func16 (by kernel_rfl) rfl #[.slice A0 l.length c0] rfl (by (try simp only [List.map_toArray, List.map_cons, List.map_nil]); first | done | rfl) ?_; (with_reducible refine (storemankit_LentWindows.calls kk A0 c0 l full _ HR0.out HC0.out HL.out).mono ?_); rintro e W2 ⟨v, rfl, hF, hb⟩; obtain ⟨Av, cv, ev⟩ := Kd.R_slice hF; subst ev; refine ⟨.slice Av l.length cv, rfl, ?_⟩; have HBn := Aside0.mk (below_step HB.out hb); clear HB; have HB := HBn; clear HBn; have nn_ := Aside0.mk (Kd.C_below HR0.out hb); clear HR0; have HR0 := nn_; clear nn_; have HF := Aside0.mk hF; have HFC := Aside0.mk (Kd.R_reads' HF.out).2.1; have HIC := Aside0.mk (show l.length ≤ cv from Nat.le_trans HFL.out HFC.out); clear hb hF) | ((with_reducible refine gate_callee (f := 18) rfl ?_); refine goesL_ (some 12) rfl rfl Try.func18 (by kernel_rfl) rfl #[.slice Av l.length cv] rfl (by (try simp only [List.map_toArray, List.map_cons, List.map_nil]); first | done | rfl) ?_; (with_reducible refine (window_Rows.calls Av cv l (rows23 l) _ (full_take (Kd.R_reads' HF.out).2.2 HFE.out) HIC.out HRW.out).mono ?_); rintro e W3 ⟨v1, rfl, hR1, hb⟩; obtain ⟨A1, c1, ev⟩ := Kd.R_slice hR1; subst ev; refine ⟨_, rfl, ?_⟩; have HBn := Aside0.mk (below_step HB.out hb); clear HB; have HB := HBn; clear HBn; have nn_ := Aside0.mk (Kd.C_below HR0.out hb); clear HR0; have HR0 := nn_; clear nn_; have nn_ := Aside0.mk (Kd.R_below HF.out hb); clear HF; have HF := nn_; clear nn_; have HR1 := Aside0.mk (hR1); clear hb) | ((with_reducible refine gate_callee (f := 19) rfl ?_); refine goesL_ (some 14) rfl rfl Try.func19 (by kernel_rfl) rfl #[.slice A0 l.length c0] rfl (by (try simp only [List.map_toArray, List.map_cons, List.map_nil]); first | done | rfl) ?_; (with_reducible refine (storemanref01_Rows.calls kk A0 c0 l (rows23 l) _ HR0.out HC0.out HRR.out).mono ?_); rintro e W4 ⟨v2, rfl, hR2, hb⟩; obtain ⟨A2, c2, ev⟩ := Kd.R_slice hR2; subst ev; refine ⟨_, rfl, ?_⟩; have HBn := Aside0.mk (below_step HB.out hb); clear HB; have HB := HBn; clear HBn; have nn_ := Aside0.mk (Kd.C_below HR0.out hb); clear HR0; have HR0 := nn_; clear nn_; have nn_ := Aside0.mk (Kd.R_below HF.out hb); clear HF; have HF := nn_; clear nn_; have nn_ := Aside0.mk (Kd.R_below HR1.out hb); clear HR1; have HR1 := nn_; clear nn_; have HR2 := Aside0.mk (hR2); clear hb) | ((with_reducible refine gate_callee (f := 17) rfl ?_); refine goesL_ (some 15) rfl rfl Try.func17 (by kernel_rfl) rfl #[.slice A1 (rows23 l).length c1, .slice A2 (rows23 l).length c2] rfl (by (try simp only [List.map_toArray, List.map_cons, List.map_nil]); first | done | rfl) ?_; (with_reducible refine (storemankit_SameWindows.calls kk A1 c1 (rows23 l) A2 c2 (rows23 l) true _ (Kd.R_reads' HR1.out).2.2 (Kd.R_reads' HR1.out).2.1 (Kd.R_reads' HR2.out).2.2 (Kd.R_reads' HR2.out).2.1 HSM.out).mono ?_); rintro e W5 ⟨rfl, hd⟩; have hb := hd.below; clear hd; refine ⟨_, rfl, ?_⟩; have HBn := Aside0.mk (below_step HB.out hb); clear HB; have HB := HBn; clear HBn; have nn_ := Aside0.mk (Kd.C_below HR0.out hb); clear HR0; have HR0 := nn_; clear nn_; have nn_ := Aside0.mk (Kd.R_below HF.out hb); clear HF; have HF := nn_; clear nn_; have nn_ := Aside0.mk (Kd.R_below HR1.out hb); clear HR1; have HR1 := nn_; clear nn_; have nn_ := Aside0.mk (Kd.R_below HR2.out hb); clear HR2; have HR2 := nn_; clear nn_; clear hb) | (go_at_call 20; (with_reducible refine (window_Count.calls kk Av cv l (lens (rows23 l)) _ (full_take (Kd.R_reads' HF.out).2.2 HFE.out) HIC.out HCN.out).mono ?_); rintro e W6 ⟨rfl, hb⟩; have HBn := Aside0.mk (below_step HB.out hb); clear HB; have HB := HBn; clear HBn; have nn_ := Aside0.mk (Kd.C_below HR0.out hb); clear HR0; have HR0 := nn_; clear nn_; have nn_ := Aside0.mk (Kd.R_below HF.out hb); clear HF; have HF := nn_; clear nn_; have nn_ := Aside0.mk (Kd.R_below HR1.out hb); clear HR1; have HR1 := nn_; clear nn_; have nn_ := Aside0.mk (Kd.R_below HR2.out hb); clear HR2; have HR2 := nn_; clear nn_; clear hb) | (go_at_call 21; (with_reducible refine (storemanref01_Count.calls kk A0 c0 l (lens (rows23 l)) _ HR0.out HC0.out HCR.out).mono ?_); rintro e W7 ⟨rfl, hb⟩; have HBn := Aside0.mk (below_step HB.out hb); clear HB; have HB := HBn; clear HBn; have nn_ := Aside0.mk (Kd.C_below HR0.out hb); clear HR0; have HR0 := nn_; clear nn_; have nn_ := Aside0.mk (Kd.R_below HF.out hb); clear HF; have HF := nn_; clear nn_; have nn_ := Aside0.mk (Kd.R_below HR1.out hb); clear HR1; have HR1 := nn_; clear nn_; have nn_ := Aside0.mk (Kd.R_below HR2.out hb); clear HR2; have HR2 := nn_; clear nn_; clear hb) | (go_at_call 22; (with_reducible refine (storemankit_KeptWindows.calls kk Av cv l full A0 c0 l true _ (Kd.R_reads' HF.out).2.2 HFC.out (full_take (Kd.R_reads' HF.out).2.2 HFE.out) HIC.out HR0.out HC0.out HKP.out).mono ?_); rintro e W8 ⟨rfl, hb⟩; have HBn := Aside0.mk (below_step HB.out hb); clear HB; have HB := HBn; clear HBn; have nn_ := Aside0.mk (Kd.C_below HR0.out hb); clear HR0; have HR0 := nn_; clear nn_; have nn_ := Aside0.mk (Kd.R_below HF.out hb); clear HF; have HF := nn_; clear nn_; have nn_ := Aside0.mk (Kd.R_below HR1.out hb); clear HR1; have HR1 := nn_; clear nn_; have nn_ := Aside0.mk (Kd.R_below HR2.out hb); clear HR2; have HR2 := nn_; clear nn_; clear hb))
    go_ret
    exact ⟨rfl, HB.out⟩
end Go.Proofs.Ytdncelkgfdlfpaa.PA
