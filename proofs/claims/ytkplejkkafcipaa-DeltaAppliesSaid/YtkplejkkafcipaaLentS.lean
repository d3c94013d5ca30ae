/-
LentRows, LentTurns: what is handed out reads as what came in, each field lent, marks behind it.
-/
import Derived.Test.YtkplejkkafcipaaHKept
namespace Go.Proofs.Ytkplejkkafcipaa.PA
open Go.RowKit Go.Proofs.YtkplejkkafcipaaW.PrintWords Go.Proofs.YtkplejkkafcipaaW.PrintLast Go.Proofs.YtkplejkkafcipaaW.PrintMore
set_option linter.unusedVariables false
set_option linter.unusedSimpArgs false
theorem take_map_succ {α β : Type} (f : α → β) (l : List α) (i : Nat) (h : i < l.length) : (l.take (i + 1)).map f = (l.take i).map f ++ [f l[i]] := by
  rw [List.take_succ_eq_append_getElem h, List.map_append]; rfl
def mk37 (j : Nat) : S37 := ⟨[mkB j], ([] : List Int)⟩
def marks37 : List S37 := (List.range 12).map mk37
theorem marks37_len : marks37.length = 12 := rfl
/-- A row that is lent, or a mark. -/
def kX37 : Kd (S37 × Bool) := ro (Kd.iso k37 Prod.fst) (fun w p cs => p.2 = true → ∃ (B0 : Option Addr) (d0 : Nat) (B1 : Option Addr) (d1 : Nat), cs = [.slice B0 p.1.f0.length d0, .slice B1 p.1.f1.length d1] ∧ LentB w B0 d0 p.1.f0 ∧ LentB w B1 d1 p.1.f1) (by
  intro w w1 p cs hb h h2
  obtain ⟨B0, d0, B1, d1, rfl, h0, h1⟩ := h h2
  exact ⟨B0, d0, B1, d1, rfl, h0.below hb, h1.below hb⟩)
theorem mkX37 {W : World} {okp : Nat → Prop} (x : S37) {B0 : Option Addr} {d0 : Nat} {B1 : Option Addr} {d1 : Nat} (f0 : Kd.F (Kd.int .u8) W okp B0 (x.f0 ++ marksB).length (x.f0 ++ marksB)) (e0 : (x.f0 ++ marksB).length ≤ d0) (f1 : Kd.F (Kd.int .u8) W okp B1 (x.f1 ++ marksB).length (x.f1 ++ marksB)) (e1 : (x.f1 ++ marksB).length ≤ d1) : Kd.FK kX37 W okp (x, true) [.slice B0 x.f0.length d0, .slice B1 x.f1.length d1] := fun W' hW => by
  have g0 : LentB W' B0 d0 x.f0 := ⟨f0 W' hW, e0⟩
  have g1 : LentB W' B1 d1 x.f1 := ⟨f1 W' hW, e1⟩
  exact ⟨k37_mk W' x g0.le g0.C g1.le g1.C, fun _ => ⟨_, _, _, _, rfl, g0, g1⟩⟩
theorem mkY37 {W : World} {okp : Nat → Prop} (x : S37) {cs : List Value} (h : Kd.FK k37 W okp x cs) : Kd.FK kX37 W okp (x, false) cs := fun W' hW => ⟨h W' hW, fun h => by cases h⟩
theorem readX37 {W : World} {A : Option Addr} {n : Nat} {l : List S37} (h : Kd.C kX37 W A n ((l.map fun x => (x, true)) ++ (marks37.map fun x => (x, false)))) : Kd.C k37 W A n (l ++ marks37) := by
  have := C_map (d := kX37) (d' := k37) Prod.fst rfl (fun x cs hk => hk.1) h
  simpa [List.map_append, List.map_map, Function.comp_def] using this
theorem lentX37 {W : World} {A : Option Addr} {n : Nat} {l : List S37} (h : Kd.C kX37 W A n ((l.map fun x => (x, true)) ++ (marks37.map fun x => (x, false)))) (hn : l.length ≤ n) : LentAt37 W A (l ++ marks37) l.length := by
  intro i ad A0 c0 A1 c1 e h0 h1 x0 x1
  obtain ⟨ad', c, e', _, hK, hc⟩ := Kd.C_get h (z37, false) i h0 (by omega)
  cases e.symm.trans e'
  have hi : i.toNat < l.length := by omega
  have e1 : ((l.map fun x => (x, true)) ++ (marks37.map fun x => (x, false))).getD i.toNat (z37, false) = (l[i.toNat], true) := by
    rw [List.getD_eq_getElem?_getD, List.getElem?_append_left (by simpa using hi)]
    simp [hi]
  have e2 : rd_T37 (l ++ marks37) i = l[i.toNat] := by
    simp only [rd_T37, List.getD_eq_getElem?_getD, List.getElem?_append_left hi]
    simp [hi]
  rw [e1] at hK
  rw [e2] at x0 x1 ⊢
  obtain ⟨B0, d0, B1, d1, rfl, g0, g1⟩ := hK.2 rfl
  have y0 := hc 0 _ rfl
  have q0 := Option.some.inj ((y0).symm.trans x0)
  injection q0 with qa0 qn0 qc0
  rw [qa0, qc0] at g0
  have y1 := hc 1 _ rfl
  have q1 := Option.some.inj (((by rw [← add_field _ _ 1 (by omega)]; exact y1 : W.cell? ⟨(ad.add (i.toNat * 2)).block, (ad.add (i.toNat * 2)).off + 1, none⟩ = _)).symm.trans x1)
  injection q1 with qa1 qn1 qc1
  rw [qa1, qc1] at g1
  exact ⟨g0, g1⟩
set_option maxHeartbeats 4000000 in
set_option maxRecDepth 100000 in
theorem storemankit_LentRows.calls (A0 : Option Addr) (c0 : Nat) (l : List S37) (w : World) (hr0 : Kd.C k37 w A0 l.length l) (hc0 : l.length ≤ c0) (hn : l.length ≤ 1000) (hl : ∀ x ∈ l, x.f0.length ≤ 140737488351232 ∧ x.f1.length ≤ 140737488351232) :
    Calls Try.prog 7 #[.slice A0 l.length c0] w fun e w' => ∃ A c, e = .returned (.slice A l.length c) ∧ Kd.C k37 w' A (l ++ marks37).length (l ++ marks37) ∧ (l ++ marks37).length ≤ c ∧ LentAt37 w' A (l ++ marks37) l.length ∧ Below w.heap.size w w' := by
  have hu37 := Try.underlying37
  have HR0 := Aside0.mk hr0
  have HC0 := Aside0.mk hc0
  have HL := Aside0.mk hl
  have HB := Aside0.mk (Below.refl w.heap.size w)
  clear hr0 hc0 hl
  obtain ⟨i0, hi0, _, hsz, _⟩ := info_parts info37
  go_enter Try.func7, Try.ntmps7
  go_wp2_with (first | ((with_reducible refine gate_dst (N := 10) rfl ?_); refine Mine.R_make0 kX37 _ 37 rfl (N := 10) rfl 22 _ _ rfl ((l.length : Int) + 12) rfl rfl Try.underlying22 (.agg #[.slice none 0 0, .slice none 0 0]) 48 info37 (by omega) (ok := (fun k => w.heap.size ≤ k)) ?okf ?h0 ?hl HB.out (below_size HB.out) ?_; (case okf => exact below_size HB.out); (case h0 => omega); (case hl => omega); intro v10 W1 ho hb hg hat; have HN := Aside0.mk (Kd.R_N ho); clear HB; have HB := Aside0.mk hb; clear ho hb hg hat))
  go_loopw [3, 4] (fun v3 v4 wr => ∃ i : Nat, i ≤ l.length ∧ v4 = .int .i64 i ∧ Aside0 (Kd.N kX37 37 wr w.heap.size (fun k => w.heap.size ≤ k) v3 ((l.take i).map fun x => (x, true))) ∧ Aside0 (Below w.heap.size w wr)) (fun _ v4 _ => l.length - (intOf v4).toNat)
  case atStart => exact ⟨0, Nat.zero_le _, rfl, ⟨HN.out⟩, ⟨HB.out⟩⟩
  case round =>
    obtain ⟨i, hi, rfl, HN, HB⟩ := hrel
    by_cases hlt : i < l.length
    · have hd : decide ((i : Int) < (l.length : Int)) = true := decide_eq_true (by omega)
      have hd0 : decide (0 ≤ (i : Int)) = true := decide_eq_true (by omega)
      obtain ⟨ad, A0_, c0_, A1_, c1_, e0, hx0, hx1, hl0, hi0, hl1, hi1⟩ := at_T37 HR0.out (i : Int) (by omega) (by omega)
      cases e0
      simp only [Int.toNat_natCast] at hx0 hx1
      replace hx0 := (HB.out.cell (World.block_lt_of_cell? w _ hx0)).trans hx0
      replace hx1 := (HB.out.cell (World.block_lt_of_cell? w _ hx1)).trans hx1
      obtain ⟨x, hx⟩ : ∃ x, x = rd_T37 l i := ⟨_, rfl⟩
      have hxl : l[i] = x := by rw [hx]; simp [rd_T37, hlt]
      rw [← hx] at hx0 hl0 hi0 hx1 hl1 hi1
      have hxm := HL.out x (by rw [← hxl]; exact List.getElem_mem _)
      have HI0 := Aside0.mk hi0
      have HLE0 := Aside0.mk hl0
      have HM0 := Aside0.mk (hxm.1)
      have HI1 := Aside0.mk hi1
      have HLE1 := Aside0.mk hl1
      have HM1 := Aside0.mk (hxm.2)
      clear hx hxm hl0 hi0 hl1 hi1
      have HXL := Aside0.mk hxl
      clear hxl
      have HW := Aside0.mk (Kd.N_lt HN.out)
      have HLEN := Aside0.mk (show ((l.take i).map fun x => (x, true)).length = i by simp; omega)
      go_wp2_with (first | ((with_reducible refine gate_callee (f := 21) rfl ?_); refine goesL_ (some 21) rfl rfl Try.func21 (by kernel_rfl) rfl #[.agg #[.slice A0_ x.f0.length c0_, .slice A1_ x.f1.length c1_]] rfl (by (try simp only [List.map_toArray, List.map_cons, List.map_nil]); first | done | rfl) ?_; (with_reducible refine (storemankit_LentRow.calls A0_ c0_ x.f0 A1_ c1_ x.f1 _ (Kd.C_below HI0.out HB.out) HLE0.out HM0.out (Kd.C_below HI1.out HB.out) HLE1.out HM1.out).mono ?_); rintro e W2 ⟨B0, d0, B1, d1, rfl, f0, g0, f1, g1, hb⟩; refine ⟨_, rfl, ?_⟩; obtain ⟨n1, hn1⟩ : ∃ n, n = wr.heap.size := ⟨_, rfl⟩; have LN := Aside0.mk (by rw [hn1]; exact below_size HB.out : w.heap.size ≤ n1); rw [← hn1] at HW; have HF0 := Aside0.mk (show Kd.F (Kd.int .u8) W2 (fun k => n1 ≤ k) B0 (x.f0 ++ marksB).length (x.f0 ++ marksB) by rw [hn1]; exact f0); have HG0 := Aside0.mk g0; clear f0 g0; have HF1 := Aside0.mk (show Kd.F (Kd.int .u8) W2 (fun k => n1 ≤ k) B1 (x.f1 ++ marksB).length (x.f1 ++ marksB) by rw [hn1]; exact f1); have HG1 := Aside0.mk g1; clear f1 g1; have HNn := Aside0.mk (Kd.N_below HN.out hb); clear HN; have HN := HNn; clear HNn; have HBn := Aside0.mk (below_step HB.out hb); clear HB; have HB := HBn; clear HBn; clear hb hn1) | ((with_reducible refine gate_dst (N := 5) rfl ?_); refine Mine.alloc_store ?hg (N := 5) ?hd (zs := [.slice none 0 0, .slice none 0 0]) [.slice B0 x.f0.length d0, .slice B1 x.f1.length d1] (t := 37) ?hr ?hg2 ?hn2 rfl ?hr2 ?_; (case hd => rfl); (case hg => rfl); (case hg2 => rfl); (case hn2 => rfl); (case hr => first | (go_simp; done) | (go_simp; rfl)); (case hr2 => simp only [Mine.putAll]; first | (go_simp; done) | (go_simp; rfl)); intro g5 hg W3 hbox hb; have HFn := Aside0.mk (Kd.F_below HF0.out hb); clear HF0; have HF0 := HFn; clear HFn; have HFn := Aside0.mk (Kd.F_below HF1.out hb); clear HF1; have HF1 := HFn; clear HFn; have HNn := Aside0.mk (Kd.N_below HN.out hb); clear HN; have HN := HNn; clear HNn; have HBn := Aside0.mk (below_step HB.out hb); clear HB; have HB := HBn; clear HBn; have BK5 := Aside0.mk hbox; clear hg hbox hb; have c5_0 : W3.cell? ⟨g5, 0, none⟩ = some (.slice B0 x.f0.length d0) := (blk_cell BK5.out 0).trans rfl; have c5_1 : W3.cell? ⟨g5, 1, none⟩ = some (.slice B1 x.f1.length d1) := (blk_cell BK5.out 1).trans rfl) | ((with_reducible refine gate_builtin (b := .append) (xs := #[.tmp 22, .tmp 24]) rfl ?_); at_builtin; refine Kd.N_append kX37 (w0 := w) w.heap.size rfl (.tmp 22) (.tmp 24) 22 37 (.agg #[.slice none 0 0, .slice none 0 0]) 48 rfl Try.underlying22 info37 rfl (by decide) (by omega) u3 ((l.take i).map fun x => (x, true)) ((x, true)) [.slice B0 x.f0.length d0, .slice B1 x.f1.length d1] (fun k => w.heap.size ≤ k) (fun k => w.heap.size ≤ k ∧ some k ≠ (u3 : Value).ownBlock) rfl rfl ?aP (fun _ hk => hk) ?aF ?aO ?aB ?aS ?aL ?_; (case aP => exact mkX37 x (Kd.F_mono HF0.out (fun k hk => ⟨Nat.le_trans LN.out hk, fun he => absurd (HW.out k he.symm) (Nat.not_lt.2 hk)⟩)) HG0.out (Kd.F_mono HF1.out (fun k hk => ⟨Nat.le_trans LN.out hk, fun he => absurd (HW.out k he.symm) (Nat.not_lt.2 hk)⟩)) HG1.out); (case aB => exact HB.out); (case aF => exact fun k hk => Nat.le_trans (below_size HB.out) hk); (case aO => exact HN.out); (case aS => exact below_size HB.out); (case aL => rw [HLEN.out]; omega); intro v1 W4 ho hb hg hat; clear HN; have HN := Aside0.mk ho; clear HB; have HB := Aside0.mk hb; clear ho hb hg hat))
      first | exact ⟨⟨i + 1, by omega, by first | rfl | (rw [wrapI (by omega) (by omega)]; rfl), ⟨by rw [take_map_succ _ _ _ hlt, HXL.out]; exact HN.out⟩, ⟨HB.out⟩⟩, by simp [intOf, wrapI]; omega⟩ | trace_state
    · have hie : i = l.length := by omega
      subst hie
      rw [List.take_length] at HN
      have hd : decide ((l.length : Int) < (l.length : Int)) = false := decide_eq_false (by omega)
      go_wp2
      go_loopw [3, 6] (fun v3 v6 wr => ∃ j : Nat, j ≤ 12 ∧ v6 = .int .i64 j ∧ Aside0 (Kd.N kX37 37 wr w.heap.size (fun k => w.heap.size ≤ k) v3 ((l.map fun x => (x, true)) ++ (marks37.take j).map fun x => (x, false))) ∧ Aside0 (Below w.heap.size w wr)) (fun _ v6 _ => 12 - (intOf v6).toNat)
      case atStart => exact ⟨0, by omega, rfl, ⟨by simpa using HN.out⟩, ⟨HB.out⟩⟩
      case round =>
        obtain ⟨j, hj, rfl, HN, HB⟩ := hrel
        by_cases hjt : j < 12
        · have hd2 : decide ((j : Int) < 12) = true := decide_eq_true (by omega)
          have HW := Aside0.mk (Kd.N_lt HN.out)
          have HLEN := Aside0.mk (show ((l.map fun x => (x, true)) ++ (marks37.take j).map fun x => (x, false)).length = l.length + j by simp [marks37_len]; omega)
          go_wp2_with (first | ((with_reducible refine gate_callee (f := 22) rfl ?_); refine goesL_ (some 32) rfl rfl Try.func22 (by kernel_rfl) rfl #[.int .i64 1, .int .i64 j] rfl (by (try simp only [List.map_toArray, List.map_cons, List.map_nil]); first | done | rfl) ?_; (with_reducible refine (storemankit_markRow.calls 1 (j : Int) [mkB j] ([] : List Int) _ rfl).mono ?_); rintro e W2 ⟨u0, u1, rfl, r0, r1, hb⟩; obtain ⟨B0, d0, eu0⟩ := Kd.R_slice r0; subst eu0; obtain ⟨B1, d1, eu1⟩ := Kd.R_slice r1; subst eu1; refine ⟨_, rfl, ?_⟩; obtain ⟨n1, hn1⟩ : ∃ n, n = wr.heap.size := ⟨_, rfl⟩; have LN := Aside0.mk (by rw [hn1]; exact below_size HB.out : w.heap.size ≤ n1); rw [← hn1] at HW; have HG0 := Aside0.mk (Kd.R_reads' r0).2.1; have HF0 := Aside0.mk (show Kd.F (Kd.int .u8) W2 (fun k => n1 ≤ k) B0 (mk37 j).f0.length (mk37 j).f0 by rw [hn1]; exact Kd.R_F (Kd.R_mono (Kd.R_bound r0) (fun k hk => hk.2.1))); clear r0; have HG1 := Aside0.mk (Kd.R_reads' r1).2.1; have HF1 := Aside0.mk (show Kd.F (Kd.int .u8) W2 (fun k => n1 ≤ k) B1 (mk37 j).f1.length (mk37 j).f1 by rw [hn1]; exact Kd.R_F (Kd.R_mono (Kd.R_bound r1) (fun k hk => hk.2.1))); clear r1; have HNn := Aside0.mk (Kd.N_below HN.out hb); clear HN; have HN := HNn; clear HNn; have HBn := Aside0.mk (below_step HB.out hb); clear HB; have HB := HBn; clear HBn; clear hb hn1) | ((with_reducible refine gate_builtin (b := .append) (xs := #[.tmp 30, .tmp 33]) rfl ?_); at_builtin; refine Kd.N_append kX37 (w0 := w) w.heap.size rfl (.tmp 30) (.tmp 33) 22 37 (.agg #[.slice none 0 0, .slice none 0 0]) 48 rfl Try.underlying22 info37 rfl (by decide) (by omega) u3 ((l.map fun x => (x, true)) ++ (marks37.take j).map fun x => (x, false)) ((mk37 j, false)) [.slice B0 (mk37 j).f0.length d0, .slice B1 (mk37 j).f1.length d1] (fun k => w.heap.size ≤ k) (fun k => w.heap.size ≤ k ∧ some k ≠ (u3 : Value).ownBlock) rfl rfl ?aP (fun _ hk => hk) ?aF ?aO ?aB ?aS ?aL ?_; (case aP => exact mkY37 (mk37 j) (k37_mkF _ _ (mk37 j) HG0.out (Kd.F_mono HF0.out (fun k hk => ⟨Nat.le_trans LN.out hk, fun he => absurd (HW.out k he.symm) (Nat.not_lt.2 hk)⟩)) HG1.out (Kd.F_mono HF1.out (fun k hk => ⟨Nat.le_trans LN.out hk, fun he => absurd (HW.out k he.symm) (Nat.not_lt.2 hk)⟩)))); (case aB => exact HB.out); (case aF => exact fun k hk => Nat.le_trans (below_size HB.out) hk); (case aO => exact HN.out); (case aS => exact below_size HB.out); (case aL => rw [HLEN.out]; omega); intro v1 W4 ho hb hg hat; clear HN; have HN := Aside0.mk ho; clear HB; have HB := Aside0.mk hb; clear ho hb hg hat))
          first | exact ⟨⟨j + 1, by omega, by first | rfl | (rw [wrapI (by omega) (by omega)]; rfl), ⟨by rw [take_map_succ _ _ _ (by rw [marks37_len]; exact hjt), ← List.append_assoc, show marks37[j]'(by rw [marks37_len]; exact hjt) = mk37 j by simp [marks37]]; exact HN.out⟩, ⟨HB.out⟩⟩, by simp [intOf, wrapI]; omega⟩ | trace_state
        · have hje : j = 12 := by omega
          subst hje
          rw [show marks37.take 12 = marks37 from rfl] at HN
          have hd2 : decide ((12 : Int) < 12) = false := rfl
          have hlen : ((l.map fun x => (x, true)) ++ (marks37.map fun x => (x, false))).length = l.length + 12 := by simp [marks37_len]
          obtain ⟨Av, cv, ev⟩ := Kd.N_slice HN.out
          rw [hlen] at ev
          subst ev
          have hrd := Kd.N_reads' HN.out
          have HCv := Aside0.mk hrd.2.1
          have hC := hrd.2.2
          rw [hlen] at hC
          have HC2 := Aside0.mk hC
          clear hC hrd
          have hcut := Mine.cut_cap (P := Try.prog) 22 37 .i64 Try.underlying22 hi0 Av (l.length + 12) cv (l.length : Int) (by omega) (by have := HCv.out; omega)
          rw [Int.toNat_natCast] at hcut
          go_wp2
          go_ret
          refine ⟨Av, cv, rfl, ?_, ?_, ?_, HB.out⟩
          · first | exact readX37 HC2.out | (rw [show (l ++ marks37).length = l.length + 12 by simp [marks37_len]]; exact readX37 HC2.out)
          · first | exact HCv.out | (rw [show (l ++ marks37).length = l.length + 12 by simp [marks37_len]]; exact HCv.out)
          · exact lentX37 HC2.out (by omega)
def mk43 (j : Nat) : S43 := ⟨[mkB j], ([] : List Int), ([] : List Int)⟩
def marks43 : List S43 := (List.range 12).map mk43
theorem marks43_len : marks43.length = 12 := rfl
/-- A turn that is lent, or a mark. -/
def kX43 : Kd (S43 × Bool) := ro (Kd.iso k43 Prod.fst) (fun w p cs => p.2 = true → ∃ (B0 : Option Addr) (d0 : Nat) (B1 : Option Addr) (d1 : Nat) (B2 : Option Addr) (d2 : Nat), cs = [.slice B0 p.1.f0.length d0, .slice B1 p.1.f1.length d1, .slice B2 p.1.f2.length d2] ∧ LentB w B0 d0 p.1.f0 ∧ LentB w B1 d1 p.1.f1 ∧ LentB w B2 d2 p.1.f2) (by
  intro w w1 p cs hb h h2
  obtain ⟨B0, d0, B1, d1, B2, d2, rfl, h0, h1, h2⟩ := h h2
  exact ⟨B0, d0, B1, d1, B2, d2, rfl, h0.below hb, h1.below hb, h2.below hb⟩)
theorem mkX43 {W : World} {okp : Nat → Prop} (x : S43) {B0 : Option Addr} {d0 : Nat} {B1 : Option Addr} {d1 : Nat} {B2 : Option Addr} {d2 : Nat} (f0 : Kd.F (Kd.int .u8) W okp B0 (x.f0 ++ marksB).length (x.f0 ++ marksB)) (e0 : (x.f0 ++ marksB).length ≤ d0) (f1 : Kd.F (Kd.int .u8) W okp B1 (x.f1 ++ marksB).length (x.f1 ++ marksB)) (e1 : (x.f1 ++ marksB).length ≤ d1) (f2 : Kd.F (Kd.int .u8) W okp B2 (x.f2 ++ marksB).length (x.f2 ++ marksB)) (e2 : (x.f2 ++ marksB).length ≤ d2) : Kd.FK kX43 W okp (x, true) [.slice B0 x.f0.length d0, .slice B1 x.f1.length d1, .slice B2 x.f2.length d2] := fun W' hW => by
  have g0 : LentB W' B0 d0 x.f0 := ⟨f0 W' hW, e0⟩
  have g1 : LentB W' B1 d1 x.f1 := ⟨f1 W' hW, e1⟩
  have g2 : LentB W' B2 d2 x.f2 := ⟨f2 W' hW, e2⟩
  exact ⟨k43_mk W' x g0.le g0.C g1.le g1.C g2.le g2.C, fun _ => ⟨_, _, _, _, _, _, rfl, g0, g1, g2⟩⟩
theorem mkY43 {W : World} {okp : Nat → Prop} (x : S43) {cs : List Value} (h : Kd.FK k43 W okp x cs) : Kd.FK kX43 W okp (x, false) cs := fun W' hW => ⟨h W' hW, fun h => by cases h⟩
theorem readX43 {W : World} {A : Option Addr} {n : Nat} {l : List S43} (h : Kd.C kX43 W A n ((l.map fun x => (x, true)) ++ (marks43.map fun x => (x, false)))) : Kd.C k43 W A n (l ++ marks43) := by
  have := C_map (d := kX43) (d' := k43) Prod.fst rfl (fun x cs hk => hk.1) h
  simpa [List.map_append, List.map_map, Function.comp_def] using this
theorem lentX43 {W : World} {A : Option Addr} {n : Nat} {l : List S43} (h : Kd.C kX43 W A n ((l.map fun x => (x, true)) ++ (marks43.map fun x => (x, false)))) (hn : l.length ≤ n) : LentAt43 W A (l ++ marks43) l.length := by
  intro i ad A0 c0 A1 c1 A2 c2 e h0 h1 x0 x1 x2
  obtain ⟨ad', c, e', _, hK, hc⟩ := Kd.C_get h (z43, false) i h0 (by omega)
  cases e.symm.trans e'
  have hi : i.toNat < l.length := by omega
  have e1 : ((l.map fun x => (x, true)) ++ (marks43.map fun x => (x, false))).getD i.toNat (z43, false) = (l[i.toNat], true) := by
    rw [List.getD_eq_getElem?_getD, List.getElem?_append_left (by simpa using hi)]
    simp [hi]
  have e2 : rd_T43 (l ++ marks43) i = l[i.toNat] := by
    simp only [rd_T43, List.getD_eq_getElem?_getD, List.getElem?_append_left hi]
    simp [hi]
  rw [e1] at hK
  rw [e2] at x0 x1 x2 ⊢
  obtain ⟨B0, d0, B1, d1, B2, d2, rfl, g0, g1, g2⟩ := hK.2 rfl
  have y0 := hc 0 _ rfl
  have q0 := Option.some.inj ((y0).symm.trans x0)
  injection q0 with qa0 qn0 qc0
  rw [qa0, qc0] at g0
  have y1 := hc 1 _ rfl
  have q1 := Option.some.inj (((by rw [← add_field _ _ 1 (by omega)]; exact y1 : W.cell? ⟨(ad.add (i.toNat * 3)).block, (ad.add (i.toNat * 3)).off + 1, none⟩ = _)).symm.trans x1)
  injection q1 with qa1 qn1 qc1
  rw [qa1, qc1] at g1
  have y2 := hc 2 _ rfl
  have q2 := Option.some.inj (((by rw [← add_field _ _ 2 (by omega)]; exact y2 : W.cell? ⟨(ad.add (i.toNat * 3)).block, (ad.add (i.toNat * 3)).off + 2, none⟩ = _)).symm.trans x2)
  injection q2 with qa2 qn2 qc2
  rw [qa2, qc2] at g2
  exact ⟨g0, g1, g2⟩
set_option maxHeartbeats 4000000 in
set_option maxRecDepth 100000 in
theorem storemankit_LentTurns.calls (A0 : Option Addr) (c0 : Nat) (l : List S43) (w : World) (hr0 : Kd.C k43 w A0 l.length l) (hc0 : l.length ≤ c0) (hn : l.length ≤ 1000) (hl : ∀ x ∈ l, x.f0.length ≤ 140737488351232 ∧ x.f1.length ≤ 140737488351232 ∧ x.f2.length ≤ 140737488351232) :
    Calls Try.prog 12 #[.slice A0 l.length c0] w fun e w' => ∃ A c, e = .returned (.slice A l.length c) ∧ Kd.C k43 w' A (l ++ marks43).length (l ++ marks43) ∧ (l ++ marks43).length ≤ c ∧ LentAt43 w' A (l ++ marks43) l.length ∧ Below w.heap.size w w' := by
  have hu43 := Try.underlying43
  have HR0 := Aside0.mk hr0
  have HC0 := Aside0.mk hc0
  have HL := Aside0.mk hl
  have HB := Aside0.mk (Below.refl w.heap.size w)
  clear hr0 hc0 hl
  obtain ⟨i0, hi0, _, hsz, _⟩ := info_parts info43
  go_enter Try.func12, Try.ntmps12
  go_wp2_with (first | ((with_reducible refine gate_dst (N := 10) rfl ?_); refine Mine.R_make0 kX43 _ 43 rfl (N := 10) rfl 26 _ _ rfl ((l.length : Int) + 12) rfl rfl Try.underlying26 (.agg #[.slice none 0 0, .slice none 0 0, .slice none 0 0]) 72 info43 (by omega) (ok := (fun k => w.heap.size ≤ k)) ?okf ?h0 ?hl HB.out (below_size HB.out) ?_; (case okf => exact below_size HB.out); (case h0 => omega); (case hl => omega); intro v10 W1 ho hb hg hat; have HN := Aside0.mk (Kd.R_N ho); clear HB; have HB := Aside0.mk hb; clear ho hb hg hat))
  go_loopw [3, 4] (fun v3 v4 wr => ∃ i : Nat, i ≤ l.length ∧ v4 = .int .i64 i ∧ Aside0 (Kd.N kX43 43 wr w.heap.size (fun k => w.heap.size ≤ k) v3 ((l.take i).map fun x => (x, true))) ∧ Aside0 (Below w.heap.size w wr)) (fun _ v4 _ => l.length - (intOf v4).toNat)
  case atStart => exact ⟨0, Nat.zero_le _, rfl, ⟨HN.out⟩, ⟨HB.out⟩⟩
  case round =>
    obtain ⟨i, hi, rfl, HN, HB⟩ := hrel
    by_cases hlt : i < l.length
    · have hd : decide ((i : Int) < (l.length : Int)) = true := decide_eq_true (by omega)
      have hd0 : decide (0 ≤ (i : Int)) = true := decide_eq_true (by omega)
      obtain ⟨ad, A0_, c0_, A1_, c1_, A2_, c2_, e0, hx0, hx1, hx2, hl0, hi0, hl1, hi1, hl2, hi2⟩ := at_T43 HR0.out (i : Int) (by omega) (by omega)
      cases e0
      simp only [Int.toNat_natCast] at hx0 hx1 hx2
      replace hx0 := (HB.out.cell (World.block_lt_of_cell? w _ hx0)).trans hx0
      replace hx1 := (HB.out.cell (World.block_lt_of_cell? w _ hx1)).trans hx1
      replace hx2 := (HB.out.cell (World.block_lt_of_cell? w _ hx2)).trans hx2
      obtain ⟨x, hx⟩ : ∃ x, x = rd_T43 l i := ⟨_, rfl⟩
      have hxl : l[i] = x := by rw [hx]; simp [rd_T43, hlt]
      rw [← hx] at hx0 hl0 hi0 hx1 hl1 hi1 hx2 hl2 hi2
      have hxm := HL.out x (by rw [← hxl]; exact List.getElem_mem _)
      have HI0 := Aside0.mk hi0
      have HLE0 := Aside0.mk hl0
      have HM0 := Aside0.mk (hxm.1)
      have HI1 := Aside0.mk hi1
      have HLE1 := Aside0.mk hl1
      have HM1 := Aside0.mk (hxm.2.1)
      have HI2 := Aside0.mk hi2
      have HLE2 := Aside0.mk hl2
      have HM2 := Aside0.mk (hxm.2.2)
      clear hx hxm hl0 hi0 hl1 hi1 hl2 hi2
      have HXL := Aside0.mk hxl
      clear hxl
      have HW := Aside0.mk (Kd.N_lt HN.out)
      have HLEN := Aside0.mk (show ((l.take i).map fun x => (x, true)).length = i by simp; omega)
      go_wp2_with (first | ((with_reducible refine gate_callee (f := 34) rfl ?_); refine goesL_ (some 21) rfl rfl Try.func34 (by kernel_rfl) rfl #[.agg #[.slice A0_ x.f0.length c0_, .slice A1_ x.f1.length c1_, .slice A2_ x.f2.length c2_]] rfl (by (try simp only [List.map_toArray, List.map_cons, List.map_nil]); first | done | rfl) ?_; (with_reducible refine (storemankit_LentTurn.calls A0_ c0_ x.f0 A1_ c1_ x.f1 A2_ c2_ x.f2 _ (Kd.C_below HI0.out HB.out) HLE0.out HM0.out (Kd.C_below HI1.out HB.out) HLE1.out HM1.out (Kd.C_below HI2.out HB.out) HLE2.out HM2.out).mono ?_); rintro e W2 ⟨B0, d0, B1, d1, B2, d2, rfl, f0, g0, f1, g1, f2, g2, hb⟩; refine ⟨_, rfl, ?_⟩; obtain ⟨n1, hn1⟩ : ∃ n, n = wr.heap.size := ⟨_, rfl⟩; have LN := Aside0.mk (by rw [hn1]; exact below_size HB.out : w.heap.size ≤ n1); rw [← hn1] at HW; have HF0 := Aside0.mk (show Kd.F (Kd.int .u8) W2 (fun k => n1 ≤ k) B0 (x.f0 ++ marksB).length (x.f0 ++ marksB) by rw [hn1]; exact f0); have HG0 := Aside0.mk g0; clear f0 g0; have HF1 := Aside0.mk (show Kd.F (Kd.int .u8) W2 (fun k => n1 ≤ k) B1 (x.f1 ++ marksB).length (x.f1 ++ marksB) by rw [hn1]; exact f1); have HG1 := Aside0.mk g1; clear f1 g1; have HF2 := Aside0.mk (show Kd.F (Kd.int .u8) W2 (fun k => n1 ≤ k) B2 (x.f2 ++ marksB).length (x.f2 ++ marksB) by rw [hn1]; exact f2); have HG2 := Aside0.mk g2; clear f2 g2; have HNn := Aside0.mk (Kd.N_below HN.out hb); clear HN; have HN := HNn; clear HNn; have HBn := Aside0.mk (below_step HB.out hb); clear HB; have HB := HBn; clear HBn; clear hb hn1) | ((with_reducible refine gate_dst (N := 5) rfl ?_); refine Mine.alloc_store ?hg (N := 5) ?hd (zs := [.slice none 0 0, .slice none 0 0, .slice none 0 0]) [.slice B0 x.f0.length d0, .slice B1 x.f1.length d1, .slice B2 x.f2.length d2] (t := 43) ?hr ?hg2 ?hn2 rfl ?hr2 ?_; (case hd => rfl); (case hg => rfl); (case hg2 => rfl); (case hn2 => rfl); (case hr => first | (go_simp; done) | (go_simp; rfl)); (case hr2 => simp only [Mine.putAll]; first | (go_simp; done) | (go_simp; rfl)); intro g5 hg W3 hbox hb; have HFn := Aside0.mk (Kd.F_below HF0.out hb); clear HF0; have HF0 := HFn; clear HFn; have HFn := Aside0.mk (Kd.F_below HF1.out hb); clear HF1; have HF1 := HFn; clear HFn; have HFn := Aside0.mk (Kd.F_below HF2.out hb); clear HF2; have HF2 := HFn; clear HFn; have HNn := Aside0.mk (Kd.N_below HN.out hb); clear HN; have HN := HNn; clear HNn; have HBn := Aside0.mk (below_step HB.out hb); clear HB; have HB := HBn; clear HBn; have BK5 := Aside0.mk hbox; clear hg hbox hb; have c5_0 : W3.cell? ⟨g5, 0, none⟩ = some (.slice B0 x.f0.length d0) := (blk_cell BK5.out 0).trans rfl; have c5_1 : W3.cell? ⟨g5, 1, none⟩ = some (.slice B1 x.f1.length d1) := (blk_cell BK5.out 1).trans rfl; have c5_2 : W3.cell? ⟨g5, 2, none⟩ = some (.slice B2 x.f2.length d2) := (blk_cell BK5.out 2).trans rfl) | ((with_reducible refine gate_builtin (b := .append) (xs := #[.tmp 22, .tmp 24]) rfl ?_); at_builtin; refine Kd.N_append kX43 (w0 := w) w.heap.size rfl (.tmp 22) (.tmp 24) 26 43 (.agg #[.slice none 0 0, .slice none 0 0, .slice none 0 0]) 72 rfl Try.underlying26 info43 rfl (by decide) (by omega) u3 ((l.take i).map fun x => (x, true)) ((x, true)) [.slice B0 x.f0.length d0, .slice B1 x.f1.length d1, .slice B2 x.f2.length d2] (fun k => w.heap.size ≤ k) (fun k => w.heap.size ≤ k ∧ some k ≠ (u3 : Value).ownBlock) rfl rfl ?aP (fun _ hk => hk) ?aF ?aO ?aB ?aS ?aL ?_; (case aP => exact mkX43 x (Kd.F_mono HF0.out (fun k hk => ⟨Nat.le_trans LN.out hk, fun he => absurd (HW.out k he.symm) (Nat.not_lt.2 hk)⟩)) HG0.out (Kd.F_mono HF1.out (fun k hk => ⟨Nat.le_trans LN.out hk, fun he => absurd (HW.out k he.symm) (Nat.not_lt.2 hk)⟩)) HG1.out (Kd.F_mono HF2.out (fun k hk => ⟨Nat.le_trans LN.out hk, fun he => absurd (HW.out k he.symm) (Nat.not_lt.2 hk)⟩)) HG2.out); (case aB => exact HB.out); (case aF => exact fun k hk => Nat.le_trans (below_size HB.out) hk); (case aO => exact HN.out); (case aS => exact below_size HB.out); (case aL => rw [HLEN.out]; omega); intro v1 W4 ho hb hg hat; clear HN; have HN := Aside0.mk ho; clear HB; have HB := Aside0.mk hb; clear ho hb hg hat))
      first | exact ⟨⟨i + 1, by omega, by first | rfl | (rw [wrapI (by omega) (by omega)]; rfl), ⟨by rw [take_map_succ _ _ _ hlt, HXL.out]; exact HN.out⟩, ⟨HB.out⟩⟩, by simp [intOf, wrapI]; omega⟩ | trace_state
    · have hie : i = l.length := by omega
      subst hie
      rw [List.take_length] at HN
      have hd : decide ((l.length : Int) < (l.length : Int)) = false := decide_eq_false (by omega)
      go_wp2
      go_loopw [3, 6] (fun v3 v6 wr => ∃ j : Nat, j ≤ 12 ∧ v6 = .int .i64 j ∧ Aside0 (Kd.N kX43 43 wr w.heap.size (fun k => w.heap.size ≤ k) v3 ((l.map fun x => (x, true)) ++ (marks43.take j).map fun x => (x, false))) ∧ Aside0 (Below w.heap.size w wr)) (fun _ v6 _ => 12 - (intOf v6).toNat)
      case atStart => exact ⟨0, by omega, rfl, ⟨by simpa using HN.out⟩, ⟨HB.out⟩⟩
      case round =>
        obtain ⟨j, hj, rfl, HN, HB⟩ := hrel
        by_cases hjt : j < 12
        · have hd2 : decide ((j : Int) < 12) = true := decide_eq_true (by omega)
          have HW := Aside0.mk (Kd.N_lt HN.out)
          have HLEN := Aside0.mk (show ((l.map fun x => (x, true)) ++ (marks43.take j).map fun x => (x, false)).length = l.length + j by simp [marks43_len]; omega)
          go_wp2_with (first | ((with_reducible refine gate_callee (f := 35) rfl ?_); refine goesL_ (some 32) rfl rfl Try.func35 (by kernel_rfl) rfl #[.int .i64 1, .int .i64 j] rfl (by (try simp only [List.map_toArray, List.map_cons, List.map_nil]); first | done | rfl) ?_; (with_reducible refine (storemankit_markTurn.calls 1 (j : Int) [mkB j] ([] : List Int) ([] : List Int) _ rfl).mono ?_); rintro e W2 ⟨u0, u1, u2, rfl, r0, r1, r2, hb⟩; obtain ⟨B0, d0, eu0⟩ := Kd.R_slice r0; subst eu0; obtain ⟨B1, d1, eu1⟩ := Kd.R_slice r1; subst eu1; obtain ⟨B2, d2, eu2⟩ := Kd.R_slice r2; subst eu2; refine ⟨_, rfl, ?_⟩; obtain ⟨n1, hn1⟩ : ∃ n, n = wr.heap.size := ⟨_, rfl⟩; have LN := Aside0.mk (by rw [hn1]; exact below_size HB.out : w.heap.size ≤ n1); rw [← hn1] at HW; have HG0 := Aside0.mk (Kd.R_reads' r0).2.1; have HF0 := Aside0.mk (show Kd.F (Kd.int .u8) W2 (fun k => n1 ≤ k) B0 (mk43 j).f0.length (mk43 j).f0 by rw [hn1]; exact Kd.R_F (Kd.R_mono (Kd.R_bound r0) (fun k hk => hk.2.1))); clear r0; have HG1 := Aside0.mk (Kd.R_reads' r1).2.1; have HF1 := Aside0.mk (show Kd.F (Kd.int .u8) W2 (fun k => n1 ≤ k) B1 (mk43 j).f1.length (mk43 j).f1 by rw [hn1]; exact Kd.R_F (Kd.R_mono (Kd.R_bound r1) (fun k hk => hk.2.1))); clear r1; have HG2 := Aside0.mk (Kd.R_reads' r2).2.1; have HF2 := Aside0.mk (show Kd.F (Kd.int .u8) W2 (fun k => n1 ≤ k) B2 (mk43 j).f2.length (mk43 j).f2 by rw [hn1]; exact Kd.R_F (Kd.R_mono (Kd.R_bound r2) (fun k hk => hk.2.1))); clear r2; have HNn := Aside0.mk (Kd.N_below HN.out hb); clear HN; have HN := HNn; clear HNn; have HBn := Aside0.mk (below_step HB.out hb); clear HB; have HB := HBn; clear HBn; clear hb hn1) | ((with_reducible refine gate_builtin (b := .append) (xs := #[.tmp 30, .tmp 33]) rfl ?_); at_builtin; refine Kd.N_append kX43 (w0 := w) w.heap.size rfl (.tmp 30) (.tmp 33) 26 43 (.agg #[.slice none 0 0, .slice none 0 0, .slice none 0 0]) 72 rfl Try.underlying26 info43 rfl (by decide) (by omega) u3 ((l.map fun x => (x, true)) ++ (marks43.take j).map fun x => (x, false)) ((mk43 j, false)) [.slice B0 (mk43 j).f0.length d0, .slice B1 (mk43 j).f1.length d1, .slice B2 (mk43 j).f2.length d2] (fun k => w.heap.size ≤ k) (fun k => w.heap.size ≤ k ∧ some k ≠ (u3 : Value).ownBlock) rfl rfl ?aP (fun _ hk => hk) ?aF ?aO ?aB ?aS ?aL ?_; (case aP => exact mkY43 (mk43 j) (k43_mkF _ _ (mk43 j) HG0.out (Kd.F_mono HF0.out (fun k hk => ⟨Nat.le_trans LN.out hk, fun he => absurd (HW.out k he.symm) (Nat.not_lt.2 hk)⟩)) HG1.out (Kd.F_mono HF1.out (fun k hk => ⟨Nat.le_trans LN.out hk, fun he => absurd (HW.out k he.symm) (Nat.not_lt.2 hk)⟩)) HG2.out (Kd.F_mono HF2.out (fun k hk => ⟨Nat.le_trans LN.out hk, fun he => absurd (HW.out k he.symm) (Nat.not_lt.2 hk)⟩)))); (case aB => exact HB.out); (case aF => exact fun k hk => Nat.le_trans (below_size HB.out) hk); (case aO => exact HN.out); (case aS => exact below_size HB.out); (case aL => rw [HLEN.out]; omega); intro v1 W4 ho hb hg hat; clear HN; have HN := Aside0.mk ho; clear HB; have HB := Aside0.mk hb; clear ho hb hg hat))
          first | exact ⟨⟨j + 1, by omega, by first | rfl | (rw [wrapI (by omega) (by omega)]; rfl), ⟨by rw [take_map_succ _ _ _ (by rw [marks43_len]; exact hjt), ← List.append_assoc, show marks43[j]'(by rw [marks43_len]; exact hjt) = mk43 j by simp [marks43]]; exact HN.out⟩, ⟨HB.out⟩⟩, by simp [intOf, wrapI]; omega⟩ | trace_state
        · have hje : j = 12 := by omega
          subst hje
          rw [show marks43.take 12 = marks43 from rfl] at HN
          have hd2 : decide ((12 : Int) < 12) = false := rfl
          have hlen : ((l.map fun x => (x, true)) ++ (marks43.map fun x => (x, false))).length = l.length + 12 := by simp [marks43_len]
          obtain ⟨Av, cv, ev⟩ := Kd.N_slice HN.out
          rw [hlen] at ev
          subst ev
          have hrd := Kd.N_reads' HN.out
          have HCv := Aside0.mk hrd.2.1
          have hC := hrd.2.2
          rw [hlen] at hC
          have HC2 := Aside0.mk hC
          clear hC hrd
          have hcut := Mine.cut_cap (P := Try.prog) 26 43 .i64 Try.underlying26 hi0 Av (l.length + 12) cv (l.length : Int) (by omega) (by have := HCv.out; omega)
          rw [Int.toNat_natCast] at hcut
          go_wp2
          go_ret
          refine ⟨Av, cv, rfl, ?_, ?_, ?_, HB.out⟩
          · first | exact readX43 HC2.out | (rw [show (l ++ marks43).length = l.length + 12 by simp [marks43_len]]; exact readX43 HC2.out)
          · first | exact HCv.out | (rw [show (l ++ marks43).length = l.length + 12 by simp [marks43_len]]; exact HCv.out)
          · exact lentX43 HC2.out (by omega)
end Go.Proofs.Ytkplejkkafcipaa.PA
