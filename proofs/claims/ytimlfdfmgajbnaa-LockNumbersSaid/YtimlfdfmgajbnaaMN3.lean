/-
Texts of this session for the law of N, laid into one file (part 4 of 4).
-/
import Derived.Test.YtimlfdfmgajbnaaWWords
import Derived.Test.YtimlfdfmgajbnaaWLast
import Derived.Test.YtimlfdfmgajbnaaWMore
import Derived.Test.YtimlfdfmgajbnaaProg
import Derived.Below
import Derived.Deep.Draws
import Derived.Deep.AppendLies
import Derived.Maps.AppendAt
import Derived.OwnWalk
import Derived.Laws.BytesArg
import Derived.Laws.MakeOwn
import Derived.Laws.OwnMore
import Derived.Deep.OwnRows
import Derived.Tactics
import Derived.Lib.ConvBytes
import Derived.Laws.Slices
import Derived.WalkKit
import Derived.KernelRfl
import Derived.RowKit3
import Derived.Deep.LoopGhost
import Derived.Deep.QuietTactic
import Derived.BigQuiet
import Derived.WideLaws
import Derived.Deep.DeepCutAuto
import Derived.Deep.CutBlock
import Derived.Deep.RegionHeld3
import Derived.Laws.Rows
import Derived.Lib.AppendStr
import Derived.ArgAppend
import Derived.Laws.IdiomCopy
import Derived.OrdersHeld
import Derived.Laws.BitsLemmas
import Derived.RowKit
import Derived.Test.YtimlfdfmgajbnaaWTab
import Derived.Test.YtimlfdfmgajbnaaWFour
import Derived.Test.YtimlfdfmgajbnaaWQPut
import Derived.Test.YtimlfdfmgajbnaaWApart
import Derived.Test.YtimlfdfmgajbnaaWArr
import Derived.Test.YtimlfdfmgajbnaaWZeros
import Derived.Test.YtimlfdfmgajbnaaWFoot
import Derived.Test.YtimlfdfmgajbnaaWKept
import Derived.Test.YtimlfdfmgajbnaaWShare
import Derived.Test.YtimlfdfmgajbnaaWN
import Derived.Test.YtimlfdfmgajbnaaWFootNe
import Derived.Test.YtimlfdfmgajbnaaWAt
import Derived.Test.YtimlfdfmgajbnaaWEqStruct
import Derived.Test.YtimlfdfmgajbnaaWRepsOne
import Derived.Test.YtimlfdfmgajbnaaWInv
import Derived.Test.YtimlfdfmgajbnaaWInvWords
import Derived.Test.YtimlfdfmgajbnaaWGuard
import Derived.Test.YtimlfdfmgajbnaaWNEv
import Derived.Maps.OwnSet
import Derived.Maps.RangeWalk
import Derived.Sort.KeysCollected
import Derived.LaidEqlPtr
import Derived.Lib.Builder
import Derived.Sort.OwnSortedInts
import Derived.Shelf.SortM.Plain
import Derived.Shelf.SortM.SortNone
import Derived.Laws.Pointers
import Derived.WalkSpells
import Derived.IntWalk
import Derived.Shelf.SlIter.Nil
import Derived.Shelf.SlIterI.Nil
import Derived.Sort.Walk0
import Derived.Lib.SlKeysI
import Derived.Laws.EntriesVeiled
import Derived.Test.YtimlfdfmgajbnaaMN0
import Derived.Test.YtimlfdfmgajbnaaMN1
import Derived.Test.YtimlfdfmgajbnaaMN2
/-
Both locks side by side: a step turns them alike; what they tell is the same.
-/
namespace Go.Proofs.Ytimlfdfmgajbnaa.PA
open Go.RowKit Go.Proofs.YtimlfdfmgajbnaaW.PrintWords Go.Proofs.YtimlfdfmgajbnaaW.PrintLast Go.Proofs.YtimlfdfmgajbnaaW.PrintMore
set_option linter.unusedVariables false
set_option linter.unusedSimpArgs false
theorem LockSt.up {w : World} {lb : Nat} {F : List Nat} {last : Int} {L : List S79} {B B' : Nat} (h : LockSt w lb F last L B) (hb : B ≤ B') : LockSt w lb F last L B' := by
  obtain ⟨mb, mn, Q, hL, h1, h2, h3, h4, h5⟩ := h.at_
  exact ⟨⟨mb, mn, Q, hL, h1, by omega, fun x hx => by have := h3 x hx; omega, by omega, h5⟩, ⟨h.ok.h0, by have := h.ok.h1; omega, h.ok.t, h.ok.s⟩⟩
/-- The program's locks and the document's, of the same works. -/
structure Bo (w0 w : World) (lb rb : Nat) (F : List Nat) (G : Nat → Prop) (last : Int) (L : List S79) (B : Nat) : Prop where
  s : LockSt w lb F last L B
  r : RefSt w0 w rb G last L
  d : ∀ k ∈ F, ¬ G k
  f : ∀ k ∈ F, w0.heap.size ≤ k
  g : ∀ k, G k → w0.heap.size ≤ k ∧ k < w.heap.size
  n : (L.map (fun x => x.f0)).Nodup
  bl : BndL L B
section
variable {w0 w w' : World} {lb rb : Nat} {F : List Nat} {G : Nat → Prop} {last : Int} {L : List S79} {B : Nat}
theorem Bo.below (h : Bo w0 w lb rb F G last L B) (hb : Below w.heap.size w w') : Bo w0 w' lb rb F G last L B :=
  ⟨h.s.below hb, h.r.below hb, h.d, h.f, fun k hk => ⟨(h.g k hk).1, Nat.lt_of_lt_of_le (h.g k hk).2 hb.size⟩, h.n, h.bl⟩
theorem Bo.hb (h : Bo w0 w lb rb F G last L B) : Below w0.heap.size w0 w := h.r.hb
/-- Blocks that are neither's. -/
theorem Bo.chg (h : Bo w0 w lb rb F G last L B) {P : Nat → Prop} (hc : Chg P w w') (hp : ∀ k, P k → k ∉ F ∧ ¬ G k ∧ w0.heap.size ≤ k) : Bo w0 w' lb rb F G last L B :=
  ⟨h.s.chg hc (fun k hk q => (hp k q).1 hk), h.r.chg hc (fun k hk _ q => (hp k q).2.1 hk) (h.hb.trans (hc.below h.hb.size (fun k q => (hp k q).2.2))), h.d, h.f, fun k hk => ⟨(h.g k hk).1, Nat.lt_of_lt_of_le (h.g k hk).2 hc.size⟩, h.n, h.bl⟩
end
theorem nd_free' {L : List S79} (h : (L.map (fun x => x.f0)).Nodup) (id : Int) : ((freeL L id).map (fun x => x.f0)).Nodup := h.sublist (List.Sublist.map _ List.filter_sublist)
theorem nd_ask' {L : List S79} (h : (L.map (fun x => x.f0)).Nodup) (last id : Int) (ns : List ByteArray) : ((askL L last id ns).1.map (fun x => x.f0)).Nodup := by
  by_cases hk : keptL (withL L id) id (wantsS (getL L id).f1 (getL L id).f2 ns) (turnS last (getL L id)) = []
  · rw [askL_yes L last id ns rfl rfl hk, setL_ids]; exact withL_nodup h id
  · rw [askL_no L last id ns rfl rfl hk, setL_ids]; exact withL_nodup h id
theorem bnd_up {L : List S79} {B B' : Nat} (h : BndL L B) (hb : B ≤ B') : BndL L B' := ⟨Nat.le_trans h.1 hb, fun x hx => Nat.le_trans (h.2 x hx) hb⟩
theorem bo_free {w0 w w1 w2 : World} {lb rb : Nat} {F F1 : List Nat} {G : Nat → Prop} {last : Int} {L : List S79} {B : Nat} (h : Bo w0 w lb rb F G last L B) {id : Int} (h1 : LockSt w1 lb F1 last (freeL L id) B) (hf : ∀ k ∈ F1, k ∈ F) (hc1 : Chg (fun k => k ∈ F) w w1)
    (h2 : RefSt w0 w2 rb (fun k => G k ∨ w1.heap.size ≤ k) last (freeL L id)) (hc2 : Chg G w1 w2) : Bo w0 w2 lb rb F1 (fun k => (G k ∨ w1.heap.size ≤ k) ∧ k < w2.heap.size) last (freeL L id) B :=
  ⟨h1.chg hc2 (fun k hk => h.d k (hf k hk)), (h2.bound).mono (fun k hk => hk), fun k hk hg => hg.1.elim (h.d k (hf k hk)) (fun hg => absurd (h1.lt k hk) (Nat.not_lt.2 hg)), fun k hk => h.f k (hf k hk), fun k hk => ⟨hk.1.elim (fun hg => (h.g k hg).1) (fun hg => Nat.le_trans (Nat.le_trans h.hb.size hc1.size) hg), hk.2⟩, nd_free' h.n id, bnd_free h.bl id⟩
theorem bo_ask {w0 w w1 w2 : World} {lb rb : Nat} {F F1 : List Nat} {G : Nat → Prop} {last last' : Int} {L L' : List S79} {B B' : Nat} (h : Bo w0 w lb rb F G last L B) (h1 : LockSt w1 lb F1 last' L' B') (hf : ∀ k ∈ F1, k ∈ F ∨ w.heap.size ≤ k)
    (h2 : RefSt w0 w2 rb (fun k => G k ∨ w1.heap.size ≤ k) last' L') (hc2 : Chg G w1 w2) (hsz : w.heap.size ≤ w1.heap.size) (hn : (L'.map (fun x => x.f0)).Nodup) (hb : BndL L' B') : Bo w0 w2 lb rb F1 (fun k => (G k ∨ w1.heap.size ≤ k) ∧ k < w2.heap.size) last' L' B' :=
  have hd : ∀ k ∈ F1, ¬ G k := fun k hk hg => (hf k hk).elim (fun hm => h.d k hm hg) (fun hm => absurd (h.g k hg).2 (Nat.not_lt.2 hm))
  ⟨h1.chg hc2 hd, (h2.bound).mono (fun k hk => hk), fun k hk hg => hg.1.elim (hd k hk) (fun hg => absurd (h1.lt k hk) (Nat.not_lt.2 hg)), fun k hk => (hf k hk).elim (h.f k) (fun hm => Nat.le_trans h.hb.size hm), fun k hk => ⟨hk.1.elim (fun hg => (h.g k hg).1) (fun hg => Nat.le_trans (Nat.le_trans h.hb.size hsz) hg), hk.2⟩, hn, hb⟩
theorem lent_C {w : World} {base n c : Nat} {ok : Nat → Prop} {A : Option Addr} {l : List ByteArray} (h : Kd.R Kd.string 9 w base ok (.slice A n c) (l ++ marksT)) : Kd.C Kd.string w A l.length l ∧ l.length ≤ c := by
  obtain ⟨h1, h2, h3⟩ := Kd.R_reads' h
  have h4 := rr_take (m := l.length) h3 (by simp)
  rw [List.take_left] at h4
  rw [List.length_append] at h1
  exact ⟨h4, by omega⟩
def StepPost (w0 : World) (lb rb : Nat) (B : Nat) (e : Ending) (w' : World) : Prop := e = .returned (.bool true) ∧ ∃ last' L' F' G', Bo w0 w' lb rb F' G' last' L' B
set_option maxHeartbeats 16000000 in
set_option maxRecDepth 100000 in
theorem step_calls (w0 : World) (lb rb : Nat) (F : List Nat) (G : Nat → Prop) (last : Int) (L : List S79) (B : Nat) (x : S34) (A : Option Addr) (c : Nat) (w : World) (h : Bo w0 w lb rb F G last L B) (hB : B + x.f2.length ≤ 90000) (hg : goodS x) (hr : Kd.C Kd.string w0 A x.f2.length x.f2) (hc : x.f2.length ≤ c) :
    Calls Try.prog 11 #[.pointer (some ⟨lb, 0, none⟩), .pointer (some ⟨rb, 0, none⟩), .agg #[.int .i64 x.f0, .int .i64 x.f1, .slice A x.f2.length c]] w (StepPost w0 lb rb (B + 1 + x.f2.length)) := by
  have HB00 := Aside0.mk h.hb.size
  obtain ⟨r5, hr5, _, _⟩ := pick_ev x.f0 5 (by omega) (by omega)
  have HS := Aside0.mk h; have HBN := Aside0.mk hB; have HGX := Aside0.mk hg; have HR := Aside0.mk hr; have HC := Aside0.mk hc; have HR5 := Aside0.mk hr5; have HWF := Aside0.mk (show (Lit.int .i64 x.f1).wf = true from hg.2.1); have HSS := Aside0.mk (show ∀ s ∈ x.f2, s.size ≤ 9223372036854775807 from fun s hs => by have := hg.2.2.2 s hs; omega); have HB := Aside0.mk (Below.refl w.heap.size w)
  clear h hB hg hr hc hr5
  by_cases hf : r5 = 0
  · have hd5 : decide (r5 = 0) = true := decide_eq_true hf
    have hb5 : (r5 == 0) = true := by rw [hf]; rfl
    have HBM := Aside0.mk (show BndL L 100000 from ⟨by have := HS.out.bl.1; have := HBN.out; omega, fun y hy => by have := HS.out.bl.2 y hy; have := HBN.out; omega⟩)
    have HNF := Aside0.mk (show ∀ k, w.heap.size ≤ k → k ∉ F ∧ ¬ G k from fun k hk => ⟨fun hm => absurd (HS.out.s.lt k hm) (Nat.not_lt.2 hk), fun hm => absurd (HS.out.g k hm).2 (Nat.not_lt.2 hk)⟩)
    go_enter Try.func11, Try.ntmps11
    go_wp2_with (first | ((with_reducible refine gate_dst (N := 5) rfl ?_); refine box_event ?hg (N := 5) ?hd (cs := #[.int .i64 x.f0, .int .i64 x.f1, .slice A x.f2.length c]) (t := 34) ?hr ?_; (case hd => rfl); (case hg => rfl); (case hr => first | (go_simp; done) | (go_simp; rfl)); intro gx hgx W1 hbox hb; have HBX := Aside0.mk hbox; have HGE := Aside0.mk (show w.heap.size ≤ gx from by rw [hgx]; exact Nat.le_refl _); have nn_ := Aside0.mk (HS.out.below hb); clear HS; have HS := nn_; clear nn_; have c0 := (blk_cell HBX.out 0).trans rfl; have c1 := (blk_cell HBX.out 1).trans rfl; have c2 := (blk_cell HBX.out 2).trans rfl; clear hbox hb hgx) | (go_at_call 19; (with_reducible refine (storemankit_Pick.calls x.f0 5 r5 _ HR5.out).mono ?_); rintro e W2 ⟨rfl, hd⟩; have hb := hd.below; have nn_ := Aside0.mk (HS.out.below hb); clear HS; have HS := nn_; clear nn_; have nn_ := Aside0.mk (blk_below HBX.out hb); clear HBX; have HBX := nn_; clear nn_; clear c0 c1 c2; have c0 := (blk_cell HBX.out 0).trans rfl; have c1 := (blk_cell HBX.out 1).trans rfl; have c2 := (blk_cell HBX.out 2).trans rfl; clear hd hb) | (go_at_call 13; (with_reducible refine (st_free x.f1 HS.out.s HWF.out).mono ?_); rintro e W3 ⟨rfl, F3, hL, hF, hc⟩; have HL3 := Aside0.mk hL; have HF3 := Aside0.mk hF; have HC3 := Aside0.mk hc; have HR3 := Aside0.mk (HS.out.r.chg hc (fun k hk _ hm => HS.out.d k hm hk) (HS.out.hb.trans (hc.below HS.out.hb.size HS.out.f))); have HBX3 := Aside0.mk ((hc.block gx (blk_lt HBX.out) (HNF.out gx HGE.out).1).trans HBX.out); have c1 := (blk_cell HBX3.out 1).trans rfl; clear hL hF hc) | (go_at_call 23; (with_reducible refine (rfree_calls w0 rb G last L x.f1 _ HR3.out HBM.out HS.out.n).mono ?_); rintro e W4 ⟨rfl, h2, hc2⟩; have HE := Aside0.mk (bo_free HS.out HL3.out HF3.out HC3.out h2 hc2); clear h2 hc2))
    go_ret
    exact ⟨rfl, last, freeL L x.f1, F3, _, ⟨HE.out.s.up (by omega), HE.out.r, HE.out.d, HE.out.f, HE.out.g, HE.out.n, bnd_up HE.out.bl (by omega)⟩⟩
  · have hd5 : decide (r5 = 0) = false := decide_eq_false hf
    have hb5 : (r5 == 0) = false := beq_eq_false_iff_ne.2 hf
    have HLE := Aside0.mk (lentT_ev x.f2 (by have := HBN.out; omega))
    have HNF := Aside0.mk (show ∀ k, w.heap.size ≤ k → k ∉ F ∧ ¬ G k from fun k hk => ⟨fun hm => absurd (HS.out.s.lt k hm) (Nat.not_lt.2 hk), fun hm => absurd (HS.out.g k hm).2 (Nat.not_lt.2 hk)⟩)
    clear hf
    go_enter Try.func11, Try.ntmps11
    go_wp2_with (first | ((with_reducible refine gate_dst (N := 5) rfl ?_); refine box_event ?hg (N := 5) ?hd (cs := #[.int .i64 x.f0, .int .i64 x.f1, .slice A x.f2.length c]) (t := 34) ?hr ?_; (case hd => rfl); (case hg => rfl); (case hr => first | (go_simp; done) | (go_simp; rfl)); intro gx hgx W1 hbox hb; have HBX := Aside0.mk hbox; have HGE := Aside0.mk (show w.heap.size ≤ gx from by rw [hgx]; exact Nat.le_refl _); have nn_ := Aside0.mk (HS.out.below hb); clear HS; have HS := nn_; clear nn_; have c0 := (blk_cell HBX.out 0).trans rfl; have c1 := (blk_cell HBX.out 1).trans rfl; have c2 := (blk_cell HBX.out 2).trans rfl; have HSZ := Aside0.mk hb.size; clear hbox hb hgx) | (go_at_call 19; (with_reducible refine (storemankit_Pick.calls x.f0 5 r5 _ HR5.out).mono ?_); rintro e W2 ⟨rfl, hd⟩; have hb := hd.below; have nn_ := Aside0.mk (HS.out.below hb); clear HS; have HS := nn_; clear nn_; have nn_ := Aside0.mk (blk_below HBX.out hb); clear HBX; have HBX := nn_; clear nn_; clear c0 c1 c2; have c0 := (blk_cell HBX.out 0).trans rfl; have c1 := (blk_cell HBX.out 1).trans rfl; have c2 := (blk_cell HBX.out 2).trans rfl; have nn_ := Aside0.mk (Nat.le_trans HSZ.out hb.size); clear HSZ; have HSZ := nn_; clear nn_; clear hd hb) | (go_at_call 24; (with_reducible refine (storemankit_LentTexts.calls 13 A c x.f2 (x.f2 ++ marksT) _ (Kd.C_below HR.out HS.out.hb) HC.out HLE.out).mono ?_); rintro e W3 ⟨v0, rfl, hR, hb⟩; obtain ⟨A9, c9, e9⟩ := Kd.R_slice hR; subst e9; have HIN := Aside0.mk (Kd.R_tight rfl hR); have HI0 := Aside0.mk (show ∀ k, (Value.slice A9 (x.f2 ++ marksT).length c9).ownBlock = some k → w.heap.size ≤ k from fun k hk => Nat.le_trans HSZ.out (Kd.R_base hR k hk)); have nn_ := Aside0.mk (HS.out.below hb); clear HS; have HS := nn_; clear nn_; have nn_ := Aside0.mk (blk_below HBX.out hb); clear HBX; have HBX := nn_; clear nn_; clear c0 c1 c2; have c0 := (blk_cell HBX.out 0).trans rfl; have c1 := (blk_cell HBX.out 1).trans rfl; have c2 := (blk_cell HBX.out 2).trans rfl; clear hR hb; simp only [Mine.shorten]))
    have HBM := Aside0.mk (show B + x.f2.length ≤ 100000 by have := HBN.out; omega)
    have HNL := Aside0.mk (show x.f2.length ≤ 1000000 by have := HBN.out; omega)
    have HKE := Aside0.mk (keptT_ev x.f2 HNL.out)
    have HLA := Aside0.mk (show 0 ≤ last ∧ last ≤ 1000000 from ⟨HS.out.s.ok.h0, by have := HS.out.s.ok.h1; have := HBN.out; omega⟩)
    have HFR := Aside0.mk (show 0 < x.f2.length → ∀ ad, A9 = some ad → ad.block ∉ F from fun _ ad e hm => (HNF.out _ (HI0.out ad.block (by rw [e]; rfl))).1 hm)
    have HFG := Aside0.mk (show 0 < x.f2.length → ∀ ad, A = some ad → ¬ G ad.block from fun hp ad e hG => absurd (HS.out.g _ hG).1 (Nat.not_le.2 (C_lt HR.out hp ad e)))
    obtain ⟨b, hb⟩ : ∃ b, b = (askL L last x.f1 x.f2).2.2 := ⟨_, rfl⟩
    refine start_ (n := 19) (S := (fun w' => w'.cell? ⟨gx, 1, none⟩ = some (.int .i64 x.f1) ∧ w'.cell? ⟨gx, 2, none⟩ = some (.slice A x.f2.length c))) (ds := []) (Sh.m 0 19) (by kernel_rfl) rfl rfl ⟨c1, c2⟩ (fun hHeld => ?_)
    (have hb := below_drew1 (Below.refl W3.heap.size W3); have nn_ := Aside0.mk (HS.out.below hb); clear HS; have HS := nn_; clear nn_; have nn_ := Aside0.mk (Kd.R_below HIN.out hb); clear HIN; have HIN := nn_; clear nn_; have nn_ := Aside0.mk (blk_below HBX.out hb); clear HBX; have HBX := nn_; clear nn_; clear c0 c1 c2 hb HSZ; generalize W3.drew = W4 at HS HIN HBX hHeld ⊢)
    refine pure_ (i := 0) (N := some 24) (v := ?_) (a' := ?_) (Sh.m 1 18) rfl rfl (by kernel_rfl) (fun _ _ _ h => h) (Or.inl ⟨by rfl, ?_⟩) ?_ ?_
    rotate_left
    · intro w'
      go_simp
      with_reducible rfl
    rotate_left
    · simp only [Act.put, List.setIfInBounds_toArray, List.set_cons_zero, List.set_cons_succ, i64_w, i32_w]
      rfl
    refine pure_ (i := 1) (N := some 25) (v := ?_) (a' := ?_) (Sh.m 2 17) rfl rfl (by kernel_rfl) (fun _ _ _ h => h) (Or.inl ⟨by rfl, ?_⟩) ?_ ?_
    rotate_left
    · intro w'
      go_simp
      with_reducible rfl
    rotate_left
    · simp only [Act.put, List.setIfInBounds_toArray, List.set_cons_zero, List.set_cons_succ, i64_w, i32_w]
      rfl
    refine take_ (i := 2) (N := some 26) (v := ?_) (a' := ?_) (Sh.m 3 16) rfl rfl (by kernel_rfl) (fun _ _ _ h => h) (Or.inl ⟨by rfl, ?_⟩) hHeld ?_ ?_
    rotate_left
    · rintro w' ⟨s0, s1⟩
      go_simp
      with_reducible rfl
    rotate_left
    · simp only [Act.put, List.setIfInBounds_toArray, List.set_cons_zero, List.set_cons_succ, i64_w, i32_w]
      rfl
    refine pure_ (i := 3) (N := some 27) (v := ?_) (a' := ?_) (Sh.m 4 15) rfl rfl (by kernel_rfl) (fun _ _ _ h => h) (Or.inl ⟨by rfl, ?_⟩) ?_ ?_
    rotate_left
    · intro w'
      go_simp
      with_reducible rfl
    rotate_left
    · simp only [Act.put, List.setIfInBounds_toArray, List.set_cons_zero, List.set_cons_succ, i64_w, i32_w]
      rfl
    refine pure_ (i := 5) (N := some 29) (v := ?_) (a' := ?_) #[true, true, true, true, false, true, false, false, false, false, false, false, false, false, false, false, false, false, false] rfl rfl (by kernel_rfl) (fun _ _ _ h => h) (Or.inl ⟨by rfl, ?_⟩) ?_ ?_
    rotate_left
    · intro w'
      go_simp
      with_reducible rfl
    rotate_left
    · simp only [Act.put, List.setIfInBounds_toArray, List.set_cons_zero, List.set_cons_succ, i64_w, i32_w]
      rfl
    refine pure_ (i := 6) (N := some 30) (v := ?_) (a' := ?_) #[true, true, true, true, false, true, true, false, false, false, false, false, false, false, false, false, false, false, false] rfl rfl (by kernel_rfl) (fun _ _ _ h => h) (Or.inl ⟨by rfl, ?_⟩) ?_ ?_
    rotate_left
    · intro w'
      go_simp
      with_reducible rfl
    rotate_left
    · simp only [Act.put, List.setIfInBounds_toArray, List.set_cons_zero, List.set_cons_succ, i64_w, i32_w]
      rfl
    refine take_ (i := 7) (N := some 31) (v := ?_) (a' := ?_) #[true, true, true, true, false, true, true, true, false, false, false, false, false, false, false, false, false, false, false] rfl rfl (by kernel_rfl) (fun _ _ _ h => h) (Or.inl ⟨by rfl, ?_⟩) hHeld ?_ ?_
    rotate_left
    · rintro w' ⟨s0, s1⟩
      go_simp
      with_reducible rfl
    rotate_left
    · simp only [Act.put, List.setIfInBounds_toArray, List.set_cons_zero, List.set_cons_succ, i64_w, i32_w]
      rfl
    refine pure_ (i := 8) (N := some 32) (v := ?_) (a' := ?_) #[true, true, true, true, false, true, true, true, true, false, false, false, false, false, false, false, false, false, false] rfl rfl (by kernel_rfl) (fun _ _ _ h => h) (Or.inl ⟨by rfl, ?_⟩) ?_ ?_
    rotate_left
    · intro w'
      go_simp
      with_reducible rfl
    rotate_left
    · simp only [Act.put, List.setIfInBounds_toArray, List.set_cons_zero, List.set_cons_succ, i64_w, i32_w]
      rfl
    refine take_ (i := 9) (N := some 33) (v := ?_) (a' := ?_) #[true, true, true, true, false, true, true, true, true, true, false, false, false, false, false, false, false, false, false] rfl rfl (by kernel_rfl) (fun _ _ _ h => h) (Or.inl ⟨by rfl, ?_⟩) hHeld ?_ ?_
    rotate_left
    · rintro w' ⟨s0, s1⟩
      go_simp
      with_reducible rfl
    rotate_left
    · simp only [Act.put, List.setIfInBounds_toArray, List.set_cons_zero, List.set_cons_succ, i64_w, i32_w]
      rfl
    refine one_ (i := 4) (N := some 28) (Sh.m 10 9) rfl rfl (by kernel_rfl) (by decide) (fun K hK => ?_)
    refine goes_ Try.func14 (by kernel_rfl) rfl #[.pointer (some ⟨lb, 0, none⟩), .int .i64 x.f1, .slice A9 x.f2.length c9] (by rfl) rfl rfl (by (try simp only [List.map_toArray, List.map_cons, List.map_nil]); first | done | rfl) ?_
    with_reducible refine (st_ask0 x.f1 A9 c9 x.f2 HS.out.s HWF.out HBM.out (lent_C HIN.out).1 (lent_C HIN.out).2 HSS.out HFR.out).mono ?_
    rintro e W2 ⟨rfl, F6, hL, hF, hcg⟩
    refine ⟨_, rfl, ?_⟩
    obtain ⟨c1, c2⟩ := hHeld
    have HL6 := Aside0.mk hL; have HF6 := Aside0.mk hF; have HSZ6 := Aside0.mk hcg.size
    have HR6 := Aside0.mk (HS.out.r.chg hcg (fun k hk _ hm => HS.out.d k hm hk) (HS.out.hb.trans (hcg.below HS.out.hb.size HS.out.f)))
    have HN9 := Aside0.mk (show ∀ k, (Value.slice A9 (x.f2 ++ marksT).length c9).ownBlock = some k → k ∉ F6 ∧ ¬ G k ∧ k < W2.heap.size ∧ w0.heap.size ≤ k from fun k hk => ⟨fun hm => (hF k hm).elim (HNF.out k (HI0.out k hk)).1 (fun h => absurd (Kd.R_lt HIN.out k hk) (Nat.not_lt.2 h)), (HNF.out k (HI0.out k hk)).2, Nat.lt_of_lt_of_le (Kd.R_lt HIN.out k hk) hcg.size, Nat.le_trans HB00.out (HI0.out k hk)⟩)
    have nn_ := Aside0.mk (Kd.R_step HIN.out (fun k hk hlt => hcg.block k hlt (HNF.out k (HI0.out k hk.symm)).1)); clear HIN; have HIN := nn_; clear nn_
    have HX6 := Aside0.mk (HNF.out gx HGE.out)
    refine hK.out _ _ ⟨hcg.cell c1 HX6.out.1, hcg.cell c2 HX6.out.1⟩ (fun hHeld => ?_)
    clear hK K
    refine norm_ (a' := ?_) ?_ ?_
    rotate_left
    · show Act.put _ (some 28) _ = _
      simp only [Act.put, List.setIfInBounds_toArray, List.set_cons_zero, List.set_cons_succ, i64_w, i32_w]
      rfl
    refine one_ (i := 10) (N := some 34) (Sh.m 11 8) rfl rfl (by kernel_rfl) (by decide) (fun K hK => ?_)
    refine goes_ Try.func25 (by kernel_rfl) rfl #[.pointer (some ⟨rb, 0, none⟩), .int .i64 x.f1, .slice A x.f2.length c] (by rfl) rfl rfl (by (try simp only [List.map_toArray, List.map_cons, List.map_nil]); first | done | rfl) ?_
    with_reducible refine (rask_calls w0 rb G last L x.f1 A c x.f2 B _ HR6.out HS.out.n HS.out.bl HBM.out HLA.out (Kd.C_below HR.out HR6.out.hb) HC.out HFG.out).mono ?_
    rintro e W2 ⟨rfl, h2, hc2⟩
    refine ⟨_, rfl, ?_⟩
    obtain ⟨c1, c2⟩ := hHeld
    have HE := Aside0.mk (bo_ask HS.out HL6.out HF6.out h2 hc2 HSZ6.out (nd_ask' HS.out.n _ _ _) (bnd_ask HS.out.bl _ _ _))
    have HM9 := Aside0.mk (show ∀ k, (Value.slice A9 (x.f2 ++ marksT).length c9).ownBlock = some k → k ∉ F6 ∧ ¬ ((G k ∨ _ ≤ k) ∧ k < W2.heap.size) ∧ w0.heap.size ≤ k from fun k hk => ⟨(HN9.out k hk).1, fun hg => hg.1.elim (HN9.out k hk).2.1 (fun h => absurd (HN9.out k hk).2.2.1 (Nat.not_lt.2 h)), (HN9.out k hk).2.2.2⟩)
    have nn_ := Aside0.mk (Kd.R_step HIN.out (fun k hk hlt => hc2.block k hlt (HN9.out k hk.symm).2.1)); clear HIN; have HIN := nn_; clear nn_
    refine hK.out _ _ ⟨hc2.cell c1 HX6.out.2, hc2.cell c2 HX6.out.2⟩ (fun hHeld => ?_)
    clear hK K
    refine norm_ (a' := ?_) ?_ ?_
    rotate_left
    · show Act.put _ (some 34) _ = _
      simp only [Act.put, List.setIfInBounds_toArray, List.set_cons_zero, List.set_cons_succ, i64_w, i32_w]
      rfl
    refine pure_ (i := 11) (N := some 35) (v := ?_) (a' := ?_) (Sh.m 12 7) rfl rfl (by kernel_rfl) (fun _ _ _ h => h) (Or.inl ⟨by rfl, ?_⟩) ?_ ?_
    rotate_left
    · intro w'
      go_simp
      with_reducible rfl
    rotate_left
    · simp only [Act.put, List.setIfInBounds_toArray, List.set_cons_zero, List.set_cons_succ, i64_w, i32_w]
      rfl
    refine pure_ (i := 12) (N := some 36) (v := ?_) (a' := ?_) (Sh.m 13 6) rfl rfl (by kernel_rfl) (fun _ _ _ h => h) (Or.inl ⟨by rfl, ?_⟩) ?_ ?_
    rotate_left
    · intro w'
      go_simp
      with_reducible rfl
    rotate_left
    · simp only [Act.put, List.setIfInBounds_toArray, List.set_cons_zero, List.set_cons_succ, i64_w, i32_w]
      rfl
    refine pure_ (i := 13) (N := some 37) (v := ?_) (a' := ?_) (Sh.m 14 5) rfl rfl (by kernel_rfl) (fun _ _ _ h => h) (Or.inl ⟨by rfl, ?_⟩) ?_ ?_
    rotate_left
    · intro w'
      go_simp
      with_reducible rfl
    rotate_left
    · simp only [Act.put, List.setIfInBounds_toArray, List.set_cons_zero, List.set_cons_succ, i64_w, i32_w]
      rfl
    refine pure_ (i := 14) (N := some 38) (v := ?_) (a' := ?_) (Sh.m 15 4) rfl rfl (by kernel_rfl) (fun _ _ _ h => h) (Or.inl ⟨by rfl, ?_⟩) ?_ ?_
    rotate_left
    · intro w'
      go_simp
      with_reducible rfl
    rotate_left
    · simp only [Act.put, List.setIfInBounds_toArray, List.set_cons_zero, List.set_cons_succ, i64_w, i32_w]
      rfl
    refine take_ (i := 15) (N := some 39) (v := ?_) (a' := ?_) (Sh.m 16 3) rfl rfl (by kernel_rfl) (fun _ _ _ h => h) (Or.inl ⟨by rfl, ?_⟩) hHeld ?_ ?_
    rotate_left
    · rintro w' ⟨s0, s1⟩
      go_simp
      with_reducible rfl
    rotate_left
    · simp only [Act.put, List.setIfInBounds_toArray, List.set_cons_zero, List.set_cons_succ, i64_w, i32_w]
      rfl
    refine one_ (i := 16) (N := some 40) (Sh.m 17 2) rfl rfl (by kernel_rfl) (by decide) (fun K hK => ?_)
    refine goes_ Try.func26 (by kernel_rfl) rfl #[.slice A9 x.f2.length c9, .slice A x.f2.length c] (by rfl) rfl rfl (by (try simp only [List.map_toArray, List.map_cons, List.map_nil]); first | done | rfl) ?_
    with_reducible refine (storemankit_KeptTexts.calls (x.f2.length + 13) A9 c9 x.f2 (x.f2 ++ marksT) A c x.f2 true _ (Kd.R_reads' HIN.out).2.2 (Kd.R_reads' HIN.out).2.1 (lent_C HIN.out).1 (lent_C HIN.out).2 (Kd.C_below HR.out HE.out.hb) HC.out HKE.out rfl).mono ?_
    rintro e W2 ⟨rfl, hb⟩
    refine ⟨_, rfl, ?_⟩
    obtain ⟨c1, c2⟩ := hHeld
    have nn_ := Aside0.mk (HE.out.below hb); clear HE; have HE := nn_; clear nn_
    have nn_ := Aside0.mk (Kd.R_below HIN.out hb); clear HIN; have HIN := nn_; clear nn_
    refine hK.out _ _ ⟨pw_cell_below hb c1, pw_cell_below hb c2⟩ (fun hHeld => ?_)
    clear hK K
    refine norm_ (a' := ?_) ?_ ?_
    rotate_left
    · show Act.put _ (some 40) _ = _
      simp only [Act.put, List.setIfInBounds_toArray, List.set_cons_zero, List.set_cons_succ, i64_w, i32_w]
      rfl
    refine pure_ (i := 17) (N := some 41) (v := ?_) (a' := ?_) (Sh.m 18 1) rfl rfl (by kernel_rfl) (fun _ _ _ h => h) (Or.inl ⟨by rfl, ?_⟩) ?_ ?_
    rotate_left
    · intro w'
      go_simp
      with_reducible rfl
    rotate_left
    · simp only [Act.put, List.setIfInBounds_toArray, List.set_cons_zero, List.set_cons_succ, i64_w, i32_w]
      rfl
    refine pure_ (i := 18) (N := some 8) (v := ?_) (a' := ?_) (Sh.m 19 0) rfl rfl (by kernel_rfl) (fun _ _ _ h => h) (Or.inl ⟨by rfl, ?_⟩) ?_ ?_
    rotate_left
    · intro w'
      go_simp
      with_reducible rfl
    rotate_left
    · simp only [Act.put, List.setIfInBounds_toArray, List.set_cons_zero, List.set_cons_succ, i64_w, i32_w]
      rfl
    refine done_ (by kernel_rfl) ?_
    obtain ⟨c1, c2⟩ := hHeld
    go_wp2_with (first | (go_at_call 27; (with_reducible refine (over_calls A9 x.f2.length c9 _ _ (x.f2 ++ marksT) _ (by have h := HIN.out; rw [List.length_append, marksT_len] at h; exact h) HNL.out).mono ?_); rintro e W8 ⟨rfl, hc⟩; have HE8 := Aside0.mk (HE.out.chg hc (fun k ⟨ad, e, hk⟩ => HM9.out k (by rw [e, hk]; rfl))); clear hc))
    go_ret
    exact ⟨rfl, _, _, F6, _, HE8.out⟩
end Go.Proofs.Ytimlfdfmgajbnaa.PA
/-
What both locks tell is the same; the walk of the law LockLives: it returns true, whatever comes in.
-/
namespace Go.Proofs.Ytimlfdfmgajbnaa.PA
open Go.RowKit Go.Proofs.YtimlfdfmgajbnaaW.PrintWords Go.Proofs.YtimlfdfmgajbnaaW.PrintLast Go.Proofs.YtimlfdfmgajbnaaW.PrintMore
set_option linter.unusedVariables false
set_option linter.unusedSimpArgs false
theorem sameI_l0 (l : List Int) (hl : l.length ≤ 9223372036854775807) : ∀ n i, i + n = l.length → ∀ k, n < k → storemankit_SameLongs.l0 k l l (i : Int) = some true := by
  intro n
  induction n with
  | zero =>
    intro i hi k hk
    obtain ⟨k, rfl⟩ : ∃ j, k = j + 1 := ⟨k - 1, by omega⟩
    simp only [storemankit_SameLongs.l0]
    rw [if_neg (by omega)]
  | succ n ih =>
    intro i hi k hk
    obtain ⟨k, rfl⟩ : ∃ j, k = j + 1 := ⟨k - 1, by omega⟩
    simp only [storemankit_SameLongs.l0]
    rw [if_pos (by omega), if_pos (by omega), if_pos (by omega)]
    simp only [if_true]
    rw [wrapI (by omega) (by omega)]
    exact ih (i + 1) (by omega) k (by omega)
theorem sameI_calls (l : List Int) (A1 A2 : Option Addr) (c1 c2 : Nat) (w : World) (h1 : Kd.C (Kd.int .i64) w A1 l.length l) (g1 : l.length ≤ c1) (h2 : Kd.C (Kd.int .i64) w A2 l.length l) (g2 : l.length ≤ c2) :
    Calls Try.prog 22 #[.slice A1 l.length c1, .slice A2 l.length c2] w fun e w' => e = .returned (.bool true) ∧ Below w.heap.size w w' := by
  have hK : storemankit_SameLongs.f (l.length + 1) l l = some true := by
    unfold storemankit_SameLongs.f
    rw [if_pos rfl]
    exact sameI_l0 l (Kd.C_max h1) l.length 0 (by omega) _ (by omega)
  exact (storemankit_SameLongs.calls _ A1 c1 l A2 c2 l true w h1 g1 h2 g2 hK).mono fun e w' ⟨h, hd⟩ => ⟨h, hd.below⟩
theorem sameT_calls (l : List ByteArray) (A1 A2 : Option Addr) (c1 c2 : Nat) (w : World) (h1 : Kd.C Kd.string w A1 l.length l) (g1 : l.length ≤ c1) (h2 : Kd.C Kd.string w A2 l.length l) (g2 : l.length ≤ c2) :
    Calls Try.prog 21 #[.slice A1 l.length c1, .slice A2 l.length c2] w fun e w' => e = .returned (.bool true) ∧ Below w.heap.size w w' :=
  (storemankit_SameTexts.calls _ A1 c1 l A2 c2 l true w h1 g1 h2 g2 (sameBig l (Kd.C_max h1))).mono fun e w' ⟨h, hd⟩ => ⟨h, hd.below⟩
theorem round_same {L : List S79} {o1 o2 : List Int} (h1 : RoundL L o1) (h2 : RoundL L o2) : o1 = o2 := by
  rcases h1 with ⟨e1, n1⟩ | ⟨a, ha, ra, ma, pa, xa⟩
  · rcases h2 with ⟨e2, _⟩ | ⟨b, hb, rb, _⟩
    · rw [e1, e2]
    · exact absurd rb (n1 b hb)
  · rcases h2 with ⟨e2, n2⟩ | ⟨b, hb, rb, mb, pb, xb⟩
    · exact absurd ra (n2 a ha)
    · have : a = b := by
        rcases Int.lt_trichotomy a b with h | h | h
        · exact absurd ra (mb a ha h)
        · exact h
        · exact absurd rb (ma b hb h)
      subst this
      exact ris_ext pa pb (fun x => by rw [xa, xb])
set_option maxHeartbeats 16000000 in
set_option maxRecDepth 100000 in
theorem like_calls (w0 : World) (lb rb : Nat) (F : List Nat) (G : Nat → Prop) (last : Int) (L : List S79) (B : Nat) (id : Int) (w : World) (h : Bo w0 w lb rb F G last L B) (hB : B ≤ 90000) (hid : (Lit.int .i64 id).wf = true) :
    Calls Try.prog 12 #[.pointer (some ⟨lb, 0, none⟩), .pointer (some ⟨rb, 0, none⟩), .int .i64 id] w fun e w' => e = .returned (.bool true) ∧ Below w.heap.size w w' := by
  obtain ⟨A, c, hrd⟩ := h.r.rd
  have HS := Aside0.mk h.s; have HRD := Aside0.mk hrd; have HBM := Aside0.mk (show B ≤ 1000000 by omega); have HBL := Aside0.mk (bnd_up h.bl (show B ≤ 100000 by omega)); have HBL2 := Aside0.mk (bnd_up h.bl (show B ≤ 1000000 by omega)); have HID := Aside0.mk hid; have HND := Aside0.mk h.n; have HB := Aside0.mk (Below.refl w.heap.size w)
  clear h hrd hB hid
  go_enter Try.func12, Try.ntmps12
  go_wp2_with (first | (go_at_call 15; (with_reducible refine (st_holds id HS.out HID.out HBM.out).mono ?_); rintro e W1 ⟨v, rfl, hR, hb⟩; obtain ⟨A1, c1, ev⟩ := Kd.R_slice hR; subst ev; have HV1 := Aside0.mk (Kd.R_reads' hR).2.2; have HC1 := Aside0.mk (Kd.R_reads' hR).2.1; clear hR; have nn_ := Aside0.mk (HS.out.below hb); clear HS; have HS := nn_; clear nn_; have nn_ := Aside0.mk (HRD.out.below hb); clear HRD; have HRD := nn_; clear nn_; have nn_ := Aside0.mk (below_step HB.out hb); clear HB; have HB := nn_; clear nn_; clear hb) | (go_at_call 28; (with_reducible refine (rholds_calls rb A c last L id _ HRD.out HBL2.out).mono ?_); rintro e W2 ⟨v, rfl, hR, hb⟩; obtain ⟨A2, c2, ev⟩ := Kd.R_slice hR; subst ev; have HV2 := Aside0.mk (Kd.R_reads' hR).2.2; have HC2 := Aside0.mk (Kd.R_reads' hR).2.1; clear hR; have nn_ := Aside0.mk (HS.out.below hb); clear HS; have HS := nn_; clear nn_; have nn_ := Aside0.mk (HRD.out.below hb); clear HRD; have HRD := nn_; clear nn_; have nn_ := Aside0.mk (below_step HB.out hb); clear HB; have HB := nn_; clear nn_; have nn_ := Aside0.mk (Kd.C_below HV1.out hb); clear HV1; have HV1 := nn_; clear nn_; clear hb) | (go_at_call 21; (with_reducible refine (sameT_calls (holdsL L id) A1 A2 c1 c2 _ HV1.out HC1.out HV2.out HC2.out).mono ?_); rintro e W3 ⟨rfl, hb⟩; clear HV1 HV2; have nn_ := Aside0.mk (HS.out.below hb); clear HS; have HS := nn_; clear nn_; have nn_ := Aside0.mk (HRD.out.below hb); clear HRD; have HRD := nn_; clear nn_; have nn_ := Aside0.mk (below_step HB.out hb); clear HB; have HB := nn_; clear nn_; clear hb) | (go_at_call 16; (with_reducible refine (st_waits id HS.out HID.out HBM.out).mono ?_); rintro e W4 ⟨v, rfl, hR, hb⟩; obtain ⟨A3, c3, ev⟩ := Kd.R_slice hR; subst ev; have HV3 := Aside0.mk (Kd.R_reads' hR).2.2; have HC3 := Aside0.mk (Kd.R_reads' hR).2.1; clear hR; have nn_ := Aside0.mk (HS.out.below hb); clear HS; have HS := nn_; clear nn_; have nn_ := Aside0.mk (HRD.out.below hb); clear HRD; have HRD := nn_; clear nn_; have nn_ := Aside0.mk (below_step HB.out hb); clear HB; have HB := nn_; clear nn_; clear hb) | (go_at_call 29; (with_reducible refine (rwaits_calls rb A c last L id _ HRD.out HBL.out HND.out).mono ?_); rintro e W5 ⟨v, rfl, hR, hb⟩; obtain ⟨A4, c4, ev⟩ := Kd.R_slice hR; subst ev; have HV4 := Aside0.mk (Kd.R_reads' hR).2.2; have HC4 := Aside0.mk (Kd.R_reads' hR).2.1; clear hR; have nn_ := Aside0.mk (HS.out.below hb); clear HS; have HS := nn_; clear nn_; have nn_ := Aside0.mk (HRD.out.below hb); clear HRD; have HRD := nn_; clear nn_; have nn_ := Aside0.mk (below_step HB.out hb); clear HB; have HB := nn_; clear nn_; have nn_ := Aside0.mk (Kd.C_below HV3.out hb); clear HV3; have HV3 := nn_; clear nn_; clear hb) | (go_at_call 22; (with_reducible refine (sameI_calls (waitsL L id) A3 A4 c3 c4 _ HV3.out HC3.out HV4.out HC4.out).mono ?_); rintro e W6 ⟨rfl, hb⟩; clear HV3 HV4; have nn_ := Aside0.mk (HS.out.below hb); clear HS; have HS := nn_; clear nn_; have nn_ := Aside0.mk (HRD.out.below hb); clear HRD; have HRD := nn_; clear nn_; have nn_ := Aside0.mk (below_step HB.out hb); clear HB; have HB := nn_; clear nn_; clear hb) | (go_at_call 17; (with_reducible refine (st_round HS.out HBM.out).mono ?_); rintro e W7 ⟨v, out, rfl, hR, hro, hb⟩; have HRO := Aside0.mk hro; clear hro; obtain ⟨A5, c5, ev⟩ := Kd.R_slice hR; subst ev; have HV5 := Aside0.mk (Kd.R_reads' hR).2.2; have HC5 := Aside0.mk (Kd.R_reads' hR).2.1; clear hR; have nn_ := Aside0.mk (HS.out.below hb); clear HS; have HS := nn_; clear nn_; have nn_ := Aside0.mk (HRD.out.below hb); clear HRD; have HRD := nn_; clear nn_; have nn_ := Aside0.mk (below_step HB.out hb); clear HB; have HB := nn_; clear nn_; clear hb) | (go_at_call 30; (with_reducible refine (rround_calls rb A c last L _ HRD.out HBL.out HND.out).mono ?_); rintro e W8 ⟨v, out2, rfl, hR, hro, hb⟩; obtain rfl := round_same HRO.out hro; clear hro; obtain ⟨A6, c6, ev⟩ := Kd.R_slice hR; subst ev; have HV6 := Aside0.mk (Kd.R_reads' hR).2.2; have HC6 := Aside0.mk (Kd.R_reads' hR).2.1; clear hR; have nn_ := Aside0.mk (HS.out.below hb); clear HS; have HS := nn_; clear nn_; have nn_ := Aside0.mk (HRD.out.below hb); clear HRD; have HRD := nn_; clear nn_; have nn_ := Aside0.mk (below_step HB.out hb); clear HB; have HB := nn_; clear nn_; have nn_ := Aside0.mk (Kd.C_below HV5.out hb); clear HV5; have HV5 := nn_; clear nn_; clear hb) | (go_at_call 22; (with_reducible refine (sameI_calls out A5 A6 c5 c6 _ HV5.out HC5.out HV6.out HC6.out).mono ?_); rintro e W9 ⟨rfl, hb⟩; clear HV5 HV6; have nn_ := Aside0.mk (HS.out.below hb); clear HS; have HS := nn_; clear nn_; have nn_ := Aside0.mk (HRD.out.below hb); clear HRD; have HRD := nn_; clear nn_; have nn_ := Aside0.mk (below_step HB.out hb); clear HB; have HB := nn_; clear nn_; clear hb))
  go_ret
  exact ⟨rfl, HB.out⟩
theorem bo_new {w0 w1 w2 w3 : World} {lb rb : Nat} {F : List Nat} (hb : Below w0.heap.size w0 w2) (hL : LockSt w2 lb F 0 [] 0) (hF : ∀ k ∈ F, w1.heap.size ≤ k) (hs : w1.heap.size ≤ w2.heap.size) (hrb : rb = w2.heap.size) (hbox : w3.heap[rb]? = some (.cells #[.slice none 0 0, .int .i64 0] 30 (0, 0))) (hb3 : Below w2.heap.size w2 w3) (h01 : w0.heap.size ≤ w1.heap.size) :
    Bo w0 w3 lb rb F (fun k => k = rb) 0 [] 0 :=
  ⟨hL.below hb3, ⟨⟨_, hbox, Kd.R_nil _ _ _ _ _⟩, rfl, by rw [hrb]; exact hb.size, below_step hb hb3⟩, fun k hk e => by have := hL.lt k hk; omega, fun k hk => Nat.le_trans h01 (hF k hk), fun k e => by rw [e]; exact ⟨by rw [hrb]; exact hb.size, blk_lt hbox⟩, List.nodup_nil, ⟨Nat.le_refl _, fun x hx => by cases hx⟩⟩
/-- Both behind so many steps. -/
def SB (w wr : World) (lb rb : Nat) (m : List S34) (i : Int) : Prop := ∃ last L B F G, Bo w wr lb rb F G last L B ∧ (B : Int) ≤ i + namesIn (m.take i.toNat)
set_option maxHeartbeats 16000000 in
set_option maxRecDepth 100000 in
theorem LockLives_goes (A0 : Option Addr) (l : List S34) (c0 : Nat) (w : World) (hr0 : Kd.C k34 w A0 l.length l) (hc0 : l.length ≤ c0) (hg0 : l.length * 40 ≤ 140737488351232 ∧ ∀ x ∈ l, (Lit.int .i64 x.f0).wf = true ∧ (Lit.int .i64 x.f1).wf = true ∧ (List.length x.f2 * 16 ≤ 140737488351232 ∧ ∀ y ∈ x.f2, y.size ≤ 140737488351232)) :
    Calls Try.prog 3 #[.slice A0 l.length c0] w fun e W' => e = .returned (.bool true) ∧ Below w.heap.size w W' := by
  obtain ⟨m, hm⟩ : ∃ m, m = l.take 60 := ⟨_, rfl⟩
  have hml : m.length ≤ 60 := by rw [hm, List.length_take]; omega
  have hmC : Kd.C k34 w A0 m.length m := by
    by_cases h : l.length ≤ 60
    · rw [hm, List.take_of_length_le h]; exact hr0
    · rw [hm]; exact Kd.C_take hr0 (by omega)
  have hmc : m.length ≤ c0 := by rw [hm, List.length_take]; omega
  have hmg : ∀ x ∈ m, goodS x := fun x hx => hg0.2 x (by rw [hm] at hx; exact List.mem_of_mem_take hx)
  have hlc : (60 < l.length → m.length = 60) ∧ (¬ 60 < l.length → m.length = l.length) := by rw [hm, List.length_take]; omega
  have HR := Aside0.mk hmC; have HG := Aside0.mk hmg; have HC := Aside0.mk hmc; have HL := Aside0.mk hlc; have HC0 := Aside0.mk hc0; have HML := Aside0.mk hml
  clear hr0 hc0 hg0 hm hmC hmc hmg hlc
  have HB := Aside0.mk (Below.refl w.heap.size w)
  go_enter Try.func3, Try.ntmps3
  go_upto_if 9 with (fail)
  go_cut [0] (fun v0 wc => v0 = .slice A0 m.length c0 ∧ Aside0 (wc = w))
  case first =>
    by_cases hb : 60 < l.length
    · have h1 : decide ((60 : Int) < (l.length : Int)) = true := decide_eq_true (by omega)
      have e60 := HL.out.1 hb
      have hc60 : (60 : Int) ≤ (c0 : Int) := by have := HC0.out; omega
      go_wp2
      go_meet
      case rel => exact ⟨by rw [e60], ⟨rfl⟩⟩
    · have h1 : decide ((60 : Int) < (l.length : Int)) = false := decide_eq_false (by omega)
      have e60 := HL.out.2 hb
      go_wp2
      go_meet
      case rel => exact ⟨by rw [e60], ⟨rfl⟩⟩
  case rest =>
    obtain ⟨rfl, hwc⟩ := hcut
    have hw2 := hwc.out
    rw [hw2]
    clear hwc hw2 HL HC0
    obtain ⟨K, r, hgr, hgr2⟩ := great_ev m HML.out (fun x hx => by have := (HG.out x hx).2.2.1; omega) (fun x hx => (HG.out x hx).2.2.2)
    have HGR := Aside0.mk hgr
    clear hgr
    cases r with
    | true =>
      clear hgr2
      go_wp2_with (first | (go_at_call 8; (with_reducible refine (storemanlaw24_great.calls K A0 c0 m _ _ HR.out HC.out HGR.out).mono ?_); rintro e W2 ⟨rfl, hd⟩; have hb := hd.below; have nn_ := Aside0.mk (below_step HB.out hb); clear HB; have HB := nn_; clear nn_ hb hd) | (go_at_call 9; (with_reducible refine (awake_calls _).mono ?_); rintro e W9 ⟨rfl, hb⟩; have nn_ := Aside0.mk (below_step HB.out hb); clear HB; have HB := nn_; clear nn_ hb))
      go_ret
      exact ⟨rfl, HB.out⟩
    | false =>
      have HNM := Aside0.mk (hgr2 rfl)
      clear hgr2
      go_wp2_with (first | (go_at_call 8; (with_reducible refine (storemanlaw24_great.calls K A0 c0 m _ _ HR.out HC.out HGR.out).mono ?_); rintro e W2 ⟨rfl, hd⟩; have hb := hd.below; have nn_ := Aside0.mk (below_step HB.out hb); clear HB; have HB := nn_; clear nn_ hb hd) | (go_at_call 10; (with_reducible refine (st_new _).mono ?_); rintro e W3 ⟨lb, F0, rfl, hL, hb, hF⟩; have HS0 := Aside0.mk HB.out.size; have HLK := Aside0.mk hL; have HF0 := Aside0.mk hF; have HSZ := Aside0.mk hb.size; have nn_ := Aside0.mk (below_step HB.out hb); clear HB; have HB := nn_; clear nn_ hL hb hF) | ((with_reducible refine gate_dst (N := 17) rfl ?_); refine box_event ?hg (N := 17) ?hd (cs := #[.slice none 0 0, .int .i64 0]) (t := 30) ?hr ?_; (case hd => rfl); (case hg => rfl); (case hr => first | (go_simp; done) | (go_simp; rfl)); intro rb hrb W4 hbox hb; have HBO := Aside0.mk (bo_new HB.out HLK.out HF0.out HSZ.out hrb hbox hb HS0.out); clear HLK HF0 HB hbox hb hrb HSZ))
      clear HGR
      have HSB := Aside0.mk (show SB w W4 lb rb m 0 from ⟨0, [], 0, F0, _, HBO.out, by simp⟩)
      clear HBO
      have hlm : m.length ≤ 60 := HML.out
      go_loopw [5] (fun v5 wr => ∃ i : Nat, i ≤ m.length ∧ v5 = .int .i64 i ∧ Aside0 (SB w wr lb rb m i)) (fun v5 _ => m.length - (intOf v5).toNat)
      case atStart => exact ⟨0, Nat.zero_le _, rfl, HSB⟩
      case round =>
        clear HSB
        obtain ⟨i, hi, rfl, HSI⟩ := hrel
        obtain ⟨last, L, B, F, G, hbo, hbn⟩ := HSI.out
        have HBO := Aside0.mk hbo; have HBI := Aside0.mk hbn
        have HB1 := Aside0.mk (show B ≤ 2100 from SI.B (w := w) (wr := w) (lb := lb) hbn HNM.out (by have := HML.out; omega))
        clear hbo hbn HSI
        by_cases hl : i < m.length
        · have hd : decide ((i : Int) < (m.length : Int)) = true := decide_eq_true (by omega)
          have hd0 : decide (0 ≤ (i : Int)) = true := decide_eq_true (by omega)
          obtain ⟨ad, A2, c2, e2, x0, x1, x2, x3, x4⟩ := at_T34 HR.out (i : Int) (by omega) (by omega)
          cases e2
          rw [rd34 m i hl, Int.toNat_natCast] at x0 x1 x2
          rw [rd34 m i hl] at x3 x4
          obtain ⟨x, hxe⟩ : ∃ x, x = m[i] := ⟨_, rfl⟩
          rw [← hxe] at x0 x1 x2 x3 x4
          have HX3 := Aside0.mk x3; have HX4 := Aside0.mk x4; have HGX := Aside0.mk (show goodS x by rw [hxe]; exact HG.out _ (List.getElem_mem _)); have HXE := Aside0.mk hxe
          have HWF := Aside0.mk (show (Lit.int .i64 x.f1).wf = true from HGX.out.2.1)
          clear x3 x4 hxe
          have y0 := pw_cell_below HBO.out.hb x0; have y1 := pw_cell_below HBO.out.hb x1; have y2 := pw_cell_below HBO.out.hb x2
          have HNB := Aside0.mk (show ((B + 1 + x.f2.length : Nat) : Int) ≤ ((i + 1 : Nat) : Int) + namesIn (m.take (i + 1)) by have h1 := HBI.out; have h2 := names_step (m := m) (i := (i : Int)) (by omega) (by omega); rw [rd34 m i hl, ← HXE.out, Int.toNat_natCast, show ((i : Int) + 1).toNat = i + 1 by omega] at h2; rw [Int.toNat_natCast] at h1; omega)
          have HB9 := Aside0.mk (show B + x.f2.length ≤ 90000 by have := SI.B (w := w) (wr := w) (lb := lb) (m := m) (i := ((i + 1 : Nat) : Int)) (B := B + 1 + x.f2.length) (by rw [Int.toNat_natCast]; exact HNB.out) HNM.out (by have := HML.out; omega); omega)
          have HB8 := Aside0.mk (show B + 1 + x.f2.length ≤ 90000 by have := SI.B (w := w) (wr := w) (lb := lb) (m := m) (i := ((i + 1 : Nat) : Int)) (B := B + 1 + x.f2.length) (by rw [Int.toNat_natCast]; exact HNB.out) HNM.out (by have := HML.out; omega); omega)
          go_wp2_with (first | (go_at_call 11; (with_reducible refine (step_calls w lb rb F G last L B x A2 c2 _ HBO.out HB9.out HGX.out HX4.out HX3.out).mono ?_); rintro e W5 ⟨rfl, last', L', F', G', hbo⟩; have HB5 := Aside0.mk hbo; clear hbo; replace y0 := pw_cell_below HB5.out.hb x0; replace y1 := pw_cell_below HB5.out.hb x1; replace y2 := pw_cell_below HB5.out.hb x2) | (go_at_call 12; (with_reducible refine (like_calls w lb rb F' G' last' L' (B + 1 + x.f2.length) x.f1 _ HB5.out HB8.out HWF.out).mono ?_); rintro e W6 ⟨rfl, hb⟩; have HB6 := Aside0.mk (HB5.out.below hb); clear hb))
          go_roundw
          case rel => exact ⟨i + 1, by omega, by first | rfl | go_num, ⟨last', L', _, F', G', HB6.out, by rw [Int.toNat_natCast]; exact HNB.out⟩⟩
          case measure => simp [intOf]; omega
        · obtain hie : i = m.length := by omega
          have hd : decide ((i : Int) < (m.length : Int)) = false := decide_eq_false (by omega)
          clear hie
          go_wp2
          go_loopw [6] (fun v6 wr => ∃ j : Nat, j ≤ m.length ∧ v6 = .int .i64 j ∧ Aside0 (Bo w wr lb rb F G last L B)) (fun v6 _ => m.length - (intOf v6).toNat)
          case atStart => exact ⟨0, Nat.zero_le _, rfl, HBO⟩
          case round =>
            clear HBO hd
            obtain ⟨j, hj, rfl, HBO⟩ := hrel
            by_cases hl : j < m.length
            · have hd2 : decide ((j : Int) < (m.length : Int)) = true := decide_eq_true (by omega)
              have hd0 : decide (0 ≤ (j : Int)) = true := decide_eq_true (by omega)
              obtain ⟨ad, A2, c2, e2, x0, x1, x2, x3, x4⟩ := at_T34 HR.out (j : Int) (by omega) (by omega)
              cases e2
              rw [rd34 m j hl, Int.toNat_natCast] at x0 x1 x2
              rw [rd34 m j hl] at x3 x4
              obtain ⟨x, hxe⟩ : ∃ x, x = m[j] := ⟨_, rfl⟩
              rw [← hxe] at x0 x1 x2 x3 x4
              have HX3 := Aside0.mk x3; have HX4 := Aside0.mk x4; have HGX := Aside0.mk (show goodS x by rw [hxe]; exact HG.out _ (List.getElem_mem _)); have HXE := Aside0.mk hxe
              have HWF := Aside0.mk (show (Lit.int .i64 x.f1).wf = true from HGX.out.2.1)
              clear x3 x4 hxe
              have y0 := pw_cell_below HBO.out.hb x0; have y1 := pw_cell_below HBO.out.hb x1; have y2 := pw_cell_below HBO.out.hb x2
              have HB7 := Aside0.mk (show B ≤ 90000 by have := HB1.out; omega)
              go_wp2_with (first | (go_at_call 12; (with_reducible refine (like_calls w lb rb F G last L B x.f1 _ HBO.out HB7.out HWF.out).mono ?_); rintro e W6 ⟨rfl, hb⟩; have HB6 := Aside0.mk (HBO.out.below hb); clear hb))
              go_roundw
              case rel => exact ⟨j + 1, by omega, by first | rfl | go_num, HB6⟩
              case measure => simp [intOf]; omega
            · have hd2 : decide ((j : Int) < (m.length : Int)) = false := decide_eq_false (by omega)
              have HB := Aside0.mk HBO.out.hb
              go_wp2_with (first | (go_at_call 9; (with_reducible refine (awake_calls _).mono ?_); rintro e W9 ⟨rfl, hb⟩; have nn_ := Aside0.mk (below_step HB.out hb); clear HB; have HB := nn_; clear nn_ hb))
              go_ret
              exact ⟨rfl, HB.out⟩
end Go.Proofs.Ytimlfdfmgajbnaa.PA
/-
Steps told as texts: storemanlaw24.play returns true where each answer is the one that was written.
-/
namespace Go.Proofs.Ytimlfdfmgajbnaa.PA
open Go.RowKit Go.Proofs.YtimlfdfmgajbnaaW.PrintWords Go.Proofs.YtimlfdfmgajbnaaW.PrintLast Go.Proofs.YtimlfdfmgajbnaaW.PrintMore
set_option linter.unusedVariables false
set_option linter.unusedSimpArgs false
def numS (s : ByteArray) : Int := bt s 1 - 48
def letS (s : ByteArray) (n : Nat) : List ByteArray := (List.range n).map fun j => s.extract (2 + j) (2 + j + 1)
def opS (s : ByteArray) : Int := if bt s 0 = 33 then 0 else 1
def doOf (s : ByteArray) : S34 := ⟨opS s, numS s, letS s (s.size - 2)⟩
def runP : List S79 → Int → List ByteArray → Bool
  | _, _, [] => true
  | L, last, s :: ts => if bt s 0 = 33 then runP (freeL L (numS s)) last ts else decide ((askL L last (numS s) (letS s (s.size - 2))).2.2 = decide (bt s 0 = 43)) && runP (askL L last (numS s) (letS s (s.size - 2))).1 (askL L last (numS s) (letS s (s.size - 2))).2.1 ts
def okS (s : ByteArray) : Prop := (2 ≤ s.size ∧ s.size ≤ 50) ∧ 48 ≤ bt s 1 ∧ bt s 1 ≤ 57
theorem letS_snoc (s : ByteArray) (n : Nat) : letS s (n + 1) = letS s n ++ [s.extract (2 + n) (2 + n + 1)] := by unfold letS; rw [List.range_succ, List.map_append]; rfl
theorem letS_len (s : ByteArray) (n : Nat) : (letS s n).length = n := by unfold letS; simp
theorem bt_at (s : ByteArray) (i : Nat) (h : i < s.size) : (s[i].toNat : Int) = bt s (i : Int) := by
  unfold bt
  rw [dif_pos (by simpa using h)]
  simp
/-- The steps, and locks behind so many of them. -/
def SP (w wr : World) (lb : Nat) (A3 : Option Addr) (c3 : Nat) (ts : List ByteArray) (i : Nat) : Prop := ∃ last L B F, S1 w wr lb last L B F ∧ runP L last (ts.drop i) = true ∧ B ≤ 60 * i ∧ Kd.R k34 34 wr w.heap.size (fun k => ¬ k ∈ F) (.slice A3 ts.length c3) (ts.map doOf)
theorem wfS {s : ByteArray} (h : okS s) : (Lit.int .i64 (numS s)).wf = true := by
  have h1 : 0 ≤ numS s ∧ numS s ≤ 9 := by unfold numS; have := h.2; omega
  generalize numS s = n at h1
  have : n = 0 ∨ n = 1 ∨ n = 2 ∨ n = 3 ∨ n = 4 ∨ n = 5 ∨ n = 6 ∨ n = 7 ∨ n = 8 ∨ n = 9 := by omega
  rcases this with rfl | rfl | rfl | rfl | rfl | rfl | rfl | rfl | rfl | rfl <;> rfl
theorem letS_sz {s : ByteArray} (h : okS s) : ∀ y ∈ letS s (s.size - 2), y.size ≤ 9223372036854775807 := fun y hy => by
  unfold letS at hy
  obtain ⟨j, _, rfl⟩ := List.mem_map.1 hy
  rw [ByteArray.size_extract]
  have := h.1.2
  omega
theorem opS_wf (s : ByteArray) : (Lit.int .i64 (opS s)).wf = true := by unfold opS; split <;> rfl
theorem goods {ts : List ByteArray} (h : ∀ s ∈ ts, okS s) (hl : ts.length ≤ 60) : (ts.map doOf).length * 40 ≤ 140737488351232 ∧ ∀ x ∈ ts.map doOf, (Lit.int .i64 x.f0).wf = true ∧ (Lit.int .i64 x.f1).wf = true ∧ (List.length x.f2 * 16 ≤ 140737488351232 ∧ ∀ y ∈ x.f2, y.size ≤ 140737488351232) := by
  refine ⟨by rw [List.length_map]; omega, fun x hx => ?_⟩
  obtain ⟨s, hs, rfl⟩ := List.mem_map.1 hx
  have hk := h s hs
  refine ⟨opS_wf s, wfS hk, ?_, fun y hy => ?_⟩
  · show (letS s (s.size - 2)).length * 16 ≤ _
    rw [letS_len]
    have := hk.1.2
    omega
  · have hy2 : y ∈ letS s (s.size - 2) := hy
    unfold letS at hy2
    obtain ⟨j, _, rfl⟩ := List.mem_map.1 hy2
    rw [ByteArray.size_extract]
    have := hk.1.2
    omega
theorem run_ask {L : List S79} {last : Int} {s : ByteArray} {ts : List ByteArray} (h : runP L last (s :: ts) = true) (hne : ¬ bt s 0 = 33) : (askL L last (numS s) (letS s (s.size - 2))).2.2 = decide (bt s 0 = 43) ∧ runP (askL L last (numS s) (letS s (s.size - 2))).1 (askL L last (numS s) (letS s (s.size - 2))).2.1 ts = true := by
  unfold runP at h
  rw [if_neg hne, Bool.and_eq_true] at h
  exact ⟨of_decide_eq_true h.1, h.2⟩
theorem do_at {w : World} {base g n cap : Nat} {ok : Nat → Prop} {ts : List ByteArray} (h : Kd.R k34 34 w base ok (.slice (some ⟨g, 0, none⟩) n cap) (ts.map doOf)) {q : Nat} (hq : q < ts.length) :
    ∃ v2 A5 c5, w.cell? ⟨g, q * 3, none⟩ = some (.int .i64 (opS ts[q])) ∧ w.cell? ⟨g, q * 3 + 1, none⟩ = some (.int .i64 (numS ts[q])) ∧ w.cell? ⟨g, q * 3 + 2, none⟩ = some v2 ∧ v2 = .slice A5 (letS ts[q] (ts[q].size - 2)).length c5 ∧ Kd.R Kd.string 9 w base (fun k => ok k ∧ k ≠ g) (.slice A5 (letS ts[q] (ts[q].size - 2)).length c5) (letS ts[q] (ts[q].size - 2)) := by
  have hl : n = (ts.map doOf).length := (Kd.R_reads' h).1
  rw [List.length_map] at hl
  obtain ⟨c, hc, hM, hcell, _⟩ := Kd.R_elem h z34 (q : Int) (by omega) (by omega)
  rw [Int.toNat_natCast, List.getD_eq_getElem?_getD, List.getElem?_map, List.getElem?_eq_getElem hq] at hM
  rw [Int.toNat_natCast] at hcell
  obtain ⟨v2, rfl, r2⟩ := k34_openM hM
  obtain ⟨A5, c5, e⟩ := Kd.R_slice r2
  subst e
  exact ⟨_, A5, c5, hcell 0 _ rfl, hcell 1 _ rfl, hcell 2 _ rfl, rfl, r2⟩
abbrev zero34 : Value := .agg #[.int .i64 0, .int .i64 0, .slice none 0 0]
theorem info34 : (Try.prog.info? 34).map (fun i => (i.zero, i.size, i.bytes)) = some (some zero34, 3, 40) := by kernel_rfl
theorem mk34 (w : World) (base : Nat) (ok : Nat → Prop) (x : S34) {a b : Int} (h0 : x.f0 = a) (h1 : x.f1 = b) {v : Value} (h2 : Kd.R Kd.string 9 w base ok v x.f2) : k34.M w base ok x [.int .i64 a, .int .i64 b, v] := by
  subst h0 h1
  exact k34_mkM w base ok x h2
set_option maxHeartbeats 16000000 in
set_option maxRecDepth 100000 in
theorem play_calls (A : Option Addr) (c : Nat) (ts : List ByteArray) (w : World) (hr : Kd.C Kd.string w A ts.length ts) (hc : ts.length ≤ c) (hl : ts.length ≤ 60) (hok : ∀ s ∈ ts, okS s) (hrun : runP [] 0 ts = true) :
    Calls Try.prog 18 #[.slice A ts.length c] w fun e w' => e = .returned (.bool true) ∧ Below w.heap.size w w' := by
  have HR := Aside0.mk hr; have HC := Aside0.mk hc; have HOK := Aside0.mk hok; have HRUN := Aside0.mk hrun
  clear hr hc hok hrun
  go_enter Try.func18, Try.ntmps18
  go_wp2
  go_loopw [3, 4] (fun v3 v4 wr => ∃ i : Nat, i ≤ ts.length ∧ v4 = .int .i64 i ∧ Aside0 (Kd.R k34 34 wr w.heap.size (fun _ => True) v3 ((ts.take i).map doOf)) ∧ Aside0 (Below w.heap.size w wr)) (fun _ v4 _ => ts.length - (intOf v4).toNat)
  case atStart => exact ⟨0, Nat.zero_le _, rfl, ⟨Kd.R_nil _ _ _ _ _⟩, ⟨Below.refl _ _⟩⟩
  case round =>
    obtain ⟨i, hi, rfl, HO, HB⟩ := hrel
    by_cases hlt : i < ts.length
    · have hd : decide ((i : Int) < (ts.length : Int)) = true := decide_eq_true (by omega)
      have hd0 : decide (0 ≤ (i : Int)) = true := decide_eq_true (by omega)
      obtain ⟨ad, e0, y⟩ := Kd.at_string (Kd.C_below HR.out HB.out) (i : Int) (by omega) (by omega)
      cases e0
      rw [rdS ts i hlt, Int.toNat_natCast] at y
      obtain ⟨s, hse⟩ : ∃ s, s = ts[i] := ⟨_, rfl⟩
      rw [← hse] at y
      have HSK := Aside0.mk (show okS s by rw [hse]; exact HOK.out _ (List.getElem_mem _))
      have HSE := Aside0.mk hse
      clear hse
      have hs1 : 1 < s.size := HSK.out.1.1
      have hs0 : 0 < s.size := by omega
      have hsz : s.size ≤ 50 := HSK.out.1.2
      have hb1 := bt_at s 1 hs1
      have hb0 := bt_at s 0 hs0
      have h48 : 48 ≤ (s[1].toNat : Int) := by rw [hb1]; exact HSK.out.2.1
      have h57 : (s[1].toNat : Int) ≤ 57 := by rw [hb1]; exact HSK.out.2.2
      have hnum : (s[1].toNat : Int) - 48 = numS s := by rw [hb1]; rfl
      have HB0 := Aside0.mk hb0
      clear hb0 hb1
      have hcz : (s.size : Int) ≤ 50 := by omega
      have HSW := Aside0.mk HB.out.size
      go_wp2_with (first | ((with_reducible refine gate_dst (N := 6) rfl ?_); refine Mine.alloc_store ?hg (N := 6) ?hd (zs := [.int .i64 0, .int .i64 0, .slice none 0 0]) [.int .i64 1, .int .i64 (numS s), .slice none 0 0] (t := 34) ?hr ?hg2 ?hn2 rfl ?hr2 ?_; (case hd => rfl); (case hg => rfl); (case hg2 => rfl); (case hn2 => rfl); (case hr => first | (go_simp; done) | (go_simp; rfl)); (case hr2 => simp only [Mine.putAll]; first | (go_simp; done) | (go_simp; rfl)); intro gx hgx W1 hbox hb; have HBX := Aside0.mk hbox; have HGX := Aside0.mk (show wr.heap.size ≤ gx by rw [hgx]; exact Nat.le_refl _); have HO1 := Aside0.mk (Kd.R_mono (ok' := fun k => k < wr.heap.size) (Kd.R_below (Kd.R_bound HO.out) hb) (fun k hk => hk.2.2.1)); have HB1 := Aside0.mk (below_step HB.out hb); have HBr := Aside0.mk hb; clear hbox hb hgx HO HB))
      obtain ⟨WR, rfl⟩ : ∃ WR : World, WR = wr := ⟨_, rfl⟩
      go_loopw [7] (fun v7 wq => ∃ (k : Nat) (v : Value), 2 + k ≤ s.size ∧ v7 = .int .i64 ((2 + k : Nat) : Int) ∧ Aside0 (wq.heap[gx]? = some (.cells #[.int .i64 1, .int .i64 (numS s), v] 34 (0, 0))) ∧ Aside0 (Kd.R Kd.string 9 wq WR.heap.size (fun b => b ≠ gx) v (letS s k)) ∧ Aside0 (Kd.R k34 34 wq w.heap.size (fun b => b < WR.heap.size) u3 ((ts.take i).map doOf)) ∧ Aside0 (Below WR.heap.size WR wq) ∧ Aside0 (Below w.heap.size w wq)) (fun v7 _ => s.size - (intOf v7).toNat)
      case atStart => exact ⟨0, .slice none 0 0, by omega, rfl, HBX, ⟨Kd.R_nil _ _ _ _ _⟩, HO1, HBr, HB1⟩
      case round =>
        clear HBX HO1 HBr HB1
        obtain ⟨k, v, hk, rfl, HBX, HN, HO, HBr, HB⟩ := hrel
        obtain ⟨A9, c9, e9⟩ := Kd.R_slice HN.out
        subst e9
        rw [letS_len] at HBX HN
        obtain ⟨n, hn⟩ : ∃ n, n = 2 + k := ⟨_, rfl⟩
        rw [← hn]
        have HNE := Aside0.mk hn
        have hns : n ≤ s.size := by omega
        by_cases hkl : n < s.size
        · have hd3 : decide ((n : Int) < (s.size : Int)) = true := decide_eq_true (by omega)
          obtain ⟨m, hm⟩ : ∃ m, m = n + 1 := ⟨_, rfl⟩
          have hsum : IntKind.i64.wrap ((n : Int) + 1) = (m : Int) := by rw [IntWalk.i64_in _ (by omega)]; omega
          obtain ⟨q, hq⟩ : ∃ q, q = s.extract n m := ⟨_, rfl⟩
          have p1 : (0 ≤ (m : Int)) = True := eq_true (by omega)
          have p2 : ((m : Int) ≤ (s.size : Int)) = True := eq_true (by omega)
          have p3 : ((n : Int) ≤ (m : Int)) = True := eq_true (by omega)
          have p4 : (n ≤ m) = True := eq_true (by omega)
          have p5 : (m ≤ s.size) = True := eq_true (by omega)
          have hqe : s.extract n m = q := hq.symm
          have HTN := Aside0.mk (show letS s k ++ [q] = letS s (k + 1) by rw [letS_snoc, hq, hm, hn])
          have c2 : wr.cell? ⟨gx, 2, none⟩ = some (.slice A9 k c9) := (blk_cell HBX.out 2).trans rfl
          have HKS := Aside0.mk (show k ≤ 50 by omega)
          have HMN := Aside0.mk hm
          clear hq hn hk hm
          go_wp2
          refine start_ (n := 11) (S := (fun w' => w'.cell? ⟨gx, 2, none⟩ = some (.slice A9 k c9))) (ds := [10]) (Sh.m 0 11) (by kernel_rfl) rfl rfl c2 (fun hHeld => ?_)
          (have hb := below_drew1 (Below.refl wr.heap.size wr); have nn_ := Aside0.mk (blk_below HBX.out hb); clear HBX; have HBX := nn_; clear nn_; have nn_ := Aside0.mk (Kd.R_below HN.out hb); clear HN; have HN := nn_; clear nn_; have nn_ := Aside0.mk (Kd.R_below HO.out hb); clear HO; have HO := nn_; clear nn_; have nn_ := Aside0.mk (below_step HBr.out hb); clear HBr; have HBr := nn_; clear nn_; have nn_ := Aside0.mk (below_step HB.out hb); clear HB; have HB := nn_; clear nn_; clear c2 hb; generalize wr.drew = W1 at HBX HN HO HBr HB hHeld ⊢)
          refine pure_ (i := 0) (N := some 31) (v := ?_) (a' := ?_) (Sh.m 1 10) rfl rfl (by kernel_rfl) (fun _ _ _ h => h) (Or.inl ⟨by rfl, ?_⟩) ?_ ?_
          rotate_left
          · intro w'
            go_simp
            with_reducible rfl
          rotate_left
          · simp only [Act.put, List.setIfInBounds_toArray, List.set_cons_zero, List.set_cons_succ, i64_w, i32_w]
            rfl
          refine take_ (i := 1) (N := some 32) (v := ?_) (a' := ?_) (Sh.m 2 9) rfl rfl (by kernel_rfl) (fun _ _ _ h => h) (Or.inl ⟨by rfl, ?_⟩) hHeld ?_ ?_
          rotate_left
          · rintro w' s0
            go_simp
            with_reducible rfl
          rotate_left
          · simp only [Act.put, List.setIfInBounds_toArray, List.set_cons_zero, List.set_cons_succ, i64_w, i32_w]
            rfl
          refine pure_ (i := 2) (N := some 33) (v := ?_) (a' := ?_) (Sh.m 3 8) rfl rfl (by kernel_rfl) (fun _ _ _ h => h) (Or.inl ⟨by rfl, ?_⟩) ?_ ?_
          rotate_left
          · intro w'
            go_simp
            with_reducible rfl
          rotate_left
          · simp only [Act.put, List.setIfInBounds_toArray, List.set_cons_zero, List.set_cons_succ, i64_w, i32_w]
            rfl
          refine pure_ (i := 3) (N := some 34) (v := ?_) (a' := ?_) (Sh.m 4 7) rfl rfl (by kernel_rfl) (fun _ _ _ h => h) (Or.inl ⟨by rfl, ?_⟩) ?_ ?_
          rotate_left
          · intro w'
            go_simp
            with_reducible rfl
          rotate_left
          · simp only [Act.put, List.setIfInBounds_toArray, List.set_cons_zero, List.set_cons_succ, i64_w, i32_w]
            rfl
          refine pure_ (i := 4) (N := some 35) (v := ?_) (a' := ?_) (Sh.m 5 6) rfl rfl (by kernel_rfl) (fun _ _ _ h => h) (Or.inl ⟨by rfl, ?_⟩) ?_ ?_
          rotate_left
          · intro w'
            go_simp
            with_reducible rfl
          rotate_left
          · simp only [Act.put, List.setIfInBounds_toArray, List.set_cons_zero, List.set_cons_succ, i64_w, i32_w]
            rfl
          refine pure_ (i := 5) (N := some 36) (v := ?_) (a' := ?_) (Sh.m 6 5) rfl rfl (by kernel_rfl) (fun _ _ _ h => h) (Or.inl ⟨by rfl, ?_⟩) ?_ ?_
          rotate_left
          · intro w'
            go_simp
            with_reducible rfl
          rotate_left
          · simp only [Act.put, List.setIfInBounds_toArray, List.set_cons_zero, List.set_cons_succ, i64_w, i32_w]
            rfl
          refine pure_ (i := 6) (N := some 37) (v := ?_) (a' := ?_) (Sh.m 7 4) rfl rfl (by kernel_rfl) (fun _ _ _ h => h) (Or.inl ⟨by rfl, ?_⟩) ?_ ?_
          rotate_left
          · intro w'
            go_simp
            with_reducible rfl
          rotate_left
          · simp only [Act.put, List.setIfInBounds_toArray, List.set_cons_zero, List.set_cons_succ, i64_w, i32_w]
            rfl
          refine one_ (i := 7) (N := some 38) (Sh.m 8 3) rfl rfl (by kernel_rfl) (by decide) (fun K hK => ?_)
          refine event_step rfl (v := .slice (some ⟨W1.heap.size, 0, none⟩) 1 1) (w1 := W1.alloc (.cells #[.string q] 9 (0, 0))) ?hr ?_
          case hr => first | (go_simp; done) | (go_simp; rfl)
          refine hK.out _ _ (cell_keep hHeld (below_alloc (Below.refl _ _) _)) (fun hHeld => ?_)
          clear hK K
          refine norm_ (a' := ?_) ?_ ?_
          rotate_left
          · show Act.put _ (some 38) _ = _
            simp only [Act.put, List.setIfInBounds_toArray, List.set_cons_zero, List.set_cons_succ, i64_w, i32_w]
            rfl
          refine one_ (i := 8) (N := some 39) (Sh.m 9 2) rfl rfl (by kernel_rfl) (by decide) (fun K hK => ?_)
          have hHeld0 : W1.cell? ⟨gx, 2, none⟩ = some (.slice A9 k c9) := (blk_cell HBX.out 2).trans rfl
          refine Kd.R_append_step Kd.string (w0 := WR) WR.heap.size rfl (.tmp 32) (.tmp 38) 32 9 (.string ⟨#[]⟩) 16 rfl Try.underlying32 info9 rfl (by decide) (by omega) (.slice A9 k c9) (letS s k) q [.string q] (fun b => b ≠ gx) (fun _ => False) rfl rfl rfl (fun _ hk => hk.elim) (fun b hk e => absurd (blk_lt HBX.out) (Nat.not_lt.2 (by rw [← e]; exact hk))) HN.out HBr.out HBr.out.size (by have := HKS.out; rw [letS_len]; omega) ?_
          intro v3 W3 ho hb hg hat
          rw [HTN.out] at ho
          obtain ⟨D3, d3, e3⟩ := Kd.R_slice ho
          subst e3
          have HN3 := Aside0.mk ho; have HBr3 := Aside0.mk hb; have HBX3 := Aside0.mk (blk_grown HBX.out hg (fun e => HN.out.1 gx e.symm rfl)); have HO3 := Aside0.mk (Kd.R_grown HO.out hg (fun b hk e => absurd (Kd.R_base HN.out b e.symm) (Nat.not_le.2 hk))); have HB3 := Aside0.mk (HB.out.grown hg (below_size HB.out) (fun b e => Nat.le_trans HSW.out (Kd.R_base HN.out b e)))
          have k2 := (Chg.ofGrown (F := fun b => some b = (Value.slice A9 k c9).ownBlock) hg (fun b e => e)).cell hHeld0 (fun e => HN.out.1 gx e.symm rfl)
          clear ho hb hg hat
          refine hK.out _ _ k2 (fun hHeld => ?_)
          clear hK K
          refine norm_ (a' := ?_) ?_ ?_
          rotate_left
          · show Act.put _ (some 39) _ = _
            simp only [Act.put, List.setIfInBounds_toArray, List.set_cons_zero, List.set_cons_succ, i64_w, i32_w]
            rfl
          refine pure_ (i := 9) (N := some 40) (v := ?_) (a' := ?_) (Sh.m 10 1) rfl rfl (by kernel_rfl) (fun _ _ _ h => h) (Or.inl ⟨by rfl, ?_⟩) ?_ ?_
          rotate_left
          · intro w'
            go_simp
            with_reducible rfl
          rotate_left
          · simp only [Act.put, List.setIfInBounds_toArray, List.set_cons_zero, List.set_cons_succ, i64_w, i32_w]
            rfl
          refine last_ (i := 10) (N := none) (Sh.m 11 0) rfl rfl (by kernel_rfl) (by decide) (fun K hK => ?_)
          have c2 := (blk_cell HBX3.out 2).trans rfl
          have f2 := blk_frozen HBX3.out 2
          refine store_step rfl rfl (w1 := W3.setCell ⟨gx, 2, none⟩ (.slice D3 (letS s (k + 1)).length d3)) ?hr ?_
          case hr => first | (go_simp; done) | (go_simp; rfl)
          refine hK.out _ _ ?_
          clear hK K
          refine done_ (by kernel_rfl) ?_
          go_wp2
          go_roundw
          case rel => exact ⟨k + 1, _, by have := HNE.out; omega, intq (by have := HMN.out; have := HNE.out; omega), ⟨(blk_set HBX3.out 2 _).trans rfl⟩, ⟨Kd.R_far (p := ⟨gx, 2, none⟩) HN3.out (fun b hb => hb) _⟩, ⟨Kd.R_far (p := ⟨gx, 2, none⟩) HO3.out (fun b hb => Nat.ne_of_lt (Nat.lt_of_lt_of_le hb HGX.out)) _⟩, ⟨HBr3.out.setCell HGX.out _⟩, ⟨HB3.out.setCell (Nat.le_trans HSW.out HGX.out) _⟩⟩
          case measure => have := HMN.out; simp [intOf]; omega
        · have hd3 : decide ((n : Int) < (s.size : Int)) = false := decide_eq_false (by omega)
          obtain rfl : k = s.size - 2 := by omega
          have HTN := Aside0.mk (show (ts.take i).map doOf ++ [doOf s] = (ts.take (i + 1)).map doOf by rw [List.take_succ_eq_append_getElem hlt, List.map_append, HSE.out]; rfl)
          have HLE := Aside0.mk (show ((ts.take i).map doOf).length ≤ 60 by rw [List.length_map, List.length_take]; omega)
          have c0 := (blk_cell HBX.out 0).trans rfl; have c1 := (blk_cell HBX.out 1).trans rfl; have c2 := (blk_cell HBX.out 2).trans rfl; have f0 := blk_frozen HBX.out 0
          clear hn hk
          by_cases h33 : bt s 0 = 33
          · have h33b : ((s[0].toNat : Int) == 33) = true := by rw [HB0.out]; exact beq_iff_eq.2 h33
            have HNx := Aside0.mk (show Kd.R Kd.string 9 (wr.setCell ⟨gx, 0, none⟩ (.int .i64 0)) WR.heap.size (fun b => WR.heap.size ≤ b) (.slice A9 (s.size - 2) c9) (letS s (s.size - 2)) from Kd.R_mono (Kd.R_bound (Kd.R_far (p := ⟨gx, 0, none⟩) HN.out (fun b hb => hb) _)) (fun b hb => hb.2.1))
            have HOx := Aside0.mk (show Kd.R k34 34 (wr.setCell ⟨gx, 0, none⟩ (.int .i64 0)) w.heap.size (fun _ => True) u3 ((ts.take i).map doOf) from Kd.R_mono (Kd.R_far (p := ⟨gx, 0, none⟩) HO.out (fun b hb => Nat.ne_of_lt (Nat.lt_of_lt_of_le hb HGX.out)) _) (fun _ _ => trivial))
            have HKx := Aside0.mk (show ∀ b, WR.heap.size ≤ b → True ∧ some b ≠ u3.ownBlock from fun b hb => ⟨trivial, fun e => absurd (HO.out.1 b e.symm) (Nat.not_lt.2 hb)⟩)
            have HMx := Aside0.mk (mk34 (wr.setCell ⟨gx, 0, none⟩ (.int .i64 0)) w.heap.size (fun b => WR.heap.size ≤ b) (doOf s) (a := 0) (b := numS s) (show opS s = 0 from if_pos h33) rfl (Kd.R_lower HNx.out HSW.out))
            have HBx := Aside0.mk (show Below w.heap.size w (wr.setCell ⟨gx, 0, none⟩ (.int .i64 0)) from HB.out.setCell (Nat.le_trans HSW.out HGX.out) _)
            have HBXn := Aside0.mk ((blk_set HBX.out 0 (.int .i64 0)).trans rfl : (wr.setCell ⟨gx, 0, none⟩ (.int .i64 0)).heap[gx]? = some (.cells #[.int .i64 0, .int .i64 (numS s), .slice A9 (s.size - 2) c9] 34 (0, 0)))
            go_upto_region 13 with (fail)
            obtain ⟨WN, hWN⟩ : ∃ WN, WN = wr.setCell ⟨gx, 0, none⟩ (.int .i64 0) := ⟨_, rfl⟩
            rw [← hWN]
            rw [← hWN] at HNx HOx HMx HBx HBXn
            clear hWN c0 c1 c2 f0
            have c0 := (blk_cell HBXn.out 0).trans rfl; have c1 := (blk_cell HBXn.out 1).trans rfl; have c2 := (blk_cell HBXn.out 2).trans rfl
            go_wp2_with (first | ((with_reducible refine gate_builtin (b := .append) (xs := #[.tmp 45, .tmp 47]) rfl ?_); at_builtin; refine Kd.R_append k34 (w0 := w) w.heap.size rfl (.tmp 45) (.tmp 47) 22 34 zero34 40 rfl Try.underlying22 info34 rfl (by decide) (by decide) u3 ((ts.take i).map doOf) (doOf s) [.int .i64 0, .int .i64 (numS s), .slice A9 (s.size - 2) c9] (fun _ => True) (fun b => WR.heap.size ≤ b) rfl rfl HMx.out HKx.out (fun _ _ => trivial) HOx.out HBx.out HBx.out.size (by have := HLE.out; omega) ?_; intro v8 W8 ho hb hg hat; rw [HTN.out] at ho; have HO8 := Aside0.mk ho; have HB8 := Aside0.mk hb; clear ho hb hg hat))
            go_roundw
            case rel => exact ⟨i + 1, by omega, by first | rfl | go_num, HO8, HB8⟩
            case measure => simp [intOf]; omega
          · have h33b : ((s[0].toNat : Int) == 33) = false := by rw [HB0.out]; exact beq_eq_false_iff_ne.2 h33
            have HNx := Aside0.mk (show Kd.R Kd.string 9 wr WR.heap.size (fun b => WR.heap.size ≤ b) (.slice A9 (s.size - 2) c9) (letS s (s.size - 2)) from Kd.R_mono (Kd.R_bound (HN.out)) (fun b hb => hb.2.1))
            have HOx := Aside0.mk (show Kd.R k34 34 wr w.heap.size (fun _ => True) u3 ((ts.take i).map doOf) from Kd.R_mono (HO.out) (fun _ _ => trivial))
            have HKx := Aside0.mk (show ∀ b, WR.heap.size ≤ b → True ∧ some b ≠ u3.ownBlock from fun b hb => ⟨trivial, fun e => absurd (HO.out.1 b e.symm) (Nat.not_lt.2 hb)⟩)
            have HMx := Aside0.mk (mk34 wr w.heap.size (fun b => WR.heap.size ≤ b) (doOf s) (a := 1) (b := numS s) (show opS s = 1 from if_neg h33) rfl (Kd.R_lower HNx.out HSW.out))
            have HBx := Aside0.mk (show Below w.heap.size w wr from HB.out)
            go_wp2_with (first | ((with_reducible refine gate_builtin (b := .append) (xs := #[.tmp 45, .tmp 47]) rfl ?_); at_builtin; refine Kd.R_append k34 (w0 := w) w.heap.size rfl (.tmp 45) (.tmp 47) 22 34 zero34 40 rfl Try.underlying22 info34 rfl (by decide) (by decide) u3 ((ts.take i).map doOf) (doOf s) [.int .i64 1, .int .i64 (numS s), .slice A9 (s.size - 2) c9] (fun _ => True) (fun b => WR.heap.size ≤ b) rfl rfl HMx.out HKx.out (fun _ _ => trivial) HOx.out HBx.out HBx.out.size (by have := HLE.out; omega) ?_; intro v8 W8 ho hb hg hat; rw [HTN.out] at ho; have HO8 := Aside0.mk ho; have HB8 := Aside0.mk hb; clear ho hb hg hat))
            go_roundw
            case rel => exact ⟨i + 1, by omega, by first | rfl | go_num, HO8, HB8⟩
            case measure => simp [intOf]; omega
    · have hd : decide ((i : Int) < (ts.length : Int)) = false := decide_eq_false (by omega)
      have hdn : decide (i < ts.length) = false := decide_eq_false (by omega)
      have hge : (ts.length : Int) ≤ (i : Int) := by omega
      rw [show ts.take i = ts from List.take_of_length_le (by omega)] at HO
      obtain ⟨A3, c3, e3⟩ := Kd.R_slice HO.out
      subst e3
      rw [List.length_map] at HO ⊢
      clear hlt hi
      go_wp2_with (first | (go_at_call 10; (with_reducible refine (st_new _).mono ?_); rintro e W3 ⟨lb, F0, rfl, hL, hb, hF⟩; have HSP := Aside0.mk (show SP w W3 lb A3 c3 ts 0 from ⟨0, [], 0, F0, ⟨hL, below_step HB.out hb, fun k hk => Nat.le_trans HB.out.size (hF k hk)⟩, HRUN.out, Nat.le_refl _, Kd.R_mono (Kd.R_bound (Kd.R_below (Kd.R_bound HO.out) hb)) (fun k hk hm => absurd hk.1.2.2.1 (Nat.not_lt.2 (hF k hm)))⟩); clear hL hb hF HO HB))
      go_loopw [9] (fun v9 wr => ∃ i : Nat, i ≤ ts.length ∧ v9 = .int .i64 i ∧ Aside0 (SP w wr lb A3 c3 ts i)) (fun v9 _ => ts.length - (intOf v9).toNat)
      case atStart => exact ⟨0, Nat.zero_le _, rfl, HSP⟩
      case round =>
        clear HSP hd hdn hge
        obtain ⟨q, hq, rfl, HSP⟩ := hrel
        obtain ⟨last, L, B, F, hs, hrn, hbn, hst⟩ := HSP.out
        have HS := Aside0.mk hs; have HRN := Aside0.mk hrn; have HBN := Aside0.mk (show B ≤ 60 * 60 by have := hl; have : 60 * q ≤ 60 * 60 := Nat.mul_le_mul_left _ (by omega); omega); have HBQ := Aside0.mk hbn; have HST := Aside0.mk hst
        clear hs hrn hbn hst HSP
        by_cases hlt : q < ts.length
        · have hd : decide ((q : Int) < (ts.length : Int)) = true := decide_eq_true (by omega)
          have hd0 : decide (0 ≤ (q : Int)) = true := decide_eq_true (by omega)
          obtain ⟨g, cap, eg, _, _, _⟩ := Kd.R_form HST.out (by rw [List.length_map]; omega)
          injection eg with e1 e2 e3
          subst e1; subst e3; clear e2
          obtain ⟨v2, A5, c5, hf0, hf1, hf2, hv, hr2⟩ := do_at HST.out hlt
          subst hv
          obtain ⟨ad, e0, y⟩ := Kd.at_string (Kd.C_below HR.out HS.out.hb) (q : Int) (by omega) (by omega)
          cases e0
          rw [rdS ts q hlt, Int.toNat_natCast] at y
          obtain ⟨s, hse⟩ : ∃ s, s = ts[q] := ⟨_, rfl⟩
          rw [← hse] at y hf0 hf1 hf2 hr2
          have HSK := Aside0.mk (show okS s by rw [hse]; exact HOK.out _ (List.getElem_mem _))
          have HDR := Aside0.mk (show ts.drop q = s :: ts.drop (q + 1) by rw [hse]; exact List.drop_eq_getElem_cons hlt)
          clear hse
          have hs0 : 0 < s.size := by have := HSK.out.1.1; omega
          have hb0 := bt_at s 0 hs0
          have HB0 := Aside0.mk hb0
          have HN2 := Aside0.mk hr2
          have HWF := Aside0.mk (show (Lit.int .i64 (numS s)).wf = true from wfS HSK.out)
          have HLS := Aside0.mk (letS_len s (s.size - 2))
          clear hb0 hr2
          by_cases h33 : bt s 0 = 33
          · rw [show opS s = 0 from if_pos h33] at hf0
            have HRX := Aside0.mk (show runP (freeL L (numS s)) last (ts.drop (q + 1)) = true by have h := HRN.out; rw [HDR.out] at h; unfold runP at h; rw [if_pos h33] at h; exact h)
            clear h33
            go_wp2_with (first | (go_at_call 13; (with_reducible refine (st_free (numS s) HS.out.st HWF.out).mono ?_); rintro e W5 ⟨rfl, F5, hL, hF, hcg⟩; have HSP5 := Aside0.mk (show SP w W5 lb (some ⟨g, 0, none⟩) c3 ts (q + 1) from ⟨_, _, B, F5, HS.out.next (Below.refl _ _) hL (fun k hk => .inl (hF k hk)) hcg, HRX.out, Nat.le_trans HBQ.out (Nat.mul_le_mul_left _ (Nat.le_succ _)), Kd.R_mono (Kd.R_step HST.out (fun k hk hlt => hcg.block k hlt hk)) (fun k hk hm => hk (hF k hm))⟩); clear hL hF hcg))
            go_roundw
            case rel => exact ⟨q + 1, by omega, by first | rfl | go_num, HSP5⟩
            case measure => simp [intOf]; omega
          · rw [show opS s = 1 from if_neg h33] at hf0
            have HRX := Aside0.mk (run_ask (by have h := HRN.out; rw [HDR.out] at h; exact h) h33)
            obtain ⟨b, hb⟩ : ∃ b, b = ((s[0].toNat : Int) == 43) := ⟨_, rfl⟩
            have HBB := Aside0.mk (show (askL L last (numS s) (letS s (s.size - 2))).2.2 = b by rw [HRX.out.1, hb, HB0.out]; exact (Bool.eq_iff_iff.2 (by rw [decide_eq_true_eq, beq_iff_eq]; exact Iff.rfl)))
            have hb' := hb.symm
            clear h33 hb
            go_wp2
            refine start_ (n := 19) (S := (fun w' => w'.cell? ⟨g, q * 3 + 1, none⟩ = some (.int .i64 (numS s)) ∧ w'.cell? ⟨g, q * 3 + 2, none⟩ = some (.slice A5 (letS s (s.size - 2)).length c5) ∧ w'.cell? (ad.add q) = some (.string s))) (ds := []) (Sh.m 0 19) (by kernel_rfl) rfl rfl ⟨hf1, hf2, y⟩ (fun hHeld => ?_)
            (have hbd := below_drew1 (Below.refl wr.heap.size wr); have nn_ := Aside0.mk (HS.out.below hbd); clear HS; have HS := nn_; clear nn_; have nn_ := Aside0.mk (Kd.R_below HST.out hbd); clear HST; have HST := nn_; clear nn_; have nn_ := Aside0.mk (Kd.R_below HN2.out hbd); clear HN2; have HN2 := nn_; clear nn_; clear hf0 hf1 hf2 y hbd; generalize wr.drew = W1 at HS HST HN2 hHeld ⊢; have hp0 := st_ask0 (numS s) A5 c5 (letS s (s.size - 2)) HS.out.st HWF.out (by have := HBN.out; have := HLS.out; have := HSK.out.1.2; omega) (Kd.R_reads' HN2.out).2.2 (Kd.R_reads' HN2.out).2.1 (letS_sz HSK.out) (fun _ ad e hm => (HN2.out.1 ad.block (by subst e; rfl)).1 hm); rw [HBB.out] at hp0; have HP := Aside0.mk hp0; clear hp0; have HGF := Aside0.mk (show ¬ g ∈ F from HST.out.1 g rfl); have HYF := Aside0.mk (show ¬ (ad.add q).block ∈ F from fun hm => by rw [add_block] at hm; exact absurd (HS.out.hf _ hm) (Nat.not_le.2 (C_lt HR.out (by omega) ad rfl))))
            refine pure_ (i := 0) (N := some 69) (v := ?_) (a' := ?_) (Sh.m 1 18) rfl rfl (by kernel_rfl) (fun _ _ _ h => h) (Or.inl ⟨by rfl, ?_⟩) ?_ ?_
            rotate_left
            · intro w'
              go_simp
              with_reducible rfl
            rotate_left
            · simp only [Act.put, List.setIfInBounds_toArray, List.set_cons_zero, List.set_cons_succ, i64_w, i32_w]
              rfl
            refine pure_ (i := 1) (N := some 70) (v := ?_) (a' := ?_) (Sh.m 2 17) rfl rfl (by kernel_rfl) (fun _ _ _ h => h) (Or.inl ⟨by rfl, ?_⟩) ?_ ?_
            rotate_left
            · intro w'
              go_simp
              with_reducible rfl
            rotate_left
            · simp only [Act.put, List.setIfInBounds_toArray, List.set_cons_zero, List.set_cons_succ, i64_w, i32_w]
              rfl
            refine pure_ (i := 2) (N := some 71) (v := ?_) (a' := ?_) (Sh.m 3 16) rfl rfl (by kernel_rfl) (fun _ _ _ h => h) (Or.inl ⟨by rfl, ?_⟩) ?_ ?_
            rotate_left
            · intro w'
              go_simp
              with_reducible rfl
            rotate_left
            · simp only [Act.put, List.setIfInBounds_toArray, List.set_cons_zero, List.set_cons_succ, i64_w, i32_w]
              rfl
            refine pure_ (i := 3) (N := some 72) (v := ?_) (a' := ?_) (Sh.m 4 15) rfl rfl (by kernel_rfl) (fun _ _ _ h => h) (Or.inl ⟨by rfl, ?_⟩) ?_ ?_
            rotate_left
            · intro w'
              go_simp
              with_reducible rfl
            rotate_left
            · simp only [Act.put, List.setIfInBounds_toArray, List.set_cons_zero, List.set_cons_succ, i64_w, i32_w]
              rfl
            refine pure_ (i := 4) (N := some 73) (v := ?_) (a' := ?_) (Sh.m 5 14) rfl rfl (by kernel_rfl) (fun _ _ _ h => h) (Or.inl ⟨by rfl, ?_⟩) ?_ ?_
            rotate_left
            · intro w'
              go_simp
              with_reducible rfl
            rotate_left
            · simp only [Act.put, List.setIfInBounds_toArray, List.set_cons_zero, List.set_cons_succ, i64_w, i32_w]
              rfl
            refine take_ (i := 5) (N := some 74) (v := ?_) (a' := ?_) (Sh.m 6 13) rfl rfl (by kernel_rfl) (fun _ _ _ h => h) (Or.inl ⟨by rfl, ?_⟩) hHeld ?_ ?_
            rotate_left
            · rintro w' ⟨s0, s1, s2⟩
              go_simp
              with_reducible rfl
            rotate_left
            · simp only [Act.put, List.setIfInBounds_toArray, List.set_cons_zero, List.set_cons_succ, i64_w, i32_w]
              rfl
            refine pure_ (i := 6) (N := some 75) (v := ?_) (a' := ?_) (Sh.m 7 12) rfl rfl (by kernel_rfl) (fun _ _ _ h => h) (Or.inl ⟨by rfl, ?_⟩) ?_ ?_
            rotate_left
            · intro w'
              go_simp
              with_reducible rfl
            rotate_left
            · simp only [Act.put, List.setIfInBounds_toArray, List.set_cons_zero, List.set_cons_succ, i64_w, i32_w]
              rfl
            refine pure_ (i := 7) (N := some 76) (v := ?_) (a' := ?_) (Sh.m 8 11) rfl rfl (by kernel_rfl) (fun _ _ _ h => h) (Or.inl ⟨by rfl, ?_⟩) ?_ ?_
            rotate_left
            · intro w'
              go_simp
              with_reducible rfl
            rotate_left
            · simp only [Act.put, List.setIfInBounds_toArray, List.set_cons_zero, List.set_cons_succ, i64_w, i32_w]
              rfl
            refine pure_ (i := 8) (N := some 77) (v := ?_) (a' := ?_) (Sh.m 9 10) rfl rfl (by kernel_rfl) (fun _ _ _ h => h) (Or.inl ⟨by rfl, ?_⟩) ?_ ?_
            rotate_left
            · intro w'
              go_simp
              with_reducible rfl
            rotate_left
            · simp only [Act.put, List.setIfInBounds_toArray, List.set_cons_zero, List.set_cons_succ, i64_w, i32_w]
              rfl
            refine pure_ (i := 9) (N := some 78) (v := ?_) (a' := ?_) (Sh.m 10 9) rfl rfl (by kernel_rfl) (fun _ _ _ h => h) (Or.inl ⟨by rfl, ?_⟩) ?_ ?_
            rotate_left
            · intro w'
              go_simp
              with_reducible rfl
            rotate_left
            · simp only [Act.put, List.setIfInBounds_toArray, List.set_cons_zero, List.set_cons_succ, i64_w, i32_w]
              rfl
            refine take_ (i := 10) (N := some 79) (v := ?_) (a' := ?_) (Sh.m 11 8) rfl rfl (by kernel_rfl) (fun _ _ _ h => h) (Or.inl ⟨by rfl, ?_⟩) hHeld ?_ ?_
            rotate_left
            · rintro w' ⟨s0, s1, s2⟩
              go_simp
              with_reducible rfl
            rotate_left
            · simp only [Act.put, List.setIfInBounds_toArray, List.set_cons_zero, List.set_cons_succ, i64_w, i32_w]
              rfl
            refine pure_ (i := 12) (N := some 81) (v := ?_) (a' := ?_) #[true, true, true, true, true, true, true, true, true, true, true, false, true, false, false, false, false, false, false] rfl rfl (by kernel_rfl) (fun _ _ _ h => h) (Or.inl ⟨by rfl, ?_⟩) ?_ ?_
            rotate_left
            · intro w'
              go_simp
              with_reducible rfl
            rotate_left
            · simp only [Act.put, List.setIfInBounds_toArray, List.set_cons_zero, List.set_cons_succ, i64_w, i32_w]
              rfl
            refine pure_ (i := 13) (N := some 82) (v := ?_) (a' := ?_) #[true, true, true, true, true, true, true, true, true, true, true, false, true, true, false, false, false, false, false] rfl rfl (by kernel_rfl) (fun _ _ _ h => h) (Or.inl ⟨by rfl, ?_⟩) ?_ ?_
            rotate_left
            · intro w'
              go_simp
              with_reducible rfl
            rotate_left
            · simp only [Act.put, List.setIfInBounds_toArray, List.set_cons_zero, List.set_cons_succ, i64_w, i32_w]
              rfl
            refine pure_ (i := 14) (N := some 83) (v := ?_) (a' := ?_) #[true, true, true, true, true, true, true, true, true, true, true, false, true, true, true, false, false, false, false] rfl rfl (by kernel_rfl) (fun _ _ _ h => h) (Or.inl ⟨by rfl, ?_⟩) ?_ ?_
            rotate_left
            · intro w'
              go_simp
              with_reducible rfl
            rotate_left
            · simp only [Act.put, List.setIfInBounds_toArray, List.set_cons_zero, List.set_cons_succ, i64_w, i32_w]
              rfl
            refine take_ (i := 15) (N := some 84) (v := ?_) (a' := ?_) #[true, true, true, true, true, true, true, true, true, true, true, false, true, true, true, true, false, false, false] rfl rfl (by kernel_rfl) (fun _ _ _ h => h) (Or.inl ⟨by rfl, ?_⟩) hHeld ?_ ?_
            rotate_left
            · rintro w' ⟨s0, s1, s2⟩
              go_simp
              with_reducible rfl
            rotate_left
            · simp only [Act.put, List.setIfInBounds_toArray, List.set_cons_zero, List.set_cons_succ, i64_w, i32_w]
              rfl
            refine pure_ (i := 16) (N := some 85) (v := ?_) (a' := ?_) #[true, true, true, true, true, true, true, true, true, true, true, false, true, true, true, true, true, false, false] rfl rfl (by kernel_rfl) (fun _ _ _ h => h) (Or.inl ⟨by rfl, ?_⟩) ?_ ?_
            rotate_left
            · intro w'
              go_simp
              with_reducible rfl
            rotate_left
            · simp only [Act.put, List.setIfInBounds_toArray, List.set_cons_zero, List.set_cons_succ, i64_w, i32_w]
              rfl
            refine pure_ (i := 17) (N := some 86) (v := ?_) (a' := ?_) #[true, true, true, true, true, true, true, true, true, true, true, false, true, true, true, true, true, true, false] rfl rfl (by kernel_rfl) (fun _ _ _ h => h) (Or.inl ⟨by rfl, ?_⟩) ?_ ?_
            rotate_left
            · intro w'
              go_simp
              with_reducible rfl
            rotate_left
            · simp only [Act.put, List.setIfInBounds_toArray, List.set_cons_zero, List.set_cons_succ, i64_w, i32_w]
              rfl
            refine one_ (i := 11) (N := some 80) (Sh.m 18 1) rfl rfl (by kernel_rfl) (by decide) (fun K hK => ?_)
            refine goes_ Try.func14 (by kernel_rfl) rfl #[.pointer (some ⟨lb, 0, none⟩), .int .i64 (numS s), .slice A5 (letS s (s.size - 2)).length c5] (by rfl) rfl rfl (by (try simp only [List.map_toArray, List.map_cons, List.map_nil]); first | done | rfl) ?_
            with_reducible refine (HP.out).mono ?_
            rintro e W2 ⟨rfl, F5, hL, hF, hcg⟩
            refine ⟨_, rfl, ?_⟩
            obtain ⟨hf1, hf2, y⟩ := hHeld
            have HSP5 := Aside0.mk (show SP w W2 lb (some ⟨g, 0, none⟩) c3 ts (q + 1) from ⟨_, _, _, F5, HS.out.next (Below.refl _ _) hL hF hcg, HRX.out.2, by have h1 := HBQ.out; have h2 := HLS.out; have h3 := HSK.out.1.2; rw [Nat.mul_succ]; omega, Kd.R_mono (Kd.R_step (Kd.R_bound HST.out) (fun k hk hlt => hcg.block k hlt hk.1)) (fun k hk hm => (hF k hm).elim hk.1 (fun h => absurd hk.2.2.1 (Nat.not_lt.2 h)))⟩)
            refine hK.out _ _ ⟨hcg.cell hf1 HGF.out, hcg.cell hf2 HGF.out, hcg.cell y HYF.out⟩ (fun hHeld => ?_)
            clear hK K
            refine norm_ (a' := ?_) ?_ ?_
            rotate_left
            · show Act.put _ (some 80) _ = _
              simp only [Act.put, List.setIfInBounds_toArray, List.set_cons_zero, List.set_cons_succ, i64_w, i32_w]
              rfl
            refine pure_ (i := 18) (N := some 87) (v := ?_) (a' := ?_) (Sh.m 19 0) rfl rfl (by kernel_rfl) (fun _ _ _ h => h) (Or.inl ⟨by rfl, ?_⟩) ?_ ?_
            rotate_left
            · intro w'
              go_simp
              with_reducible rfl
            rotate_left
            · simp only [Act.put, List.setIfInBounds_toArray, List.set_cons_zero, List.set_cons_succ, i64_w, i32_w]
              rfl
            refine done_ (by kernel_rfl) ?_
            go_wp2
            go_roundw
            case rel => exact ⟨q + 1, by omega, by first | rfl | go_num, HSP5⟩
            case measure => simp [intOf]; omega
        · have hd : decide ((q : Int) < (ts.length : Int)) = false := decide_eq_false (by omega)
          have HCC := Aside0.mk (show (ts.map doOf).length ≤ c3 from (by have h := (Kd.R_reads' HST.out).2.1; rw [List.length_map]; exact h))
          have HGG := Aside0.mk (goods HOK.out hl)
          have hdn : decide (q < ts.length) = false := decide_eq_false (by omega)
          have hge : (ts.length : Int) ≤ (q : Int) := by omega
          clear hq hlt
          go_wp2_with (first | (go_at_call 3; have hp := LockLives_goes A3 (ts.map doOf) c3 _ (Kd.R_reads' HST.out).2.2 HCC.out HGG.out; rw [List.length_map] at hp; (with_reducible refine hp.mono ?_); rintro e W9 ⟨rfl, hb⟩; have HB9 := Aside0.mk (below_step HS.out.hb hb); clear hb hp))
          go_ret
          exact ⟨rfl, HB9.out⟩
end Go.Proofs.Ytimlfdfmgajbnaa.PA
/-
The walk of the law LockNumbers: it returns true.
-/
namespace Go.Proofs.Ytimlfdfmgajbnaa.PA
open Go.RowKit Go.Proofs.YtimlfdfmgajbnaaW.PrintWords Go.Proofs.YtimlfdfmgajbnaaW.PrintLast Go.Proofs.YtimlfdfmgajbnaaW.PrintMore
set_option linter.unusedVariables false
set_option linter.unusedSimpArgs false
def okB (s : ByteArray) : Bool := decide (2 ≤ s.size) && decide (s.size ≤ 50) && decide (48 ≤ bt s 1) && decide (bt s 1 ≤ 57)
theorem okB_all {ts : List ByteArray} (h : ts.all okB = true) : ∀ s ∈ ts, okS s := fun s hs => by
  have := List.all_eq_true.1 h s hs
  unfold okB at this
  simp only [Bool.and_eq_true, decide_eq_true_eq] at this
  exact ⟨⟨this.1.1.1, this.1.1.2⟩, this.1.2, this.2⟩
abbrev ts0 : List ByteArray := [⟨#[43, 49, 65]⟩, ⟨#[43, 49, 65]⟩, ⟨#[43, 49]⟩, ⟨#[43, 49, 65, 66]⟩, ⟨#[45, 50, 66]⟩, ⟨#[45, 50, 67]⟩, ⟨#[33, 49]⟩, ⟨#[43, 50]⟩, ⟨#[43, 50, 65]⟩]
theorem ok0 : ts0.all okB = true := by kernel_rfl
theorem run0 : runP [] 0 ts0 = true := by kernel_rfl
abbrev ts1 : List ByteArray := [⟨#[43, 49, 42]⟩, ⟨#[43, 49, 65]⟩, ⟨#[45, 50, 65]⟩, ⟨#[45, 51, 42]⟩, ⟨#[43, 49, 66]⟩, ⟨#[33, 49]⟩, ⟨#[45, 51]⟩, ⟨#[43, 50]⟩, ⟨#[45, 51]⟩, ⟨#[33, 50]⟩, ⟨#[43, 51]⟩]
theorem ok1 : ts1.all okB = true := by kernel_rfl
theorem run1 : runP [] 0 ts1 = true := by kernel_rfl
abbrev ts2 : List ByteArray := [⟨#[43, 49, 65]⟩, ⟨#[45, 50, 42]⟩, ⟨#[45, 51, 66]⟩, ⟨#[45, 49, 66]⟩, ⟨#[33, 49]⟩, ⟨#[45, 51]⟩, ⟨#[43, 50]⟩, ⟨#[33, 50]⟩, ⟨#[43, 51]⟩]
theorem ok2 : ts2.all okB = true := by kernel_rfl
theorem run2 : runP [] 0 ts2 = true := by kernel_rfl
abbrev ts3 : List ByteArray := [⟨#[43, 49, 65]⟩, ⟨#[43, 50, 66]⟩, ⟨#[43, 51, 67]⟩, ⟨#[45, 49, 66]⟩, ⟨#[45, 50, 67]⟩, ⟨#[45, 51, 65]⟩, ⟨#[45, 52, 65]⟩, ⟨#[45, 53, 68, 42]⟩, ⟨#[33, 51]⟩, ⟨#[43, 50, 68]⟩, ⟨#[33, 53]⟩, ⟨#[43, 50]⟩]
theorem ok3 : ts3.all okB = true := by kernel_rfl
theorem run3 : runP [] 0 ts3 = true := by kernel_rfl
abbrev ts4 : List ByteArray := [⟨#[43, 49, 65]⟩, ⟨#[43, 50, 66]⟩, ⟨#[45, 49, 66]⟩, ⟨#[45, 50, 65]⟩, ⟨#[43, 51, 67]⟩, ⟨#[43, 52, 68]⟩, ⟨#[45, 51, 68]⟩, ⟨#[45, 52, 67]⟩, ⟨#[33, 49]⟩, ⟨#[43, 50]⟩, ⟨#[33, 52]⟩, ⟨#[43, 51]⟩]
theorem ok4 : ts4.all okB = true := by kernel_rfl
theorem run4 : runP [] 0 ts4 = true := by kernel_rfl
abbrev ts5 : List ByteArray := [⟨#[43, 49, 65]⟩, ⟨#[45, 50, 65]⟩, ⟨#[45, 51, 65]⟩, ⟨#[33, 50]⟩, ⟨#[45, 50, 65]⟩, ⟨#[33, 49]⟩, ⟨#[45, 50]⟩, ⟨#[43, 51]⟩, ⟨#[33, 51]⟩, ⟨#[43, 50]⟩]
theorem ok5 : ts5.all okB = true := by kernel_rfl
theorem run5 : runP [] 0 ts5 = true := by kernel_rfl
abbrev ts6 : List ByteArray := [⟨#[43, 49, 65, 66, 67]⟩, ⟨#[43, 49, 42]⟩, ⟨#[45, 50, 68]⟩, ⟨#[33, 49]⟩, ⟨#[43, 50]⟩]
theorem ok6 : ts6.all okB = true := by kernel_rfl
theorem run6 : runP [] 0 ts6 = true := by kernel_rfl
set_option maxHeartbeats 16000000 in
set_option maxRecDepth 100000 in
theorem LockNumbers_goes (w : World) : Calls Try.prog 5 #[] w fun e W' => e = .returned (.bool true) ∧ Below w.heap.size w W' := by
  have HB := Aside0.mk (Below.refl w.heap.size w)
  go_enter Try.func5, Try.ntmps5
  go_wp2_with (first | (go_at_call 18; have hC : Kd.C Kd.string (w.alloc (.cells #[.string ⟨#[43, 49, 65]⟩, .string ⟨#[43, 49, 65]⟩, .string ⟨#[43, 49]⟩, .string ⟨#[43, 49, 65, 66]⟩, .string ⟨#[45, 50, 66]⟩, .string ⟨#[45, 50, 67]⟩, .string ⟨#[33, 49]⟩, .string ⟨#[43, 50]⟩, .string ⟨#[43, 50, 65]⟩] 9 (0, 0))) (some ⟨w.heap.size, 0, none⟩) 9 ts0 := lit_C w ts0 (by decide) (by decide); have hb0 := below_alloc (Below.refl w.heap.size w) (.cells #[.string ⟨#[43, 49, 65]⟩, .string ⟨#[43, 49, 65]⟩, .string ⟨#[43, 49]⟩, .string ⟨#[43, 49, 65, 66]⟩, .string ⟨#[45, 50, 66]⟩, .string ⟨#[45, 50, 67]⟩, .string ⟨#[33, 49]⟩, .string ⟨#[43, 50]⟩, .string ⟨#[43, 50, 65]⟩] 9 (0, 0)); have hp := play_calls (some ⟨w.heap.size, 0, none⟩) 9 ts0 _ hC (Nat.le_refl _) (by decide) (okB_all ok0) run0; simp only [ts0, List.length_cons, List.length_nil, Nat.reduceAdd, Nat.zero_add, Nat.add_zero] at hp; (with_reducible refine hp.mono ?_); rintro e W1 ⟨rfl, hb⟩; have nn_ := Aside0.mk (below_step (below_step HB.out hb0) hb); clear HB; have HB := nn_; clear nn_ hp hb hb0 hC) | (go_at_call 18; have hC : Kd.C Kd.string (W1.alloc (.cells #[.string ⟨#[43, 49, 42]⟩, .string ⟨#[43, 49, 65]⟩, .string ⟨#[45, 50, 65]⟩, .string ⟨#[45, 51, 42]⟩, .string ⟨#[43, 49, 66]⟩, .string ⟨#[33, 49]⟩, .string ⟨#[45, 51]⟩, .string ⟨#[43, 50]⟩, .string ⟨#[45, 51]⟩, .string ⟨#[33, 50]⟩, .string ⟨#[43, 51]⟩] 9 (0, 0))) (some ⟨W1.heap.size, 0, none⟩) 11 ts1 := lit_C W1 ts1 (by decide) (by decide); have hb0 := below_alloc (Below.refl W1.heap.size W1) (.cells #[.string ⟨#[43, 49, 42]⟩, .string ⟨#[43, 49, 65]⟩, .string ⟨#[45, 50, 65]⟩, .string ⟨#[45, 51, 42]⟩, .string ⟨#[43, 49, 66]⟩, .string ⟨#[33, 49]⟩, .string ⟨#[45, 51]⟩, .string ⟨#[43, 50]⟩, .string ⟨#[45, 51]⟩, .string ⟨#[33, 50]⟩, .string ⟨#[43, 51]⟩] 9 (0, 0)); have hp := play_calls (some ⟨W1.heap.size, 0, none⟩) 11 ts1 _ hC (Nat.le_refl _) (by decide) (okB_all ok1) run1; simp only [ts1, List.length_cons, List.length_nil, Nat.reduceAdd, Nat.zero_add, Nat.add_zero] at hp; (with_reducible refine hp.mono ?_); rintro e W2 ⟨rfl, hb⟩; have nn_ := Aside0.mk (below_step (below_step HB.out hb0) hb); clear HB; have HB := nn_; clear nn_ hp hb hb0 hC) | (go_at_call 18; have hC : Kd.C Kd.string (W2.alloc (.cells #[.string ⟨#[43, 49, 65]⟩, .string ⟨#[45, 50, 42]⟩, .string ⟨#[45, 51, 66]⟩, .string ⟨#[45, 49, 66]⟩, .string ⟨#[33, 49]⟩, .string ⟨#[45, 51]⟩, .string ⟨#[43, 50]⟩, .string ⟨#[33, 50]⟩, .string ⟨#[43, 51]⟩] 9 (0, 0))) (some ⟨W2.heap.size, 0, none⟩) 9 ts2 := lit_C W2 ts2 (by decide) (by decide); have hb0 := below_alloc (Below.refl W2.heap.size W2) (.cells #[.string ⟨#[43, 49, 65]⟩, .string ⟨#[45, 50, 42]⟩, .string ⟨#[45, 51, 66]⟩, .string ⟨#[45, 49, 66]⟩, .string ⟨#[33, 49]⟩, .string ⟨#[45, 51]⟩, .string ⟨#[43, 50]⟩, .string ⟨#[33, 50]⟩, .string ⟨#[43, 51]⟩] 9 (0, 0)); have hp := play_calls (some ⟨W2.heap.size, 0, none⟩) 9 ts2 _ hC (Nat.le_refl _) (by decide) (okB_all ok2) run2; simp only [ts2, List.length_cons, List.length_nil, Nat.reduceAdd, Nat.zero_add, Nat.add_zero] at hp; (with_reducible refine hp.mono ?_); rintro e W3 ⟨rfl, hb⟩; have nn_ := Aside0.mk (below_step (below_step HB.out hb0) hb); clear HB; have HB := nn_; clear nn_ hp hb hb0 hC) | (go_at_call 18; have hC : Kd.C Kd.string (W3.alloc (.cells #[.string ⟨#[43, 49, 65]⟩, .string ⟨#[43, 50, 66]⟩, .string ⟨#[43, 51, 67]⟩, .string ⟨#[45, 49, 66]⟩, .string ⟨#[45, 50, 67]⟩, .string ⟨#[45, 51, 65]⟩, .string ⟨#[45, 52, 65]⟩, .string ⟨#[45, 53, 68, 42]⟩, .string ⟨#[33, 51]⟩, .string ⟨#[43, 50, 68]⟩, .string ⟨#[33, 53]⟩, .string ⟨#[43, 50]⟩] 9 (0, 0))) (some ⟨W3.heap.size, 0, none⟩) 12 ts3 := lit_C W3 ts3 (by decide) (by decide); have hb0 := below_alloc (Below.refl W3.heap.size W3) (.cells #[.string ⟨#[43, 49, 65]⟩, .string ⟨#[43, 50, 66]⟩, .string ⟨#[43, 51, 67]⟩, .string ⟨#[45, 49, 66]⟩, .string ⟨#[45, 50, 67]⟩, .string ⟨#[45, 51, 65]⟩, .string ⟨#[45, 52, 65]⟩, .string ⟨#[45, 53, 68, 42]⟩, .string ⟨#[33, 51]⟩, .string ⟨#[43, 50, 68]⟩, .string ⟨#[33, 53]⟩, .string ⟨#[43, 50]⟩] 9 (0, 0)); have hp := play_calls (some ⟨W3.heap.size, 0, none⟩) 12 ts3 _ hC (Nat.le_refl _) (by decide) (okB_all ok3) run3; simp only [ts3, List.length_cons, List.length_nil, Nat.reduceAdd, Nat.zero_add, Nat.add_zero] at hp; (with_reducible refine hp.mono ?_); rintro e W4 ⟨rfl, hb⟩; have nn_ := Aside0.mk (below_step (below_step HB.out hb0) hb); clear HB; have HB := nn_; clear nn_ hp hb hb0 hC) | (go_at_call 18; have hC : Kd.C Kd.string (W4.alloc (.cells #[.string ⟨#[43, 49, 65]⟩, .string ⟨#[43, 50, 66]⟩, .string ⟨#[45, 49, 66]⟩, .string ⟨#[45, 50, 65]⟩, .string ⟨#[43, 51, 67]⟩, .string ⟨#[43, 52, 68]⟩, .string ⟨#[45, 51, 68]⟩, .string ⟨#[45, 52, 67]⟩, .string ⟨#[33, 49]⟩, .string ⟨#[43, 50]⟩, .string ⟨#[33, 52]⟩, .string ⟨#[43, 51]⟩] 9 (0, 0))) (some ⟨W4.heap.size, 0, none⟩) 12 ts4 := lit_C W4 ts4 (by decide) (by decide); have hb0 := below_alloc (Below.refl W4.heap.size W4) (.cells #[.string ⟨#[43, 49, 65]⟩, .string ⟨#[43, 50, 66]⟩, .string ⟨#[45, 49, 66]⟩, .string ⟨#[45, 50, 65]⟩, .string ⟨#[43, 51, 67]⟩, .string ⟨#[43, 52, 68]⟩, .string ⟨#[45, 51, 68]⟩, .string ⟨#[45, 52, 67]⟩, .string ⟨#[33, 49]⟩, .string ⟨#[43, 50]⟩, .string ⟨#[33, 52]⟩, .string ⟨#[43, 51]⟩] 9 (0, 0)); have hp := play_calls (some ⟨W4.heap.size, 0, none⟩) 12 ts4 _ hC (Nat.le_refl _) (by decide) (okB_all ok4) run4; simp only [ts4, List.length_cons, List.length_nil, Nat.reduceAdd, Nat.zero_add, Nat.add_zero] at hp; (with_reducible refine hp.mono ?_); rintro e W5 ⟨rfl, hb⟩; have nn_ := Aside0.mk (below_step (below_step HB.out hb0) hb); clear HB; have HB := nn_; clear nn_ hp hb hb0 hC) | (go_at_call 18; have hC : Kd.C Kd.string (W5.alloc (.cells #[.string ⟨#[43, 49, 65]⟩, .string ⟨#[45, 50, 65]⟩, .string ⟨#[45, 51, 65]⟩, .string ⟨#[33, 50]⟩, .string ⟨#[45, 50, 65]⟩, .string ⟨#[33, 49]⟩, .string ⟨#[45, 50]⟩, .string ⟨#[43, 51]⟩, .string ⟨#[33, 51]⟩, .string ⟨#[43, 50]⟩] 9 (0, 0))) (some ⟨W5.heap.size, 0, none⟩) 10 ts5 := lit_C W5 ts5 (by decide) (by decide); have hb0 := below_alloc (Below.refl W5.heap.size W5) (.cells #[.string ⟨#[43, 49, 65]⟩, .string ⟨#[45, 50, 65]⟩, .string ⟨#[45, 51, 65]⟩, .string ⟨#[33, 50]⟩, .string ⟨#[45, 50, 65]⟩, .string ⟨#[33, 49]⟩, .string ⟨#[45, 50]⟩, .string ⟨#[43, 51]⟩, .string ⟨#[33, 51]⟩, .string ⟨#[43, 50]⟩] 9 (0, 0)); have hp := play_calls (some ⟨W5.heap.size, 0, none⟩) 10 ts5 _ hC (Nat.le_refl _) (by decide) (okB_all ok5) run5; simp only [ts5, List.length_cons, List.length_nil, Nat.reduceAdd, Nat.zero_add, Nat.add_zero] at hp; (with_reducible refine hp.mono ?_); rintro e W6 ⟨rfl, hb⟩; have nn_ := Aside0.mk (below_step (below_step HB.out hb0) hb); clear HB; have HB := nn_; clear nn_ hp hb hb0 hC) | (go_at_call 18; have hC : Kd.C Kd.string (W6.alloc (.cells #[.string ⟨#[43, 49, 65, 66, 67]⟩, .string ⟨#[43, 49, 42]⟩, .string ⟨#[45, 50, 68]⟩, .string ⟨#[33, 49]⟩, .string ⟨#[43, 50]⟩] 9 (0, 0))) (some ⟨W6.heap.size, 0, none⟩) 5 ts6 := lit_C W6 ts6 (by decide) (by decide); have hb0 := below_alloc (Below.refl W6.heap.size W6) (.cells #[.string ⟨#[43, 49, 65, 66, 67]⟩, .string ⟨#[43, 49, 42]⟩, .string ⟨#[45, 50, 68]⟩, .string ⟨#[33, 49]⟩, .string ⟨#[43, 50]⟩] 9 (0, 0)); have hp := play_calls (some ⟨W6.heap.size, 0, none⟩) 5 ts6 _ hC (Nat.le_refl _) (by decide) (okB_all ok6) run6; simp only [ts6, List.length_cons, List.length_nil, Nat.reduceAdd, Nat.zero_add, Nat.add_zero] at hp; (with_reducible refine hp.mono ?_); rintro e W7 ⟨rfl, hb⟩; have nn_ := Aside0.mk (below_step (below_step HB.out hb0) hb); clear HB; have HB := nn_; clear nn_ hp hb hb0 hC) | (go_at_call 9; (with_reducible refine (awake_calls _).mono ?_); rintro e W9 ⟨rfl, hb⟩; have nn_ := Aside0.mk (below_step HB.out hb); clear HB; have HB := nn_; clear nn_ hb))
  go_ret
  exact ⟨rfl, HB.out⟩
end Go.Proofs.Ytimlfdfmgajbnaa.PA
