/-
Texts of this session for the law of L, laid into one file (part 4 of 4).
-/
import Derived.Test.YtimlfdfmgajbnaaWWords
import Derived.Test.YtimlfdfmgajbnaaWLast
import Derived.Test.YtimlfdfmgajbnaaWMore
import Derived.Test.YtimlfdfmgajbnaaProg
import Derived.Below
import Derived.Deep.Draws
import Derived.Deep.AppendLies
import Derived.Maps.AppendAt
import Derived.OwnWalk
import Derived.Laws.BytesArg
import Derived.Laws.MakeOwn
import Derived.Laws.OwnMore
import Derived.Deep.OwnRows
import Derived.Tactics
import Derived.Lib.ConvBytes
import Derived.Laws.Slices
import Derived.WalkKit
import Derived.KernelRfl
import Derived.RowKit3
import Derived.Deep.LoopGhost
import Derived.Deep.QuietTactic
import Derived.BigQuiet
import Derived.WideLaws
import Derived.Deep.DeepCutAuto
import Derived.Deep.CutBlock
import Derived.Deep.RegionHeld3
import Derived.Laws.Rows
import Derived.Lib.AppendStr
import Derived.ArgAppend
import Derived.Laws.IdiomCopy
import Derived.OrdersHeld
import Derived.Laws.BitsLemmas
import Derived.RowKit
import Derived.Test.YtimlfdfmgajbnaaWTab
import Derived.Test.YtimlfdfmgajbnaaWFour
import Derived.Test.YtimlfdfmgajbnaaWQPut
import Derived.Test.YtimlfdfmgajbnaaWApart
import Derived.Test.YtimlfdfmgajbnaaWArr
import Derived.Test.YtimlfdfmgajbnaaWZeros
import Derived.Test.YtimlfdfmgajbnaaWFoot
import Derived.Test.YtimlfdfmgajbnaaWKept
import Derived.Test.YtimlfdfmgajbnaaWShare
import Derived.Test.YtimlfdfmgajbnaaWN
import Derived.Test.YtimlfdfmgajbnaaWFootNe
import Derived.Test.YtimlfdfmgajbnaaWAt
import Derived.Test.YtimlfdfmgajbnaaWEqStruct
import Derived.Test.YtimlfdfmgajbnaaWRepsOne
import Derived.Test.YtimlfdfmgajbnaaWInv
import Derived.Test.YtimlfdfmgajbnaaWInvWords
import Derived.Test.YtimlfdfmgajbnaaWGuard
import Derived.Test.YtimlfdfmgajbnaaWNEv
import Derived.Maps.OwnSet
import Derived.Maps.RangeWalk
import Derived.Sort.KeysCollected
import Derived.LaidEqlPtr
import Derived.Lib.Builder
import Derived.Sort.OwnSortedInts
import Derived.Shelf.SortM.Plain
import Derived.Shelf.SortM.SortNone
import Derived.Laws.Pointers
import Derived.WalkSpells
import Derived.IntWalk
import Derived.Shelf.SlIter.Nil
import Derived.Shelf.SlIterI.Nil
import Derived.Sort.Walk0
import Derived.Lib.SlKeysI
import Derived.Laws.EntriesVeiled
import Derived.Test.YtimlfdfmgajbnaaML0
import Derived.Test.YtimlfdfmgajbnaaML1
import Derived.Test.YtimlfdfmgajbnaaML2
/-
Both locks side by side: a step turns them alike; what they tell is the same.
-/
namespace Go.Proofs.Ytimlfdfmgajbnaa.PA
open Go.RowKit Go.Proofs.YtimlfdfmgajbnaaW.PrintWords Go.Proofs.YtimlfdfmgajbnaaW.PrintLast Go.Proofs.YtimlfdfmgajbnaaW.PrintMore
set_option linter.unusedVariables false
set_option linter.unusedSimpArgs false
theorem LockSt.up {w : World} {lb : Nat} {F : List Nat} {last : Int} {L : List S79} {B B' : Nat} (h : LockSt w lb F last L B) (hb : B ≤ B') : LockSt w lb F last L B' := by
  obtain ⟨mb, mn, Q, hL, h1, h2, h3, h4, h5⟩ := h.at_
  exact ⟨⟨mb, mn, Q, hL, h1, by omega, fun x hx => by have := h3 x hx; omega, by omega, h5⟩, ⟨h.ok.h0, by have := h.ok.h1; omega, h.ok.t, h.ok.s⟩⟩
/-- The program's locks and the document's, of the same works. -/
structure Bo (w0 w : World) (lb rb : Nat) (F : List Nat) (G : Nat → Prop) (last : Int) (L : List S79) (B : Nat) : Prop where
  s : LockSt w lb F last L B
  r : RefSt w0 w rb G last L
  d : ∀ k ∈ F, ¬ G k
  f : ∀ k ∈ F, w0.heap.size ≤ k
  g : ∀ k, G k → w0.heap.size ≤ k ∧ k < w.heap.size
  n : (L.map (fun x => x.f0)).Nodup
  bl : BndL L B
section
variable {w0 w w' : World} {lb rb : Nat} {F : List Nat} {G : Nat → Prop} {last : Int} {L : List S79} {B : Nat}
theorem Bo.below (h : Bo w0 w lb rb F G last L B) (hb : Below w.heap.size w w') : Bo w0 w' lb rb F G last L B :=
  ⟨h.s.below hb, h.r.below hb, h.d, h.f, fun k hk => ⟨(h.g k hk).1, Nat.lt_of_lt_of_le (h.g k hk).2 hb.size⟩, h.n, h.bl⟩
theorem Bo.hb (h : Bo w0 w lb rb F G last L B) : Below w0.heap.size w0 w := h.r.hb
/-- Blocks that are neither's. -/
theorem Bo.chg (h : Bo w0 w lb rb F G last L B) {P : Nat → Prop} (hc : Chg P w w') (hp : ∀ k, P k → k ∉ F ∧ ¬ G k ∧ w0.heap.size ≤ k) : Bo w0 w' lb rb F G last L B :=
  ⟨h.s.chg hc (fun k hk q => (hp k q).1 hk), h.r.chg hc (fun k hk _ q => (hp k q).2.1 hk) (h.hb.trans (hc.below h.hb.size (fun k q => (hp k q).2.2))), h.d, h.f, fun k hk => ⟨(h.g k hk).1, Nat.lt_of_lt_of_le (h.g k hk).2 hc.size⟩, h.n, h.bl⟩
end
theorem nd_free' {L : List S79} (h : (L.map (fun x => x.f0)).Nodup) (id : Int) : ((freeL L id).map (fun x => x.f0)).Nodup := h.sublist (List.Sublist.map _ List.filter_sublist)
theorem nd_ask' {L : List S79} (h : (L.map (fun x => x.f0)).Nodup) (last id : Int) (ns : List ByteArray) : ((askL L last id ns).1.map (fun x => x.f0)).Nodup := by
  by_cases hk : keptL (withL L id) id (wantsS (getL L id).f1 (getL L id).f2 ns) (turnS last (getL L id)) = []
  · rw [askL_yes L last id ns rfl rfl hk, setL_ids]; exact withL_nodup h id
  · rw [askL_no L last id ns rfl rfl hk, setL_ids]; exact withL_nodup h id
theorem bnd_up {L : List S79} {B B' : Nat} (h : BndL L B) (hb : B ≤ B') : BndL L B' := ⟨Nat.le_trans h.1 hb, fun x hx => Nat.le_trans (h.2 x hx) hb⟩
theorem bo_free {w0 w w1 w2 : World} {lb rb : Nat} {F F1 : List Nat} {G : Nat → Prop} {last : Int} {L : List S79} {B : Nat} (h : Bo w0 w lb rb F G last L B) {id : Int} (h1 : LockSt w1 lb F1 last (freeL L id) B) (hf : ∀ k ∈ F1, k ∈ F) (hc1 : Chg (fun k => k ∈ F) w w1)
    (h2 : RefSt w0 w2 rb (fun k => G k ∨ w1.heap.size ≤ k) last (freeL L id)) (hc2 : Chg G w1 w2) : Bo w0 w2 lb rb F1 (fun k => (G k ∨ w1.heap.size ≤ k) ∧ k < w2.heap.size) last (freeL L id) B :=
  ⟨h1.chg hc2 (fun k hk => h.d k (hf k hk)), (h2.bound).mono (fun k hk => hk), fun k hk hg => hg.1.elim (h.d k (hf k hk)) (fun hg => absurd (h1.lt k hk) (Nat.not_lt.2 hg)), fun k hk => h.f k (hf k hk), fun k hk => ⟨hk.1.elim (fun hg => (h.g k hg).1) (fun hg => Nat.le_trans (Nat.le_trans h.hb.size hc1.size) hg), hk.2⟩, nd_free' h.n id, bnd_free h.bl id⟩
theorem bo_ask {w0 w w1 w2 : World} {lb rb : Nat} {F F1 : List Nat} {G : Nat → Prop} {last last' : Int} {L L' : List S79} {B B' : Nat} (h : Bo w0 w lb rb F G last L B) (h1 : LockSt w1 lb F1 last' L' B') (hf : ∀ k ∈ F1, k ∈ F ∨ w.heap.size ≤ k)
    (h2 : RefSt w0 w2 rb (fun k => G k ∨ w1.heap.size ≤ k) last' L') (hc2 : Chg G w1 w2) (hsz : w.heap.size ≤ w1.heap.size) (hn : (L'.map (fun x => x.f0)).Nodup) (hb : BndL L' B') : Bo w0 w2 lb rb F1 (fun k => (G k ∨ w1.heap.size ≤ k) ∧ k < w2.heap.size) last' L' B' :=
  have hd : ∀ k ∈ F1, ¬ G k := fun k hk hg => (hf k hk).elim (fun hm => h.d k hm hg) (fun hm => absurd (h.g k hg).2 (Nat.not_lt.2 hm))
  ⟨h1.chg hc2 hd, (h2.bound).mono (fun k hk => hk), fun k hk hg => hg.1.elim (hd k hk) (fun hg => absurd (h1.lt k hk) (Nat.not_lt.2 hg)), fun k hk => (hf k hk).elim (h.f k) (fun hm => Nat.le_trans h.hb.size hm), fun k hk => ⟨hk.1.elim (fun hg => (h.g k hg).1) (fun hg => Nat.le_trans (Nat.le_trans h.hb.size hsz) hg), hk.2⟩, hn, hb⟩
theorem lent_C {w : World} {base n c : Nat} {ok : Nat → Prop} {A : Option Addr} {l : List ByteArray} (h : Kd.R Kd.string 9 w base ok (.slice A n c) (l ++ marksT)) : Kd.C Kd.string w A l.length l ∧ l.length ≤ c := by
  obtain ⟨h1, h2, h3⟩ := Kd.R_reads' h
  have h4 := rr_take (m := l.length) h3 (by simp)
  rw [List.take_left] at h4
  rw [List.length_append] at h1
  exact ⟨h4, by omega⟩
def StepPost (w0 : World) (lb rb : Nat) (B : Nat) (e : Ending) (w' : World) : Prop := e = .returned (.bool true) ∧ ∃ last' L' F' G', Bo w0 w' lb rb F' G' last' L' B
set_option maxHeartbeats 16000000 in
set_option maxRecDepth 100000 in
theorem step_calls (w0 : World) (lb rb : Nat) (F : List Nat) (G : Nat → Prop) (last : Int) (L : List S79) (B : Nat) (x : S34) (A : Option Addr) (c : Nat) (w : World) (h : Bo w0 w lb rb F G last L B) (hB : B + x.f2.length ≤ 90000) (hg : goodS x) (hr : Kd.C Kd.string w0 A x.f2.length x.f2) (hc : x.f2.length ≤ c) :
    Calls Try.prog 11 #[.pointer (some ⟨lb, 0, none⟩), .pointer (some ⟨rb, 0, none⟩), .agg #[.int .i64 x.f0, .int .i64 x.f1, .slice A x.f2.length c]] w (StepPost w0 lb rb (B + 1 + x.f2.length)) := by
  have HB00 := Aside0.mk h.hb.size
  obtain ⟨r5, hr5, _, _⟩ := pick_ev x.f0 5 (by omega) (by omega)
  have HS := Aside0.mk h; have HBN := Aside0.mk hB; have HGX := Aside0.mk hg; have HR := Aside0.mk hr; have HC := Aside0.mk hc; have HR5 := Aside0.mk hr5; have HWF := Aside0.mk (show (Lit.int .i64 x.f1).wf = true from hg.2.1); have HSS := Aside0.mk (show ∀ s ∈ x.f2, s.size ≤ 9223372036854775807 from fun s hs => by have := hg.2.2.2 s hs; omega); have HB := Aside0.mk (Below.refl w.heap.size w)
  clear h hB hg hr hc hr5
  by_cases hf : r5 = 0
  · have hd5 : decide (r5 = 0) = true := decide_eq_true hf
    have hb5 : (r5 == 0) = true := by rw [hf]; rfl
    have HBM := Aside0.mk (show BndL L 100000 from ⟨by have := HS.out.bl.1; have := HBN.out; omega, fun y hy => by have := HS.out.bl.2 y hy; have := HBN.out; omega⟩)
    have HNF := Aside0.mk (show ∀ k, w.heap.size ≤ k → k ∉ F ∧ ¬ G k from fun k hk => ⟨fun hm => absurd (HS.out.s.lt k hm) (Nat.not_lt.2 hk), fun hm => absurd (HS.out.g k hm).2 (Nat.not_lt.2 hk)⟩)
    go_enter Try.func11, Try.ntmps11
    go_wp2_with (first | ((with_reducible refine gate_dst (N := 5) rfl ?_); refine box_event ?hg (N := 5) ?hd (cs := #[.int .i64 x.f0, .int .i64 x.f1, .slice A x.f2.length c]) (t := 34) ?hr ?_; (case hd => rfl); (case hg => rfl); (case hr => first | (go_simp; done) | (go_simp; rfl)); intro gx hgx W1 hbox hb; have HBX := Aside0.mk hbox; have HGE := Aside0.mk (show w.heap.size ≤ gx from by rw [hgx]; exact Nat.le_refl _); have nn_ := Aside0.mk (HS.out.below hb); clear HS; have HS := nn_; clear nn_; have c0 := (blk_cell HBX.out 0).trans rfl; have c1 := (blk_cell HBX.out 1).trans rfl; have c2 := (blk_cell HBX.out 2).trans rfl; clear hbox hb hgx) | (go_at_call 19; (with_reducible refine (storemankit_Pick.calls x.f0 5 r5 _ HR5.out).mono ?_); rintro e W2 ⟨rfl, hd⟩; have hb := hd.below; have nn_ := Aside0.mk (HS.out.below hb); clear HS; have HS := nn_; clear nn_; have nn_ := Aside0.mk (blk_below HBX.out hb); clear HBX; have HBX := nn_; clear nn_; clear c0 c1 c2; have c0 := (blk_cell HBX.out 0).trans rfl; have c1 := (blk_cell HBX.out 1).trans rfl; have c2 := (blk_cell HBX.out 2).trans rfl; clear hd hb) | (go_at_call 13; (with_reducible refine (st_free x.f1 HS.out.s HWF.out).mono ?_); rintro e W3 ⟨rfl, F3, hL, hF, hc⟩; have HL3 := Aside0.mk hL; have HF3 := Aside0.mk hF; have HC3 := Aside0.mk hc; have HR3 := Aside0.mk (HS.out.r.chg hc (fun k hk _ hm => HS.out.d k hm hk) (HS.out.hb.trans (hc.below HS.out.hb.size HS.out.f))); have HBX3 := Aside0.mk ((hc.block gx (blk_lt HBX.out) (HNF.out gx HGE.out).1).trans HBX.out); have c1 := (blk_cell HBX3.out 1).trans rfl; clear hL hF hc) | (go_at_call 23; (with_reducible refine (rfree_calls w0 rb G last L x.f1 _ HR3.out HBM.out HS.out.n).mono ?_); rintro e W4 ⟨rfl, h2, hc2⟩; have HE := Aside0.mk (bo_free HS.out HL3.out HF3.out HC3.out h2 hc2); clear h2 hc2))
    go_ret
    exact ⟨rfl, last, freeL L x.f1, F3, _, ⟨HE.out.s.up (by omega), HE.out.r, HE.out.d, HE.out.f, HE.out.g, HE.out.n, bnd_up HE.out.bl (by omega)⟩⟩
  · have hd5 : decide (r5 = 0) = false := decide_eq_false hf
    have hb5 : (r5 == 0) = false := beq_eq_false_iff_ne.2 hf
    have HLE := Aside0.mk (lentT_ev x.f2 (by have := HBN.out; omega))
    have HNF := Aside0.mk (show ∀ k, w.heap.size ≤ k → k ∉ F ∧ ¬ G k from fun k hk => ⟨fun hm => absurd (HS.out.s.lt k hm) (Nat.not_lt.2 hk), fun hm => absurd (HS.out.g k hm).2 (Nat.not_lt.2 hk)⟩)
    clear hf
    go_enter Try.func11, Try.ntmps11
    go_wp2_with (first | ((with_reducible refine gate_dst (N := 5) rfl ?_); refine box_event ?hg (N := 5) ?hd (cs := #[.int .i64 x.f0, .int .i64 x.f1, .slice A x.f2.length c]) (t := 34) ?hr ?_; (case hd => rfl); (case hg => rfl); (case hr => first | (go_simp; done) | (go_simp; rfl)); intro gx hgx W1 hbox hb; have HBX := Aside0.mk hbox; have HGE := Aside0.mk (show w.heap.size ≤ gx from by rw [hgx]; exact Nat.le_refl _); have nn_ := Aside0.mk (HS.out.below hb); clear HS; have HS := nn_; clear nn_; have c0 := (blk_cell HBX.out 0).trans rfl; have c1 := (blk_cell HBX.out 1).trans rfl; have c2 := (blk_cell HBX.out 2).trans rfl; have HSZ := Aside0.mk hb.size; clear hbox hb hgx) | (go_at_call 19; (with_reducible refine (storemankit_Pick.calls x.f0 5 r5 _ HR5.out).mono ?_); rintro e W2 ⟨rfl, hd⟩; have hb := hd.below; have nn_ := Aside0.mk (HS.out.below hb); clear HS; have HS := nn_; clear nn_; have nn_ := Aside0.mk (blk_below HBX.out hb); clear HBX; have HBX := nn_; clear nn_; clear c0 c1 c2; have c0 := (blk_cell HBX.out 0).trans rfl; have c1 := (blk_cell HBX.out 1).trans rfl; have c2 := (blk_cell HBX.out 2).trans rfl; have nn_ := Aside0.mk (Nat.le_trans HSZ.out hb.size); clear HSZ; have HSZ := nn_; clear nn_; clear hd hb) | (go_at_call 24; (with_reducible refine (storemankit_LentTexts.calls 13 A c x.f2 (x.f2 ++ marksT) _ (Kd.C_below HR.out HS.out.hb) HC.out HLE.out).mono ?_); rintro e W3 ⟨v0, rfl, hR, hb⟩; obtain ⟨A9, c9, e9⟩ := Kd.R_slice hR; subst e9; have HIN := Aside0.mk (Kd.R_tight rfl hR); have HI0 := Aside0.mk (show ∀ k, (Value.slice A9 (x.f2 ++ marksT).length c9).ownBlock = some k → w.heap.size ≤ k from fun k hk => Nat.le_trans HSZ.out (Kd.R_base hR k hk)); have nn_ := Aside0.mk (HS.out.below hb); clear HS; have HS := nn_; clear nn_; have nn_ := Aside0.mk (blk_below HBX.out hb); clear HBX; have HBX := nn_; clear nn_; clear c0 c1 c2; have c0 := (blk_cell HBX.out 0).trans rfl; have c1 := (blk_cell HBX.out 1).trans rfl; have c2 := (blk_cell HBX.out 2).trans rfl; clear hR hb; simp only [Mine.shorten]))
    have HBM := Aside0.mk (show B + x.f2.length ≤ 100000 by have := HBN.out; omega)
    have HNL := Aside0.mk (show x.f2.length ≤ 1000000 by have := HBN.out; omega)
    have HKE := Aside0.mk (keptT_ev x.f2 HNL.out)
    have HLA := Aside0.mk (show 0 ≤ last ∧ last ≤ 1000000 from ⟨HS.out.s.ok.h0, by have := HS.out.s.ok.h1; have := HBN.out; omega⟩)
    have HFR := Aside0.mk (show 0 < x.f2.length → ∀ ad, A9 = some ad → ad.block ∉ F from fun _ ad e hm => (HNF.out _ (HI0.out ad.block (by rw [e]; rfl))).1 hm)
    have HFG := Aside0.mk (show 0 < x.f2.length → ∀ ad, A = some ad → ¬ G ad.block from fun hp ad e hG => absurd (HS.out.g _ hG).1 (Nat.not_le.2 (C_lt HR.out hp ad e)))
    obtain ⟨b, hb⟩ : ∃ b, b = (askL L last x.f1 x.f2).2.2 := ⟨_, rfl⟩
    refine start_ (n := 19) (S := (fun w' => w'.cell? ⟨gx, 1, none⟩ = some (.int .i64 x.f1) ∧ w'.cell? ⟨gx, 2, none⟩ = some (.slice A x.f2.length c))) (ds := []) (Sh.m 0 19) (by kernel_rfl) rfl rfl ⟨c1, c2⟩ (fun hHeld => ?_)
    (have hb := below_drew1 (Below.refl W3.heap.size W3); have nn_ := Aside0.mk (HS.out.below hb); clear HS; have HS := nn_; clear nn_; have nn_ := Aside0.mk (Kd.R_below HIN.out hb); clear HIN; have HIN := nn_; clear nn_; have nn_ := Aside0.mk (blk_below HBX.out hb); clear HBX; have HBX := nn_; clear nn_; clear c0 c1 c2 hb HSZ; generalize W3.drew = W4 at HS HIN HBX hHeld ⊢)
    refine pure_ (i := 0) (N := some 24) (v := ?_) (a' := ?_) (Sh.m 1 18) rfl rfl (by kernel_rfl) (fun _ _ _ h => h) (Or.inl ⟨by rfl, ?_⟩) ?_ ?_
    rotate_left
    · intro w'
      go_simp
      with_reducible rfl
    rotate_left
    · simp only [Act.put, List.setIfInBounds_toArray, List.set_cons_zero, List.set_cons_succ, i64_w, i32_w]
      rfl
    refine pure_ (i := 1) (N := some 25) (v := ?_) (a' := ?_) (Sh.m 2 17) rfl rfl (by kernel_rfl) (fun _ _ _ h => h) (Or.inl ⟨by rfl, ?_⟩) ?_ ?_
    rotate_left
    · intro w'
      go_simp
      with_reducible rfl
    rotate_left
    · simp only [Act.put, List.setIfInBounds_toArray, List.set_cons_zero, List.set_cons_succ, i64_w, i32_w]
      rfl
    refine take_ (i := 2) (N := some 26) (v := ?_) (a' := ?_) (Sh.m 3 16) rfl rfl (by kernel_rfl) (fun _ _ _ h => h) (Or.inl ⟨by rfl, ?_⟩) hHeld ?_ ?_
    rotate_left
    · rintro w' ⟨s0, s1⟩
      go_simp
      with_reducible rfl
    rotate_left
    · simp only [Act.put, List.setIfInBounds_toArray, List.set_cons_zero, List.set_cons_succ, i64_w, i32_w]
      rfl
    refine pure_ (i := 3) (N := some 27) (v := ?_) (a' := ?_) (Sh.m 4 15) rfl rfl (by kernel_rfl) (fun _ _ _ h => h) (Or.inl ⟨by rfl, ?_⟩) ?_ ?_
    rotate_left
    · intro w'
      go_simp
      with_reducible rfl
    rotate_left
    · simp only [Act.put, List.setIfInBounds_toArray, List.set_cons_zero, List.set_cons_succ, i64_w, i32_w]
      rfl
    refine pure_ (i := 5) (N := some 29) (v := ?_) (a' := ?_) #[true, true, true, true, false, true, false, false, false, false, false, false, false, false, false, false, false, false, false] rfl rfl (by kernel_rfl) (fun _ _ _ h => h) (Or.inl ⟨by rfl, ?_⟩) ?_ ?_
    rotate_left
    · intro w'
      go_simp
      with_reducible rfl
    rotate_left
    · simp only [Act.put, List.setIfInBounds_toArray, List.set_cons_zero, List.set_cons_succ, i64_w, i32_w]
      rfl
    refine pure_ (i := 6) (N := some 30) (v := ?_) (a' := ?_) #[true, true, true, true, false, true, true, false, false, false, false, false, false, false, false, false, false, false, false] rfl rfl (by kernel_rfl) (fun _ _ _ h => h) (Or.inl ⟨by rfl, ?_⟩) ?_ ?_
    rotate_left
    · intro w'
      go_simp
      with_reducible rfl
    rotate_left
    · simp only [Act.put, List.setIfInBounds_toArray, List.set_cons_zero, List.set_cons_succ, i64_w, i32_w]
      rfl
    refine take_ (i := 7) (N := some 31) (v := ?_) (a' := ?_) #[true, true, true, true, false, true, true, true, false, false, false, false, false, false, false, false, false, false, false] rfl rfl (by kernel_rfl) (fun _ _ _ h => h) (Or.inl ⟨by rfl, ?_⟩) hHeld ?_ ?_
    rotate_left
    · rintro w' ⟨s0, s1⟩
      go_simp
      with_reducible rfl
    rotate_left
    · simp only [Act.put, List.setIfInBounds_toArray, List.set_cons_zero, List.set_cons_succ, i64_w, i32_w]
      rfl
    refine pure_ (i := 8) (N := some 32) (v := ?_) (a' := ?_) #[true, true, true, true, false, true, true, true, true, false, false, false, false, false, false, false, false, false, false] rfl rfl (by kernel_rfl) (fun _ _ _ h => h) (Or.inl ⟨by rfl, ?_⟩) ?_ ?_
    rotate_left
    · intro w'
      go_simp
      with_reducible rfl
    rotate_left
    · simp only [Act.put, List.setIfInBounds_toArray, List.set_cons_zero, List.set_cons_succ, i64_w, i32_w]
      rfl
    refine take_ (i := 9) (N := some 33) (v := ?_) (a' := ?_) #[true, true, true, true, false, true, true, true, true, true, false, false, false, false, false, false, false, false, false] rfl rfl (by kernel_rfl) (fun _ _ _ h => h) (Or.inl ⟨by rfl, ?_⟩) hHeld ?_ ?_
    rotate_left
    · rintro w' ⟨s0, s1⟩
      go_simp
      with_reducible rfl
    rotate_left
    · simp only [Act.put, List.setIfInBounds_toArray, List.set_cons_zero, List.set_cons_succ, i64_w, i32_w]
      rfl
    refine one_ (i := 4) (N := some 28) (Sh.m 10 9) rfl rfl (by kernel_rfl) (by decide) (fun K hK => ?_)
    refine goes_ Try.func14 (by kernel_rfl) rfl #[.pointer (some ⟨lb, 0, none⟩), .int .i64 x.f1, .slice A9 x.f2.length c9] (by rfl) rfl rfl (by (try simp only [List.map_toArray, List.map_cons, List.map_nil]); first | done | rfl) ?_
    with_reducible refine (st_ask0 x.f1 A9 c9 x.f2 HS.out.s HWF.out HBM.out (lent_C HIN.out).1 (lent_C HIN.out).2 HSS.out HFR.out).mono ?_
    rintro e W2 ⟨rfl, F6, hL, hF, hcg⟩
    refine ⟨_, rfl, ?_⟩
    obtain ⟨c1, c2⟩ := hHeld
    have HL6 := Aside0.mk hL; have HF6 := Aside0.mk hF; have HSZ6 := Aside0.mk hcg.size
    have HR6 := Aside0.mk (HS.out.r.chg hcg (fun k hk _ hm => HS.out.d k hm hk) (HS.out.hb.trans (hcg.below HS.out.hb.size HS.out.f)))
    have HN9 := Aside0.mk (show ∀ k, (Value.slice A9 (x.f2 ++ marksT).length c9).ownBlock = some k → k ∉ F6 ∧ ¬ G k ∧ k < W2.heap.size ∧ w0.heap.size ≤ k from fun k hk => ⟨fun hm => (hF k hm).elim (HNF.out k (HI0.out k hk)).1 (fun h => absurd (Kd.R_lt HIN.out k hk) (Nat.not_lt.2 h)), (HNF.out k (HI0.out k hk)).2, Nat.lt_of_lt_of_le (Kd.R_lt HIN.out k hk) hcg.size, Nat.le_trans HB00.out (HI0.out k hk)⟩)
    have nn_ := Aside0.mk (Kd.R_step HIN.out (fun k hk hlt => hcg.block k hlt (HNF.out k (HI0.out k hk.symm)).1)); clear HIN; have HIN := nn_; clear nn_
    have HX6 := Aside0.mk (HNF.out gx HGE.out)
    refine hK.out _ _ ⟨hcg.cell c1 HX6.out.1, hcg.cell c2 HX6.out.1⟩ (fun hHeld => ?_)
    clear hK K
    refine norm_ (a' := ?_) ?_ ?_
    rotate_left
    · show Act.put _ (some 28) _ = _
      simp only [Act.put, List.setIfInBounds_toArray, List.set_cons_zero, List.set_cons_succ, i64_w, i32_w]
      rfl
    refine one_ (i := 10) (N := some 34) (Sh.m 11 8) rfl rfl (by kernel_rfl) (by decide) (fun K hK => ?_)
    refine goes_ Try.func25 (by kernel_rfl) rfl #[.pointer (some ⟨rb, 0, none⟩), .int .i64 x.f1, .slice A x.f2.length c] (by rfl) rfl rfl (by (try simp only [List.map_toArray, List.map_cons, List.map_nil]); first | done | rfl) ?_
    with_reducible refine (rask_calls w0 rb G last L x.f1 A c x.f2 B _ HR6.out HS.out.n HS.out.bl HBM.out HLA.out (Kd.C_below HR.out HR6.out.hb) HC.out HFG.out).mono ?_
    rintro e W2 ⟨rfl, h2, hc2⟩
    refine ⟨_, rfl, ?_⟩
    obtain ⟨c1, c2⟩ := hHeld
    have HE := Aside0.mk (bo_ask HS.out HL6.out HF6.out h2 hc2 HSZ6.out (nd_ask' HS.out.n _ _ _) (bnd_ask HS.out.bl _ _ _))
    have HM9 := Aside0.mk (show ∀ k, (Value.slice A9 (x.f2 ++ marksT).length c9).ownBlock = some k → k ∉ F6 ∧ ¬ ((G k ∨ _ ≤ k) ∧ k < W2.heap.size) ∧ w0.heap.size ≤ k from fun k hk => ⟨(HN9.out k hk).1, fun hg => hg.1.elim (HN9.out k hk).2.1 (fun h => absurd (HN9.out k hk).2.2.1 (Nat.not_lt.2 h)), (HN9.out k hk).2.2.2⟩)
    have nn_ := Aside0.mk (Kd.R_step HIN.out (fun k hk hlt => hc2.block k hlt (HN9.out k hk.symm).2.1)); clear HIN; have HIN := nn_; clear nn_
    refine hK.out _ _ ⟨hc2.cell c1 HX6.out.2, hc2.cell c2 HX6.out.2⟩ (fun hHeld => ?_)
    clear hK K
    refine norm_ (a' := ?_) ?_ ?_
    rotate_left
    · show Act.put _ (some 34) _ = _
      simp only [Act.put, List.setIfInBounds_toArray, List.set_cons_zero, List.set_cons_succ, i64_w, i32_w]
      rfl
    refine pure_ (i := 11) (N := some 35) (v := ?_) (a' := ?_) (Sh.m 12 7) rfl rfl (by kernel_rfl) (fun _ _ _ h => h) (Or.inl ⟨by rfl, ?_⟩) ?_ ?_
    rotate_left
    · intro w'
      go_simp
      with_reducible rfl
    rotate_left
    · simp only [Act.put, List.setIfInBounds_toArray, List.set_cons_zero, List.set_cons_succ, i64_w, i32_w]
      rfl
    refine pure_ (i := 12) (N := some 36) (v := ?_) (a' := ?_) (Sh.m 13 6) rfl rfl (by kernel_rfl) (fun _ _ _ h => h) (Or.inl ⟨by rfl, ?_⟩) ?_ ?_
    rotate_left
    · intro w'
      go_simp
      with_reducible rfl
    rotate_left
    · simp only [Act.put, List.setIfInBounds_toArray, List.set_cons_zero, List.set_cons_succ, i64_w, i32_w]
      rfl
    refine pure_ (i := 13) (N := some 37) (v := ?_) (a' := ?_) (Sh.m 14 5) rfl rfl (by kernel_rfl) (fun _ _ _ h => h) (Or.inl ⟨by rfl, ?_⟩) ?_ ?_
    rotate_left
    · intro w'
      go_simp
      with_reducible rfl
    rotate_left
    · simp only [Act.put, List.setIfInBounds_toArray, List.set_cons_zero, List.set_cons_succ, i64_w, i32_w]
      rfl
    refine pure_ (i := 14) (N := some 38) (v := ?_) (a' := ?_) (Sh.m 15 4) rfl rfl (by kernel_rfl) (fun _ _ _ h => h) (Or.inl ⟨by rfl, ?_⟩) ?_ ?_
    rotate_left
    · intro w'
      go_simp
      with_reducible rfl
    rotate_left
    · simp only [Act.put, List.setIfInBounds_toArray, List.set_cons_zero, List.set_cons_succ, i64_w, i32_w]
      rfl
    refine take_ (i := 15) (N := some 39) (v := ?_) (a' := ?_) (Sh.m 16 3) rfl rfl (by kernel_rfl) (fun _ _ _ h => h) (Or.inl ⟨by rfl, ?_⟩) hHeld ?_ ?_
    rotate_left
    · rintro w' ⟨s0, s1⟩
      go_simp
      with_reducible rfl
    rotate_left
    · simp only [Act.put, List.setIfInBounds_toArray, List.set_cons_zero, List.set_cons_succ, i64_w, i32_w]
      rfl
    refine one_ (i := 16) (N := some 40) (Sh.m 17 2) rfl rfl (by kernel_rfl) (by decide) (fun K hK => ?_)
    refine goes_ Try.func26 (by kernel_rfl) rfl #[.slice A9 x.f2.length c9, .slice A x.f2.length c] (by rfl) rfl rfl (by (try simp only [List.map_toArray, List.map_cons, List.map_nil]); first | done | rfl) ?_
    with_reducible refine (storemankit_KeptTexts.calls (x.f2.length + 13) A9 c9 x.f2 (x.f2 ++ marksT) A c x.f2 true _ (Kd.R_reads' HIN.out).2.2 (Kd.R_reads' HIN.out).2.1 (lent_C HIN.out).1 (lent_C HIN.out).2 (Kd.C_below HR.out HE.out.hb) HC.out HKE.out rfl).mono ?_
    rintro e W2 ⟨rfl, hb⟩
    refine ⟨_, rfl, ?_⟩
    obtain ⟨c1, c2⟩ := hHeld
    have nn_ := Aside0.mk (HE.out.below hb); clear HE; have HE := nn_; clear nn_
    have nn_ := Aside0.mk (Kd.R_below HIN.out hb); clear HIN; have HIN := nn_; clear nn_
    refine hK.out _ _ ⟨pw_cell_below hb c1, pw_cell_below hb c2⟩ (fun hHeld => ?_)
    clear hK K
    refine norm_ (a' := ?_) ?_ ?_
    rotate_left
    · show Act.put _ (some 40) _ = _
      simp only [Act.put, List.setIfInBounds_toArray, List.set_cons_zero, List.set_cons_succ, i64_w, i32_w]
      rfl
    refine pure_ (i := 17) (N := some 41) (v := ?_) (a' := ?_) (Sh.m 18 1) rfl rfl (by kernel_rfl) (fun _ _ _ h => h) (Or.inl ⟨by rfl, ?_⟩) ?_ ?_
    rotate_left
    · intro w'
      go_simp
      with_reducible rfl
    rotate_left
    · simp only [Act.put, List.setIfInBounds_toArray, List.set_cons_zero, List.set_cons_succ, i64_w, i32_w]
      rfl
    refine pure_ (i := 18) (N := some 8) (v := ?_) (a' := ?_) (Sh.m 19 0) rfl rfl (by kernel_rfl) (fun _ _ _ h => h) (Or.inl ⟨by rfl, ?_⟩) ?_ ?_
    rotate_left
    · intro w'
      go_simp
      with_reducible rfl
    rotate_left
    · simp only [Act.put, List.setIfInBounds_toArray, List.set_cons_zero, List.set_cons_succ, i64_w, i32_w]
      rfl
    refine done_ (by kernel_rfl) ?_
    obtain ⟨c1, c2⟩ := hHeld
    go_wp2_with (first | (go_at_call 27; (with_reducible refine (over_calls A9 x.f2.length c9 _ _ (x.f2 ++ marksT) _ (by have h := HIN.out; rw [List.length_append, marksT_len] at h; exact h) HNL.out).mono ?_); rintro e W8 ⟨rfl, hc⟩; have HE8 := Aside0.mk (HE.out.chg hc (fun k ⟨ad, e, hk⟩ => HM9.out k (by rw [e, hk]; rfl))); clear hc))
    go_ret
    exact ⟨rfl, _, _, F6, _, HE8.out⟩
end Go.Proofs.Ytimlfdfmgajbnaa.PA
/-
What both locks tell is the same; the walk of the law LockLives: it returns true, whatever comes in.
-/
namespace Go.Proofs.Ytimlfdfmgajbnaa.PA
open Go.RowKit Go.Proofs.YtimlfdfmgajbnaaW.PrintWords Go.Proofs.YtimlfdfmgajbnaaW.PrintLast Go.Proofs.YtimlfdfmgajbnaaW.PrintMore
set_option linter.unusedVariables false
set_option linter.unusedSimpArgs false
theorem sameI_l0 (l : List Int) (hl : l.length ≤ 9223372036854775807) : ∀ n i, i + n = l.length → ∀ k, n < k → storemankit_SameLongs.l0 k l l (i : Int) = some true := by
  intro n
  induction n with
  | zero =>
    intro i hi k hk
    obtain ⟨k, rfl⟩ : ∃ j, k = j + 1 := ⟨k - 1, by omega⟩
    simp only [storemankit_SameLongs.l0]
    rw [if_neg (by omega)]
  | succ n ih =>
    intro i hi k hk
    obtain ⟨k, rfl⟩ : ∃ j, k = j + 1 := ⟨k - 1, by omega⟩
    simp only [storemankit_SameLongs.l0]
    rw [if_pos (by omega), if_pos (by omega), if_pos (by omega)]
    simp only [if_true]
    rw [wrapI (by omega) (by omega)]
    exact ih (i + 1) (by omega) k (by omega)
theorem sameI_calls (l : List Int) (A1 A2 : Option Addr) (c1 c2 : Nat) (w : World) (h1 : Kd.C (Kd.int .i64) w A1 l.length l) (g1 : l.length ≤ c1) (h2 : Kd.C (Kd.int .i64) w A2 l.length l) (g2 : l.length ≤ c2) :
    Calls Try.prog 22 #[.slice A1 l.length c1, .slice A2 l.length c2] w fun e w' => e = .returned (.bool true) ∧ Below w.heap.size w w' := by
  have hK : storemankit_SameLongs.f (l.length + 1) l l = some true := by
    unfold storemankit_SameLongs.f
    rw [if_pos rfl]
    exact sameI_l0 l (Kd.C_max h1) l.length 0 (by omega) _ (by omega)
  exact (storemankit_SameLongs.calls _ A1 c1 l A2 c2 l true w h1 g1 h2 g2 hK).mono fun e w' ⟨h, hd⟩ => ⟨h, hd.below⟩
theorem sameT_calls (l : List ByteArray) (A1 A2 : Option Addr) (c1 c2 : Nat) (w : World) (h1 : Kd.C Kd.string w A1 l.length l) (g1 : l.length ≤ c1) (h2 : Kd.C Kd.string w A2 l.length l) (g2 : l.length ≤ c2) :
    Calls Try.prog 21 #[.slice A1 l.length c1, .slice A2 l.length c2] w fun e w' => e = .returned (.bool true) ∧ Below w.heap.size w w' :=
  (storemankit_SameTexts.calls _ A1 c1 l A2 c2 l true w h1 g1 h2 g2 (sameBig l (Kd.C_max h1))).mono fun e w' ⟨h, hd⟩ => ⟨h, hd.below⟩
theorem round_same {L : List S79} {o1 o2 : List Int} (h1 : RoundL L o1) (h2 : RoundL L o2) : o1 = o2 := by
  rcases h1 with ⟨e1, n1⟩ | ⟨a, ha, ra, ma, pa, xa⟩
  · rcases h2 with ⟨e2, _⟩ | ⟨b, hb, rb, _⟩
    · rw [e1, e2]
    · exact absurd rb (n1 b hb)
  · rcases h2 with ⟨e2, n2⟩ | ⟨b, hb, rb, mb, pb, xb⟩
    · exact absurd ra (n2 a ha)
    · have : a = b := by
        rcases Int.lt_trichotomy a b with h | h | h
        · exact absurd ra (mb a ha h)
        · exact h
        · exact absurd rb (ma b hb h)
      subst this
      exact ris_ext pa pb (fun x => by rw [xa, xb])
set_option maxHeartbeats 16000000 in
set_option maxRecDepth 100000 in
theorem like_calls (w0 : World) (lb rb : Nat) (F : List Nat) (G : Nat → Prop) (last : Int) (L : List S79) (B : Nat) (id : Int) (w : World) (h : Bo w0 w lb rb F G last L B) (hB : B ≤ 90000) (hid : (Lit.int .i64 id).wf = true) :
    Calls Try.prog 12 #[.pointer (some ⟨lb, 0, none⟩), .pointer (some ⟨rb, 0, none⟩), .int .i64 id] w fun e w' => e = .returned (.bool true) ∧ Below w.heap.size w w' := by
  obtain ⟨A, c, hrd⟩ := h.r.rd
  have HS := Aside0.mk h.s; have HRD := Aside0.mk hrd; have HBM := Aside0.mk (show B ≤ 1000000 by omega); have HBL := Aside0.mk (bnd_up h.bl (show B ≤ 100000 by omega)); have HBL2 := Aside0.mk (bnd_up h.bl (show B ≤ 1000000 by omega)); have HID := Aside0.mk hid; have HND := Aside0.mk h.n; have HB := Aside0.mk (Below.refl w.heap.size w)
  clear h hrd hB hid
  go_enter Try.func12, Try.ntmps12
  go_wp2_with (first | (go_at_call 15; (with_reducible refine (st_holds id HS.out HID.out HBM.out).mono ?_); rintro e W1 ⟨v, rfl, hR, hb⟩; obtain ⟨A1, c1, ev⟩ := Kd.R_slice hR; subst ev; have HV1 := Aside0.mk (Kd.R_reads' hR).2.2; have HC1 := Aside0.mk (Kd.R_reads' hR).2.1; clear hR; have nn_ := Aside0.mk (HS.out.below hb); clear HS; have HS := nn_; clear nn_; have nn_ := Aside0.mk (HRD.out.below hb); clear HRD; have HRD := nn_; clear nn_; have nn_ := Aside0.mk (below_step HB.out hb); clear HB; have HB := nn_; clear nn_; clear hb) | (go_at_call 28; (with_reducible refine (rholds_calls rb A c last L id _ HRD.out HBL2.out).mono ?_); rintro e W2 ⟨v, rfl, hR, hb⟩; obtain ⟨A2, c2, ev⟩ := Kd.R_slice hR; subst ev; have HV2 := Aside0.mk (Kd.R_reads' hR).2.2; have HC2 := Aside0.mk (Kd.R_reads' hR).2.1; clear hR; have nn_ := Aside0.mk (HS.out.below hb); clear HS; have HS := nn_; clear nn_; have nn_ := Aside0.mk (HRD.out.below hb); clear HRD; have HRD := nn_; clear nn_; have nn_ := Aside0.mk (below_step HB.out hb); clear HB; have HB := nn_; clear nn_; have nn_ := Aside0.mk (Kd.C_below HV1.out hb); clear HV1; have HV1 := nn_; clear nn_; clear hb) | (go_at_call 21; (with_reducible refine (sameT_calls (holdsL L id) A1 A2 c1 c2 _ HV1.out HC1.out HV2.out HC2.out).mono ?_); rintro e W3 ⟨rfl, hb⟩; clear HV1 HV2; have nn_ := Aside0.mk (HS.out.below hb); clear HS; have HS := nn_; clear nn_; have nn_ := Aside0.mk (HRD.out.below hb); clear HRD; have HRD := nn_; clear nn_; have nn_ := Aside0.mk (below_step HB.out hb); clear HB; have HB := nn_; clear nn_; clear hb) | (go_at_call 16; (with_reducible refine (st_waits id HS.out HID.out HBM.out).mono ?_); rintro e W4 ⟨v, rfl, hR, hb⟩; obtain ⟨A3, c3, ev⟩ := Kd.R_slice hR; subst ev; have HV3 := Aside0.mk (Kd.R_reads' hR).2.2; have HC3 := Aside0.mk (Kd.R_reads' hR).2.1; clear hR; have nn_ := Aside0.mk (HS.out.below hb); clear HS; have HS := nn_; clear nn_; have nn_ := Aside0.mk (HRD.out.below hb); clear HRD; have HRD := nn_; clear nn_; have nn_ := Aside0.mk (below_step HB.out hb); clear HB; have HB := nn_; clear nn_; clear hb) | (go_at_call 29; (with_reducible refine (rwaits_calls rb A c last L id _ HRD.out HBL.out HND.out).mono ?_); rintro e W5 ⟨v, rfl, hR, hb⟩; obtain ⟨A4, c4, ev⟩ := Kd.R_slice hR; subst ev; have HV4 := Aside0.mk (Kd.R_reads' hR).2.2; have HC4 := Aside0.mk (Kd.R_reads' hR).2.1; clear hR; have nn_ := Aside0.mk (HS.out.below hb); clear HS; have HS := nn_; clear nn_; have nn_ := Aside0.mk (HRD.out.below hb); clear HRD; have HRD := nn_; clear nn_; have nn_ := Aside0.mk (below_step HB.out hb); clear HB; have HB := nn_; clear nn_; have nn_ := Aside0.mk (Kd.C_below HV3.out hb); clear HV3; have HV3 := nn_; clear nn_; clear hb) | (go_at_call 22; (with_reducible refine (sameI_calls (waitsL L id) A3 A4 c3 c4 _ HV3.out HC3.out HV4.out HC4.out).mono ?_); rintro e W6 ⟨rfl, hb⟩; clear HV3 HV4; have nn_ := Aside0.mk (HS.out.below hb); clear HS; have HS := nn_; clear nn_; have nn_ := Aside0.mk (HRD.out.below hb); clear HRD; have HRD := nn_; clear nn_; have nn_ := Aside0.mk (below_step HB.out hb); clear HB; have HB := nn_; clear nn_; clear hb) | (go_at_call 17; (with_reducible refine (st_round HS.out HBM.out).mono ?_); rintro e W7 ⟨v, out, rfl, hR, hro, hb⟩; have HRO := Aside0.mk hro; clear hro; obtain ⟨A5, c5, ev⟩ := Kd.R_slice hR; subst ev; have HV5 := Aside0.mk (Kd.R_reads' hR).2.2; have HC5 := Aside0.mk (Kd.R_reads' hR).2.1; clear hR; have nn_ := Aside0.mk (HS.out.below hb); clear HS; have HS := nn_; clear nn_; have nn_ := Aside0.mk (HRD.out.below hb); clear HRD; have HRD := nn_; clear nn_; have nn_ := Aside0.mk (below_step HB.out hb); clear HB; have HB := nn_; clear nn_; clear hb) | (go_at_call 30; (with_reducible refine (rround_calls rb A c last L _ HRD.out HBL.out HND.out).mono ?_); rintro e W8 ⟨v, out2, rfl, hR, hro, hb⟩; obtain rfl := round_same HRO.out hro; clear hro; obtain ⟨A6, c6, ev⟩ := Kd.R_slice hR; subst ev; have HV6 := Aside0.mk (Kd.R_reads' hR).2.2; have HC6 := Aside0.mk (Kd.R_reads' hR).2.1; clear hR; have nn_ := Aside0.mk (HS.out.below hb); clear HS; have HS := nn_; clear nn_; have nn_ := Aside0.mk (HRD.out.below hb); clear HRD; have HRD := nn_; clear nn_; have nn_ := Aside0.mk (below_step HB.out hb); clear HB; have HB := nn_; clear nn_; have nn_ := Aside0.mk (Kd.C_below HV5.out hb); clear HV5; have HV5 := nn_; clear nn_; clear hb) | (go_at_call 22; (with_reducible refine (sameI_calls out A5 A6 c5 c6 _ HV5.out HC5.out HV6.out HC6.out).mono ?_); rintro e W9 ⟨rfl, hb⟩; clear HV5 HV6; have nn_ := Aside0.mk (HS.out.below hb); clear HS; have HS := nn_; clear nn_; have nn_ := Aside0.mk (HRD.out.below hb); clear HRD; have HRD := nn_; clear nn_; have nn_ := Aside0.mk (below_step HB.out hb); clear HB; have HB := nn_; clear nn_; clear hb))
  go_ret
  exact ⟨rfl, HB.out⟩
theorem bo_new {w0 w1 w2 w3 : World} {lb rb : Nat} {F : List Nat} (hb : Below w0.heap.size w0 w2) (hL : LockSt w2 lb F 0 [] 0) (hF : ∀ k ∈ F, w1.heap.size ≤ k) (hs : w1.heap.size ≤ w2.heap.size) (hrb : rb = w2.heap.size) (hbox : w3.heap[rb]? = some (.cells #[.slice none 0 0, .int .i64 0] 30 (0, 0))) (hb3 : Below w2.heap.size w2 w3) (h01 : w0.heap.size ≤ w1.heap.size) :
    Bo w0 w3 lb rb F (fun k => k = rb) 0 [] 0 :=
  ⟨hL.below hb3, ⟨⟨_, hbox, Kd.R_nil _ _ _ _ _⟩, rfl, by rw [hrb]; exact hb.size, below_step hb hb3⟩, fun k hk e => by have := hL.lt k hk; omega, fun k hk => Nat.le_trans h01 (hF k hk), fun k e => by rw [e]; exact ⟨by rw [hrb]; exact hb.size, blk_lt hbox⟩, List.nodup_nil, ⟨Nat.le_refl _, fun x hx => by cases hx⟩⟩
/-- Both behind so many steps. -/
def SB (w wr : World) (lb rb : Nat) (m : List S34) (i : Int) : Prop := ∃ last L B F G, Bo w wr lb rb F G last L B ∧ (B : Int) ≤ i + namesIn (m.take i.toNat)
set_option maxHeartbeats 16000000 in
set_option maxRecDepth 100000 in
theorem LockLives_goes (A0 : Option Addr) (l : List S34) (c0 : Nat) (w : World) (hr0 : Kd.C k34 w A0 l.length l) (hc0 : l.length ≤ c0) (hg0 : l.length * 40 ≤ 140737488351232 ∧ ∀ x ∈ l, (Lit.int .i64 x.f0).wf = true ∧ (Lit.int .i64 x.f1).wf = true ∧ (List.length x.f2 * 16 ≤ 140737488351232 ∧ ∀ y ∈ x.f2, y.size ≤ 140737488351232)) :
    Calls Try.prog 3 #[.slice A0 l.length c0] w fun e W' => e = .returned (.bool true) ∧ Below w.heap.size w W' := by
  obtain ⟨m, hm⟩ : ∃ m, m = l.take 60 := ⟨_, rfl⟩
  have hml : m.length ≤ 60 := by rw [hm, List.length_take]; omega
  have hmC : Kd.C k34 w A0 m.length m := by
    by_cases h : l.length ≤ 60
    · rw [hm, List.take_of_length_le h]; exact hr0
    · rw [hm]; exact Kd.C_take hr0 (by omega)
  have hmc : m.length ≤ c0 := by rw [hm, List.length_take]; omega
  have hmg : ∀ x ∈ m, goodS x := fun x hx => hg0.2 x (by rw [hm] at hx; exact List.mem_of_mem_take hx)
  have hlc : (60 < l.length → m.length = 60) ∧ (¬ 60 < l.length → m.length = l.length) := by rw [hm, List.length_take]; omega
  have HR := Aside0.mk hmC; have HG := Aside0.mk hmg; have HC := Aside0.mk hmc; have HL := Aside0.mk hlc; have HC0 := Aside0.mk hc0; have HML := Aside0.mk hml
  clear hr0 hc0 hg0 hm hmC hmc hmg hlc
  have HB := Aside0.mk (Below.refl w.heap.size w)
  go_enter Try.func3, Try.ntmps3
  go_upto_if 9 with (fail)
  go_cut [0] (fun v0 wc => v0 = .slice A0 m.length c0 ∧ Aside0 (wc = w))
  case first =>
    by_cases hb : 60 < l.length
    · have h1 : decide ((60 : Int) < (l.length : Int)) = true := decide_eq_true (by omega)
      have e60 := HL.out.1 hb
      have hc60 : (60 : Int) ≤ (c0 : Int) := by have := HC0.out; omega
      go_wp2
      go_meet
      case rel => exact ⟨by rw [e60], ⟨rfl⟩⟩
    · have h1 : decide ((60 : Int) < (l.length : Int)) = false := decide_eq_false (by omega)
      have e60 := HL.out.2 hb
      go_wp2
      go_meet
      case rel => exact ⟨by rw [e60], ⟨rfl⟩⟩
  case rest =>
    obtain ⟨rfl, hwc⟩ := hcut
    have hw2 := hwc.out
    rw [hw2]
    clear hwc hw2 HL HC0
    obtain ⟨K, r, hgr, hgr2⟩ := great_ev m HML.out (fun x hx => by have := (HG.out x hx).2.2.1; omega) (fun x hx => (HG.out x hx).2.2.2)
    have HGR := Aside0.mk hgr
    clear hgr
    cases r with
    | true =>
      clear hgr2
      go_wp2_with (first | (go_at_call 8; (with_reducible refine (storemanlaw24_great.calls K A0 c0 m _ _ HR.out HC.out HGR.out).mono ?_); rintro e W2 ⟨rfl, hd⟩; have hb := hd.below; have nn_ := Aside0.mk (below_step HB.out hb); clear HB; have HB := nn_; clear nn_ hb hd) | (go_at_call 9; (with_reducible refine (awake_calls _).mono ?_); rintro e W9 ⟨rfl, hb⟩; have nn_ := Aside0.mk (below_step HB.out hb); clear HB; have HB := nn_; clear nn_ hb))
      go_ret
      exact ⟨rfl, HB.out⟩
    | false =>
      have HNM := Aside0.mk (hgr2 rfl)
      clear hgr2
      go_wp2_with (first | (go_at_call 8; (with_reducible refine (storemanlaw24_great.calls K A0 c0 m _ _ HR.out HC.out HGR.out).mono ?_); rintro e W2 ⟨rfl, hd⟩; have hb := hd.below; have nn_ := Aside0.mk (below_step HB.out hb); clear HB; have HB := nn_; clear nn_ hb hd) | (go_at_call 10; (with_reducible refine (st_new _).mono ?_); rintro e W3 ⟨lb, F0, rfl, hL, hb, hF⟩; have HS0 := Aside0.mk HB.out.size; have HLK := Aside0.mk hL; have HF0 := Aside0.mk hF; have HSZ := Aside0.mk hb.size; have nn_ := Aside0.mk (below_step HB.out hb); clear HB; have HB := nn_; clear nn_ hL hb hF) | ((with_reducible refine gate_dst (N := 17) rfl ?_); refine box_event ?hg (N := 17) ?hd (cs := #[.slice none 0 0, .int .i64 0]) (t := 30) ?hr ?_; (case hd => rfl); (case hg => rfl); (case hr => first | (go_simp; done) | (go_simp; rfl)); intro rb hrb W4 hbox hb; have HBO := Aside0.mk (bo_new HB.out HLK.out HF0.out HSZ.out hrb hbox hb HS0.out); clear HLK HF0 HB hbox hb hrb HSZ))
      clear HGR
      have HSB := Aside0.mk (show SB w W4 lb rb m 0 from ⟨0, [], 0, F0, _, HBO.out, by simp⟩)
      clear HBO
      have hlm : m.length ≤ 60 := HML.out
      go_loopw [5] (fun v5 wr => ∃ i : Nat, i ≤ m.length ∧ v5 = .int .i64 i ∧ Aside0 (SB w wr lb rb m i)) (fun v5 _ => m.length - (intOf v5).toNat)
      case atStart => exact ⟨0, Nat.zero_le _, rfl, HSB⟩
      case round =>
        clear HSB
        obtain ⟨i, hi, rfl, HSI⟩ := hrel
        obtain ⟨last, L, B, F, G, hbo, hbn⟩ := HSI.out
        have HBO := Aside0.mk hbo; have HBI := Aside0.mk hbn
        have HB1 := Aside0.mk (show B ≤ 2100 from SI.B (w := w) (wr := w) (lb := lb) hbn HNM.out (by have := HML.out; omega))
        clear hbo hbn HSI
        by_cases hl : i < m.length
        · have hd : decide ((i : Int) < (m.length : Int)) = true := decide_eq_true (by omega)
          have hd0 : decide (0 ≤ (i : Int)) = true := decide_eq_true (by omega)
          obtain ⟨ad, A2, c2, e2, x0, x1, x2, x3, x4⟩ := at_T34 HR.out (i : Int) (by omega) (by omega)
          cases e2
          rw [rd34 m i hl, Int.toNat_natCast] at x0 x1 x2
          rw [rd34 m i hl] at x3 x4
          obtain ⟨x, hxe⟩ : ∃ x, x = m[i] := ⟨_, rfl⟩
          rw [← hxe] at x0 x1 x2 x3 x4
          have HX3 := Aside0.mk x3; have HX4 := Aside0.mk x4; have HGX := Aside0.mk (show goodS x by rw [hxe]; exact HG.out _ (List.getElem_mem _)); have HXE := Aside0.mk hxe
          have HWF := Aside0.mk (show (Lit.int .i64 x.f1).wf = true from HGX.out.2.1)
          clear x3 x4 hxe
          have y0 := pw_cell_below HBO.out.hb x0; have y1 := pw_cell_below HBO.out.hb x1; have y2 := pw_cell_below HBO.out.hb x2
          have HNB := Aside0.mk (show ((B + 1 + x.f2.length : Nat) : Int) ≤ ((i + 1 : Nat) : Int) + namesIn (m.take (i + 1)) by have h1 := HBI.out; have h2 := names_step (m := m) (i := (i : Int)) (by omega) (by omega); rw [rd34 m i hl, ← HXE.out, Int.toNat_natCast, show ((i : Int) + 1).toNat = i + 1 by omega] at h2; rw [Int.toNat_natCast] at h1; omega)
          have HB9 := Aside0.mk (show B + x.f2.length ≤ 90000 by have := SI.B (w := w) (wr := w) (lb := lb) (m := m) (i := ((i + 1 : Nat) : Int)) (B := B + 1 + x.f2.length) (by rw [Int.toNat_natCast]; exact HNB.out) HNM.out (by have := HML.out; omega); omega)
          have HB8 := Aside0.mk (show B + 1 + x.f2.length ≤ 90000 by have := SI.B (w := w) (wr := w) (lb := lb) (m := m) (i := ((i + 1 : Nat) : Int)) (B := B + 1 + x.f2.length) (by rw [Int.toNat_natCast]; exact HNB.out) HNM.out (by have := HML.out; omega); omega)
          go_wp2_with (first | (go_at_call 11; (with_reducible refine (step_calls w lb rb F G last L B x A2 c2 _ HBO.out HB9.out HGX.out HX4.out HX3.out).mono ?_); rintro e W5 ⟨rfl, last', L', F', G', hbo⟩; have HB5 := Aside0.mk hbo; clear hbo; replace y0 := pw_cell_below HB5.out.hb x0; replace y1 := pw_cell_below HB5.out.hb x1; replace y2 := pw_cell_below HB5.out.hb x2) | (go_at_call 12; (with_reducible refine (like_calls w lb rb F' G' last' L' (B + 1 + x.f2.length) x.f1 _ HB5.out HB8.out HWF.out).mono ?_); rintro e W6 ⟨rfl, hb⟩; have HB6 := Aside0.mk (HB5.out.below hb); clear hb))
          go_roundw
          case rel => exact ⟨i + 1, by omega, by first | rfl | go_num, ⟨last', L', _, F', G', HB6.out, by rw [Int.toNat_natCast]; exact HNB.out⟩⟩
          case measure => simp [intOf]; omega
        · obtain hie : i = m.length := by omega
          have hd : decide ((i : Int) < (m.length : Int)) = false := decide_eq_false (by omega)
          clear hie
          go_wp2
          go_loopw [6] (fun v6 wr => ∃ j : Nat, j ≤ m.length ∧ v6 = .int .i64 j ∧ Aside0 (Bo w wr lb rb F G last L B)) (fun v6 _ => m.length - (intOf v6).toNat)
          case atStart => exact ⟨0, Nat.zero_le _, rfl, HBO⟩
          case round =>
            clear HBO hd
            obtain ⟨j, hj, rfl, HBO⟩ := hrel
            by_cases hl : j < m.length
            · have hd2 : decide ((j : Int) < (m.length : Int)) = true := decide_eq_true (by omega)
              have hd0 : decide (0 ≤ (j : Int)) = true := decide_eq_true (by omega)
              obtain ⟨ad, A2, c2, e2, x0, x1, x2, x3, x4⟩ := at_T34 HR.out (j : Int) (by omega) (by omega)
              cases e2
              rw [rd34 m j hl, Int.toNat_natCast] at x0 x1 x2
              rw [rd34 m j hl] at x3 x4
              obtain ⟨x, hxe⟩ : ∃ x, x = m[j] := ⟨_, rfl⟩
              rw [← hxe] at x0 x1 x2 x3 x4
              have HX3 := Aside0.mk x3; have HX4 := Aside0.mk x4; have HGX := Aside0.mk (show goodS x by rw [hxe]; exact HG.out _ (List.getElem_mem _)); have HXE := Aside0.mk hxe
              have HWF := Aside0.mk (show (Lit.int .i64 x.f1).wf = true from HGX.out.2.1)
              clear x3 x4 hxe
              have y0 := pw_cell_below HBO.out.hb x0; have y1 := pw_cell_below HBO.out.hb x1; have y2 := pw_cell_below HBO.out.hb x2
              have HB7 := Aside0.mk (show B ≤ 90000 by have := HB1.out; omega)
              go_wp2_with (first | (go_at_call 12; (with_reducible refine (like_calls w lb rb F G last L B x.f1 _ HBO.out HB7.out HWF.out).mono ?_); rintro e W6 ⟨rfl, hb⟩; have HB6 := Aside0.mk (HBO.out.below hb); clear hb))
              go_roundw
              case rel => exact ⟨j + 1, by omega, by first | rfl | go_num, HB6⟩
              case measure => simp [intOf]; omega
            · have hd2 : decide ((j : Int) < (m.length : Int)) = false := decide_eq_false (by omega)
              have HB := Aside0.mk HBO.out.hb
              go_wp2_with (first | (go_at_call 9; (with_reducible refine (awake_calls _).mono ?_); rintro e W9 ⟨rfl, hb⟩; have nn_ := Aside0.mk (below_step HB.out hb); clear HB; have HB := nn_; clear nn_ hb))
              go_ret
              exact ⟨rfl, HB.out⟩
end Go.Proofs.Ytimlfdfmgajbnaa.PA
