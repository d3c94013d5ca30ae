/-
Maps of any elements, told as what stands at each key: over the kit's own laws on maps, each element read as itself.
-/
import Derived.Maps.OwnSet
import Derived.Maps.RangeWalk
import Derived.Below
import Derived.RowKit
import Derived.RowKit3
namespace Go.Proofs.Ytimlfdfmgajbnaa.Mp
open Go.Maps (Keyed)
open Go.RowKit
/-- An element is read as itself. -/
def rawR (v : Value) : Option (DataW Value × List MemPlace) := some (.held v, [])
/-- What stands at a key. -/
def at_ (D : DataW Value) (kl : Lit) : Option Value := if Maps.has D kl then (match D.atKey kl .nil with | .held v => some v | _ => none) else none
/-- Block b is a map of at most n entries; at key kl stands f kl. -/
def MapIs (P : Program) (k : TypeId) (w : World) (b n : Nat) (f : Lit → Option Value) : Prop := ∃ D : DataW Value, w.ownsMap P k rawR b n D ∧ ∀ kl, at_ D kl = f kl
section
variable {P : Program} {k t e : TypeId} {w w' : World} {b n : Nat} {f : Lit → Option Value}
theorem MapIs.lt (h : MapIs P k w b n f) : b < w.heap.size := by obtain ⟨D, h, _⟩ := h; exact h.lt
theorem MapIs.mono {n' : Nat} (h : MapIs P k w b n f) (hn : n ≤ n') : MapIs P k w b n' f := by obtain ⟨D, h, hf⟩ := h; exact ⟨D, h.mono hn, hf⟩
theorem MapIs.at (h : MapIs P k w b n f) (e : w'.heap[b]? = w.heap[b]?) : MapIs P k w' b n f := by
  obtain ⟨D, ⟨es, clock, hb, F, hs, hD⟩, hf⟩ := h
  exact ⟨D, ⟨es, clock, e.trans hb, F, hs, hD⟩, hf⟩
theorem MapIs.below (h : MapIs P k w b n f) (hb : Below w.heap.size w w') : MapIs P k w' b n f := h.at (hb.block b h.lt)
theorem MapIs.kept {row : Option Nat} (h : MapIs P k w b n f) (hg : w.grownBy w' row) (hne : some b ≠ row) : MapIs P k w' b n f := h.at (hg.block b h.lt hne)
theorem MapIs.congr {g : Lit → Option Value} (h : MapIs P k w b n f) (e : ∀ kl, f kl = g kl) : MapIs P k w b n g := by obtain ⟨D, h, hf⟩ := h; exact ⟨D, h, fun kl => (hf kl).trans (e kl)⟩
theorem made (P : Program) (k : TypeId) (w : World) : MapIs P k (w.alloc (.map #[] 0)) w.heap.size 0 (fun _ => none) := ⟨.map [], World.ownsMap_made _ _ _ _, fun _ => rfl⟩
theorem find_eq (es : List (Lit × DataW Value)) (kl : Lit) : (es.find? fun p => p.1.sameKey kl) = none ∧ es.any (fun p => p.1.sameKey kl) = false ∨ ∃ p, (es.find? fun p => p.1.sameKey kl) = some p ∧ es.any (fun p => p.1.sameKey kl) = true := by
  cases h : es.find? (fun p => p.1.sameKey kl) with
  | none =>
    refine Or.inl ⟨rfl, ?_⟩
    rw [← Bool.not_eq_true, List.any_eq_true]
    rintro ⟨p, hp, hk⟩
    exact absurd hk (by simpa using List.find?_eq_none.1 h p hp)
  | some p => exact Or.inr ⟨p, rfl, List.any_eq_true.2 ⟨p, List.mem_of_find?_eq_some h, by simpa using List.find?_some h⟩⟩
/-- A key that is there reads the same whatever stands for one that is not; one that is not there reads as that. -/
theorem at_key (D : DataW Value) (kl : Lit) (zd : DataW Value) : Maps.has D kl = true ∧ D.atKey kl zd = D.atKey kl .nil ∨ Maps.has D kl = false ∧ D.atKey kl zd = zd := by
  cases D with
  | map es =>
    rcases find_eq es kl with ⟨h1, h2⟩ | ⟨p, h1, h2⟩
    · exact Or.inr ⟨h2, by simp [DataW.atKey, h1]⟩
    · exact Or.inl ⟨h2, by simp [DataW.atKey, h1]⟩
  | _ => exact Or.inr ⟨rfl, rfl⟩
theorem at_held {D : DataW Value} {kl : Lit} {v : Value} (z : Value) (h : D.atKey kl (.held z) = .held v) : v = (at_ D kl).getD z := by
  rcases at_key D kl (.held z) with ⟨h1, h2⟩ | ⟨h1, h2⟩
  · rw [h2] at h
    simp [at_, h1, h]
  · rw [h2] at h
    cases h
    simp [at_, h1]
theorem has_at {D : DataW Value} (h : w.ownsMap P k rawR b n D) (K : Keyed P k) (kl : Lit) : Maps.has D kl = (at_ D kl).isSome := by
  unfold at_
  cases hh : Maps.has D kl with
  | false => simp
  | true =>
    obtain ⟨es, clock, hb, F, hs, rfl⟩ := h
    obtain ⟨p, hp, hpk⟩ := List.any_eq_true.1 hh
    obtain ⟨x, hx, rfl⟩ := List.mem_map.1 (mem_sorted.1 hp)
    obtain ⟨y0, hy0⟩ := F.reads x hx
    obtain ⟨z, hz, hzd⟩ := WideElems.rd_val hy0
    have hkey := WideElems.rd_key hy0
    have hrg : (WideElems.rg P k rawR x).1 = y0.1 := by rw [WideElems.rg_of hy0]
    have hkl : y0.1 = kl := by rw [← hrg]; exact WideAt.sameKey_eq hpk
    have := (WideShapes.atKey_sorted (es.toList.map (WideElems.rg P k rawR)) (Maps.fit_rising K F) kl (by rw [← hkl]; exact K.key hkey)).2 (WideElems.rg P k rawR x) (List.mem_map.2 ⟨x, hx, rfl⟩) (by rw [hrg, hkl])
    rw [this]
    rw [WideElems.rg_of hy0, hzd]
    cases hz
    simp
theorem MapIs.lookup_run (h : MapIs P k w b n f) (K : Keyed P k) (ht : P.underlying t = some (.map k e)) {z : Value} (hz : (zeroValue e).run P w = .ok z w) {key : Value} {kl : Lit} (hkey : keyOf P k key = some kl) :
    (Instr.lookup t (.map (some b)) key false).run P w = .ok ((f kl).getD z) w := by
  obtain ⟨D, h, hf⟩ := h
  obtain ⟨v, ps, hrun, hv⟩ := h.lookup K ht hz (zd := .held z) (zp := []) rfl hkey
  have e1 : DataW.held v = D.atKey kl (.held z) := congrArg Prod.fst (Option.some.inj hv)
  rw [hrun, at_held z e1.symm, hf]
theorem MapIs.look_ok_run (h : MapIs P k w b n f) (K : Keyed P k) (ht : P.underlying t = some (.map k e)) {z : Value} (hz : (zeroValue e).run P w = .ok z w) {key : Value} {kl : Lit} (hkey : keyOf P k key = some kl) :
    (Instr.lookup t (.map (some b)) key true).run P w = .ok (.tuple #[(f kl).getD z, .bool (f kl).isSome]) w := by
  obtain ⟨D, h, hf⟩ := h
  obtain ⟨v, ps, hrun, hv⟩ := h.look_ok K ht hz (zd := .held z) (zp := []) rfl hkey
  have e1 : DataW.held v = D.atKey kl (.held z) := congrArg Prod.fst (Option.some.inj hv)
  rw [hrun, at_held z e1.symm, has_at h K, hf]
open Classical in
/-- What a map holds behind a store. -/
noncomputable def upd (f : Lit → Option Value) (kl : Lit) (v : Option Value) : Lit → Option Value := fun x => if x = kl then v else f x
theorem at_put {D : DataW Value} (hD : Maps.IsMap D) {kl : Lit} (hk : WideAt.IsKeyLit kl) (v : Value) (x : Lit) : at_ (D.put kl (.held v)) x = upd (at_ D) kl (some v) x := by
  unfold upd
  split
  · rename_i e; subst e
    simp [at_, Maps.has_put_same hD hk, Maps.atKey_put_same hD hk]
  · rename_i e
    simp [at_, Maps.has_put_other e, Maps.atKey_put_other e]
theorem at_del (D : DataW Value) (kl x : Lit) : at_ (D.del kl) x = upd (at_ D) kl none x := by
  unfold upd
  split
  · rename_i e; subst e
    simp [at_, Maps.has_del_same]
  · rename_i e
    simp [at_, Maps.has_del_other e, Maps.atKey_del_other e]
theorem MapIs.update (h : MapIs P k w b n f) (K : Keyed P k) (ht : P.underlying t = some (.map k e)) (hn : n < maxLen) {key : Value} (val : Value) {kl : Lit} (hkey : keyOf P k key = some kl) :
    ∃ w', (Instr.mapUpdate t (.map (some b)) key val).run P w = .ok () w' ∧ MapIs P k w' b (n + 1) (upd f kl (some val)) ∧ w.grownBy w' (some b) := by
  obtain ⟨D, h, hf⟩ := h
  obtain ⟨w', hrun, h', hg⟩ := h.update K ht hn hkey (val := val) (d := .held val) (ps := []) rfl
  refine ⟨w', hrun, ⟨_, h', fun x => ?_⟩, hg⟩
  rw [at_put h.isMap (K.key hkey)]
  unfold upd
  rw [hf]
theorem MapIs.drop (h : MapIs P k w b n f) (K : Keyed P k) (ht : P.underlying t = some (.map k e)) {key : Value} {kl : Lit} (hkey : keyOf P k key = some kl) (ty : TypeId) :
    ∃ w', (Builtin.delete_ #[t, k] ty #[.map (some b), key]).run P w = .ok (.tuple #[]) w' ∧ MapIs P k w' b n (upd f kl none) ∧ w.grownBy w' (some b) := by
  obtain ⟨D, h, hf⟩ := h
  obtain ⟨w', hrun, h', hg⟩ := h.drop K ht hkey ty
  refine ⟨w', hrun, ⟨_, h', fun x => ?_⟩, hg.grown⟩
  rw [at_del]
  unfold upd
  rw [hf]
/-- Only a key can stand in a map. -/
theorem MapIs.key (h : MapIs P k w b n f) {kl : Lit} (hk : (f kl).isSome = true) : ∃ key, keyOf P k key = some kl := by
  obtain ⟨D, ⟨es, clock, hb, F, hs, rfl⟩, hf⟩ := h
  rw [← hf] at hk
  unfold at_ at hk
  split at hk
  · rename_i hh
    obtain ⟨p, hp, hpk⟩ := List.any_eq_true.1 hh
    obtain ⟨x, hx, rfl⟩ := List.mem_map.1 (mem_sorted.1 hp)
    obtain ⟨y0, hy0⟩ := F.reads x hx
    have hrg : (WideElems.rg P k rawR x).1 = y0.1 := by rw [WideElems.rg_of hy0]
    exact ⟨x.key, by rw [← WideAt.sameKey_eq hpk, hrg]; exact WideElems.rd_key hy0⟩
  · cases hk
end
/-! ### at the operation -/
section
variable {P : Program} {w : World} {ops : Array Oper} {rest : List Oper} {o : Oper} {a : Act} {Q : Exit → Act → World → Prop} {k t e : TypeId} {b n : Nat} {f : Lit → Option Value}
theorem lookup_event (h : MapIs P k w b n f) (hg : o.guard = none) (m x : Operand) (hop : o.op = Op.lookup t m x false) (K : Keyed P k) (ht : P.underlying t = some (.map k e)) {z : Value} (hz : (zeroValue e).run P w = .ok z w)
    (hm : a.eval m = .map (some b)) {key : Value} {kl : Lit} (hx : a.eval x = key) (hkey : keyOf P k key = some kl) (hK : wpList P ops Q rest (a.put o.dst ((f kl).getD z)) w) : wpList P ops Q (o :: rest) a w := by
  refine wpList_plain hg fun K' hK' => ?_
  unfold Oper.wp
  simp [execOp, hop, hm, hx, h.lookup_run K ht hz hkey, Result.andThen]
  exact hK' _ _ hK
theorem look_ok_event (h : MapIs P k w b n f) (hg : o.guard = none) (m x : Operand) (hop : o.op = Op.lookup t m x true) (K : Keyed P k) (ht : P.underlying t = some (.map k e)) {z : Value} (hz : (zeroValue e).run P w = .ok z w)
    (hm : a.eval m = .map (some b)) {key : Value} {kl : Lit} (hx : a.eval x = key) (hkey : keyOf P k key = some kl) (hK : wpList P ops Q rest (a.put o.dst (.tuple #[(f kl).getD z, .bool (f kl).isSome])) w) : wpList P ops Q (o :: rest) a w := by
  refine wpList_plain hg fun K' hK' => ?_
  unfold Oper.wp
  simp [execOp, hop, hm, hx, h.look_ok_run K ht hz hkey, Result.andThen]
  exact hK' _ _ hK
theorem update_event (h : MapIs P k w b n f) (hg : o.guard = none) (m x v : Operand) (hop : o.op = Op.mapUpdate t m x v) (K : Keyed P k) (ht : P.underlying t = some (.map k e)) (hn : n < maxLen)
    (hm : a.eval m = .map (some b)) {key val : Value} {kl : Lit} (hx : a.eval x = key) (hv : a.eval v = val) (hkey : keyOf P k key = some kl)
    (hK : ∀ w', MapIs P k w' b (n + 1) (upd f kl (some val)) → w.grownBy w' (some b) → wpList P ops Q rest (a.put o.dst undef) w') : wpList P ops Q (o :: rest) a w := by
  refine wpList_plain hg fun K' hK' => ?_
  obtain ⟨w', hrun, r1, r2⟩ := h.update K ht hn val hkey
  unfold Oper.wp
  simp [execOp, hop, hm, hx, hv, hrun, Result.andThen]
  exact hK' _ _ (hK w' r1 r2)
theorem delete_event (h : MapIs P k w b n f) (hg : o.guard = none) (m x : Operand) (hop : o.op = Op.call { callee := Callee.builtin Builtin.delete, args := #[m, x], argTypes := #[t, k] }) (K : Keyed P k) (ht : P.underlying t = some (.map k e))
    (hm : a.eval m = .map (some b)) {key : Value} {kl : Lit} (hx : a.eval x = key) (hkey : keyOf P k key = some kl)
    (hK : ∀ w', MapIs P k w' b n (upd f kl none) → w.grownBy w' (some b) → wpList P ops Q rest (a.put o.dst (.tuple #[])) w') : wpList P ops Q (o :: rest) a w := by
  refine wpList_plain hg fun K' hK' => ?_
  obtain ⟨w', hrun, r1, r2⟩ := h.drop K ht hkey o.type
  unfold Oper.wp
  simp [execOp, hop, resolve, invoke, builtin, hm, hx, hrun, Result.andThen]
  exact hK' _ _ (hK w' r1 r2)
end
/-! ### ranging -/
/-- Block r is an iterator over the map in block b: at key kl stands f kl; left kl: it is still to come; cnt: how many are. -/
def Ranges (P : Program) (k : TypeId) (w : World) (b r n : Nat) (f : Lit → Option Value) (left : Lit → Bool) (cnt : Nat) : Prop := ∃ D : DataW Value, w.ranges P k rawR b r n D left cnt ∧ ∀ kl, at_ D kl = f kl
section
variable {P : Program} {k t e : TypeId} {w w' : World} {b r n cnt : Nat} {f : Lit → Option Value} {left : Lit → Bool}
theorem Ranges.is (h : Ranges P k w b r n f left cnt) : MapIs P k w b n f := by obtain ⟨D, h, hf⟩ := h; exact ⟨D, h.owns, hf⟩
theorem Ranges.lt (h : Ranges P k w b r n f left cnt) : r < w.heap.size := by obtain ⟨D, h, _⟩ := h; exact h.lt
theorem Ranges.ne (h : Ranges P k w b r n f left cnt) : r ≠ b := by obtain ⟨D, h, _⟩ := h; exact h.ne
theorem Ranges.at (h : Ranges P k w b r n f left cnt) (e1 : w'.heap[b]? = w.heap[b]?) (e2 : w'.heap[r]? = w.heap[r]?) : Ranges P k w' b r n f left cnt := by
  obtain ⟨D, ⟨es, clock, since, seen, c0, hb, F, hs, hD, hr, h1⟩, hf⟩ := h
  exact ⟨D, ⟨es, clock, since, seen, c0, e1.trans hb, F, hs, hD, e2.trans hr, h1⟩, hf⟩
theorem Ranges.below (h : Ranges P k w b r n f left cnt) (hb : Below w.heap.size w w') : Ranges P k w' b r n f left cnt := h.at (hb.block b h.is.lt) (hb.block r h.lt)
theorem Ranges.kept {row : Option Nat} (h : Ranges P k w b r n f left cnt) (hg : w.grownBy w' row) (h1 : some b ≠ row) (h2 : some r ≠ row) : Ranges P k w' b r n f left cnt := h.at (hg.block b h.is.lt h1) (hg.block r h.lt h2)
theorem Ranges.left_eq (h : Ranges P k w b r n f left cnt) : w.rangeLeft b r = cnt := by obtain ⟨D, h, _⟩ := h; exact h.left_eq
theorem Ranges.left_at (h : Ranges P k w b r n f left cnt) (K : Keyed P k) {kl : Lit} (hl : left kl = true) : (f kl).isSome = true ∧ ∃ key, keyOf P k key = some kl := by
  obtain ⟨D, ⟨es, clock, since, seen, c0, hb, F, hs, rfl, hr, hold, hc, h1, h2, _⟩, hf⟩ := h
  obtain ⟨x, hx, rfl⟩ := h2 kl hl
  obtain ⟨y0, hy0⟩ := F.reads x hx
  have hrg : (WideElems.rg P k rawR x).1 = y0.1 := by rw [WideElems.rg_of hy0]
  refine ⟨?_, x.key, by rw [hrg]; exact WideElems.rd_key hy0⟩
  rw [← hf, ← has_at (P := P) (k := k) (w := w) (b := b) (n := n) ⟨es, clock, hb, F, hs, rfl⟩ K]
  exact List.any_eq_true.2 ⟨WideElems.rg P k rawR x, mem_sorted.2 (List.mem_map.2 ⟨x, hx, rfl⟩), WideAt.sameKey_self (by rw [hrg]; exact K.key (WideElems.rd_key hy0))⟩
theorem MapIs.range (h : MapIs P k w b n f) (K : Keyed P k) (ht : P.underlying t = some (.map k e)) :
    ∃ w' cnt, (Instr.range t (.map (some b))).run P w = .ok (.pointer (some ⟨w.heap.size, 0, none⟩)) w' ∧ Ranges P k w' b w.heap.size n f (fun kl => (f kl).isSome) cnt ∧ cnt ≤ n ∧ w.grownBy w' none := by
  obtain ⟨D, h, hf⟩ := h
  obtain ⟨w', hrun, hr, hg, _⟩ := h.range K ht
  have e1 : (fun kl => (f kl).isSome) = Maps.has D := funext fun kl => by rw [has_at h K, hf]
  exact ⟨w', _, hrun, ⟨D, by rw [e1]; exact hr, hf⟩, h.size_le, hg⟩
theorem Ranges.next (h : Ranges P k w b r n f left cnt) (K : Keyed P k) (ty : TypeId) :
    (cnt = 0 ∧ (∀ kl, left kl = false) ∧ (Instr.next (.pointer (some ⟨r, 0, none⟩)) false ty).run P w = .ok (.tuple #[.bool false]) w) ∨
    ∃ key v kl w' cnt', keyOf P k key = some kl ∧ left kl = true ∧ f kl = some v ∧ (Instr.next (.pointer (some ⟨r, 0, none⟩)) false ty).run P w = .ok (.tuple #[.bool true, key, v]) w' ∧
      Ranges P k w' b r n f (fun x => left x && !x.sameKey kl) cnt' ∧ cnt' < cnt ∧ w.grownBy w' (some r) ∧ (Instr.entry (.pointer (some ⟨r, 0, none⟩))).run P w' = .ok (.tuple #[key, v]) w' := by
  have hat := fun {kl} => h.left_at K (kl := kl)
  obtain ⟨D, h, hf⟩ := h
  rcases h.next K ty with h1 | ⟨key, v, kl, y, w', cnt', hkey, hlk, hv, hat', hrun, hrg, hlt, hgr, hsz, hen⟩
  · exact Or.inl h1
  · refine Or.inr ⟨key, v, kl, w', cnt', hkey, hlk, ?_, hrun, ⟨D, hrg, hf⟩, hlt, hgr, hen⟩
    have e1 : D.atKey kl (.held .nilIface) = .held v := (hat' _).trans (by cases hv; rfl)
    have e2 := at_held _ e1
    have e3 := (hat hlk).1
    rw [hf] at e2
    obtain ⟨u, hu⟩ := Option.isSome_iff_exists.1 e3
    rw [hu] at e2 ⊢
    simp at e2
    rw [e2]
end
section
variable {P : Program} {w : World} {ops : Array Oper} {rest : List Oper} {o : Oper} {a : Act} {Q : Exit → Act → World → Prop} {k t e : TypeId} {b r n cnt : Nat} {f : Lit → Option Value} {left : Lit → Bool}
theorem range_event (h : MapIs P k w b n f) (hg : o.guard = none) (m : Operand) (hop : o.op = Op.range t m) (K : Keyed P k) (ht : P.underlying t = some (.map k e)) (hm : a.eval m = .map (some b))
    (hK : ∀ r, r = w.heap.size → ∀ w' cnt, Ranges P k w' b r n f (fun kl => (f kl).isSome) cnt → cnt ≤ n → w.grownBy w' none → wpList P ops Q rest (a.put o.dst (.pointer (some ⟨r, 0, none⟩))) w') : wpList P ops Q (o :: rest) a w := by
  refine wpList_plain hg fun K' hK' => ?_
  obtain ⟨w', cnt, hrun, r1, r2, r3⟩ := h.range K ht
  unfold Oper.wp
  simp [execOp, hop, hm, hrun, Result.andThen]
  exact hK' _ _ (hK _ rfl w' cnt r1 r2 r3)
theorem next_event {α : Type} (mkK : α → Value) (invK : ∀ key kl, keyOf P k key = some kl → ∃ x, key = mkK x) (h : Ranges P k w b r n f left cnt) (hg : o.guard = none) (it : Operand) (hop : o.op = Op.next it false) (K : Keyed P k) (hit : a.eval it = .pointer (some ⟨r, 0, none⟩))
    (hDone : (∀ kl, left kl = false) → wpList P ops Q rest (a.put o.dst (.tuple #[.bool false])) w)
    (hMore : ∀ (x : α) (v : Value) (kl : Lit) (w' : World) (cnt' : Nat), keyOf P k (mkK x) = some kl → left kl = true → f kl = some v → Ranges P k w' b r n f (fun z => left z && !z.sameKey kl) cnt' → cnt' < cnt →
      w.grownBy w' (some r) → (Instr.entry (.pointer (some ⟨r, 0, none⟩))).run P w' = .ok (.tuple #[mkK x, v]) w' → wpList P ops Q rest (a.put o.dst (.tuple #[.bool true, mkK x, v])) w') : wpList P ops Q (o :: rest) a w := by
  refine wpList_plain hg fun K' hK' => ?_
  unfold Oper.wp
  rcases h.next K o.type with ⟨h0, hl, hrun⟩ | ⟨key, v, kl, w', cnt', hkey, hlk, hv, hrun, hrg, hlt, hgr, hen⟩
  · simp [execOp, hop, hit, hrun, Result.andThen]
    exact hK' _ _ (hDone hl)
  · obtain ⟨x, rfl⟩ := invK key kl hkey
    simp [execOp, hop, hit, hrun, Result.andThen]
    exact hK' _ _ (hMore x v kl w' cnt' hkey hlk hv hrg hlt hgr hen)
end
end Go.Proofs.Ytimlfdfmgajbnaa.Mp
