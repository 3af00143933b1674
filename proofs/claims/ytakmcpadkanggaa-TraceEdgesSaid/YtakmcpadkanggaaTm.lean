/-
  Maps from integers to integers and to bools that the call has made, as functions; beside blocks of cells.
-/
import Derived.Test.YtakmcpadkanggaaT1
import Derived.Maps.OwnOps
import Derived.Maps.OwnSet
import Derived.Maps.Views
namespace Go.Proofs.Ytakmcpadkanggaa
open Go.RowKit Go.Maps

theorem key3 : Keyed Try.prog 3 := int_keyed Try.underlying3
theorem zero3 (w : World) : (zeroValue 3).run Try.prog w = .ok (.int .i64 0) w := by kernel_rfl
theorem zero4 (w : World) : (zeroValue 4).run Try.prog w = .ok (.bool false) w := by kernel_rfl
theorem wf0 : (Lit.int .i64 0).wf = true := by decide

/-- One place anew. -/
def updI {α : Type} (f : Int → α) (i : Int) (x : α) : Int → α := fun j => if j = i then x else f j
@[simp] theorem updI_same {α : Type} (f : Int → α) (i : Int) (x : α) : updI f i x i = x := by simp [updI]
theorem updI_other {α : Type} (f : Int → α) (i j : Int) (x : α) (h : j ≠ i) : updI f i x j = f j := by simp [updI, h]

/-- Block b is a map of at most n integers, by integers: what it gives at each. -/
def MapI (w : World) (b n : Nat) (f : Int → Int) : Prop := ∃ D : DataW Unit, w.ownsMap Try.prog 3 (plainElem Try.prog 3) b n D ∧ ∀ k, D.atKey (.int .i64 k) (.lit (.int .i64 0)) = .lit (.int .i64 (f k))
def MapB (w : World) (b n : Nat) (f : Int → Bool) : Prop := ∃ D : DataW Unit, w.ownsMap Try.prog 3 (plainElem Try.prog 4) b n D ∧ ∀ k, D.atKey (.int .i64 k) (.lit (.bool false)) = .lit (.bool (f k))

section
variable {w w' W : World} {S : List Nat} {b n : Nat} {f : Int → Int} {h : Int → Bool}
theorem ownsMap_block {H : Type} {P : Program} {k : TypeId} {R : Value → Option (DataW H × List MemPlace)} {D : DataW H} (m : w.ownsMap P k R b n D) (e : w'.heap[b]? = w.heap[b]?) : w'.ownsMap P k R b n D := by
  obtain ⟨es, c, hb, r⟩ := m
  exact ⟨es, c, e.trans hb, r⟩
theorem MapI.lt (m : MapI w b n f) : b < w.heap.size := m.choose_spec.1.lt
theorem MapB.lt (m : MapB w b n h) : b < w.heap.size := m.choose_spec.1.lt
theorem MapI.keeps (m : MapI w b n f) (k : Keeps w w' S) (hs : b ∉ S) : MapI w' b n f := by
  obtain ⟨D, h1, h2⟩ := m
  exact ⟨D, ownsMap_block h1 (k.block b h1.lt hs), h2⟩
theorem MapB.keeps (m : MapB w b n h) (k : Keeps w w' S) (hs : b ∉ S) : MapB w' b n h := by
  obtain ⟨D, h1, h2⟩ := m
  exact ⟨D, ownsMap_block h1 (k.block b h1.lt hs), h2⟩
theorem ownsMap_not_blk {H : Type} {P : Program} {k : TypeId} {R : Value → Option (DataW H × List MemPlace)} {D : DataW H} (m : w.ownsMap P k R b n D) {g : Nat} {t : TypeId} {cs : Array Value} (hg : Blk w g t cs) : g ≠ b := by
  rintro rfl
  obtain ⟨es, c, hb, _⟩ := m
  rw [Blk, hb] at hg
  cases hg
theorem MapI.not_blk (m : MapI w b n f) {g : Nat} {t : TypeId} {cs : Array Value} (hg : Blk w g t cs) : g ≠ b := ownsMap_not_blk m.choose_spec.1 hg
theorem MapB.not_blk (m : MapB w b n h) {g : Nat} {t : TypeId} {cs : Array Value} (hg : Blk w g t cs) : g ≠ b := ownsMap_not_blk m.choose_spec.1 hg
theorem keeps_of_grown (g : w.grownBy w' (some b)) : Keeps w w' [b] := ⟨g.os, g.tape, g.output, g.size, fun k hk hn => g.block k hk (by simpa using hn)⟩
theorem Keeps.grownNone (k : Keeps w w' []) : w.grownBy w' none := ⟨k.os, k.tape, k.output, k.size, fun j hj _ => k.block j hj (by simp)⟩
theorem MapI.made (w : World) : MapI (w.alloc (.map #[] 0)) w.heap.size 0 fun _ => 0 := ⟨.map [], World.ownsMap_made _ _ _ _, fun k => by simp [DataW.atKey]⟩
theorem MapB.made (w : World) : MapB (w.alloc (.map #[] 0)) w.heap.size 0 fun _ => false := ⟨.map [], World.ownsMap_made _ _ _ _, fun k => by simp [DataW.atKey]⟩

/-- Known blocks stay known while a map is written. -/
theorem Own.mapped {S : List Nat} {L : List Ent} (O : Own w W S L) (k : Keeps W w' [b]) (hb : ∀ g t cs, Blk W g t cs → g ≠ b) (hS : b < w.heap.size → b ∈ S) : Own w w' S L := by
  refine ⟨O.keep.trans k (fun x hx hlt => ?_), fun e he => (O.blk e he).keeps k (by have := hb _ _ _ (O.blk e he); simpa using this), O.new, O.nd⟩
  obtain rfl : x = b := by simpa using hx
  exact hS hlt
end
section
variable {ops : Array Oper} {rest : List Oper} {o : Oper} {a : Act} {W : World} {Q : Exit → Act → World → Prop} {T b n : Nat} {f : Int → Int} {h : Int → Bool} {x y z : Operand} {k v : Int} {r : Bool}
theorem map_lookI (M : MapI W b n f) (T : TypeId) (ht : Try.prog.underlying T = some (.map 3 3)) (hg : o.guard = none) (ho : o.op = .lookup T x y false) (hx : a.eval x = .map (some b)) (hy : a.eval y = .int .i64 k) (hk : (Lit.int .i64 k).wf = true)
    (hK : wpList Try.prog ops Q rest (a.put o.dst (.int .i64 (f k))) W) : wpList Try.prog ops Q (o :: rest) a W := by
  obtain ⟨D, h1, h2⟩ := M
  refine wpList_lookup_own_int _ hg _ _ T ho 3 3 .i64 key3 ht Try.underlying3 (zero3 _) b n D hx h1 _ _ hy (keyOf_int_mk Try.underlying3 hk) fun c hat _ => ?_
  rw [h2] at hat
  injection hat with e
  injection e with _ e
  rw [← e]
  exact hK
set_option maxRecDepth 10000 in
theorem map_lookB (M : MapB W b n h) (T : TypeId) (ht : Try.prog.underlying T = some (.map 3 4)) (hg : o.guard = none) (ho : o.op = .lookup T x y false) (hx : a.eval x = .map (some b)) (hy : a.eval y = .int .i64 k) (hk : (Lit.int .i64 k).wf = true)
    (hK : wpList Try.prog ops Q rest (a.put o.dst (.bool (h k))) W) : wpList Try.prog ops Q (o :: rest) a W := by
  obtain ⟨D, h1, h2⟩ := M
  refine wpList_plain hg fun K' hK' => ?_
  obtain ⟨v, ps, hrun, hR⟩ := h1.lookup (e := 4) key3 ht (zero4 W) (plainElem_bool Try.underlying4 false) (keyOf_int_mk Try.underlying3 hk)
  rw [h2] at hR
  have hv : v = .bool (h k) := by
    unfold plainElem at hR
    rw [Try.underlying4] at hR
    cases v <;> simp at hR
    rw [hR.1]
  subst hv
  unfold Oper.wp
  simp [execOp, ho, hx, hy, hrun, Result.andThen]
  exact hK' _ _ hK
theorem map_storeI (M : MapI W b n f) (T : TypeId) (ht : Try.prog.underlying T = some (.map 3 3)) (hg : o.guard = none) (ho : o.op = .mapUpdate T x y z) (hx : a.eval x = .map (some b)) (hy : a.eval y = .int .i64 k) (hk : (Lit.int .i64 k).wf = true)
    (hz : a.eval z = .int .i64 v) (hv : (Lit.int .i64 v).wf = true) (hn : n < maxLen)
    (hK : ∀ u, Keeps W u [b] → MapI u b (n + 1) (updI f k v) → wpList Try.prog ops Q rest (a.put o.dst undef) u) : wpList Try.prog ops Q (o :: rest) a W := by
  obtain ⟨D, h1, h2⟩ := M
  refine wpList_mapUpdate_own _ hg _ _ _ T ho 3 3 key3 ht _ b n D hx h1 hn _ _ _ hy hz (keyOf_int_mk Try.underlying3 hk) _ [] (plainElem_int Try.underlying3 hv) fun u m g => hK u (keeps_of_grown g) ⟨_, m, fun j => ?_⟩
  by_cases hj : j = k
  · subst hj; rw [updI_same, Maps.atKey_put_same (k := .int .i64 j) h1.isMap True.intro]
  · rw [updI_other _ _ _ _ hj, Maps.atKey_put_other (fun e => hj (by injection e)), h2]
theorem map_storeB (M : MapB W b n h) (T : TypeId) (ht : Try.prog.underlying T = some (.map 3 4)) (hg : o.guard = none) (ho : o.op = .mapUpdate T x y z) (hx : a.eval x = .map (some b)) (hy : a.eval y = .int .i64 k) (hk : (Lit.int .i64 k).wf = true)
    (hz : a.eval z = .bool r) (hn : n < maxLen)
    (hK : ∀ u, Keeps W u [b] → MapB u b (n + 1) (updI h k r) → wpList Try.prog ops Q rest (a.put o.dst undef) u) : wpList Try.prog ops Q (o :: rest) a W := by
  obtain ⟨D, h1, h2⟩ := M
  refine wpList_mapUpdate_own _ hg _ _ _ T ho 3 4 key3 ht _ b n D hx h1 hn _ _ _ hy hz (keyOf_int_mk Try.underlying3 hk) _ [] (plainElem_bool Try.underlying4 r) fun u m g => hK u (keeps_of_grown g) ⟨_, m, fun j => ?_⟩
  by_cases hj : j = k
  · subst hj; rw [updI_same, Maps.atKey_put_same (k := .int .i64 j) h1.isMap True.intro]
  · rw [updI_other _ _ _ _ hj, Maps.atKey_put_other (fun e => hj (by injection e)), h2]
end
end Go.Proofs.Ytakmcpadkanggaa
