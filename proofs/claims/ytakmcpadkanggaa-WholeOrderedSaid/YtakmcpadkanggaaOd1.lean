/-
 Part 1 of what this claim rests on.
-/
import Derived.StillTail
import Derived.Deep.Quiet
import Derived.Deep.QuietTactic
import Derived.BigQuiet
import Derived.Below
import Derived.KernelRfl
import Derived.WalkKit
import Derived.WalkSpells
import Derived.WalkLawsBesides
import Derived.Deep.Draws
import Derived.Outline
import Derived.Deep.MidRow
import Derived.ChangeKeysEq
import Derived.Laws.CopyRow
import Derived.ProofKit
import Derived.OpenShut
import Derived.SizedLaws
import Derived.WideKeyArgs
import Derived.Test.YtakmcpadkanggaaProg
import Derived.Lib.Hide
import Derived.Lib.SmallJoins
import Derived.Deep.Slices
import Derived.Maps.OwnOps
import Derived.Maps.OwnSet
import Derived.Maps.Views
import Derived.Deep.OwnRows
import Derived.Laws.AppendOwnNone
import Derived.Laws.StructEq
import Derived.Great.BuildSlice
namespace Go.Proofs.Ytakmcpadkanggaa
open Go.RowKit
theorem kA {α : Type _} (l : List α) (i : Nat) (a : α) : l.toArray.setIfInBounds i a = (l.set i a).toArray := List.setIfInBounds_toArray ..
theorem kZ {α : Type _} {x y : α} {l : List α} : (x :: l).set 0 y = y :: l := rfl
theorem kS {α : Type _} {x y : α} {l : List α} {n : Nat} : (x :: l).set (n + 1) y = x :: l.set n y := rfl
section
variable {P : Program} {ops : Array Oper} {md : Region.Mode} {C : World → Prop}
def anyQL (P : Program) (md : Region.Mode) (ops : Array Oper) (C : World → Prop) (n : Nat) (L : Array Bool → Act → Prop) : Nat → Array Bool → Act → Prop
 | 0, listed, a => L listed a
 | f + 1, listed, a =>
   Region.ready md ops listed ≠ [] ∧ ∀ i ∈ Region.ready md ops listed, i < n ∧ qOp P ops C i (anyQL P md ops C n L f (listed.setIfInBounds i true)) a
theorem any_of_headQ {n g : Nat} {L : Array Bool → Act → Prop} {Q' : Exit → Act → World → Prop} (hL : ∀ listed a w, C w → L listed a → wpAny P md ops Q' g listed a w) :
   ∀ (f : Nat) (listed : Array Bool) (a : Act) (w : World), C w → anyQL P md ops C n L f listed a → wpAny P md ops Q' (f + g) listed a w
 | 0, listed, a, w, hw, h => by rw [Nat.zero_add]; exact hL _ _ _ hw h
 | f + 1, listed, a, w, hw, h => by
   rw [show f + 1 + g = (f + g) + 1 by omega]
   exact ⟨fun h0 => absurd h0 h.1, fun i hi => wpOp_of_qOp hw (fun a' w' hw' h' => any_of_headQ hL f _ a' w' hw' h') (h.2 i hi).2⟩
theorem anyQL_first {n i : Nat} {oi : Oper} {v : Value} {L : Array Bool → Act → Prop} (hi : ops[i]? = some oi) (hsel : ∀ (j : Nat) (o : Oper) cs b, ops[j]? = some o → o.op ≠ .select cs b)
   (hs : Region.sinkB md ops n = true) (hc : Region.chainB md ops n = true) (hn : n < ops.size) (hin : i < n)
   (hdone : ∀ listed a, L listed a → ∀ j ∈ Region.ready md ops listed, n ≤ j) :
   ∀ (f : Nat) (listed : Array Bool) (a : Act), HeadInv md ops n listed →
     (∀ j oj, ops[j]? = some oj → j ≠ i → listed.getD j true = false → (∀ e ∈ oj.after, Region.binds md e = true → e.on ≠ i) → oi.apart ops oj = true) →
     i ∈ Region.ready md ops listed → YieldsIn P ops C oi v a →
     anyQL P md ops C n L f (listed.setIfInBounds i true) (a.put oi.dst v) → anyQL P md ops C n L (f + 1) listed a := by
 intro f
 induction f with
 | zero =>
   intro listed a inv _ hr hy H
   have hun := (mem_ready.1 hr).1
   refine ⟨fun h => (by rw [h] at hr; cases hr), fun j hj => ?_⟩
   have hjn : j < n := by
     rcases Nat.lt_or_ge j n with h | h
     · exact h
     · exact absurd hj (tail_waits hs hc hn inv _ i rfl hin hun j h)
   refine ⟨hjn, ?_⟩
   by_cases hji : j = i
   · subst hji; exact hy.qOp hi H
   · have := hdone _ _ H j (ready_mono hj hji)
     omega
 | succ f ih =>
   intro listed a inv hfree hr hy H
   have hun := (mem_ready.1 hr).1
   refine ⟨fun h => (by rw [h] at hr; cases hr), fun j hj => ?_⟩
   have hjn : j < n := by
     rcases Nat.lt_or_ge j n with h | h
     · exact h
     · exact absurd hj (tail_waits hs hc hn inv _ i rfl hin hun j h)
   refine ⟨hjn, ?_⟩
   by_cases hji : j = i
   · subst hji; exact hy.qOp hi H
   · have h1 := (H.2 j (ready_mono hj hji)).2
     obtain ⟨hjun, oj, hoj, hall⟩ := mem_ready.1 hj
     have hnot : ∀ e ∈ oj.after, Region.binds md e = true → e.on ≠ i := fun e he hb heq => by
       have h1 := hall e he hb
       rw [heq, getD_both hun] at h1
       cases h1
     have h2 := qOp_put hoj (hfree j oj hoj hji hjun hnot) (fun cs b => hsel i oi cs b hi) (fun cs b => hsel j oj cs b hoj) hy h1
     have hfree' : ∀ k ok, ops[k]? = some ok → k ≠ i → (listed.setIfInBounds j true).getD k true = false →
         (∀ e ∈ ok.after, Region.binds md e = true → e.on ≠ i) → oi.apart ops ok = true := fun k ok hk hki hun hno => by
       refine hfree k ok hk hki ?_ hno
       by_cases hjk : j = k
       · subst hjk; exact hjun
       · rw [getD_set_ne true hjk] at hun; exact hun
     refine qOp_mono (fun a' h3 => ih (listed.setIfInBounds j true) a' (inv.set hj hjn) hfree' (ready_mono hr (Ne.symm hji)) h3.1 ?_) h2
     rw [Array.setIfInBounds_comm _ _ hji]
     exact h3.2
theorem anyQL_lex {n g : Nat} {Lq : Act → Prop} (hsel : Region.noSelect ops = true) (hs : Region.sinkB md ops n = true) (hc : Region.chainB md ops n = true) (hn : n < ops.size) :
   ∀ (l : List Oper) (k : Nat) (listed : Array Bool) (a : Act), (∀ j, j < l.length → l[j]? = ops[k + j]?) → k + l.length = n → HeadInv md ops n listed →
   Region.lexHead md ops g l.length k listed = true → wpQuiet P ops C Lq l a →
   anyQL P md ops C n (fun listed' a' => Region.seqB md ops g n listed' = true ∧ Lq a') l.length listed a
 | [], k, listed, a, _, hk, _, hB, h => by
   have : k = n := by simpa using hk
   subst this
   exact ⟨by simpa [Region.lexHead] using hB, h⟩
 | o :: l, k, listed, a, hl, hk, inv, hB, h => by
   have h0 : ops[k]? = some o := by simpa using (hl 0 (by simp)).symm
   simp only [List.length_cons, Region.lexHead, Bool.and_eq_true] at hB
   obtain ⟨⟨hr, hf⟩, hB'⟩ := hB
   have hkn : k < n := by simp only [List.length_cons] at hk; omega
   have hr' : k ∈ Region.ready md ops listed := by simpa using hr
   have hst : qOp P ops C k (wpQuiet P ops C Lq l) a := by unfold qOp; simp only [h0]; exact h
   obtain ⟨v, hy, hK⟩ := yieldsIn_of_qOp h0 hst
   exact anyQL_first h0 (Region.noSelect_spec hsel) hs hc hn hkn (fun listed' a' hL => seqB_ready hL.1) l.length listed a inv (Region.free_spec h0 hf) hr' hy
     (anyQL_lex hsel hs hc hn l (k + 1) _ _ (fun j hj => by have := hl (j + 1) (by simp; omega); simpa [Nat.add_assoc, Nat.add_comm 1 j] using this) (by simp only [List.length_cons] at hk; omega) (inv.set hr' hkn) hB' hK)
theorem wp_quiet_tail {id : Nat} {Q : Exit → Act → World → Prop} {a : Act} {w : World} {l : List Oper} (n : Nat) (hm : P.follows .mixedOrders = true) (hB : Region.lexTailB .any l.toArray n = true)
   (hC : C { w with drawn := w.drawn + 1 })
   (h : wpQuiet P l.toArray C (fun a' => ∀ w', C w' → wpList P l.toArray Q (l.drop n) a' w') (l.take n) a) : (Code.region id l.toArray true).wp P Q a w := by
 simp only [Region.lexTailB, Bool.and_eq_true, decide_eq_true_eq] at hB
 obtain ⟨⟨⟨⟨hsel, hn⟩, hs⟩, hc⟩, hlex⟩ := hB
 have hn' : n < l.length := by simpa using hn
 have htl : (l.take n).length = n := by simp; omega
 have hdl : (l.drop n).length = l.toArray.size - n := by simp
 have inv0 : HeadInv .any l.toArray n (Array.replicate l.toArray.size false) :=
   ⟨by simp, fun j oj _ hl => (by rw [getD_replicate_false] at hl; cases hl), fun t _ ht => getD_in (by simpa using ht) (getD_replicate_false _ _)⟩
 have H := anyQL_lex (md := .any) (g := l.toArray.size - n) hsel hs hc hn (l.take n) 0 _ a (fun j hj => by
   have hj' : j < n := by rw [htl] at hj; exact hj
   simp [hj']) (by simpa using htl) inv0 (by rw [htl]; exact hlex) h
 refine wp_region_any hm ?_
 have := any_of_headQ (Q' := Q) (g := l.toArray.size - n) (fun listed a' w' hw' hL => by
   have := wpAny_of_seq (md := .any) (Q' := Q) (l.drop n) n listed a' w' (fun j => by simp [List.getElem?_drop]) (by rw [hdl]; exact hL.1) (hL.2 w' hw')
   rwa [hdl] at this) _ _ _ _ hC H
 rw [htl, show n + (l.toArray.size - n) = l.toArray.size by omega] at this
 exact this
end
open Go.RowKit
structure Keeps (w u : World) (S : List Nat) : Prop where
 os : u.os = w.os
 tape : u.tape = w.tape
 output : u.output = w.output
 size : w.heap.size ≤ u.heap.size
 block : ∀ b, b < w.heap.size → b ∉ S → u.heap[b]? = w.heap[b]?
def Blk (w : World) (g : Nat) (t : TypeId) (cs : Array Value) : Prop := w.heap[g]? = some (.cells cs t (0, 0))
section
variable {w u v : World} {S S' : List Nat} {g : Nat} {t : TypeId} {cs cs' : Array Value}
theorem Keeps.refl (w : World) (S : List Nat) : Keeps w w S := ⟨rfl, rfl, rfl, Nat.le_refl _, fun _ _ _ => rfl⟩
theorem Keeps.trans (h : Keeps w u S) (k : Keeps u v S') (hs : ∀ b ∈ S', b < w.heap.size → b ∈ S) : Keeps w v S :=
 ⟨k.os.trans h.os, k.tape.trans h.tape, k.output.trans h.output, Nat.le_trans h.size k.size, fun b hb hn =>
   (k.block b (Nat.lt_of_lt_of_le hb h.size) (fun hm => hn (hs b hm hb))).trans (h.block b hb hn)⟩
theorem Keeps.drew (h : Keeps w u S) : Keeps w u.drew S := ⟨h.os, h.tape, h.output, h.size, h.block⟩
theorem Keeps.alloc (h : Keeps w u S) (o : Obj) : Keeps w (u.alloc o) S :=
 ⟨h.os, h.tape, h.output, Nat.le_trans h.size (by simp), fun b hb hn => (Below.heap_alloc u o b (Nat.lt_of_lt_of_le hb h.size)).trans (h.block b hb hn)⟩
theorem Keeps.setCell (h : Keeps w u S) (p : Addr) (x : Value) (hp : p.block < w.heap.size → p.block ∈ S) : Keeps w (u.setCell p x) S :=
 ⟨h.os, h.tape, h.output, by simpa [World.setCell] using h.size, fun b hb hn => (Below.heap_setCell u p x b (by rintro rfl; exact hn (hp hb))).trans (h.block b hb hn)⟩
theorem Keeps.setRow (h : Keeps w u S) (g : Nat) (cs : Array Value) (hp : g < w.heap.size → g ∈ S) : Keeps w (u.setRow g cs) S :=
 ⟨h.os, h.tape, h.output, by simpa using h.size, fun b hb hn => (setRow_other u g b cs (by rintro rfl; exact hn (hp hb))).trans (h.block b hb hn)⟩
theorem Keeps.below (h : Keeps w u []) : Below w.heap.size w u := ⟨h.os, h.tape, h.output, h.size, fun b hb => h.block b hb (by simp)⟩
theorem Keeps.of_below (h : Below w.heap.size w u) : Keeps w u S := ⟨h.os, h.tape, h.output, h.size, fun b hb _ => h.block b hb⟩
theorem Keeps.cell (h : Keeps w u S) : ∀ b o, b < w.heap.size → b ∉ S → u.cell? ⟨b, o, none⟩ = w.cell? ⟨b, o, none⟩ := fun b o hb hn => by
 simp only [World.cell?, h.block b hb hn]
theorem Keeps.frozen (h : Keeps w u S) : ∀ b o, b < w.heap.size → b ∉ S → u.frozen? ⟨b, o, none⟩ = w.frozen? ⟨b, o, none⟩ := fun b o hb hn => by
 simp only [World.frozen?, h.block b hb hn]
theorem Blk.lt (h : Blk w g t cs) : g < w.heap.size := by
 rcases Nat.lt_or_ge g w.heap.size with hlt | hge
 · exact hlt
 · unfold Blk at h; rw [Array.getElem?_eq_none hge] at h; cases h
theorem Blk.cell (h : Blk w g t cs) : ∀ i, w.cell? ⟨g, i, none⟩ = cs[i]? := fun i => cell_of_row w g i cs t (0, 0) h
theorem Blk.frozen (h : Blk w g t cs) : ∀ i, w.frozen? ⟨g, i, none⟩ = false := fun i => frozen_of_row w g i cs t h
theorem Blk.new (w : World) (t : TypeId) (cs : Array Value) : Blk (w.alloc (.cells cs t)) w.heap.size t cs := heap_alloc_new w _
theorem Blk.drew (h : Blk w g t cs) : Blk w.drew g t cs := h
theorem Blk.alloc (h : Blk w g t cs) (o : Obj) : Blk (w.alloc o) g t cs := (Below.heap_alloc w o g h.lt).trans h
theorem Blk.setCell (h : Blk w g t cs) (i : Nat) (x : Value) : Blk (w.setCell ⟨g, i, none⟩ x) g t (cs.setIfInBounds i x) := heap_setCell_same w g i cs t x h
theorem Blk.setRow (h : Blk w g t cs) (cs' : Array Value) : Blk (w.setRow g cs') g t cs' := setRow_heap w g cs cs' t _ h
theorem Blk.keeps (h : Blk w g t cs) (k : Keeps w u S) (hg : g ∉ S) : Blk u g t cs := (k.block g h.lt hg).trans h
end
theorem wpList_store_blk {P : Program} {ops : Array Oper} {rest : List Oper} {o : Oper} {a : Act} {w : World} {Q : Exit → Act → World → Prop} (g i : Nat) (t : TypeId) (cs : Array Value) (x : Value)
   {ty : TypeId} {y z : Operand} (hgd : o.guard = none) (hdst : o.dst = none) (ho : o.op = .store ty y z) (hy : a.eval y = .pointer (some ⟨g, i, none⟩)) (hz : a.eval z = x)
   (hb : Blk w g t cs) (hi : i < cs.size) (hx : x.cells = #[x]) (h1 : x.oneCell' = true) (hs : (P.info? ty).map (·.size) = some 1)
   (h : ∀ u, Keeps w u [g] → Blk u g t (cs.setIfInBounds i x) → wpList P ops Q rest a u) : wpList P ops Q (o :: rest) a w := by
 refine wpList_plain hgd fun K hK => ?_
 have hc : w.cell? ⟨g, i, none⟩ = some cs[i] := by rw [hb.cell, Array.getElem?_eq_getElem hi]
 have hf : w.frozen? ⟨g, i, none⟩ = false := hb.frozen i
 have hst : (store ⟨g, i, none⟩ x .plain).run P w = .ok () (w.setCell ⟨g, i, none⟩ x) := by
   rw [run_store P w _ x .plain h1]
   simp [hc, hf]
 cases hq : P.info? ty with
 | none => simp [hq] at hs
 | some inf =>
   have hsz : inf.size = 1 := by simpa [hq] using hs
   have hv : (storeVar ty ⟨g, i, none⟩ x).run P w = .ok () (w.setCell ⟨g, i, none⟩ x) := by
     simp [storeVar, storeCells, hx, sizeOf, typeInfo, hq, hsz, hst, Addr.add_zero']
   unfold Oper.wp execOp
   simp only [ho, hy, hz, Instr.storeAt, Instr.sureAddr, Sem.run_bind, Sem.run_pure, Result.andThen_ok, hv]
   show K (a.put o.dst undef) _
   rw [hdst]
   exact hK _ _ (h _ ((Keeps.refl w _).setCell _ _ (fun _ => by simp)) (hb.setCell i x))
def Later (w : World) := { u : World // Keeps w u [] }
instance Later.some_ (w : World) : Nonempty (Later w) := ⟨⟨w, Keeps.refl w []⟩⟩
theorem Later.cell {w : World} {g : Nat} {t : TypeId} {cs : Array Value} (h : Blk w g t cs) : ∀ (p : Later w) (i : Nat), p.1.cell? ⟨g, i, none⟩ = cs[i]? := fun p => (h.keeps p.2 (by simp)).cell
theorem Later.frozen {w : World} {g : Nat} {t : TypeId} {cs : Array Value} (h : Blk w g t cs) : ∀ (p : Later w) (i : Nat), p.1.frozen? ⟨g, i, none⟩ = false := fun p => (h.keeps p.2 (by simp)).frozen
theorem wp_quiet_later {P : Program} {id : Nat} {Q : Exit → Act → World → Prop} {a : Act} {w : World} {l : List Oper} (hm : P.follows .mixedOrders = true) (hB : Region.lexB .any l.toArray = true)
   (h : wpQuiet P l.toArray (fun u => ∃ p : Later w, u = p.1) (fun a' => ∀ w', (∃ p : Later w, w' = p.1) → Q .normal a' w') l a) : (Code.region id l.toArray true).wp P Q a w :=
 wp_region_quiet (C := fun u => ∃ p : Later w, u = p.1) hm hB ⟨⟨w.drew, (Keeps.refl w []).drew⟩, rfl⟩ (by simpa using h)
theorem wp_quiet_tail_later {P : Program} {id : Nat} {Q : Exit → Act → World → Prop} {a : Act} {w : World} {l : List Oper} (n : Nat) (hm : P.follows .mixedOrders = true) (hB : Region.lexTailB .any l.toArray n = true)
   (h : wpQuiet P l.toArray (fun u => ∃ p : Later w, u = p.1) (fun a' => ∀ w', (∃ p : Later w, w' = p.1) → wpList P l.toArray Q (l.drop n) a' w') (l.take n) a) : (Code.region id l.toArray true).wp P Q a w :=
 wp_quiet_tail n hm hB ⟨⟨w.drew, (Keeps.refl w []).drew⟩, rfl⟩ h
theorem later_of {P : Program} {f : FuncId} {args : Array Value} {w : World} {p : Later w} {v : Value} (h : Calls P f args p.1 fun e w' => e = .returned v ∧ Keeps p.1 w' []) :
   Calls P f args p.1 fun e w'' => e = .returned v ∧ ∃ q : Later w, w'' = q.1 :=
 h.mono fun _ w' ⟨he, hk⟩ => ⟨he, ⟨w', p.2.trans hk (by simp)⟩, rfl⟩
theorem wpList_load_blk {P : Program} {ops : Array Oper} {rest : List Oper} {o : Oper} {a : Act} {w : World} {Q : Exit → Act → World → Prop} {g : Nat} {t ty : TypeId} {cs : Array Value} {x : Operand} {d : TypeDesc} (n : Nat)
   (_hd : o.dst = some n) (hgd : o.guard = none) (ho : o.op = .load ty x) (hx : a.eval x = .pointer (some ⟨g, 0, none⟩)) (hb : Blk w g t cs)
   (hu : P.underlying ty = some d) (hd : (match d with | .struct _ | .array _ _ => true | _ => false) = true) (hi : (P.info? ty).map (·.size) = some cs.size)
   (h : wpList P ops Q rest (a.put o.dst (.agg cs)) w) : wpList P ops Q (o :: rest) a w :=
 wpList_load_row hgd ty x ho g hx t cs (0, 0) d hb hu hd hi h
theorem wpList_store_row {P : Program} {ops : Array Oper} {rest : List Oper} {o : Oper} {a : Act} {w : World} {Q : Exit → Act → World → Prop} {g : Nat} {t ty : TypeId} {cs cs' : Array Value} (y z : Operand)
   (hgd : o.guard = none) (hdst : o.dst = none) (ho : o.op = .store ty y z) (hy : a.eval y = .pointer (some ⟨g, 0, none⟩)) (hz : a.eval z = .agg cs') (hb : Blk w g t cs)
   (hi : (P.info? ty).map (·.size) = some cs'.size) (hs : cs.size = cs'.size) (h1 : ∀ v ∈ cs'.toList, v.oneCell' = true)
   (h : ∀ u, Keeps w u [g] → Blk u g t cs' → wpList P ops Q rest a u) : wpList P ops Q (o :: rest) a w := by
 refine wpList_plain hgd fun K hK => ?_
 cases hq : P.info? ty with
 | none => simp [hq] at hi
 | some inf =>
   have hsz : inf.size = cs'.size := by simpa [hq] using hi
   have hst := run_storeCells_from (P := P) g t cs'.toList 0 cs w hb (by simpa using hs.symm) h1
   have hv : (storeVar ty ⟨g, 0, none⟩ (.agg cs')).run P w = .ok () (w.setRow g cs') := by
     simp [storeVar, Value.cells, sizeOf, typeInfo, hq, hsz, hst]
   unfold Oper.wp execOp
   simp only [ho, hy, hz, Instr.storeAt, Instr.sureAddr, Sem.run_bind, Sem.run_pure, Result.andThen_ok, hv]
   show K (a.put o.dst undef) _
   rw [hdst]
   exact hK _ _ (h _ ((Keeps.refl w _).setRow _ _ (fun _ => by simp)) (hb.setRow cs'))
theorem at_dst {P : Program} {ops : Array Oper} {rest : List Oper} {o : Oper} {a : Act} {w : World} {Q : Exit → Act → World → Prop} (d : Nat) (_hd : o.dst = some d) (h : wpList P ops Q (o :: rest) a w) : wpList P ops Q (o :: rest) a w := h
theorem at_store {P : Program} {ops : Array Oper} {rest : List Oper} {o : Oper} {a : Act} {w : World} {Q : Exit → Act → World → Prop} (y z : Operand) {t : TypeId} (_hd : o.op = .store t y z) (h : wpList P ops Q (o :: rest) a w) : wpList P ops Q (o :: rest) a w := h
theorem wpList_const {P : Program} {ops : Array Oper} {rest : List Oper} {o : Oper} {a : Act} {w : World} {Q : Exit → Act → World → Prop} (d : Nat) (v : Value) (_hd : o.dst = some d) (hgd : o.guard = none)
   (hr : ∀ w, (execOp a.eval o).run P w = .ok (.value v) w) (h : wpList P ops Q rest (a.put o.dst v) w) : wpList P ops Q (o :: rest) a w :=
 wpList_plain hgd fun K hK => by
   unfold Oper.wp
   rw [hr w]
   exact hK _ _ h
theorem wpList_alloc {P : Program} {ops : Array Oper} {rest : List Oper} {o : Oper} {a : Act} {w : World} {Q : Exit → Act → World → Prop} {T : TypeId} (d : Nat) (cs : Array Value) (_hd : o.dst = some d) (hgd : o.guard = none)
   (ho : o.op = .alloc T) (hz : ∀ w, (zeroValue T).run P w = .ok (.agg cs) w)
   (h : ∀ u, Keeps w u [] → Blk u w.heap.size T cs → w.heap.size < u.heap.size → wpList P ops Q rest (a.put o.dst (.pointer (some ⟨w.heap.size, 0, none⟩))) u) : wpList P ops Q (o :: rest) a w := by
 refine wpList_plain hgd fun K hK => ?_
 have hr : (Instr.alloc T true (.tuple #[])).run P w = .ok (.pointer (some ⟨w.heap.size, 0, none⟩)) (w.alloc (.cells cs T)) := by
   simp [Instr.alloc, hz w, newVar, newRow, Value.cells]
 unfold Oper.wp execOp
 simp only [ho, Sem.run_bind, hr, Result.andThen_ok, Sem.run_pure]
 exact hK _ _ (h _ ((Keeps.refl _ _).alloc _) (Blk.new _ _ _) (by simp))
theorem wpList_box {P : Program} {ops : Array Oper} {rest : List Oper} {o : Oper} {a : Act} {w : World} {Q : Exit → Act → World → Prop} {T : TypeId} {x : Operand} (d : Nat) (cs : Array Value) (_hd : o.dst = some d) (hgd : o.guard = none)
   (ho : o.op = .box T x) (hx : a.eval x = .agg cs)
   (h : ∀ u, Keeps w u [] → Blk u w.heap.size T cs → w.heap.size < u.heap.size → wpList P ops Q rest (a.put o.dst (.pointer (some ⟨w.heap.size, 0, none⟩))) u) : wpList P ops Q (o :: rest) a w := by
 refine wpList_plain hgd fun K hK => ?_
 have hr : (Instr.box T (.agg cs)).run P w = .ok (.pointer (some ⟨w.heap.size, 0, none⟩)) (w.alloc (.cells cs T)) := by
   simp [Instr.box, newVar, newRow, Value.cells]
 unfold Oper.wp execOp
 simp only [ho, hx, Sem.run_bind, hr, Result.andThen_ok, Sem.run_pure]
 exact hK _ _ (h _ ((Keeps.refl _ _).alloc _) (Blk.new _ _ _) (by simp))
theorem wpList_load_part {P : Program} {ops : Array Oper} {rest : List Oper} {o : Oper} {a : Act} {w : World} {Q : Exit → Act → World → Prop} {g off : Nat} {t ty : TypeId} {cs part : Array Value} {x : Operand} {d : TypeDesc} (n : Nat)
   (_hd : o.dst = some n) (hgd : o.guard = none) (ho : o.op = .load ty x) (hx : a.eval x = .pointer (some ⟨g, off, none⟩)) (hb : Blk w g t cs)
   (hu : P.underlying ty = some d) (hd : d.isRow = true) (hi : (P.info? ty).map (·.size) = some part.size) (hp : ∀ j, j < part.size → cs[off + j]? = part[j]?)
   (h : wpList P ops Q rest (a.put o.dst (.agg part)) w) : wpList P ops Q (o :: rest) a w := by
 refine wpList_load_mid hgd ty x ho g off hx part.toList d (fun j v hv => ?_) hu hd (by simpa using hi) (by simpa using h)
 rw [hb.cell]
 have hj : j < part.size := by
   rcases Nat.lt_or_ge j part.size with h1 | h1
   · exact h1
   · rw [List.getElem?_eq_none (by simpa using h1)] at hv; cases hv
 rw [hp j hj]
 simpa using hv
theorem wpQuiet_at {P : Program} {ops : Array Oper} {C : World → Prop} {Q : Act → Prop} {a : Act} {o : Oper} {rest : List Oper} (d : Nat) (v : Value) (_hd : o.dst = some d)
   (hw : Region.wanted o (yielded ops a.tmps) = true) (hq : ∀ w, C w → (execOp a.eval o).run P w = .ok (.value v) w)
   (h : wpQuiet P ops C Q rest (a.put o.dst v)) : wpQuiet P ops C Q (o :: rest) a := by
 unfold wpQuiet
 rw [if_pos hw]
 refine ⟨v, fun w hw' => ?_, h⟩
 unfold Oper.quietAt
 rw [hq w hw']
 exact ⟨rfl, rfl⟩
theorem Later.blk {w : World} {g : Nat} {t : TypeId} {cs : Array Value} (h : Blk w g t cs) : ∀ u, (∃ p : Later w, u = p.1) → Blk u g t cs := by
 rintro _ ⟨p, rfl⟩
 exact h.keeps p.2 (by simp)
open Go.RowKit
abbrev Ent := Nat × TypeId × Array Value
structure Own (w W : World) (S : List Nat) (L : List Ent) : Prop where
 keep : Keeps w W S
 blk : ∀ e ∈ L, Blk W e.1 e.2.1 e.2.2
 new : ∀ e ∈ L, e.1 < w.heap.size → e.1 ∈ S
 nd : (L.map (·.1)).Nodup
section
variable {w W W' : World} {S : List Nat} {L : List Ent} {g : Nat} {t : TypeId} {cs cs' : Array Value}
theorem Own.start (w : World) (S : List Nat) : Own w w S [] := ⟨Keeps.refl w S, by simp, by simp, by simp⟩
theorem Own.get (h : Own w W S L) (k : Nat) (hk : L[k]? = some (g, t, cs)) : Blk W g t cs := h.blk (g, t, cs) (List.mem_of_getElem? hk)
theorem Own.lt (h : Own w W S L) (k : Nat) (hk : L[k]? = some (g, t, cs)) : g < W.heap.size := (h.get k hk).lt
theorem Own.drew (h : Own w W S L) : Own w W.drew S L := ⟨h.keep.drew, h.blk, h.new, h.nd⟩
theorem Own.keeps (h : Own w W S L) (k : Keeps W W' []) : Own w W' S L :=
 ⟨h.keep.trans k (by simp), fun e he => (h.blk e he).keeps k (by simp), h.new, h.nd⟩
theorem Own.add (h : Own w W S L) (k : Keeps W W' []) (b : Blk W' W.heap.size t cs) : Own w W' S ((W.heap.size, t, cs) :: L) := by
 refine ⟨h.keep.trans k (by simp), ?_, ?_, ?_⟩
 · intro e he
   rcases List.mem_cons.1 he with rfl | he
   · exact b
   · exact (h.blk e he).keeps k (by simp)
 · intro e he hlt
   rcases List.mem_cons.1 he with rfl | he
   · have := h.keep.size; simp only at hlt; omega
   · exact h.new e he hlt
 · rw [List.map_cons, List.nodup_cons]
   refine ⟨?_, h.nd⟩
   intro hm
   obtain ⟨e, he, hq⟩ := List.mem_map.1 hm
   have := (h.blk e he).lt
   simp only at hq
   omega
theorem Own.have_ (h : Own w W S L) (b : Blk W g t cs) (hg : g ∈ S) (hn : ∀ e ∈ L, e.1 ≠ g) : Own w W S ((g, t, cs) :: L) := by
 refine ⟨h.keep, ?_, ?_, ?_⟩
 · intro e he
   rcases List.mem_cons.1 he with rfl | he
   · exact b
   · exact h.blk e he
 · intro e he hlt
   rcases List.mem_cons.1 he with rfl | he
   · exact hg
   · exact h.new e he hlt
 · rw [List.map_cons, List.nodup_cons]
   refine ⟨?_, h.nd⟩
   intro hm
   obtain ⟨e, he, hq⟩ := List.mem_map.1 hm
   exact hn e he hq
theorem Own.apart (h : Own w W S L) {i j : Nat} {e f : Ent} (hi : L[i]? = some e) (hj : L[j]? = some f) (hij : i ≠ j) : e.1 ≠ f.1 := by
 have hn := List.pairwise_iff_getElem.1 h.nd
 obtain ⟨hi1, hi2⟩ := List.getElem?_eq_some_iff.1 hi
 obtain ⟨hj1, hj2⟩ := List.getElem?_eq_some_iff.1 hj
 rcases Nat.lt_or_ge i j with hlt | hge
 · have := hn i j (by simpa using hi1) (by simpa using hj1) hlt
   simpa [hi2, hj2] using this
 · have := hn j i (by simpa using hj1) (by simpa using hi1) (by omega)
   have h' : f.1 ≠ e.1 := by simpa [hi2, hj2] using this
   exact fun h => h' h.symm
theorem Own.set (h : Own w W S L) (k : Nat) (hk : L[k]? = some (g, t, cs)) (hw : Keeps W W' [g]) {t' : TypeId} (b : Blk W' g t' cs') : Own w W' S (L.set k (g, t', cs')) := by
 have hlt : k < L.length := (List.getElem?_eq_some_iff.1 hk).1
 refine ⟨h.keep.trans hw ?_, ?_, ?_, ?_⟩
 · intro b hb hlt
   obtain rfl : b = g := by simpa using hb
   exact h.new _ (List.mem_of_getElem? hk) hlt
 · intro e he
   obtain ⟨i, hi⟩ := List.getElem?_of_mem he
   rw [List.getElem?_set] at hi
   by_cases hki : k = i
   · subst hki
     rw [if_pos rfl, if_pos hlt] at hi
     cases hi
     exact b
   · rw [if_neg hki] at hi
     have hne := h.apart hi hk (fun e => hki e.symm)
     exact (h.blk e (List.mem_of_getElem? hi)).keeps hw (by simpa using hne)
 · intro e he hlt'
   obtain ⟨i, hi⟩ := List.getElem?_of_mem he
   rw [List.getElem?_set] at hi
   by_cases hki : k = i
   · subst hki
     rw [if_pos rfl, if_pos hlt] at hi
     cases hi
     exact h.new (g, t, cs) (List.mem_of_getElem? hk) hlt'
   · rw [if_neg hki] at hi
     exact h.new e (List.mem_of_getElem? hi) hlt'
 · have e1 : (L.set k (g, t', cs')).map (·.1) = L.map (·.1) := by
     apply List.ext_getElem?
     intro i
     rw [List.getElem?_map, List.getElem?_map, List.getElem?_set]
     by_cases hki : k = i
     · subst hki; rw [if_pos rfl, if_pos hlt, hk]; rfl
     · rw [if_neg hki]
   rw [e1]
   exact h.nd
theorem Own.put (h : Own w W S L) (k : Nat) (hk : L[k]? = some (g, t, cs)) (e : cs = cs') : Own w W S (L.set k (g, t, cs')) := by
 subst e
 exact h.set k hk (Keeps.refl _ _) (h.get k hk)
theorem Own.drop_ (h : Own w W S L) (n : Nat) : Own w W S (L.drop n) :=
 ⟨h.keep, fun e he => h.blk e (List.mem_of_mem_drop he), fun e he => h.new e (List.mem_of_mem_drop he), by rw [List.map_drop]; exact List.Pairwise.sublist (List.drop_sublist _ _) h.nd⟩
end
section
variable {P : Program} {ops : Array Oper} {rest : List Oper} {o : Oper} {a : Act} {w W : World} {Q : Exit → Act → World → Prop} {S : List Nat} {L : List Ent} {T ty : TypeId} {g g' : Nat} {t t' : TypeId} {cs cs' : Array Value} {x y z : Operand}
theorem own_alloc (d : Nat) (cs : Array Value) (O : Own w W S L) (_hd : o.dst = some d) (hgd : o.guard = none) (ho : o.op = .alloc T) (hz : ∀ w, (zeroValue T).run P w = .ok (.agg cs) w)
   (h : ∀ u g, Own w u S ((g, T, cs) :: L) → wpList P ops Q rest (a.put o.dst (.pointer (some ⟨g, 0, none⟩))) u) : wpList P ops Q (o :: rest) a W :=
 wpList_alloc d cs _hd hgd ho hz fun u k b _ => h u _ (O.add k b)
theorem own_alloc1 (d : Nat) (v : Value) (O : Own w W S L) (_hd : o.dst = some d) (hgd : o.guard = none) (ho : o.op = .alloc T) (hz : ∀ w, (zeroValue T).run P w = .ok v w) (hv : v.cells = #[v])
   (h : ∀ u g, Own w u S ((g, T, #[v]) :: L) → wpList P ops Q rest (a.put o.dst (.pointer (some ⟨g, 0, none⟩))) u) : wpList P ops Q (o :: rest) a W := by
 refine wpList_plain hgd fun K hK => ?_
 have hr : (Instr.alloc T true (.tuple #[])).run P W = .ok (.pointer (some ⟨W.heap.size, 0, none⟩)) (W.alloc (.cells #[v] T)) := by
   simp [Instr.alloc, hz W, newVar, newRow, hv]
 unfold Oper.wp execOp
 simp only [ho, Sem.run_bind, hr, Result.andThen_ok, Sem.run_pure]
 exact hK _ _ (h _ _ (O.add ((Keeps.refl _ _).alloc _) (Blk.new _ _ _)))
theorem own_box (d : Nat) (cs : Array Value) (O : Own w W S L) (_hd : o.dst = some d) (hgd : o.guard = none) (ho : o.op = .box T x) (hx : a.eval x = .agg cs)
   (h : ∀ u g, Own w u S ((g, T, cs) :: L) → wpList P ops Q rest (a.put o.dst (.pointer (some ⟨g, 0, none⟩))) u) : wpList P ops Q (o :: rest) a W :=
 wpList_box d cs _hd hgd ho hx fun u k b _ => h u _ (O.add k b)
theorem own_load (d k : Nat) (O : Own w W S L) (_hd : o.dst = some d) (hgd : o.guard = none) (ho : o.op = .load ty x) (hx : a.eval x = .pointer (some ⟨g, 0, none⟩)) (hk : L[k]? = some (g, t, cs)) {e : TypeDesc}
   (hu : P.underlying ty = some e) (he : (match e with | .struct _ | .array _ _ => true | _ => false) = true) (hi : (P.info? ty).map (·.size) = some cs.size)
   (h : wpList P ops Q rest (a.put o.dst (.agg cs)) W) : wpList P ops Q (o :: rest) a W :=
 wpList_load_blk d _hd hgd ho hx (O.get k hk) hu he hi h
theorem own_load_part (d k : Nat) {off : Nat} {part : Array Value} (O : Own w W S L) (_hd : o.dst = some d) (hgd : o.guard = none) (ho : o.op = .load ty x) (hx : a.eval x = .pointer (some ⟨g, off, none⟩)) (hk : L[k]? = some (g, t, cs)) {e : TypeDesc}
   (hu : P.underlying ty = some e) (he : e.isRow = true) (hi : (P.info? ty).map (·.size) = some part.size) (hp : ∀ j, j < part.size → cs[off + j]? = part[j]?)
   (h : wpList P ops Q rest (a.put o.dst (.agg part)) W) : wpList P ops Q (o :: rest) a W :=
 wpList_load_part d _hd hgd ho hx (O.get k hk) hu he hi hp h
theorem own_store_row (k : Nat) (y z : Operand) (O : Own w W S L) (hgd : o.guard = none) (hdst : o.dst = none) (ho : o.op = .store ty y z) (hy : a.eval y = .pointer (some ⟨g, 0, none⟩)) (hz : a.eval z = .agg cs') (hk : L[k]? = some (g, t, cs))
   (hi : (P.info? ty).map (·.size) = some cs'.size) (hs : cs.size = cs'.size) (h1 : ∀ v ∈ cs'.toList, v.oneCell' = true)
   (h : ∀ u, Own w u S (L.set k (g, t, cs')) → wpList P ops Q rest a u) : wpList P ops Q (o :: rest) a W :=
 wpList_store_row y z hgd hdst ho hy hz (O.get k hk) hi hs h1 fun u kp b => h u (O.set k hk kp b)
theorem own_store (k i : Nat) (v : Value) (y z : Operand) (O : Own w W S L) (hgd : o.guard = none) (hdst : o.dst = none) (ho : o.op = .store ty y z) (hy : a.eval y = .pointer (some ⟨g, i, none⟩)) (hz : a.eval z = v) (hk : L[k]? = some (g, t, cs))
   (hi : i < cs.size) (hx : v.cells = #[v]) (h1 : v.oneCell' = true) (hs : (P.info? ty).map (·.size) = some 1) (he : cs.setIfInBounds i v = cs')
   (h : ∀ u, Own w u S (L.set k (g, t, cs')) → wpList P ops Q rest a u) : wpList P ops Q (o :: rest) a W :=
 wpList_store_blk g i t cs v hgd hdst ho hy hz (O.get k hk) hi hx h1 hs fun u kp b => h u (O.set k hk kp (by rw [← he]; exact b))
end
open Go.ChangeShapes Go.WideShapes Go.ChangeAt Go.RowKit
section
variable {H : Type} {enc : TypeId × Value → H} {P : Program}
theorem trodAll_stays (hl : laidOutB P = true) {W W' : World} {sp' : Nat → Bool} : ∀ (ts : List TypeId) (vs : List Value) (ds : List (DataW H)) (ps : List MemPlace),
   (∀ t ∈ ts, P.readableRec t = true ∧ t < P.types.size) → DataW.TrodAll enc P W 0 (fun _ => true) true ts vs ds ps → (∀ p ∈ ps, W.sameAt W' p) → (∀ p ∈ ps, sp' p.block = true) →
   DataW.TrodAll enc P W' 0 sp' true ts vs ds ps
 | [], vs, ds, ps, _, h, _, _ => by
   obtain ⟨rfl, rfl, rfl⟩ := trodAll_nil h
   exact trodAll_mk0
 | t :: ts, vs, ds, ps, hr, h, hsame, hs => by
   obtain ⟨v, vs', d, ds', p, q, rfl, rfl, rfl, h0, h1⟩ := trodAll_cons h
   exact trodAll_cons_mk (WideElems.Trod_stays hl (hr t (by simp)).1 (hr t (by simp)).2 h0 (fun x hx => hsame x (by simp [hx])) (fun x hx => hs x (by simp [hx])))
     (trodAll_stays hl ts vs' ds' q (fun t ht => hr t (by simp [ht])) h1 (fun x hx => hsame x (by simp [hx])) (fun x hx => hs x (by simp [hx])))
theorem trodAll_length {W : World} {b : Nat} {sp : Nat → Bool} {hd : Bool} : ∀ (ts : List TypeId) (vs : List Value) (ds : List (DataW H)) (ps : List MemPlace), DataW.TrodAll enc P W b sp hd ts vs ds ps → vs.length = ts.length ∧ ds.length = ts.length
 | [], vs, ds, ps, h => by
   obtain ⟨rfl, rfl, rfl⟩ := trodAll_nil h
   exact ⟨rfl, rfl⟩
 | t :: ts, vs, ds, ps, h => by
   obtain ⟨v, vs', d, ds', p, q, rfl, rfl, rfl, _, h1⟩ := trodAll_cons h
   have := trodAll_length ts vs' ds' q h1
   simp [this]
theorem law_lifted {C : Checked} {os : Os} (own : ownKnob C.prog.godebug = none) (started : os.Started) {f : FuncId} {F : Func} {s : ChangeSpec} {T : TypeId}
   (noInit : C.prog.inits.idxOf? f = none) (hF : C.prog.funcs[f]? = some F) (hvars : s.vars = [])
   (hspec : ∀ ds : List (DataW H), ds.length = F.params.size → (s.fn H ds).results = [.lit (.bool true)] ∧ (s.fn H ds).args = ds ∧ (s.fn H ds).vars = [])
   (hres : F.resultTypes = #[T]) (hT : C.prog.underlying T = some .bool)
   (hlaid : laidOutB C.prog = true) (hread : ∀ t ∈ F.params.toList, C.prog.readableRec t = true ∧ t < C.prog.types.size)
   (witness : ∃ (w : World) (tape : Tape) (i : Input), w.os = os ∧ (w.forCall tape i).Shaped C.prog ∧ i.vars = [] ∧ Input.okWide C.prog (w.forCall tape i) .any w.heap.size f i ∧
     s.pre6 enc C.prog F [] false (w.forCall tape i).memory i.args ∧ ({} : Assume).holds C.prog (lone (Frame.enter C.prog f i.args .normal) [] (w.forCall tape i)))
   (walk : ∀ (W : World) (base : Nat) (args : Array Value) (ds : List (DataW H)) (ps : List MemPlace),
     (∀ (j : Nat) t v, F.params[j]? = some t → args[j]? = some v → Value.okWide C.prog W .any base t v) →
     DataW.TrodAll enc C.prog W 0 (fun _ => true) true F.params.toList args.toList ds ps →
     (∀ p ∈ ps, p.block < W.heap.size) → W.noneFrozen ps →
     (DataW.weightsEach C.prog F.params.toList ds).all (· ≤ reachBytes) = true →
     Calls C.prog f args W fun e W' => e = .returned (.bool true) ∧ Below W.heap.size W W') :
   ReturnsInHanded {} C os f .any (s.pre6 enc C.prog F [] false) (s.post enc C.prog F false true false false) := by
 refine returnsInHanded_of_change_sized own started noInit hF witness ?_
 intro W base args ds gs before hval hW hcnd hsz _
 have hlt : ∀ p ∈ before, p.block < W.heap.size := fun p hp => hW.lt p hp
 have hW' := hW
 obtain ⟨p, q, hA, hV, rfl, hfz, hnd⟩ := hW
 rw [hvars] at hV
 obtain ⟨rfl, rfl⟩ := trodVars_none hV
 simp only [List.append_nil] at hlt hW' hsz hfz
 have hvt : s.plain.varTypes C.prog = [] := by simp [ChangeSpec.plain, DataSpec.varTypes, hvars]
 rw [hvt, List.append_nil] at hsz
 refine (walk W base args ds p hval hA hlt hfz hsz).mono fun e W' ⟨he, hb⟩ => ?_
 subst he
 have hlen : ds.length = F.params.size := by rw [(trodAll_length _ _ _ _ hA).2, Array.length_toList]
 obtain ⟨s1, s2, s3⟩ := hspec ds hlen
 refine ⟨_, rfl, ds, [], p, [], p, [], hW', ?_, ?_, ?_, ?_, fun h => by cases h⟩
 · rw [List.append_nil, s1, hres]
   exact trodAll_mk1 (shut_bool hT true)
 · rw [List.append_nil, s2]
   exact trodAll_stays hlaid _ _ _ _ hread hA (fun x hx => hb.same (hlt x hx)) (fun x hx => by simpa using hlt x hx)
 · rw [List.append_nil, s3, hvars]
   trivial
 · exact World.keptBut_mono (fun x hx => ⟨hx, by simpa using hx⟩) (hb.frame (· ∈ p))
end
open Go.ChangeShapes Go.WideShapes Go.RowKit Go.Deep
theorem add_block (a : Addr) (n : Nat) : (a.add n).block = a.block := by unfold Addr.add; split <;> rfl
theorem Keeps.cellAt {w u : World} {S : List Nat} (k : Keeps w u S) {p : Addr} (hp : p.block < w.heap.size) (hn : p.block ∉ S) : u.cell? p = w.cell? p := World.cell?_of_block (k.block p.block hp hn)
structure Sys where
 np : Nat
 lp : Nat → Nat
 q : Nat → Nat → Nat → Int
 nr : Nat
 rm : Nat → Int
 gr : Int
 lk : Int
 ce : Int
def IntsAt (W : World) (A : Option Addr) (n : Nat) (f : Nat → Int) : Prop := 0 < n → ∃ ad, A = some ad ∧ ad.block < W.heap.size ∧ ∀ j, j < n → W.cell? (ad.add j) = some (.int .i64 (f j))
def InstsAt (W : World) (A : Option Addr) (n : Nat) (f : Nat → Nat → Int) : Prop := 0 < n → ∃ ad, A = some ad ∧ ad.block < W.heap.size ∧ ∀ i j, i < n → j < 4 → W.cell? (ad.add (i * 4 + j)) = some (.int .i64 (f i j))
def ProgsAt (W : World) (A : Option Addr) (n : Nat) (lp : Nat → Nat) (q : Nat → Nat → Nat → Int) : Prop := 0 < n → ∃ ad, A = some ad ∧ ad.block < W.heap.size ∧ ∀ p, p < n → ∃ B c, W.cell? (ad.add p) = some (.slice B (lp p) c) ∧ lp p ≤ c ∧ c ≤ maxLen ∧ InstsAt W B (lp p) (q p)
theorem IntsAt.kept {w u : World} {A : Option Addr} {n : Nat} {f : Nat → Int} (h : IntsAt w A n f) (k : Keeps w u []) : IntsAt u A n f := fun hn => by
 obtain ⟨ad, e, hb, hc⟩ := h hn
 exact ⟨ad, e, by have := k.size; omega, fun j hj => by rw [k.cellAt (by rw [add_block]; exact hb) (by simp)]; exact hc j hj⟩
theorem InstsAt.kept {w u : World} {A : Option Addr} {n : Nat} {f : Nat → Nat → Int} (h : InstsAt w A n f) (k : Keeps w u []) : InstsAt u A n f := fun hn => by
 obtain ⟨ad, e, hb, hc⟩ := h hn
 exact ⟨ad, e, by have := k.size; omega, fun i j hi hj => by rw [k.cellAt (by rw [add_block]; exact hb) (by simp)]; exact hc i j hi hj⟩
theorem ProgsAt.kept {w u : World} {A : Option Addr} {n : Nat} {lp : Nat → Nat} {q : Nat → Nat → Nat → Int} (h : ProgsAt w A n lp q) (k : Keeps w u []) : ProgsAt u A n lp q := fun hn => by
 obtain ⟨ad, e, hb, hc⟩ := h hn
 refine ⟨ad, e, by have := k.size; omega, fun p hp => ?_⟩
 obtain ⟨B, c, h1, h2, h3, h4⟩ := hc p hp
 exact ⟨B, c, by rw [k.cellAt (by rw [add_block]; exact hb) (by simp)]; exact h1, h2, h3, h4.kept k⟩
structure SysIn (W : World) (S : Sys) (A : Option Addr) (c : Nat) (R : Option Addr) (d : Nat) : Prop where
 progs : ProgsAt W A S.np S.lp S.q
 rooms : IntsAt W R S.nr S.rm
 np : S.np ≤ c
 nc : c ≤ maxLen
 nr : S.nr ≤ d
 nd : d ≤ maxLen
def sysV (S : Sys) (A : Option Addr) (c : Nat) (R : Option Addr) (d : Nat) : Array Value := #[.slice A S.np c, .slice R S.nr d, .int .i64 S.gr, .int .i64 S.lk, .int .i64 S.ce]
theorem SysIn.kept {w u : World} {S : Sys} {A : Option Addr} {c : Nat} {R : Option Addr} {d : Nat} (h : SysIn w S A c R d) (k : Keeps w u []) : SysIn u S A c R d := ⟨h.progs.kept k, h.rooms.kept k, h.np, h.nc, h.nr, h.nd⟩
section
variable {H : Type} {enc : TypeId × Value → H} {w : World}
theorem cells3 : Try.prog.cellsOf 3 = 1 := by kernel_rfl
theorem cells99 : Try.prog.cellsOf 99 = 4 := by kernel_rfl
theorem field1 {fuel j : Nat} {cs : List Value} {y : DataW H × List MemPlace} (h : DataW.trod enc Try.prog w 0 (fun _ => true) true fuel 3 ((cs.drop j).take (Try.prog.cellsOf 3)) = some y) : ∃ n : Int, cs[j]? = some (.int .i64 n) := by
 rw [cells3] at h
 obtain ⟨n, e, _, _⟩ := DataW.trod_int Try.underlying3 h
 refine ⟨n, ?_⟩
 have := congrArg (fun l => l[0]?) e
 simpa [List.getElem?_take, List.getElem?_drop] using this
theorem open_insts {fuel : Nat} {v : Value} {y : DataW H × List MemPlace} (h : DataW.trod enc Try.prog w 0 (fun _ => true) true fuel 97 [v] = some y) : ∃ (A : Option Addr) (n c : Nat) (f : Nat → Nat → Int), v = .slice A n c ∧ n ≤ c ∧ c ≤ maxLen ∧ InstsAt w A n f := by
 rcases open_slice Try.underlying97 h with ⟨hcs, _⟩ | ⟨a, len, cap, m, n, D, Pl, hcs, hb, hl, hm, hmm, _, hx⟩
 · obtain rfl : v = .slice none 0 0 := by simpa using hcs
   exact ⟨none, 0, 0, fun _ _ => 0, rfl, Nat.le_refl _, by simp [maxLen], fun h => by omega⟩
 · obtain rfl : v = .slice (some a) len cap := by simpa using hcs
   simp only [if_true] at hmm
   subst hmm
   have key : ∀ i, i < m → ∃ g : Nat → Int, ∀ j, j < 4 → w.cell? (a.add (i * 4 + j)) = some (.int .i64 (g j)) := fun i hi => by
     obtain ⟨cs', h1, h2⟩ := hx i hi
     rw [cells99] at h1
     obtain ⟨y0, y1, y2, y3, n', _, hl4, t0, t1, t2, t3⟩ := Go.Joins.trod_struct4 Try.underlying99 h2
     obtain ⟨n0, e0⟩ := field1 t0
     obtain ⟨n1, e1⟩ := field1 t1
     obtain ⟨n2, e2⟩ := field1 t2
     obtain ⟨n3, e3⟩ := field1 t3
     have hc := (World.cells?_some h1).2.2
     refine ⟨fun j => if j = 0 then n0 else if j = 1 then n1 else if j = 2 then n2 else n3, fun j hj => ?_⟩
     rw [← Addr.add_add]
     match j, hj with
     | 0, _ => rw [hc 0 (by omega)]; exact e0
     | 1, _ => rw [hc 1 (by omega)]; exact e1
     | 2, _ => rw [hc 2 (by omega)]; exact e2
     | 3, _ => rw [hc 3 (by omega)]; exact e3
   obtain ⟨g, hg⟩ := choose_lt key
   exact ⟨some a, len, m, g, rfl, hl, hm, fun hn => ⟨a, rfl, by have := World.block_lt_of_cell? w _ (hg 0 (by omega) 0 (by omega)); rwa [add_block] at this, fun i j hi hj => hg i (by omega) j hj⟩⟩
theorem open_rooms {fuel : Nat} {v : Value} {y : DataW H × List MemPlace} (h : DataW.trod enc Try.prog w 0 (fun _ => true) true fuel 25 [v] = some y) : ∃ (A : Option Addr) (n c : Nat) (f : Nat → Int), v = .slice A n c ∧ n ≤ c ∧ c ≤ maxLen ∧ IntsAt w A n f := by
 rcases open_ints Try.underlying25 Try.underlying3 cells3 h with ⟨hcs, _⟩ | ⟨a, len, cap, zs, hcs, _, hle, hmax, hzl, _, hcell, _⟩
 · obtain rfl : v = .slice none 0 0 := by simpa using hcs
   exact ⟨none, 0, 0, fun _ => 0, rfl, Nat.le_refl _, by simp [maxLen], fun h => by omega⟩
 · obtain rfl : v = .slice (some a) len cap := by simpa using hcs
   have hz : zs.length = cap := by simpa using hzl
   exact ⟨some a, len, cap, fun i => zs.getD i 0, rfl, hle, hmax, fun hn => ⟨a, rfl, by have := World.block_lt_of_cell? w _ (hcell 0 (by omega)); rwa [add_block] at this, fun j hj => hcell j (by omega)⟩⟩
end
open Go.RowKit
def ints (n : Nat) (f : Nat → Nat) : Array Value := (Array.range n).map fun i => .int .i64 (f i : Nat)
@[go_sem] theorem ints_size (n : Nat) (f : Nat → Nat) : (ints n f).size = n := by simp [ints]
theorem ints_get (n : Nat) (f : Nat → Nat) (i : Nat) (h : i < n) : (ints n f)[i]? = some (.int .i64 (f i : Nat)) := by simp [ints, h]
theorem ints_cell (n : Nat) (f : Nat → Nat) : ∀ v ∈ (ints n f).toList, v.oneCell' = true := by
 intro v hv
 simp only [ints, Array.toList_map, List.mem_map] at hv
 obtain ⟨i, _, rfl⟩ := hv
 rfl
theorem results_cell_tmp {P : Program} {fn : Func} {p q : Tmp} {ty : TypeId} (h : fn.results = #[.cell p ty, .tmp q]) (tmps : Array Value) (w : World) (g : Nat) (t : TypeId) (cs : Array Value) (d : TypeDesc)
   (hp : tmps.getD p undef = .pointer (some ⟨g, 0, none⟩)) (hg : Blk w g t cs)
   (hu : P.underlying ty = some d) (hd : (match d with | .struct _ | .array _ _ => true | _ => false) = true) (hi : (P.info? ty).map (·.size) = some cs.size) (v : Value) (hq : tmps.getD q undef = v) :
   (results fn tmps).run P w = .ok (.tuple #[.agg cs, v]) w := by
 have hp' : tmps[p]?.getD undef = .pointer (some ⟨g, 0, none⟩) := by simpa using hp
 subst hq
 simp [results, h, hp', asAddr, run_loadVar_row w g t ty cs (0, 0) d hg hu hd hi]
def kdL : List (List Nat) := [[0, 0, 0], [1, 3, 0], [1, 1, 0], [1, 1, 2], [0, 0, 2], [4, 1, 0], [4, 1, 2], [4, 0, 0], [5, 0, 0], [5, 0, 0], [6, 3, 0], [6, 0, 0], [1, 1, 0], [1, 1, 0], [7, 0, 0], [3, 1, 0], [0, 0, 0]]
def kd (o k : Nat) : Nat := (kdL.getD o []).getD k 0
theorem kd_le (o k : Nat) (ho : o < 17) (hk : k < 3) : kd o k ≤ 7 := by
 have h : ∀ (o : Fin 17) (k : Fin 3), kd o.1 k.1 ≤ 7 := by decide +kernel
 exact h ⟨o, ho⟩ ⟨k, hk⟩
def opOk (op : Int) : Bool := decide (1 ≤ op) && decide (op ≤ 16)
theorem kd_part (o j : Nat) (ho : o < 17) (hj : j < 3) : (ints 51 fun i => kd (i / 3) (i % 3))[o * 3 + j]? = (ints 3 (kd o))[j]? := by
 rw [ints_get _ _ _ (by omega), ints_get _ _ _ hj, show (o * 3 + j) / 3 = o from by omega, show (o * 3 + j) % 3 = j from by omega]
theorem shared_any (n : Int) (w : World) : Calls Try.prog 52 #[.int .i64 n] w fun e w' => e = .returned (.bool (decide (0 ≤ n) && decide (n ≤ 64))) ∧ w = w' := by
 by_cases h0 : 0 ≤ n
 · by_cases h1 : n ≤ 64
   · have H := Lib.hid (show (decide (0 ≤ n) && decide (n ≤ 64)) = true by simp [h0, h1])
     go_enter Try.func52, Try.ntmps52
     go_wp2
     go_ret
     exact ⟨by rw [H.out]; rfl, rfl⟩
   · generalize hr : (decide (0 ≤ n) && decide (n ≤ 64)) = r
     obtain rfl : false = r := by rw [← hr]; simp [h1]
     clear hr
     go_enter Try.func52, Try.ntmps52
     go_wp2
     go_ret
     exact ⟨rfl, rfl⟩
 · have H := Lib.hid (show (decide (0 ≤ n) && decide (n ≤ 64)) = false by simp [h0])
   go_enter Try.func52, Try.ntmps52
   go_wp2
   go_ret
   exact ⟨by rw [H.out]; rfl, rfl⟩
set_option maxRecDepth 100000 in
set_option maxHeartbeats 1000000 in
theorem fields_good (o : Nat) (h0 : 1 ≤ o) (h1 : o ≤ 16) (w : World) : Calls Try.prog 85 #[.int .i64 (o : Int)] w fun e w' => e = .returned (.tuple #[.agg (ints 3 (kd o)), .bool true]) ∧ Keeps w w' [] := by
 have O := Own.start w []
 have g0 : ¬ (o : Int) < 1 := by omega
 have g1 : ¬ (17 : Int) ≤ o := by omega
 have g2 : (0 : Int) ≤ o := by omega
 have g3 : (o : Int) < 17 := by omega
 go_enter Try.func85, Try.ntmps85
 go_wp2_with (first
   | go_big_skip
   | (refine own_alloc 2 (ints 3 fun _ => 0) O rfl rfl rfl (fun _ => by kernel_rfl) ?_; clear O; intro W a2 O; simp only [Act.put, kA, kZ, kS])
   | (refine wpList_const 5 (.agg (ints 3 (kd 1))) rfl rfl (fun _ => by kernel_rfl) ?_; simp only [Act.put, kA, kZ, kS])
   | (refine wpList_const 6 (.agg (ints 3 (kd 2))) rfl rfl (fun _ => by kernel_rfl) ?_; simp only [Act.put, kA, kZ, kS])
   | (refine wpList_const 7 (.agg (ints 3 (kd 3))) rfl rfl (fun _ => by kernel_rfl) ?_; simp only [Act.put, kA, kZ, kS])
   | (refine wpList_const 8 (.agg (ints 3 (kd 4))) rfl rfl (fun _ => by kernel_rfl) ?_; simp only [Act.put, kA, kZ, kS])
   | (refine wpList_const 9 (.agg (ints 3 (kd 5))) rfl rfl (fun _ => by kernel_rfl) ?_; simp only [Act.put, kA, kZ, kS])
   | (refine wpList_const 10 (.agg (ints 3 (kd 6))) rfl rfl (fun _ => by kernel_rfl) ?_; simp only [Act.put, kA, kZ, kS])
   | (refine wpList_const 11 (.agg (ints 3 (kd 7))) rfl rfl (fun _ => by kernel_rfl) ?_; simp only [Act.put, kA, kZ, kS])
   | (refine wpList_const 12 (.agg (ints 3 (kd 8))) rfl rfl (fun _ => by kernel_rfl) ?_; simp only [Act.put, kA, kZ, kS])
   | (refine wpList_const 13 (.agg (ints 3 (kd 9))) rfl rfl (fun _ => by kernel_rfl) ?_; simp only [Act.put, kA, kZ, kS])
   | (refine wpList_const 14 (.agg (ints 3 (kd 10))) rfl rfl (fun _ => by kernel_rfl) ?_; simp only [Act.put, kA, kZ, kS])
   | (refine wpList_const 15 (.agg (ints 3 (kd 11))) rfl rfl (fun _ => by kernel_rfl) ?_; simp only [Act.put, kA, kZ, kS])
   | (refine wpList_const 16 (.agg (ints 3 (kd 12))) rfl rfl (fun _ => by kernel_rfl) ?_; simp only [Act.put, kA, kZ, kS])
   | (refine wpList_const 17 (.agg (ints 3 (kd 13))) rfl rfl (fun _ => by kernel_rfl) ?_; simp only [Act.put, kA, kZ, kS])
   | (refine wpList_const 18 (.agg (ints 3 (kd 14))) rfl rfl (fun _ => by kernel_rfl) ?_; simp only [Act.put, kA, kZ, kS])
   | (refine wpList_const 19 (.agg (ints 3 (kd 15))) rfl rfl (fun _ => by kernel_rfl) ?_; simp only [Act.put, kA, kZ, kS])
   | (refine wpList_const 20 (.agg (ints 3 (kd 16))) rfl rfl (fun _ => by kernel_rfl) ?_; simp only [Act.put, kA, kZ, kS])
   | (refine wpList_const 21 (.agg (ints 51 fun i => kd (i / 3) (i % 3))) rfl rfl (fun _ => by kernel_rfl) ?_; simp only [Act.put, kA, kZ, kS])
   | (refine own_alloc 4 (ints 51 fun _ => 0) O rfl rfl rfl (fun _ => by kernel_rfl) ?_; clear O; intro W a4 O; simp only [Act.put, kA, kZ, kS])
   | (refine own_store_row 0 (.tmp 4) (.tmp 21) O rfl rfl rfl rfl rfl rfl (by kernel_rfl) (by simp only [ints_size]) (ints_cell _ _) ?_; clear O; intro W O; simp only [kZ] at O)
   | (refine own_load_part (part := ints 3 (kd o)) 31 0 O rfl rfl rfl rfl rfl Try.underlying144 rfl (by kernel_rfl) ?_ ?_; (exact fun j hj => kd_part o j (by omega) (by simpa [ints_size] using hj)); simp only [Act.put, kA, kZ, kS])
   | (refine own_store_row 1 (.tmp 2) (.tmp 31) O rfl rfl rfl rfl rfl rfl (by kernel_rfl) (by simp only [ints_size]) (ints_cell _ _) ?_; clear O; intro W O; simp only [kZ, kS] at O))
 refine bodyPost_ret (v := .tuple #[.agg (ints 3 (kd o)), .bool true]) (results_cell_tmp rfl _ _ a2 144 _ _ rfl (O.get 1 rfl) Try.underlying144 rfl (by kernel_rfl) _ rfl) rfl ⟨?_, O.keep⟩
 rfl
set_option maxRecDepth 100000 in
set_option maxHeartbeats 1000000 in
theorem fields_low (op : Int) (h : op < 1) (w : World) : Calls Try.prog 85 #[.int .i64 op] w fun e w' => e = .returned (.tuple #[.agg (ints 3 fun _ => 0), .bool false]) ∧ Keeps w w' [] := by
 have O := Own.start w []
 go_enter Try.func85, Try.ntmps85
 go_wp2_with (first
   | go_big_skip
   | (refine own_alloc 2 (ints 3 fun _ => 0) O rfl rfl rfl (fun _ => by kernel_rfl) ?_; clear O; intro W a2 O; simp only [Act.put, kA, kZ, kS])
   | (refine wpList_const 5 (.agg (ints 3 (kd 1))) rfl rfl (fun _ => by kernel_rfl) ?_; simp only [Act.put, kA, kZ, kS])
   | (refine wpList_const 6 (.agg (ints 3 (kd 2))) rfl rfl (fun _ => by kernel_rfl) ?_; simp only [Act.put, kA, kZ, kS])
   | (refine wpList_const 7 (.agg (ints 3 (kd 3))) rfl rfl (fun _ => by kernel_rfl) ?_; simp only [Act.put, kA, kZ, kS])
   | (refine wpList_const 8 (.agg (ints 3 (kd 4))) rfl rfl (fun _ => by kernel_rfl) ?_; simp only [Act.put, kA, kZ, kS])
   | (refine wpList_const 9 (.agg (ints 3 (kd 5))) rfl rfl (fun _ => by kernel_rfl) ?_; simp only [Act.put, kA, kZ, kS])
   | (refine wpList_const 10 (.agg (ints 3 (kd 6))) rfl rfl (fun _ => by kernel_rfl) ?_; simp only [Act.put, kA, kZ, kS])
   | (refine wpList_const 11 (.agg (ints 3 (kd 7))) rfl rfl (fun _ => by kernel_rfl) ?_; simp only [Act.put, kA, kZ, kS])
   | (refine wpList_const 12 (.agg (ints 3 (kd 8))) rfl rfl (fun _ => by kernel_rfl) ?_; simp only [Act.put, kA, kZ, kS])
   | (refine wpList_const 13 (.agg (ints 3 (kd 9))) rfl rfl (fun _ => by kernel_rfl) ?_; simp only [Act.put, kA, kZ, kS])
   | (refine wpList_const 14 (.agg (ints 3 (kd 10))) rfl rfl (fun _ => by kernel_rfl) ?_; simp only [Act.put, kA, kZ, kS])
   | (refine wpList_const 15 (.agg (ints 3 (kd 11))) rfl rfl (fun _ => by kernel_rfl) ?_; simp only [Act.put, kA, kZ, kS])
   | (refine wpList_const 16 (.agg (ints 3 (kd 12))) rfl rfl (fun _ => by kernel_rfl) ?_; simp only [Act.put, kA, kZ, kS])
   | (refine wpList_const 17 (.agg (ints 3 (kd 13))) rfl rfl (fun _ => by kernel_rfl) ?_; simp only [Act.put, kA, kZ, kS])
   | (refine wpList_const 18 (.agg (ints 3 (kd 14))) rfl rfl (fun _ => by kernel_rfl) ?_; simp only [Act.put, kA, kZ, kS])
   | (refine wpList_const 19 (.agg (ints 3 (kd 15))) rfl rfl (fun _ => by kernel_rfl) ?_; simp only [Act.put, kA, kZ, kS])
   | (refine wpList_const 20 (.agg (ints 3 (kd 16))) rfl rfl (fun _ => by kernel_rfl) ?_; simp only [Act.put, kA, kZ, kS])
   | (refine wpList_const 21 (.agg (ints 51 fun i => kd (i / 3) (i % 3))) rfl rfl (fun _ => by kernel_rfl) ?_; simp only [Act.put, kA, kZ, kS])
   | (refine own_alloc 4 (ints 51 fun _ => 0) O rfl rfl rfl (fun _ => by kernel_rfl) ?_; clear O; intro W a4 O; simp only [Act.put, kA, kZ, kS])
   | (refine own_store_row 0 (.tmp 4) (.tmp 21) O rfl rfl rfl rfl rfl rfl (by kernel_rfl) (by simp only [ints_size]) (ints_cell _ _) ?_; clear O; intro W O; simp only [kZ] at O)
   | (refine wpList_const 28 (.agg (ints 3 fun _ => 0)) rfl rfl (fun _ => by kernel_rfl) ?_; simp only [Act.put, kA, kZ, kS])
   | (refine own_store_row 1 (.tmp 2) (.tmp 28) O rfl rfl rfl rfl rfl rfl (by kernel_rfl) (by simp only [ints_size]) (ints_cell _ _) ?_; clear O; intro W O; simp only [kZ, kS] at O))
 refine bodyPost_ret (v := .tuple #[.agg (ints 3 fun _ => 0), .bool false]) (results_cell_tmp rfl _ _ a2 144 _ _ rfl (O.get 1 rfl) Try.underlying144 rfl (by kernel_rfl) _ rfl) rfl ⟨?_, O.keep⟩
 rfl
set_option maxRecDepth 100000 in
set_option maxHeartbeats 1000000 in
theorem fields_high (op : Int) (h : 17 ≤ op) (w : World) : Calls Try.prog 85 #[.int .i64 op] w fun e w' => e = .returned (.tuple #[.agg (ints 3 fun _ => 0), .bool false]) ∧ Keeps w w' [] := by
 have O := Own.start w []
 have g0 : ¬ op < 1 := by omega
 go_enter Try.func85, Try.ntmps85
 go_wp2_with (first
   | go_big_skip
   | (refine own_alloc 2 (ints 3 fun _ => 0) O rfl rfl rfl (fun _ => by kernel_rfl) ?_; clear O; intro W a2 O; simp only [Act.put, kA, kZ, kS])
   | (refine wpList_const 5 (.agg (ints 3 (kd 1))) rfl rfl (fun _ => by kernel_rfl) ?_; simp only [Act.put, kA, kZ, kS])
   | (refine wpList_const 6 (.agg (ints 3 (kd 2))) rfl rfl (fun _ => by kernel_rfl) ?_; simp only [Act.put, kA, kZ, kS])
   | (refine wpList_const 7 (.agg (ints 3 (kd 3))) rfl rfl (fun _ => by kernel_rfl) ?_; simp only [Act.put, kA, kZ, kS])
   | (refine wpList_const 8 (.agg (ints 3 (kd 4))) rfl rfl (fun _ => by kernel_rfl) ?_; simp only [Act.put, kA, kZ, kS])
   | (refine wpList_const 9 (.agg (ints 3 (kd 5))) rfl rfl (fun _ => by kernel_rfl) ?_; simp only [Act.put, kA, kZ, kS])
   | (refine wpList_const 10 (.agg (ints 3 (kd 6))) rfl rfl (fun _ => by kernel_rfl) ?_; simp only [Act.put, kA, kZ, kS])
   | (refine wpList_const 11 (.agg (ints 3 (kd 7))) rfl rfl (fun _ => by kernel_rfl) ?_; simp only [Act.put, kA, kZ, kS])
   | (refine wpList_const 12 (.agg (ints 3 (kd 8))) rfl rfl (fun _ => by kernel_rfl) ?_; simp only [Act.put, kA, kZ, kS])
   | (refine wpList_const 13 (.agg (ints 3 (kd 9))) rfl rfl (fun _ => by kernel_rfl) ?_; simp only [Act.put, kA, kZ, kS])
   | (refine wpList_const 14 (.agg (ints 3 (kd 10))) rfl rfl (fun _ => by kernel_rfl) ?_; simp only [Act.put, kA, kZ, kS])
   | (refine wpList_const 15 (.agg (ints 3 (kd 11))) rfl rfl (fun _ => by kernel_rfl) ?_; simp only [Act.put, kA, kZ, kS])
   | (refine wpList_const 16 (.agg (ints 3 (kd 12))) rfl rfl (fun _ => by kernel_rfl) ?_; simp only [Act.put, kA, kZ, kS])
   | (refine wpList_const 17 (.agg (ints 3 (kd 13))) rfl rfl (fun _ => by kernel_rfl) ?_; simp only [Act.put, kA, kZ, kS])
   | (refine wpList_const 18 (.agg (ints 3 (kd 14))) rfl rfl (fun _ => by kernel_rfl) ?_; simp only [Act.put, kA, kZ, kS])
   | (refine wpList_const 19 (.agg (ints 3 (kd 15))) rfl rfl (fun _ => by kernel_rfl) ?_; simp only [Act.put, kA, kZ, kS])
   | (refine wpList_const 20 (.agg (ints 3 (kd 16))) rfl rfl (fun _ => by kernel_rfl) ?_; simp only [Act.put, kA, kZ, kS])
   | (refine wpList_const 21 (.agg (ints 51 fun i => kd (i / 3) (i % 3))) rfl rfl (fun _ => by kernel_rfl) ?_; simp only [Act.put, kA, kZ, kS])
   | (refine own_alloc 4 (ints 51 fun _ => 0) O rfl rfl rfl (fun _ => by kernel_rfl) ?_; clear O; intro W a4 O; simp only [Act.put, kA, kZ, kS])
   | (refine own_store_row 0 (.tmp 4) (.tmp 21) O rfl rfl rfl rfl rfl rfl (by kernel_rfl) (by simp only [ints_size]) (ints_cell _ _) ?_; clear O; intro W O; simp only [kZ] at O)
   | (refine wpList_const 28 (.agg (ints 3 fun _ => 0)) rfl rfl (fun _ => by kernel_rfl) ?_; simp only [Act.put, kA, kZ, kS])
   | (refine own_store_row 1 (.tmp 2) (.tmp 28) O rfl rfl rfl rfl rfl rfl (by kernel_rfl) (by simp only [ints_size]) (ints_cell _ _) ?_; clear O; intro W O; simp only [kZ, kS] at O))
 refine bodyPost_ret (v := .tuple #[.agg (ints 3 fun _ => 0), .bool false]) (results_cell_tmp rfl _ _ a2 144 _ _ rfl (O.get 1 rfl) Try.underlying144 rfl (by kernel_rfl) _ rfl) rfl ⟨?_, O.keep⟩
 rfl
def bnd (S : Sys) (p : Nat) : Nat → Int
 | 0 => 1
 | 1 => 8
 | 2 => (S.lp p : Int) + 1
 | 4 => S.nr
 | 5 => S.lk
 | 6 => S.gr
 | 7 => S.np
 | _ => 0
def mayS (S : Sys) (p : Nat) (v : Int) (k : Nat) : Bool := k == 3 || (decide (0 ≤ v) && decide (v < bnd S p k))
section
variable (S : Sys) (A : Option Addr) (c : Nat) (R : Option Addr) (d : Nat) (g : Nat) {t : TypeId} (p : Nat) (v : Int) (w : World) (hB : Blk w g t (sysV S A c R d)) (hS : SysIn w S A c R d) (hp : p < S.np) (hl : S.lp p ≤ 256)
include hB hS hp hl
theorem may_0 : Calls Try.prog 86 #[.pointer (some ⟨g, 0, none⟩), .int .i64 p, .int .i64 v, .int .i64 0] w fun e w' => e = .returned (.bool (mayS S p v 0)) ∧ w = w' := by
 have _u := And.intro hB (And.intro hS (And.intro hp hl))
 clear _u
 clear hB hS hp hl
 by_cases h0 : 0 ≤ v
 · by_cases h1 : v < 1
   · have H := Lib.hid (show mayS S p v 0 = true by simp [mayS, bnd, h0, h1])
     go_enter Try.func86, Try.ntmps86
     go_wp2
     go_ret
     exact ⟨by rw [H.out]; rfl, rfl⟩
   · have H := Lib.hid (show mayS S p v 0 = false by simp only [mayS, bnd]; rw [decide_eq_false h1, Bool.and_false]; rfl)
     go_enter Try.func86, Try.ntmps86
     go_wp2
     go_ret
     exact ⟨by rw [H.out]; rfl, rfl⟩
 · have H := Lib.hid (show mayS S p v 0 = false by simp only [mayS]; rw [decide_eq_false h0, Bool.false_and]; rfl)
   go_enter Try.func86, Try.ntmps86
   go_wp2
   go_ret
   exact ⟨by rw [H.out]; rfl, rfl⟩
theorem may_1 : Calls Try.prog 86 #[.pointer (some ⟨g, 0, none⟩), .int .i64 p, .int .i64 v, .int .i64 1] w fun e w' => e = .returned (.bool (mayS S p v 1)) ∧ w = w' := by
 have _u := And.intro hB (And.intro hS (And.intro hp hl))
 clear _u
 clear hB hS hp hl
 by_cases h0 : 0 ≤ v
 · by_cases h1 : v < 8
   · have H := Lib.hid (show mayS S p v 1 = true by simp [mayS, bnd, h0, h1])
     go_enter Try.func86, Try.ntmps86
     go_wp2
     go_ret
     exact ⟨by rw [H.out]; rfl, rfl⟩
   · have H := Lib.hid (show mayS S p v 1 = false by simp only [mayS, bnd]; rw [decide_eq_false h1, Bool.and_false]; rfl)
     go_enter Try.func86, Try.ntmps86
     go_wp2
     go_ret
     exact ⟨by rw [H.out]; rfl, rfl⟩
 · have H := Lib.hid (show mayS S p v 1 = false by simp only [mayS]; rw [decide_eq_false h0, Bool.false_and]; rfl)
   go_enter Try.func86, Try.ntmps86
   go_wp2
   go_ret
   exact ⟨by rw [H.out]; rfl, rfl⟩
theorem may_2 : Calls Try.prog 86 #[.pointer (some ⟨g, 0, none⟩), .int .i64 p, .int .i64 v, .int .i64 2] w fun e w' => e = .returned (.bool (mayS S p v 2)) ∧ w = w' := by
 have _u := And.intro hB (And.intro hS (And.intro hp hl))
 clear _u
 obtain ⟨ad, rfl, _, hc⟩ := hS.progs (by omega)
 obtain ⟨B, cb, hcell, _, _, _⟩ := hc p hp
 have q0 : w.cell? ⟨g, 0, none⟩ = some (.slice (some ad) S.np c) := hB.cell 0
 have z0 : (0 : Int) ≤ p := by omega
 have z1 : (p : Int) < S.np := by omega
 have r1 : IntKind.i64.wrap ((S.lp p : Int) + 1) = S.lp p + 1 := IntWalk.i64_in _ (by omega)
 clear hc
 clear hB hS hp hl
 by_cases h0 : 0 ≤ v
 · by_cases h1 : v < (S.lp p : Int) + 1
   · have H := Lib.hid (show mayS S p v 2 = true by simp [mayS, bnd, h0, h1])
     go_enter Try.func86, Try.ntmps86
     go_wp2
     go_ret
     exact ⟨by rw [H.out]; rfl, rfl⟩
   · have H := Lib.hid (show mayS S p v 2 = false by simp only [mayS, bnd]; rw [decide_eq_false h1, Bool.and_false]; rfl)
     go_enter Try.func86, Try.ntmps86
     go_wp2
     go_ret
     exact ⟨by rw [H.out]; rfl, rfl⟩
 · have H := Lib.hid (show mayS S p v 2 = false by simp only [mayS]; rw [decide_eq_false h0, Bool.false_and]; rfl)
   go_enter Try.func86, Try.ntmps86
   go_wp2
   go_ret
   exact ⟨by rw [H.out]; rfl, rfl⟩
theorem may_3 : Calls Try.prog 86 #[.pointer (some ⟨g, 0, none⟩), .int .i64 p, .int .i64 v, .int .i64 3] w fun e w' => e = .returned (.bool (mayS S p v 3)) ∧ w = w' := by
 have _u := And.intro hB (And.intro hS (And.intro hp hl))
 clear _u
 have H := Lib.hid (show mayS S p v 3 = true from rfl)
 clear hB hS hp hl
 go_enter Try.func86, Try.ntmps86
 go_wp2
 go_ret
 exact ⟨by rw [H.out]; rfl, rfl⟩
theorem may_4 : Calls Try.prog 86 #[.pointer (some ⟨g, 0, none⟩), .int .i64 p, .int .i64 v, .int .i64 4] w fun e w' => e = .returned (.bool (mayS S p v 4)) ∧ w = w' := by
 have _u := And.intro hB (And.intro hS (And.intro hp hl))
 clear _u
 have q0 : w.cell? ⟨g, 1, none⟩ = some (.slice R S.nr d) := hB.cell 1
 clear hB hS hp hl
 by_cases h0 : 0 ≤ v
 · by_cases h1 : v < (S.nr : Int)
   · have H := Lib.hid (show mayS S p v 4 = true by simp [mayS, bnd, h0, h1])
     go_enter Try.func86, Try.ntmps86
     go_wp2
     go_ret
     exact ⟨by rw [H.out]; rfl, rfl⟩
   · have H := Lib.hid (show mayS S p v 4 = false by simp only [mayS, bnd]; rw [decide_eq_false h1, Bool.and_false]; rfl)
     go_enter Try.func86, Try.ntmps86
     go_wp2
     go_ret
     exact ⟨by rw [H.out]; rfl, rfl⟩
 · have H := Lib.hid (show mayS S p v 4 = false by simp only [mayS]; rw [decide_eq_false h0, Bool.false_and]; rfl)
   go_enter Try.func86, Try.ntmps86
   go_wp2
   go_ret
   exact ⟨by rw [H.out]; rfl, rfl⟩
theorem may_5 : Calls Try.prog 86 #[.pointer (some ⟨g, 0, none⟩), .int .i64 p, .int .i64 v, .int .i64 5] w fun e w' => e = .returned (.bool (mayS S p v 5)) ∧ w = w' := by
 have _u := And.intro hB (And.intro hS (And.intro hp hl))
 clear _u
 have q0 : w.cell? ⟨g, 3, none⟩ = some (.int .i64 S.lk) := hB.cell 3
 clear hB hS hp hl
 by_cases h0 : 0 ≤ v
 · by_cases h1 : v < S.lk
   · have H := Lib.hid (show mayS S p v 5 = true by simp [mayS, bnd, h0, h1])
     go_enter Try.func86, Try.ntmps86
     go_wp2
     go_ret
     exact ⟨by rw [H.out]; rfl, rfl⟩
   · have H := Lib.hid (show mayS S p v 5 = false by simp only [mayS, bnd]; rw [decide_eq_false h1, Bool.and_false]; rfl)
     go_enter Try.func86, Try.ntmps86
     go_wp2
     go_ret
     exact ⟨by rw [H.out]; rfl, rfl⟩
 · have H := Lib.hid (show mayS S p v 5 = false by simp only [mayS]; rw [decide_eq_false h0, Bool.false_and]; rfl)
   go_enter Try.func86, Try.ntmps86
   go_wp2
   go_ret
   exact ⟨by rw [H.out]; rfl, rfl⟩
theorem may_6 : Calls Try.prog 86 #[.pointer (some ⟨g, 0, none⟩), .int .i64 p, .int .i64 v, .int .i64 6] w fun e w' => e = .returned (.bool (mayS S p v 6)) ∧ w = w' := by
 have _u := And.intro hB (And.intro hS (And.intro hp hl))
 clear _u
 have q0 : w.cell? ⟨g, 2, none⟩ = some (.int .i64 S.gr) := hB.cell 2
 clear hB hS hp hl
 by_cases h0 : 0 ≤ v
 · by_cases h1 : v < S.gr
   · have H := Lib.hid (show mayS S p v 6 = true by simp [mayS, bnd, h0, h1])
     go_enter Try.func86, Try.ntmps86
     go_wp2
     go_ret
     exact ⟨by rw [H.out]; rfl, rfl⟩
   · have H := Lib.hid (show mayS S p v 6 = false by simp only [mayS, bnd]; rw [decide_eq_false h1, Bool.and_false]; rfl)
     go_enter Try.func86, Try.ntmps86
     go_wp2
     go_ret
     exact ⟨by rw [H.out]; rfl, rfl⟩
 · have H := Lib.hid (show mayS S p v 6 = false by simp only [mayS]; rw [decide_eq_false h0, Bool.false_and]; rfl)
   go_enter Try.func86, Try.ntmps86
   go_wp2
   go_ret
   exact ⟨by rw [H.out]; rfl, rfl⟩
theorem may_7 : Calls Try.prog 86 #[.pointer (some ⟨g, 0, none⟩), .int .i64 p, .int .i64 v, .int .i64 7] w fun e w' => e = .returned (.bool (mayS S p v 7)) ∧ w = w' := by
 have _u := And.intro hB (And.intro hS (And.intro hp hl))
 clear _u
 have q0 : w.cell? ⟨g, 0, none⟩ = some (.slice A S.np c) := hB.cell 0
 clear hB hS hp hl
 by_cases h0 : 0 ≤ v
 · by_cases h1 : v < (S.np : Int)
   · have H := Lib.hid (show mayS S p v 7 = true by simp [mayS, bnd, h0, h1])
     go_enter Try.func86, Try.ntmps86
     go_wp2
     go_ret
     exact ⟨by rw [H.out]; rfl, rfl⟩
   · have H := Lib.hid (show mayS S p v 7 = false by simp only [mayS, bnd]; rw [decide_eq_false h1, Bool.and_false]; rfl)
     go_enter Try.func86, Try.ntmps86
     go_wp2
     go_ret
     exact ⟨by rw [H.out]; rfl, rfl⟩
 · have H := Lib.hid (show mayS S p v 7 = false by simp only [mayS]; rw [decide_eq_false h0, Bool.false_and]; rfl)
   go_enter Try.func86, Try.ntmps86
   go_wp2
   go_ret
   exact ⟨by rw [H.out]; rfl, rfl⟩
theorem may_any (k : Nat) (hk : k ≤ 7) : Calls Try.prog 86 #[.pointer (some ⟨g, 0, none⟩), .int .i64 p, .int .i64 v, .int .i64 (k : Int)] w fun e w' => e = .returned (.bool (mayS S p v k)) ∧ w = w' := by
 match k, hk with
 | 0, _ => exact may_0 S A c R d g p v w hB hS hp hl
 | 1, _ => exact may_1 S A c R d g p v w hB hS hp hl
 | 2, _ => exact may_2 S A c R d g p v w hB hS hp hl
 | 3, _ => exact may_3 S A c R d g p v w hB hS hp hl
 | 4, _ => exact may_4 S A c R d g p v w hB hS hp hl
 | 5, _ => exact may_5 S A c R d g p v w hB hS hp hl
 | 6, _ => exact may_6 S A c R d g p v w hB hS hp hl
 | 7, _ => exact may_7 S A c R d g p v w hB hS hp hl
end
open Go.RowKit
@[go_sem] theorem ints_getElem (n : Nat) (f : Nat → Nat) (i : Nat) (h : i < (ints n f).size) : (ints n f)[i] = .int .i64 (f i : Nat) := by simp [ints]
def inst (f : Nat → Int) : Array Value := #[.int .i64 (f 0), .int .i64 (f 1), .int .i64 (f 2), .int .i64 (f 3)]
def rightS (S : Sys) (p : Nat) (f : Nat → Int) : Bool :=
 opOk (f 0) && (!((decide (f 0 = 12) || decide (f 0 = 13)) && decide (S.ce = 0)) && (mayS S p (f 1) (kd (f 0).toNat 0) && (mayS S p (f 2) (kd (f 0).toNat 1) && mayS S p (f 3) (kd (f 0).toNat 2))))
set_option maxRecDepth 100000 in
set_option maxHeartbeats 2000000 in
theorem right_low (f : Nat → Int) (h : f 0 < 1) (w : World) (p g : Nat) : Calls Try.prog 53 #[.pointer (some ⟨g, 0, none⟩), .int .i64 p, .agg (inst f)] w fun e w' => e = .returned (.bool false) ∧ Keeps w w' [] := by
 have O := Own.start w []
 obtain ⟨z, HF⟩ : ∃ z, ∀ w, Hid (Calls Try.prog 85 #[.int .i64 (f 0)] w fun e w' => e = .returned (.tuple #[.agg (ints 3 z), .bool false]) ∧ Keeps w w' []) := ⟨_, fun w => Lib.hid (fields_low (f 0) h w)⟩
 clear h
 unfold inst
 generalize f 0 = y0 at *
 generalize f 1 = y1 at *
 generalize f 2 = y2 at *
 generalize f 3 = y3 at *
 go_enter Try.func53, Try.ntmps53
 go_wp2_with (first
   | go_big_skip
   | (refine own_box 5 _ O rfl rfl rfl rfl ?_; clear O; intro W a5 O; simp only [Act.put, kA, kZ, kS]; have c5 := (O.get 0 rfl).cell)
   | (go_at_call 85; refine ((HF _).out).mono ?_; rintro e W ⟨rfl, K⟩; replace O := O.keeps K; clear K c5; have c5 := (O.get 0 rfl).cell)
   | (refine own_alloc 7 (ints 3 fun _ => 0) O rfl rfl rfl (fun _ => by kernel_rfl) ?_; clear O; intro W a7 O; simp only [Act.put, kA, kZ, kS]; clear c5; have c5 := (O.get 1 rfl).cell)
   | (refine own_store_row 0 (.tmp 7) (.tmp 13) O rfl rfl rfl rfl rfl rfl (by kernel_rfl) (by simp only [ints_size]) (ints_cell _ _) ?_; clear O; intro W O; simp only [kZ] at O; clear c5; have c5 := (O.get 1 rfl).cell))
 go_ret
 exact ⟨rfl, O.keep⟩
set_option maxRecDepth 100000 in
set_option maxHeartbeats 2000000 in
theorem right_high (f : Nat → Int) (h : 17 ≤ f 0) (w : World) (p g : Nat) : Calls Try.prog 53 #[.pointer (some ⟨g, 0, none⟩), .int .i64 p, .agg (inst f)] w fun e w' => e = .returned (.bool false) ∧ Keeps w w' [] := by
 have O := Own.start w []
 obtain ⟨z, HF⟩ : ∃ z, ∀ w, Hid (Calls Try.prog 85 #[.int .i64 (f 0)] w fun e w' => e = .returned (.tuple #[.agg (ints 3 z), .bool false]) ∧ Keeps w w' []) := ⟨_, fun w => Lib.hid (fields_high (f 0) h w)⟩
 clear h
 unfold inst
 generalize f 0 = y0 at *
 generalize f 1 = y1 at *
 generalize f 2 = y2 at *
 generalize f 3 = y3 at *
 go_enter Try.func53, Try.ntmps53
 go_wp2_with (first
   | go_big_skip
   | (refine own_box 5 _ O rfl rfl rfl rfl ?_; clear O; intro W a5 O; simp only [Act.put, kA, kZ, kS]; have c5 := (O.get 0 rfl).cell)
   | (go_at_call 85; refine ((HF _).out).mono ?_; rintro e W ⟨rfl, K⟩; replace O := O.keeps K; clear K c5; have c5 := (O.get 0 rfl).cell)
   | (refine own_alloc 7 (ints 3 fun _ => 0) O rfl rfl rfl (fun _ => by kernel_rfl) ?_; clear O; intro W a7 O; simp only [Act.put, kA, kZ, kS]; clear c5; have c5 := (O.get 1 rfl).cell)
   | (refine own_store_row 0 (.tmp 7) (.tmp 13) O rfl rfl rfl rfl rfl rfl (by kernel_rfl) (by simp only [ints_size]) (ints_cell _ _) ?_; clear O; intro W O; simp only [kZ] at O; clear c5; have c5 := (O.get 1 rfl).cell))
 go_ret
 exact ⟨rfl, O.keep⟩
section
variable (f : Nat → Int) (o p g : Nat) (ce : Int) (b1 b2 b3 : Bool) (w : World) (x : Int) (hx : f 0 = x)
   (HF : ∀ u, Hid (Calls Try.prog 85 #[.int .i64 x] u fun e w' => e = .returned (.tuple #[.agg (ints 3 (kd o)), .bool true]) ∧ Keeps u w' []))
   (HM1 : ∀ u, Keeps w u [] → Hid (Calls Try.prog 86 #[.pointer (some ⟨g, 0, none⟩), .int .i64 p, .int .i64 (f 1), .int .i64 (kd o 0 : Nat)] u fun e w' => e = .returned (.bool b1) ∧ u = w'))
   (HM2 : ∀ u, Keeps w u [] → Hid (Calls Try.prog 86 #[.pointer (some ⟨g, 0, none⟩), .int .i64 p, .int .i64 (f 2), .int .i64 (kd o 1 : Nat)] u fun e w' => e = .returned (.bool b2) ∧ u = w'))
   (HM3 : ∀ u, Keeps w u [] → Hid (Calls Try.prog 86 #[.pointer (some ⟨g, 0, none⟩), .int .i64 p, .int .i64 (f 3), .int .i64 (kd o 2 : Nat)] u fun e w' => e = .returned (.bool b3) ∧ u = w'))
   (HC : ∀ u, Keeps w u [] → Hid (u.cell? ⟨g, 4, none⟩ = some (.int .i64 ce)))
set_option maxRecDepth 100000 in
set_option maxHeartbeats 1000000 in
include hx HF HM1 HM2 HM3 HC in
theorem core_12z (e : x = 12) (z : ce = 0) : Calls Try.prog 53 #[.pointer (some ⟨g, 0, none⟩), .int .i64 p, .agg (inst f)] w fun e w' => e = .returned (.bool false) ∧ Keeps w w' [] := by
 have O := Own.start w []
 have _u := And.intro hx (And.intro HF (And.intro HM1 (And.intro HM2 (And.intro HM3 HC))))
 clear _u
 unfold inst
 subst e
 subst z
 generalize f 1 = y1 at *
 generalize f 2 = y2 at *
 generalize f 3 = y3 at *
 rw [hx]
 clear hx
 go_enter Try.func53, Try.ntmps53
 go_wp2_with (first
   | go_big_skip
   | (refine own_box 5 _ O rfl rfl rfl rfl ?_; clear O; intro W a5 O; simp only [Act.put, kA, kZ, kS]; have c5 := (O.get 0 rfl).cell)
   | (go_at_call 85; refine ((HF _).out).mono ?_; rintro e W ⟨rfl, K⟩; replace O := O.keeps K; clear K c5; have c5 := (O.get 0 rfl).cell)
   | (refine own_alloc 7 (ints 3 fun _ => 0) O rfl rfl rfl (fun _ => by kernel_rfl) ?_; clear O; intro W a7 O; simp only [Act.put, kA, kZ, kS]; clear c5; have c5 := (O.get 1 rfl).cell)
   | (refine own_store_row 0 (.tmp 7) (.tmp 13) O rfl rfl rfl rfl rfl rfl (by kernel_rfl) (by simp only [ints_size]) (ints_cell _ _) ?_; clear O; intro W O; simp only [kZ] at O; clear c5; have c5 := (O.get 1 rfl).cell; have c7 := (O.get 0 rfl).cell; have c4 := (HC _ O.keep).out)
   | (go_at_call 86; with_reducible (refine ((HM1 _ O.keep).out).mono ?_); rintro e W ⟨rfl, rfl⟩)
   | (go_at_call 86; with_reducible (refine ((HM2 _ O.keep).out).mono ?_); rintro e W ⟨rfl, rfl⟩)
   | (go_at_call 86; with_reducible (refine ((HM3 _ O.keep).out).mono ?_); rintro e W ⟨rfl, rfl⟩))
 go_ret
 exact ⟨rfl, O.keep⟩
set_option maxRecDepth 100000 in
set_option maxHeartbeats 1000000 in
include hx HF HM1 HM2 HM3 HC in
theorem core_12n0 (e : x = 12) (z : ¬ ce = 0) (q1 : b1 = false) : Calls Try.prog 53 #[.pointer (some ⟨g, 0, none⟩), .int .i64 p, .agg (inst f)] w fun e w' => e = .returned (.bool false) ∧ Keeps w w' [] := by
 have O := Own.start w []
 have _u := And.intro hx (And.intro HF (And.intro HM1 (And.intro HM2 (And.intro HM3 HC))))
 clear _u
 unfold inst
 subst e
 subst q1
 generalize f 1 = y1 at *
 generalize f 2 = y2 at *
 generalize f 3 = y3 at *
 rw [hx]
 clear hx
 go_enter Try.func53, Try.ntmps53
 go_wp2_with (first
   | go_big_skip
   | (refine own_box 5 _ O rfl rfl rfl rfl ?_; clear O; intro W a5 O; simp only [Act.put, kA, kZ, kS]; have c5 := (O.get 0 rfl).cell)
   | (go_at_call 85; refine ((HF _).out).mono ?_; rintro e W ⟨rfl, K⟩; replace O := O.keeps K; clear K c5; have c5 := (O.get 0 rfl).cell)
   | (refine own_alloc 7 (ints 3 fun _ => 0) O rfl rfl rfl (fun _ => by kernel_rfl) ?_; clear O; intro W a7 O; simp only [Act.put, kA, kZ, kS]; clear c5; have c5 := (O.get 1 rfl).cell)
   | (refine own_store_row 0 (.tmp 7) (.tmp 13) O rfl rfl rfl rfl rfl rfl (by kernel_rfl) (by simp only [ints_size]) (ints_cell _ _) ?_; clear O; intro W O; simp only [kZ] at O; clear c5; have c5 := (O.get 1 rfl).cell; have c7 := (O.get 0 rfl).cell; have c4 := (HC _ O.keep).out)
   | (go_at_call 86; with_reducible (refine ((HM1 _ O.keep).out).mono ?_); rintro e W ⟨rfl, rfl⟩)
   | (go_at_call 86; with_reducible (refine ((HM2 _ O.keep).out).mono ?_); rintro e W ⟨rfl, rfl⟩)
   | (go_at_call 86; with_reducible (refine ((HM3 _ O.keep).out).mono ?_); rintro e W ⟨rfl, rfl⟩))
 go_ret
 exact ⟨rfl, O.keep⟩
set_option maxRecDepth 100000 in
set_option maxHeartbeats 1000000 in
include hx HF HM1 HM2 HM3 HC in
theorem core_12n1 (e : x = 12) (z : ¬ ce = 0) (q1 : b1 = true) (q2 : b2 = false) : Calls Try.prog 53 #[.pointer (some ⟨g, 0, none⟩), .int .i64 p, .agg (inst f)] w fun e w' => e = .returned (.bool false) ∧ Keeps w w' [] := by
 have O := Own.start w []
 have _u := And.intro hx (And.intro HF (And.intro HM1 (And.intro HM2 (And.intro HM3 HC))))
 clear _u
 unfold inst
 subst e
 subst q1
 subst q2
 generalize f 1 = y1 at *
 generalize f 2 = y2 at *
 generalize f 3 = y3 at *
 rw [hx]
 clear hx
 go_enter Try.func53, Try.ntmps53
 go_wp2_with (first
   | go_big_skip
   | (refine own_box 5 _ O rfl rfl rfl rfl ?_; clear O; intro W a5 O; simp only [Act.put, kA, kZ, kS]; have c5 := (O.get 0 rfl).cell)
   | (go_at_call 85; refine ((HF _).out).mono ?_; rintro e W ⟨rfl, K⟩; replace O := O.keeps K; clear K c5; have c5 := (O.get 0 rfl).cell)
   | (refine own_alloc 7 (ints 3 fun _ => 0) O rfl rfl rfl (fun _ => by kernel_rfl) ?_; clear O; intro W a7 O; simp only [Act.put, kA, kZ, kS]; clear c5; have c5 := (O.get 1 rfl).cell)
   | (refine own_store_row 0 (.tmp 7) (.tmp 13) O rfl rfl rfl rfl rfl rfl (by kernel_rfl) (by simp only [ints_size]) (ints_cell _ _) ?_; clear O; intro W O; simp only [kZ] at O; clear c5; have c5 := (O.get 1 rfl).cell; have c7 := (O.get 0 rfl).cell; have c4 := (HC _ O.keep).out)
   | (go_at_call 86; with_reducible (refine ((HM1 _ O.keep).out).mono ?_); rintro e W ⟨rfl, rfl⟩)
   | (go_at_call 86; with_reducible (refine ((HM2 _ O.keep).out).mono ?_); rintro e W ⟨rfl, rfl⟩)
   | (go_at_call 86; with_reducible (refine ((HM3 _ O.keep).out).mono ?_); rintro e W ⟨rfl, rfl⟩))
 go_ret
 exact ⟨rfl, O.keep⟩
set_option maxRecDepth 100000 in
set_option maxHeartbeats 1000000 in
include hx HF HM1 HM2 HM3 HC in
theorem core_12n2 (e : x = 12) (z : ¬ ce = 0) (q1 : b1 = true) (q2 : b2 = true) : Calls Try.prog 53 #[.pointer (some ⟨g, 0, none⟩), .int .i64 p, .agg (inst f)] w fun e w' => e = .returned (.bool b3) ∧ Keeps w w' [] := by
 have O := Own.start w []
 have _u := And.intro hx (And.intro HF (And.intro HM1 (And.intro HM2 (And.intro HM3 HC))))
 clear _u
 unfold inst
 subst e
 subst q1
 subst q2
 generalize f 1 = y1 at *
 generalize f 2 = y2 at *
 generalize f 3 = y3 at *
 rw [hx]
 clear hx
 go_enter Try.func53, Try.ntmps53
 go_wp2_with (first
   | go_big_skip
   | (refine own_box 5 _ O rfl rfl rfl rfl ?_; clear O; intro W a5 O; simp only [Act.put, kA, kZ, kS]; have c5 := (O.get 0 rfl).cell)
   | (go_at_call 85; refine ((HF _).out).mono ?_; rintro e W ⟨rfl, K⟩; replace O := O.keeps K; clear K c5; have c5 := (O.get 0 rfl).cell)
   | (refine own_alloc 7 (ints 3 fun _ => 0) O rfl rfl rfl (fun _ => by kernel_rfl) ?_; clear O; intro W a7 O; simp only [Act.put, kA, kZ, kS]; clear c5; have c5 := (O.get 1 rfl).cell)
   | (refine own_store_row 0 (.tmp 7) (.tmp 13) O rfl rfl rfl rfl rfl rfl (by kernel_rfl) (by simp only [ints_size]) (ints_cell _ _) ?_; clear O; intro W O; simp only [kZ] at O; clear c5; have c5 := (O.get 1 rfl).cell; have c7 := (O.get 0 rfl).cell; have c4 := (HC _ O.keep).out)
   | (go_at_call 86; with_reducible (refine ((HM1 _ O.keep).out).mono ?_); rintro e W ⟨rfl, rfl⟩)
   | (go_at_call 86; with_reducible (refine ((HM2 _ O.keep).out).mono ?_); rintro e W ⟨rfl, rfl⟩)
   | (go_at_call 86; with_reducible (refine ((HM3 _ O.keep).out).mono ?_); rintro e W ⟨rfl, rfl⟩))
 go_ret
 exact ⟨rfl, O.keep⟩
set_option maxRecDepth 100000 in
set_option maxHeartbeats 1000000 in
include hx HF HM1 HM2 HM3 HC in
theorem core_13z (e : x = 13) (z : ce = 0) : Calls Try.prog 53 #[.pointer (some ⟨g, 0, none⟩), .int .i64 p, .agg (inst f)] w fun e w' => e = .returned (.bool false) ∧ Keeps w w' [] := by
 have O := Own.start w []
 have _u := And.intro hx (And.intro HF (And.intro HM1 (And.intro HM2 (And.intro HM3 HC))))
 clear _u
 unfold inst
 subst e
 subst z
 generalize f 1 = y1 at *
 generalize f 2 = y2 at *
 generalize f 3 = y3 at *
 rw [hx]
 clear hx
 go_enter Try.func53, Try.ntmps53
 go_wp2_with (first
   | go_big_skip
   | (refine own_box 5 _ O rfl rfl rfl rfl ?_; clear O; intro W a5 O; simp only [Act.put, kA, kZ, kS]; have c5 := (O.get 0 rfl).cell)
   | (go_at_call 85; refine ((HF _).out).mono ?_; rintro e W ⟨rfl, K⟩; replace O := O.keeps K; clear K c5; have c5 := (O.get 0 rfl).cell)
   | (refine own_alloc 7 (ints 3 fun _ => 0) O rfl rfl rfl (fun _ => by kernel_rfl) ?_; clear O; intro W a7 O; simp only [Act.put, kA, kZ, kS]; clear c5; have c5 := (O.get 1 rfl).cell)
   | (refine own_store_row 0 (.tmp 7) (.tmp 13) O rfl rfl rfl rfl rfl rfl (by kernel_rfl) (by simp only [ints_size]) (ints_cell _ _) ?_; clear O; intro W O; simp only [kZ] at O; clear c5; have c5 := (O.get 1 rfl).cell; have c7 := (O.get 0 rfl).cell; have c4 := (HC _ O.keep).out)
   | (go_at_call 86; with_reducible (refine ((HM1 _ O.keep).out).mono ?_); rintro e W ⟨rfl, rfl⟩)
   | (go_at_call 86; with_reducible (refine ((HM2 _ O.keep).out).mono ?_); rintro e W ⟨rfl, rfl⟩)
   | (go_at_call 86; with_reducible (refine ((HM3 _ O.keep).out).mono ?_); rintro e W ⟨rfl, rfl⟩))
 go_ret
 exact ⟨rfl, O.keep⟩
set_option maxRecDepth 100000 in
set_option maxHeartbeats 1000000 in
include hx HF HM1 HM2 HM3 HC in
theorem core_13n0 (e : x = 13) (z : ¬ ce = 0) (q1 : b1 = false) : Calls Try.prog 53 #[.pointer (some ⟨g, 0, none⟩), .int .i64 p, .agg (inst f)] w fun e w' => e = .returned (.bool false) ∧ Keeps w w' [] := by
 have O := Own.start w []
 have _u := And.intro hx (And.intro HF (And.intro HM1 (And.intro HM2 (And.intro HM3 HC))))
 clear _u
 unfold inst
 subst e
 subst q1
 generalize f 1 = y1 at *
 generalize f 2 = y2 at *
 generalize f 3 = y3 at *
 rw [hx]
 clear hx
 go_enter Try.func53, Try.ntmps53
 go_wp2_with (first
   | go_big_skip
   | (refine own_box 5 _ O rfl rfl rfl rfl ?_; clear O; intro W a5 O; simp only [Act.put, kA, kZ, kS]; have c5 := (O.get 0 rfl).cell)
   | (go_at_call 85; refine ((HF _).out).mono ?_; rintro e W ⟨rfl, K⟩; replace O := O.keeps K; clear K c5; have c5 := (O.get 0 rfl).cell)
   | (refine own_alloc 7 (ints 3 fun _ => 0) O rfl rfl rfl (fun _ => by kernel_rfl) ?_; clear O; intro W a7 O; simp only [Act.put, kA, kZ, kS]; clear c5; have c5 := (O.get 1 rfl).cell)
   | (refine own_store_row 0 (.tmp 7) (.tmp 13) O rfl rfl rfl rfl rfl rfl (by kernel_rfl) (by simp only [ints_size]) (ints_cell _ _) ?_; clear O; intro W O; simp only [kZ] at O; clear c5; have c5 := (O.get 1 rfl).cell; have c7 := (O.get 0 rfl).cell; have c4 := (HC _ O.keep).out)
   | (go_at_call 86; with_reducible (refine ((HM1 _ O.keep).out).mono ?_); rintro e W ⟨rfl, rfl⟩)
   | (go_at_call 86; with_reducible (refine ((HM2 _ O.keep).out).mono ?_); rintro e W ⟨rfl, rfl⟩)
   | (go_at_call 86; with_reducible (refine ((HM3 _ O.keep).out).mono ?_); rintro e W ⟨rfl, rfl⟩))
 go_ret
 exact ⟨rfl, O.keep⟩
set_option maxRecDepth 100000 in
set_option maxHeartbeats 1000000 in
include hx HF HM1 HM2 HM3 HC in
theorem core_13n1 (e : x = 13) (z : ¬ ce = 0) (q1 : b1 = true) (q2 : b2 = false) : Calls Try.prog 53 #[.pointer (some ⟨g, 0, none⟩), .int .i64 p, .agg (inst f)] w fun e w' => e = .returned (.bool false) ∧ Keeps w w' [] := by
 have O := Own.start w []
 have _u := And.intro hx (And.intro HF (And.intro HM1 (And.intro HM2 (And.intro HM3 HC))))
 clear _u
 unfold inst
 subst e
 subst q1
 subst q2
 generalize f 1 = y1 at *
 generalize f 2 = y2 at *
 generalize f 3 = y3 at *
 rw [hx]
 clear hx
 go_enter Try.func53, Try.ntmps53
 go_wp2_with (first
   | go_big_skip
   | (refine own_box 5 _ O rfl rfl rfl rfl ?_; clear O; intro W a5 O; simp only [Act.put, kA, kZ, kS]; have c5 := (O.get 0 rfl).cell)
   | (go_at_call 85; refine ((HF _).out).mono ?_; rintro e W ⟨rfl, K⟩; replace O := O.keeps K; clear K c5; have c5 := (O.get 0 rfl).cell)
   | (refine own_alloc 7 (ints 3 fun _ => 0) O rfl rfl rfl (fun _ => by kernel_rfl) ?_; clear O; intro W a7 O; simp only [Act.put, kA, kZ, kS]; clear c5; have c5 := (O.get 1 rfl).cell)
   | (refine own_store_row 0 (.tmp 7) (.tmp 13) O rfl rfl rfl rfl rfl rfl (by kernel_rfl) (by simp only [ints_size]) (ints_cell _ _) ?_; clear O; intro W O; simp only [kZ] at O; clear c5; have c5 := (O.get 1 rfl).cell; have c7 := (O.get 0 rfl).cell; have c4 := (HC _ O.keep).out)
   | (go_at_call 86; with_reducible (refine ((HM1 _ O.keep).out).mono ?_); rintro e W ⟨rfl, rfl⟩)
   | (go_at_call 86; with_reducible (refine ((HM2 _ O.keep).out).mono ?_); rintro e W ⟨rfl, rfl⟩)
   | (go_at_call 86; with_reducible (refine ((HM3 _ O.keep).out).mono ?_); rintro e W ⟨rfl, rfl⟩))
 go_ret
 exact ⟨rfl, O.keep⟩
set_option maxRecDepth 100000 in
set_option maxHeartbeats 1000000 in
include hx HF HM1 HM2 HM3 HC in
theorem core_13n2 (e : x = 13) (z : ¬ ce = 0) (q1 : b1 = true) (q2 : b2 = true) : Calls Try.prog 53 #[.pointer (some ⟨g, 0, none⟩), .int .i64 p, .agg (inst f)] w fun e w' => e = .returned (.bool b3) ∧ Keeps w w' [] := by
 have O := Own.start w []
 have _u := And.intro hx (And.intro HF (And.intro HM1 (And.intro HM2 (And.intro HM3 HC))))
 clear _u
 unfold inst
 subst e
 subst q1
 subst q2
 generalize f 1 = y1 at *
 generalize f 2 = y2 at *
 generalize f 3 = y3 at *
 rw [hx]
 clear hx
 go_enter Try.func53, Try.ntmps53
 go_wp2_with (first
   | go_big_skip
   | (refine own_box 5 _ O rfl rfl rfl rfl ?_; clear O; intro W a5 O; simp only [Act.put, kA, kZ, kS]; have c5 := (O.get 0 rfl).cell)
   | (go_at_call 85; refine ((HF _).out).mono ?_; rintro e W ⟨rfl, K⟩; replace O := O.keeps K; clear K c5; have c5 := (O.get 0 rfl).cell)
   | (refine own_alloc 7 (ints 3 fun _ => 0) O rfl rfl rfl (fun _ => by kernel_rfl) ?_; clear O; intro W a7 O; simp only [Act.put, kA, kZ, kS]; clear c5; have c5 := (O.get 1 rfl).cell)
   | (refine own_store_row 0 (.tmp 7) (.tmp 13) O rfl rfl rfl rfl rfl rfl (by kernel_rfl) (by simp only [ints_size]) (ints_cell _ _) ?_; clear O; intro W O; simp only [kZ] at O; clear c5; have c5 := (O.get 1 rfl).cell; have c7 := (O.get 0 rfl).cell; have c4 := (HC _ O.keep).out)
   | (go_at_call 86; with_reducible (refine ((HM1 _ O.keep).out).mono ?_); rintro e W ⟨rfl, rfl⟩)
   | (go_at_call 86; with_reducible (refine ((HM2 _ O.keep).out).mono ?_); rintro e W ⟨rfl, rfl⟩)
   | (go_at_call 86; with_reducible (refine ((HM3 _ O.keep).out).mono ?_); rintro e W ⟨rfl, rfl⟩))
 go_ret
 exact ⟨rfl, O.keep⟩
set_option maxRecDepth 100000 in
set_option maxHeartbeats 1000000 in
include hx HF HM1 HM2 HM3 HC in
theorem core_on0 (e : ¬ x = 12) (e' : ¬ x = 13) (q1 : b1 = false) : Calls Try.prog 53 #[.pointer (some ⟨g, 0, none⟩), .int .i64 p, .agg (inst f)] w fun e w' => e = .returned (.bool false) ∧ Keeps w w' [] := by
 have O := Own.start w []
 have _u := And.intro hx (And.intro HF (And.intro HM1 (And.intro HM2 (And.intro HM3 HC))))
 clear _u
 unfold inst
 subst q1
 generalize f 1 = y1 at *
 generalize f 2 = y2 at *
 generalize f 3 = y3 at *
 rw [hx]
 clear hx
 go_enter Try.func53, Try.ntmps53
 go_wp2_with (first
   | go_big_skip
   | (refine own_box 5 _ O rfl rfl rfl rfl ?_; clear O; intro W a5 O; simp only [Act.put, kA, kZ, kS]; have c5 := (O.get 0 rfl).cell)
   | (go_at_call 85; refine ((HF _).out).mono ?_; rintro e W ⟨rfl, K⟩; replace O := O.keeps K; clear K c5; have c5 := (O.get 0 rfl).cell)
   | (refine own_alloc 7 (ints 3 fun _ => 0) O rfl rfl rfl (fun _ => by kernel_rfl) ?_; clear O; intro W a7 O; simp only [Act.put, kA, kZ, kS]; clear c5; have c5 := (O.get 1 rfl).cell)
   | (refine own_store_row 0 (.tmp 7) (.tmp 13) O rfl rfl rfl rfl rfl rfl (by kernel_rfl) (by simp only [ints_size]) (ints_cell _ _) ?_; clear O; intro W O; simp only [kZ] at O; clear c5; have c5 := (O.get 1 rfl).cell; have c7 := (O.get 0 rfl).cell; have c4 := (HC _ O.keep).out)
   | (go_at_call 86; with_reducible (refine ((HM1 _ O.keep).out).mono ?_); rintro e W ⟨rfl, rfl⟩)
   | (go_at_call 86; with_reducible (refine ((HM2 _ O.keep).out).mono ?_); rintro e W ⟨rfl, rfl⟩)
   | (go_at_call 86; with_reducible (refine ((HM3 _ O.keep).out).mono ?_); rintro e W ⟨rfl, rfl⟩))
 go_ret
 exact ⟨rfl, O.keep⟩
set_option maxRecDepth 100000 in
set_option maxHeartbeats 1000000 in
include hx HF HM1 HM2 HM3 HC in
theorem core_on1 (e : ¬ x = 12) (e' : ¬ x = 13) (q1 : b1 = true) (q2 : b2 = false) : Calls Try.prog 53 #[.pointer (some ⟨g, 0, none⟩), .int .i64 p, .agg (inst f)] w fun e w' => e = .returned (.bool false) ∧ Keeps w w' [] := by
 have O := Own.start w []
 have _u := And.intro hx (And.intro HF (And.intro HM1 (And.intro HM2 (And.intro HM3 HC))))
 clear _u
 unfold inst
 subst q1
 subst q2
 generalize f 1 = y1 at *
 generalize f 2 = y2 at *
 generalize f 3 = y3 at *
 rw [hx]
 clear hx
 go_enter Try.func53, Try.ntmps53
 go_wp2_with (first
   | go_big_skip
   | (refine own_box 5 _ O rfl rfl rfl rfl ?_; clear O; intro W a5 O; simp only [Act.put, kA, kZ, kS]; have c5 := (O.get 0 rfl).cell)
   | (go_at_call 85; refine ((HF _).out).mono ?_; rintro e W ⟨rfl, K⟩; replace O := O.keeps K; clear K c5; have c5 := (O.get 0 rfl).cell)
   | (refine own_alloc 7 (ints 3 fun _ => 0) O rfl rfl rfl (fun _ => by kernel_rfl) ?_; clear O; intro W a7 O; simp only [Act.put, kA, kZ, kS]; clear c5; have c5 := (O.get 1 rfl).cell)
   | (refine own_store_row 0 (.tmp 7) (.tmp 13) O rfl rfl rfl rfl rfl rfl (by kernel_rfl) (by simp only [ints_size]) (ints_cell _ _) ?_; clear O; intro W O; simp only [kZ] at O; clear c5; have c5 := (O.get 1 rfl).cell; have c7 := (O.get 0 rfl).cell; have c4 := (HC _ O.keep).out)
   | (go_at_call 86; with_reducible (refine ((HM1 _ O.keep).out).mono ?_); rintro e W ⟨rfl, rfl⟩)
   | (go_at_call 86; with_reducible (refine ((HM2 _ O.keep).out).mono ?_); rintro e W ⟨rfl, rfl⟩)
   | (go_at_call 86; with_reducible (refine ((HM3 _ O.keep).out).mono ?_); rintro e W ⟨rfl, rfl⟩))
 go_ret
 exact ⟨rfl, O.keep⟩
set_option maxRecDepth 100000 in
set_option maxHeartbeats 1000000 in
include hx HF HM1 HM2 HM3 HC in
theorem core_on2 (e : ¬ x = 12) (e' : ¬ x = 13) (q1 : b1 = true) (q2 : b2 = true) : Calls Try.prog 53 #[.pointer (some ⟨g, 0, none⟩), .int .i64 p, .agg (inst f)] w fun e w' => e = .returned (.bool b3) ∧ Keeps w w' [] := by
 have O := Own.start w []
 have _u := And.intro hx (And.intro HF (And.intro HM1 (And.intro HM2 (And.intro HM3 HC))))
 clear _u
 unfold inst
 subst q1
 subst q2
 generalize f 1 = y1 at *
 generalize f 2 = y2 at *
 generalize f 3 = y3 at *
 rw [hx]
 clear hx
 go_enter Try.func53, Try.ntmps53
 go_wp2_with (first
   | go_big_skip
   | (refine own_box 5 _ O rfl rfl rfl rfl ?_; clear O; intro W a5 O; simp only [Act.put, kA, kZ, kS]; have c5 := (O.get 0 rfl).cell)
   | (go_at_call 85; refine ((HF _).out).mono ?_; rintro e W ⟨rfl, K⟩; replace O := O.keeps K; clear K c5; have c5 := (O.get 0 rfl).cell)
   | (refine own_alloc 7 (ints 3 fun _ => 0) O rfl rfl rfl (fun _ => by kernel_rfl) ?_; clear O; intro W a7 O; simp only [Act.put, kA, kZ, kS]; clear c5; have c5 := (O.get 1 rfl).cell)
   | (refine own_store_row 0 (.tmp 7) (.tmp 13) O rfl rfl rfl rfl rfl rfl (by kernel_rfl) (by simp only [ints_size]) (ints_cell _ _) ?_; clear O; intro W O; simp only [kZ] at O; clear c5; have c5 := (O.get 1 rfl).cell; have c7 := (O.get 0 rfl).cell; have c4 := (HC _ O.keep).out)
   | (go_at_call 86; with_reducible (refine ((HM1 _ O.keep).out).mono ?_); rintro e W ⟨rfl, rfl⟩)
   | (go_at_call 86; with_reducible (refine ((HM2 _ O.keep).out).mono ?_); rintro e W ⟨rfl, rfl⟩)
   | (go_at_call 86; with_reducible (refine ((HM3 _ O.keep).out).mono ?_); rintro e W ⟨rfl, rfl⟩))
 go_ret
 exact ⟨rfl, O.keep⟩
end
set_option maxHeartbeats 1000000 in
theorem right_any {S : Sys} {A : Option Addr} {c : Nat} {R : Option Addr} {d g : Nat} {t : TypeId} {p : Nat} {w : World} (f : Nat → Int) (hB : Blk w g t (sysV S A c R d)) (hS : SysIn w S A c R d) (hp : p < S.np) (hl : S.lp p ≤ 256) :
   Calls Try.prog 53 #[.pointer (some ⟨g, 0, none⟩), .int .i64 p, .agg (inst f)] w fun e w' => e = .returned (.bool (rightS S p f)) ∧ Keeps w w' [] := by
 by_cases h1 : f 0 < 1
 · have := right_low f h1 w p g
   rwa [show rightS S p f = false by simp [rightS, opOk, show ¬ 1 ≤ f 0 from by omega]]
 by_cases h2 : 17 ≤ f 0
 · have := right_high f h2 w p g
   rwa [show rightS S p f = false by simp [rightS, opOk, show ¬ f 0 ≤ 16 from by omega]]
 obtain ⟨o, ho⟩ : ∃ o : Nat, f 0 = (o : Int) := ⟨(f 0).toNat, by omega⟩
 have ho1 : 1 ≤ o := by omega
 have ho2 : o ≤ 16 := by omega
 have HF : ∀ u, Hid (Calls Try.prog 85 #[.int .i64 (o : Int)] u fun e w' => e = .returned (.tuple #[.agg (ints 3 (kd o)), .bool true]) ∧ Keeps u w' []) := fun u => Lib.hid (fields_good o ho1 ho2 u)
 have HM : ∀ j, j < 3 → ∀ u, Keeps w u [] → Hid (Calls Try.prog 86 #[.pointer (some ⟨g, 0, none⟩), .int .i64 p, .int .i64 (f (j + 1)), .int .i64 (kd o j : Nat)] u fun e w' => e = .returned (.bool (mayS S p (f (j + 1)) (kd o j))) ∧ u = w') := fun j hj u k => Lib.hid (may_any S A c R d g p (f (j + 1)) u (hB.keeps k (by simp)) (hS.kept k) hp hl (kd o j) (kd_le o j (by omega) hj))
 have M1 := HM 0 (by omega)
 have M2 := HM 1 (by omega)
 have M3 := HM 2 (by omega)
 have HC : ∀ u, Keeps w u [] → Hid (u.cell? ⟨g, 4, none⟩ = some (.int .i64 S.ce)) := fun u k => Lib.hid ((hB.keeps k (by simp)).cell 4)
 have e0 : rightS S p f = (!((decide (f 0 = 12) || decide (f 0 = 13)) && decide (S.ce = 0)) && (mayS S p (f 1) (kd o 0) && (mayS S p (f 2) (kd o 1) && mayS S p (f 3) (kd o 2)))) := by
   unfold rightS
   rw [show (f 0).toNat = o from by omega, show opOk (f 0) = true by simp [opOk, show 1 ≤ f 0 from by omega, show f 0 ≤ 16 from by omega], Bool.true_and]
 rw [e0]
 clear e0 HM hB hS
 simp only [Nat.zero_add, Nat.reduceAdd] at M1 M2 M3
 generalize mayS S p (f 1) (kd o 0) = b1 at *
 generalize mayS S p (f 2) (kd o 1) = b2 at *
 generalize mayS S p (f 3) (kd o 2) = b3 at *
 have go : ∀ r, (Calls Try.prog 53 #[.pointer (some ⟨g, 0, none⟩), .int .i64 p, .agg (inst f)] w fun e w' => e = .returned (.bool r) ∧ Keeps w w' []) → r = (!((decide (f 0 = 12) || decide (f 0 = 13)) && decide (S.ce = 0)) && (b1 && (b2 && b3))) → Calls Try.prog 53 #[.pointer (some ⟨g, 0, none⟩), .int .i64 p, .agg (inst f)] w fun e w' => e = .returned (.bool (!((decide (f 0 = 12) || decide (f 0 = 13)) && decide (S.ce = 0)) && (b1 && (b2 && b3)))) ∧ Keeps w w' [] := fun r h e => by rw [← e]; exact h
 by_cases e12 : (o : Int) = 12
 · by_cases z : S.ce = 0
   · exact go _ (core_12z f o p g S.ce b1 b2 b3 w o ho HF M1 M2 M3 HC e12 z) (by simp [ho, e12, z])
   · rcases (by cases b1 <;> simp : b1 = false ∨ b1 = true) with h1 | h1
     · exact go _ (core_12n0 f o p g S.ce b1 b2 b3 w o ho HF M1 M2 M3 HC e12 z h1) (by simp [h1])
     · rcases (by cases b2 <;> simp : b2 = false ∨ b2 = true) with h2 | h2
       · exact go _ (core_12n1 f o p g S.ce b1 b2 b3 w o ho HF M1 M2 M3 HC e12 z h1 h2) (by simp [h1, h2])
       · exact go _ (core_12n2 f o p g S.ce b1 b2 b3 w o ho HF M1 M2 M3 HC e12 z h1 h2) (by simp [z, h1, h2])
 by_cases e13 : (o : Int) = 13
 · by_cases z : S.ce = 0
   · exact go _ (core_13z f o p g S.ce b1 b2 b3 w o ho HF M1 M2 M3 HC e13 z) (by simp [ho, e13, z])
   · rcases (by cases b1 <;> simp : b1 = false ∨ b1 = true) with h1 | h1
     · exact go _ (core_13n0 f o p g S.ce b1 b2 b3 w o ho HF M1 M2 M3 HC e13 z h1) (by simp [h1])
     · rcases (by cases b2 <;> simp : b2 = false ∨ b2 = true) with h2 | h2
       · exact go _ (core_13n1 f o p g S.ce b1 b2 b3 w o ho HF M1 M2 M3 HC e13 z h1 h2) (by simp [h1, h2])
       · exact go _ (core_13n2 f o p g S.ce b1 b2 b3 w o ho HF M1 M2 M3 HC e13 z h1 h2) (by simp [z, h1, h2])
 rcases (by cases b1 <;> simp : b1 = false ∨ b1 = true) with h1 | h1
 · exact go _ (core_on0 f o p g S.ce b1 b2 b3 w o ho HF M1 M2 M3 HC e12 e13 h1) (by simp [h1])
 · rcases (by cases b2 <;> simp : b2 = false ∨ b2 = true) with h2 | h2
   · exact go _ (core_on1 f o p g S.ce b1 b2 b3 w o ho HF M1 M2 M3 HC e12 e13 h1 h2) (by simp [h1, h2])
   · exact go _ (core_on2 f o p g S.ce b1 b2 b3 w o ho HF M1 M2 M3 HC e12 e13 h1 h2) (by simp [ho, e12, e13, h1, h2])
open Go.RowKit
theorem wpList_load_at {P : Program} {ops : Array Oper} {rest : List Oper} {o : Oper} {a : Act} {w : World} {Q : Exit → Act → World → Prop} {ty : TypeId} {ad : Addr} {cs : Array Value} {x : Operand} {d : TypeDesc} (n : Nat)
   (_hd : o.dst = some n) (hgd : o.guard = none) (ho : o.op = .load ty x) (hx : a.eval x = .pointer (some ad)) (hc : ∀ j, j < cs.size → w.cell? (ad.add j) = cs[j]?)
   (hu : P.underlying ty = some d) (hd : d.isRow = true) (hi : (P.info? ty).map (·.size) = some cs.size)
   (h : wpList P ops Q rest (a.put o.dst (.agg cs)) w) : wpList P ops Q (o :: rest) a w := by
 have hl : (loadCells ad cs.size).run P w = .ok cs w := by
   have := run_loadCells_list (P := P) w ad cs.toList (fun j v hv => by
     have hj : j < cs.size := by
       rcases Nat.lt_or_ge j cs.size with h1 | h1
       · exact h1
       · rw [List.getElem?_eq_none (by simpa using h1)] at hv; cases hv
     rw [hc j hj, ← hv, Array.getElem?_toList])
   simpa using this
 have hr : (loadVar ty ad).run P w = .ok (.agg cs) w := by
   cases hq : P.info? ty with
   | none => simp [hq] at hi
   | some i =>
     have hs : i.size = cs.size := by simpa [hq] using hi
     have hagg : (isAgg ty).run P w = .ok true w := by
       unfold isAgg
       rw [Sem.run_bind, run_underlying hu w]
       cases d <;> simp_all
     simp [loadVar, Sem.run_bind, hagg, sizeOf, typeInfo, hq, hs, hl]
 refine wpList_plain hgd fun _ hK => ?_
 unfold Oper.wp execOp
 simp only [ho, hx, Instr.loadAt, Instr.sureAddr, Sem.run_bind, Sem.run_pure, Result.andThen_ok, hr]
 exact hK _ _ h
theorem inst_cell (f : Nat → Int) : ∀ v ∈ (inst f).toList, v.oneCell' = true := by
 intro v hv
 simp only [inst, List.mem_cons, List.not_mem_nil, or_false] at hv
 rcases hv with rfl | rfl | rfl | rfl <;> rfl
def shB (n : Int) : Bool := decide (0 ≤ n) && decide (n ≤ 64)
def roomB (n : Int) : Bool := decide (1 ≤ n) && decide (n ≤ 1024)
def headB (S : Sys) : Bool := decide (1 ≤ S.np) && (decide (S.np ≤ 64) && (decide (S.nr ≤ 64) && (shB S.gr && (shB S.lk && shB S.ce))))
def progB (S : Sys) (p : Nat) : Bool := decide (S.lp p ≤ 256) && (List.range (S.lp p)).all fun i => rightS S p (S.q p i)
def validB (S : Sys) : Bool := headB S && ((List.range S.nr).all (fun i => roomB (S.rm i)) && (List.range S.np).all (progB S))
theorem validB_iff (S : Sys) : validB S = true ↔ headB S = true ∧ (∀ i, i < S.nr → roomB (S.rm i) = true) ∧ ∀ p, p < S.np → S.lp p ≤ 256 ∧ ∀ i, i < S.lp p → rightS S p (S.q p i) = true := by
 simp [validB, progB, List.all_eq_true]
theorem headB_iff (S : Sys) : headB S = true ↔ 1 ≤ S.np ∧ S.np ≤ 64 ∧ S.nr ≤ 64 ∧ shB S.gr = true ∧ shB S.lk = true ∧ shB S.ce = true := by
 simp [headB]
theorem validB_bad {S : Sys} (h : headB S = false) : validB S = false := by simp [validB, h]
theorem validB_room {S : Sys} (i : Nat) (hi : i < S.nr) (h : roomB (S.rm i) = false) : validB S = false := by
 cases hv : validB S with
 | false => rfl
 | true => rw [((validB_iff S).1 hv).2.1 i hi] at h; cases h
theorem validB_long {S : Sys} (p : Nat) (hp : p < S.np) (h : 256 < S.lp p) : validB S = false := by
 cases hv : validB S with
 | false => rfl
 | true => have := (((validB_iff S).1 hv).2.2 p hp).1; omega
theorem validB_inst {S : Sys} (p i : Nat) (hp : p < S.np) (hi : i < S.lp p) (h : rightS S p (S.q p i) = false) : validB S = false := by
 cases hv : validB S with
 | false => rfl
 | true => rw [(((validB_iff S).1 hv).2.2 p hp).2 i hi] at h; cases h
def validE (S : Sys) : Int := if validB S then 0 else 130
theorem validE_no {S : Sys} (h : validB S = false) : validE S = 130 := by simp [validE, h]
theorem validE_yes {S : Sys} (h : validB S = true) : validE S = 0 := by simp [validE, h]
theorem shared_yes {n : Int} (h : shB n = true) (w : World) : Hid (Calls Try.prog 52 #[.int .i64 n] w fun e w' => e = .returned (.bool true) ∧ w = w') := by
 have := shared_any n w
 unfold shB at h
 rw [h] at this
 exact Lib.hid this
theorem shared_no {n : Int} (h : shB n = false) (w : World) : Hid (Calls Try.prog 52 #[.int .i64 n] w fun e w' => e = .returned (.bool false) ∧ w = w') := by
 have := shared_any n w
 unfold shB at h
 rw [h] at this
 exact Lib.hid this
section
variable {S : Sys} {A : Option Addr} {c : Nat} {R : Option Addr} {d : Nat} {w : World}
set_option maxRecDepth 100000 in
theorem vhead_np0 (h0 : S.np < 1) : Calls Try.prog 21 #[.agg (sysV S A c R d)] w fun e w' => e = .returned (.int .i64 130) ∧ Keeps w w' [] := by
 have O := Own.start w []
 unfold sysV
 have g0 : (S.np : Int) < 1 := by omega
 clear h0
 go_enter Try.func21, Try.ntmps21
 go_wp2_with (first
   | go_big_skip
   | (refine own_box 1 _ O rfl rfl rfl rfl ?_; clear O; intro W a1 O; simp only [Act.put, kA, kZ, kS]; have c1 := (O.get 0 rfl).cell))
 go_ret
 exact ⟨rfl, O.keep⟩
set_option maxRecDepth 100000 in
theorem vhead_np1 (h0 : 64 < S.np) : Calls Try.prog 21 #[.agg (sysV S A c R d)] w fun e w' => e = .returned (.int .i64 130) ∧ Keeps w w' [] := by
 have O := Own.start w []
 unfold sysV
 have g0 : ¬ (S.np : Int) < 1 := by omega
 have g1 : 64 < (S.np : Int) := by omega
 clear h0
 go_enter Try.func21, Try.ntmps21
 go_wp2_with (first
   | go_big_skip
   | (refine own_box 1 _ O rfl rfl rfl rfl ?_; clear O; intro W a1 O; simp only [Act.put, kA, kZ, kS]; have c1 := (O.get 0 rfl).cell))
 go_ret
 exact ⟨rfl, O.keep⟩
set_option maxRecDepth 100000 in
theorem vhead_nr (h0 : 1 ≤ S.np) (h1 : S.np ≤ 64) (nr_ : shB (S.nr : Int) = false) : Calls Try.prog 21 #[.agg (sysV S A c R d)] w fun e w' => e = .returned (.int .i64 130) ∧ Keeps w w' [] := by
 have O := Own.start w []
 unfold sysV
 have g0 : ¬ (S.np : Int) < 1 := by omega
 have g1 : ¬ 64 < (S.np : Int) := by omega
 have Hnr := fun w => shared_no (n := (S.nr : Int)) nr_ w
 clear h0 h1 nr_
 go_enter Try.func21, Try.ntmps21
 go_wp2_with (first
   | go_big_skip
   | (refine own_box 1 _ O rfl rfl rfl rfl ?_; clear O; intro W a1 O; simp only [Act.put, kA, kZ, kS]; have c1 := (O.get 0 rfl).cell)
   | (go_at_call 52; with_reducible (refine ((Hnr _).out).mono ?_); rintro e W ⟨rfl, rfl⟩))
 go_ret
 exact ⟨rfl, O.keep⟩
set_option maxRecDepth 100000 in
theorem vhead_gr (h0 : 1 ≤ S.np) (h1 : S.np ≤ 64) (nr_ : shB (S.nr : Int) = true) (gr_ : shB S.gr = false) : Calls Try.prog 21 #[.agg (sysV S A c R d)] w fun e w' => e = .returned (.int .i64 130) ∧ Keeps w w' [] := by
 have O := Own.start w []
 unfold sysV
 have g0 : ¬ (S.np : Int) < 1 := by omega
 have g1 : ¬ 64 < (S.np : Int) := by omega
 have Hnr := fun w => shared_yes (n := (S.nr : Int)) nr_ w
 have Hgr := fun w => shared_no (n := S.gr) gr_ w
 clear h0 h1 nr_ gr_
 go_enter Try.func21, Try.ntmps21
 go_wp2_with (first
   | go_big_skip
   | (refine own_box 1 _ O rfl rfl rfl rfl ?_; clear O; intro W a1 O; simp only [Act.put, kA, kZ, kS]; have c1 := (O.get 0 rfl).cell)
   | (go_at_call 52; with_reducible (refine ((Hnr _).out).mono ?_); rintro e W ⟨rfl, rfl⟩)
   | (go_at_call 52; with_reducible (refine ((Hgr _).out).mono ?_); rintro e W ⟨rfl, rfl⟩))
 go_ret
 exact ⟨rfl, O.keep⟩
set_option maxRecDepth 100000 in
theorem vhead_lk (h0 : 1 ≤ S.np) (h1 : S.np ≤ 64) (nr_ : shB (S.nr : Int) = true) (gr_ : shB S.gr = true) (lk_ : shB S.lk = false) : Calls Try.prog 21 #[.agg (sysV S A c R d)] w fun e w' => e = .returned (.int .i64 130) ∧ Keeps w w' [] := by
 have O := Own.start w []
 unfold sysV
 have g0 : ¬ (S.np : Int) < 1 := by omega
 have g1 : ¬ 64 < (S.np : Int) := by omega
 have Hnr := fun w => shared_yes (n := (S.nr : Int)) nr_ w
 have Hgr := fun w => shared_yes (n := S.gr) gr_ w
 have Hlk := fun w => shared_no (n := S.lk) lk_ w
 clear h0 h1 nr_ gr_ lk_
 go_enter Try.func21, Try.ntmps21
 go_wp2_with (first
   | go_big_skip
   | (refine own_box 1 _ O rfl rfl rfl rfl ?_; clear O; intro W a1 O; simp only [Act.put, kA, kZ, kS]; have c1 := (O.get 0 rfl).cell)
   | (go_at_call 52; with_reducible (refine ((Hnr _).out).mono ?_); rintro e W ⟨rfl, rfl⟩)
   | (go_at_call 52; with_reducible (refine ((Hgr _).out).mono ?_); rintro e W ⟨rfl, rfl⟩)
   | (go_at_call 52; with_reducible (refine ((Hlk _).out).mono ?_); rintro e W ⟨rfl, rfl⟩))
 go_ret
 exact ⟨rfl, O.keep⟩
set_option maxRecDepth 100000 in
theorem vhead_ce (h0 : 1 ≤ S.np) (h1 : S.np ≤ 64) (nr_ : shB (S.nr : Int) = true) (gr_ : shB S.gr = true) (lk_ : shB S.lk = true) (ce_ : shB S.ce = false) : Calls Try.prog 21 #[.agg (sysV S A c R d)] w fun e w' => e = .returned (.int .i64 130) ∧ Keeps w w' [] := by
 have O := Own.start w []
 unfold sysV
 have g0 : ¬ (S.np : Int) < 1 := by omega
 have g1 : ¬ 64 < (S.np : Int) := by omega
 have Hnr := fun w => shared_yes (n := (S.nr : Int)) nr_ w
 have Hgr := fun w => shared_yes (n := S.gr) gr_ w
 have Hlk := fun w => shared_yes (n := S.lk) lk_ w
 have Hce := fun w => shared_no (n := S.ce) ce_ w
 clear h0 h1 nr_ gr_ lk_ ce_
 go_enter Try.func21, Try.ntmps21
 go_wp2_with (first
   | go_big_skip
   | (refine own_box 1 _ O rfl rfl rfl rfl ?_; clear O; intro W a1 O; simp only [Act.put, kA, kZ, kS]; have c1 := (O.get 0 rfl).cell)
   | (go_at_call 52; with_reducible (refine ((Hnr _).out).mono ?_); rintro e W ⟨rfl, rfl⟩)
   | (go_at_call 52; with_reducible (refine ((Hgr _).out).mono ?_); rintro e W ⟨rfl, rfl⟩)
   | (go_at_call 52; with_reducible (refine ((Hlk _).out).mono ?_); rintro e W ⟨rfl, rfl⟩)
   | (go_at_call 52; with_reducible (refine ((Hce _).out).mono ?_); rintro e W ⟨rfl, rfl⟩))
 go_ret
 exact ⟨rfl, O.keep⟩
set_option maxRecDepth 100000 in
set_option maxHeartbeats 4000000 in
theorem vbody (hh : headB S = true) (hS : SysIn w S A c R d) : Calls Try.prog 21 #[.agg (sysV S A c R d)] w fun e w' => e = .returned (.int .i64 (validE S)) ∧ Keeps w w' [] := by
 have O := Own.start w []
 obtain ⟨h0, h1, h2, h3, h4, h5⟩ := (headB_iff S).1 hh
 have HR := Lib.hid (fun (p : Nat) (hp : p < S.np) (hl : S.lp p ≤ 256) (i : Nat) (u : World) (g : Nat) (hB : Blk u g 27 (sysV S A c R d)) (k : Keeps w u []) => right_any (S.q p i) hB (hS.kept k) hp hl)
 have HP := Lib.hid hS.progs
 have HI := Lib.hid hS.rooms
 have HH := Lib.hid hh
 clear hS hh
 have g0 : ¬ (S.np : Int) < 1 := by omega
 have g1 : ¬ 64 < (S.np : Int) := by omega
 have Hnr := fun w => shared_yes (n := (S.nr : Int)) (by simp [shB]; omega) w
 have Hgr := fun w => shared_yes h3 w
 have Hlk := fun w => shared_yes h4 w
 have Hce := fun w => shared_yes h5 w
 clear h3 h4 h5
 unfold sysV at HR ⊢
 go_enter Try.func21, Try.ntmps21
 go_wp2_with (first
   | go_big_skip
   | (refine own_box 1 _ O rfl rfl rfl rfl ?_; clear O; intro W a1 O; simp only [Act.put, kA, kZ, kS]; have c1 := (O.get 0 rfl).cell)
   | (go_at_call 52; with_reducible (refine ((Hnr _).out).mono ?_); rintro e W ⟨rfl, rfl⟩)
   | (go_at_call 52; with_reducible (refine ((Hgr _).out).mono ?_); rintro e W ⟨rfl, rfl⟩)
   | (go_at_call 52; with_reducible (refine ((Hlk _).out).mono ?_); rintro e W ⟨rfl, rfl⟩)
   | (go_at_call 52; with_reducible (refine ((Hce _).out).mono ?_); rintro e W ⟨rfl, rfl⟩))
 clear c1
 go_loopw [52] (fun i wr => ∃ k : Nat, k ≤ S.nr ∧ i = .int .i64 k ∧ Own w wr [] [(a1, 27, #[.slice A S.np c, .slice R S.nr d, .int .i64 S.gr, .int .i64 S.lk, .int .i64 S.ce])] ∧ ∀ j, j < k → roomB (S.rm j) = true) (fun i _ => S.nr - (intOf i).toNat)
 case atStart => exact ⟨0, by omega, rfl, O, fun j hj => by omega⟩
 case round =>
   obtain ⟨k, hk, rfl, O, hm⟩ := hrel
   have HM := Lib.hid hm
   clear hm
   by_cases hlt : k < S.nr
   · have g2 : ((k : Int)) < S.nr := by omega
     have g3 : (0 : Int) ≤ k := by omega
     obtain ⟨ad, rfl, hb, hc⟩ := HI.out (by omega)
     have ck : wr.cell? (ad.add k) = some (.int .i64 (S.rm k)) := (O.keep.cellAt (by rw [add_block]; exact hb) (by simp)).trans (hc k hlt)
     clear hc hb
     generalize hx : S.rm k = x at ck
     by_cases hr1 : x < 1
     · have HF := Lib.hid (validE_no (validB_room k hlt (by rw [hx]; simp [roomB]; omega)))
       clear hx
       go_wp2
       go_ret
       exact ⟨by rw [HF.out]; rfl, O.keep⟩
     · by_cases hr2 : 1024 < x
       · have HF := Lib.hid (validE_no (validB_room k hlt (by rw [hx]; simp [roomB]; omega)))
         clear hx
         go_wp2
         go_ret
         exact ⟨by rw [HF.out]; rfl, O.keep⟩
       · have HM2 := Lib.hid (show ∀ j, j < k + 1 → roomB (S.rm j) = true from fun j hj => if h : j = k then (by rw [h, hx]; simp [roomB]; omega) else HM.out j (by omega))
         clear hx
         go_wp2
         clear ck hr1 hr2
         go_roundw
         case rel => exact ⟨k + 1, by omega, by go_num, O, HM2.out⟩
         case measure => (simp [intOf] <;> omega)
   · obtain rfl : k = S.nr := by omega
     have c1 := (O.get 0 rfl).cell
     go_wp2
     clear c1
     go_loopw [66] (fun i wr => ∃ p : Nat, p ≤ S.np ∧ i = .int .i64 p ∧ Own w wr [] [(a1, 27, #[.slice A S.np c, .slice R S.nr d, .int .i64 S.gr, .int .i64 S.lk, .int .i64 S.ce])] ∧ ∀ j, j < p → progB S j = true) (fun i _ => S.np - (intOf i).toNat)
     case atStart => exact ⟨0, by omega, rfl, O, fun j hj => by omega⟩
     case round =>
       obtain ⟨p, hp, rfl, O, hm⟩ := hrel
       have HN := Lib.hid hm
       clear hm
       by_cases hlt : p < S.np
       · have g2 : ((p : Int)) < S.np := by omega
         have g3 : (0 : Int) ≤ p := by omega
         obtain ⟨ad, rfl, hb, hc⟩ := HP.out (by omega)
         obtain ⟨B, cb, hcell, hle, hmax, hI⟩ := hc p hlt
         have cp : wr.cell? (ad.add p) = some (.slice B (S.lp p) cb) := (O.keep.cellAt (by rw [add_block]; exact hb) (by simp)).trans hcell
         have HI2 := Lib.hid hI
         clear hc hb hcell hI
         by_cases hl : 256 < S.lp p
         · have HF := Lib.hid (validE_no (validB_long p hlt hl))
           have g4 : 256 < (S.lp p : Int) := by omega
           go_wp2
           go_ret
           exact ⟨by rw [HF.out]; rfl, O.keep⟩
         · have g4 : ¬ 256 < (S.lp p : Int) := by omega
           have HR2 := Lib.hid (HR.out p hlt (by omega))
           generalize hn : S.lp p = n at cp g4
           have HNn := Lib.hid hn
           go_wp2
           clear cp
           go_loopw [76] (fun i wr => ∃ j : Nat, j ≤ n ∧ i = .int .i64 j ∧ Own w wr [] [(a1, 27, #[.slice (some ad) S.np c, .slice R S.nr d, .int .i64 S.gr, .int .i64 S.lk, .int .i64 S.ce])] ∧ ∀ i, i < j → rightS S p (S.q p i) = true) (fun i _ => n - (intOf i).toNat)
           case atStart => exact ⟨0, by omega, rfl, O, fun j hj => by omega⟩
           case round =>
             obtain ⟨j, hj, rfl, O, hm⟩ := hrel
             have HQ := Lib.hid hm
             clear hm
             by_cases hjn : j < n
             · have g5 : ((j : Int)) < n := by omega
               have g6 : (0 : Int) ≤ j := by omega
               obtain ⟨be, rfl, hb, hc⟩ := HI2.out (by omega)
               have HC := Lib.hid (show ∀ u, Keeps w u [] → ∀ i, i < (inst (S.q p j)).size → u.cell? ((be.add (j * 4)).add i) = (inst (S.q p j))[i]? from fun u ku i hi => by
                 have hi' : i < 4 := hi
                 rw [Addr.add_add, ku.cellAt (by rw [add_block]; exact hb) (by simp), hc j i (by omega) hi']
                 match i, hi' with
                 | 0, _ => rfl
                 | 1, _ => rfl
                 | 2, _ => rfl
                 | 3, _ => rfl)
               clear hc hb
               cases hb : rightS S p (S.q p j) with
               | false =>
                 have HRj : ∀ u g, Blk u g 27 _ → Keeps w u [] → Hid (Calls Try.prog 53 #[.pointer (some ⟨g, 0, none⟩), .int .i64 p, .agg (inst (S.q p j))] u fun e w' => e = .returned (.bool false) ∧ Keeps u w' []) := fun u g hB k => Lib.hid (by have := HR2.out j u g hB k; rwa [hb] at this)
                 have HF := Lib.hid (validE_no (validB_inst p j hlt (by rw [HNn.out]; exact hjn) hb))
                 clear hb
                 go_wp2_with (first
                   | go_big_skip
                   | (refine wpList_load_at 79 rfl rfl rfl rfl (HC.out _ O.keep) Try.underlying99 rfl (by kernel_rfl) ?_; simp only [Act.put, kA, kZ, kS])
                   | (refine own_alloc 9 (#[.int .i64 0, .int .i64 0, .int .i64 0, .int .i64 0]) O rfl rfl rfl (fun _ => by kernel_rfl) ?_; clear O; intro W a9 O; simp only [Act.put, kA, kZ, kS])
                   | (refine own_store_row 0 (.tmp 9) (.tmp 79) O rfl rfl rfl rfl rfl rfl (by kernel_rfl) (by rfl) (inst_cell _) ?_; clear O; intro W O; simp only [kZ] at O)
                   | (refine own_load 81 0 O rfl rfl rfl rfl rfl Try.underlying99 rfl (by kernel_rfl) ?_; simp only [Act.put, kA, kZ, kS])
                   | (go_at_call 53; refine ((HRj _ _ (O.get 1 rfl) O.keep).out).mono ?_; rintro e W ⟨rfl, K⟩; replace O := O.keeps K; clear K))
                 go_ret
                 exact ⟨by rw [HF.out]; rfl, O.keep⟩
               | true =>
                 have HRj : ∀ u g, Blk u g 27 _ → Keeps w u [] → Hid (Calls Try.prog 53 #[.pointer (some ⟨g, 0, none⟩), .int .i64 p, .agg (inst (S.q p j))] u fun e w' => e = .returned (.bool true) ∧ Keeps u w' []) := fun u g hB k => Lib.hid (by have := HR2.out j u g hB k; rwa [hb] at this)
                 have HQ2 := Lib.hid (show ∀ i, i < j + 1 → rightS S p (S.q p i) = true from fun i hi => if h : i = j then (by rw [h]; exact hb) else HQ.out i (by omega))
                 clear hb
                 go_wp2_with (first
                   | go_big_skip
                   | (refine wpList_load_at 79 rfl rfl rfl rfl (HC.out _ O.keep) Try.underlying99 rfl (by kernel_rfl) ?_; simp only [Act.put, kA, kZ, kS])
                   | (refine own_alloc 9 (#[.int .i64 0, .int .i64 0, .int .i64 0, .int .i64 0]) O rfl rfl rfl (fun _ => by kernel_rfl) ?_; clear O; intro W a9 O; simp only [Act.put, kA, kZ, kS])
                   | (refine own_store_row 0 (.tmp 9) (.tmp 79) O rfl rfl rfl rfl rfl rfl (by kernel_rfl) (by rfl) (inst_cell _) ?_; clear O; intro W O; simp only [kZ] at O)
                   | (refine own_load 81 0 O rfl rfl rfl rfl rfl Try.underlying99 rfl (by kernel_rfl) ?_; simp only [Act.put, kA, kZ, kS])
                   | (go_at_call 53; refine ((HRj _ _ (O.get 1 rfl) O.keep).out).mono ?_; rintro e W ⟨rfl, K⟩; replace O := O.keeps K; clear K))
                 go_roundw
                 case rel => exact ⟨j + 1, by omega, by go_num, O.drop_ 1, HQ2.out⟩
                 case measure => (simp [intOf] <;> omega)
             · obtain rfl : j = n := by omega
               have HN2 := Lib.hid (show ∀ i, i < p + 1 → progB S i = true from fun i hi => if h : i = p then (by
                   rw [h]
                   simp only [progB, List.all_eq_true, List.mem_range, Bool.and_eq_true, decide_eq_true_eq]
                   exact ⟨by have := HNn.out; omega, fun x hx => HQ.out x (by rw [HNn.out] at hx; exact hx)⟩) else HN.out i (by omega))
               go_wp2
               go_roundw
               case rel => exact ⟨p + 1, by omega, by go_num, O, HN2.out⟩
               case measure => (simp [intOf] <;> omega)
       · obtain rfl : p = S.np := by omega
         have HF := Lib.hid (validE_yes ((validB_iff S).2 ⟨HH.out, HM.out, fun p hp => by
           have := HN.out p hp
           simpa [progB, List.all_eq_true] using this⟩))
         go_wp2
         go_ret
         exact ⟨by rw [HF.out]; rfl, O.keep⟩
theorem valid_any (hS : SysIn w S A c R d) : Calls Try.prog 21 #[.agg (sysV S A c R d)] w fun e w' => e = .returned (.int .i64 (validE S)) ∧ Keeps w w' [] := by
 cases hh : headB S with
 | true => exact vbody hh hS
 | false =>
   rw [validE_no (validB_bad hh)]
   by_cases h0 : S.np < 1
   · exact vhead_np0 h0
   by_cases h1 : 64 < S.np
   · exact vhead_np1 h1
   rcases (by cases shB (S.nr : Int) <;> simp : shB (S.nr : Int) = false ∨ shB (S.nr : Int) = true) with h2 | h2
   · exact vhead_nr (by omega) (by omega) h2
   rcases (by cases shB S.gr <;> simp : shB S.gr = false ∨ shB S.gr = true) with h3 | h3
   · exact vhead_gr (by omega) (by omega) h2 h3
   rcases (by cases shB S.lk <;> simp : shB S.lk = false ∨ shB S.lk = true) with h4 | h4
   · exact vhead_lk (by omega) (by omega) h2 h3 h4
   rcases (by cases shB S.ce <;> simp : shB S.ce = false ∨ shB S.ce = true) with h5 | h5
   · exact vhead_ce (by omega) (by omega) h2 h3 h4 h5
   · have h6 : S.nr ≤ 64 := by have : (S.nr : Int) ≤ 64 := by simpa [shB] using h2
                               omega
     rw [(headB_iff S).2 ⟨by omega, by omega, h6, h3, h4, h5⟩] at hh
     cases hh
end
open Go.RowKit
theorem add_zero_ (g k : Nat) : (⟨g, 0, none⟩ : Addr).add k = ⟨g, k, none⟩ := by unfold Addr.add; split <;> simp_all
open Go.RowKit
theorem Later.keep {w : World} (p : Later w) : Keeps w p.1 [] := p.2
open Go.RowKit
theorem wpQuiet_load_at {P : Program} {ops : Array Oper} {C : World → Prop} {Q : Act → Prop} {a : Act} {o : Oper} {rest : List Oper} {ty : TypeId} {ad : Addr} {cs : Array Value} {x : Operand} {d : TypeDesc} (n : Nat) (_hd : o.dst = some n)
   (hw : Region.wanted o (yielded ops a.tmps) = true) (ho : o.op = .load ty x) (hx : a.eval x = .pointer (some ad)) (hc : ∀ w, C w → ∀ j, j < cs.size → w.cell? (ad.add j) = cs[j]?)
   (hu : P.underlying ty = some d) (hd : d.isRow = true) (hi : (P.info? ty).map (·.size) = some cs.size)
   (h : wpQuiet P ops C Q rest (a.put o.dst (.agg cs))) : wpQuiet P ops C Q (o :: rest) a :=
 wpQuiet_at n (.agg cs) _hd hw (fun w hC => by
   have hl : (loadCells ad cs.size).run P w = .ok cs w := by
     have := run_loadCells_list (P := P) w ad cs.toList (fun j v hv => by
       have hj : j < cs.size := by
         rcases Nat.lt_or_ge j cs.size with h1 | h1
         · exact h1
         · rw [List.getElem?_eq_none (by simpa using h1)] at hv; cases hv
       rw [hc w hC j hj, ← hv, Array.getElem?_toList])
     simpa using this
   have hr : (loadVar ty ad).run P w = .ok (.agg cs) w := by
     cases hq : P.info? ty with
     | none => simp [hq] at hi
     | some i =>
       have hs : i.size = cs.size := by simpa [hq] using hi
       have hagg : (isAgg ty).run P w = .ok true w := by
         unfold isAgg
         rw [Sem.run_bind, run_underlying hu w]
         cases d <;> simp_all
       simp [loadVar, Sem.run_bind, hagg, sizeOf, typeInfo, hq, hs, hl]
   unfold execOp
   simp only [ho, hx, Instr.loadAt, Instr.sureAddr, Sem.run_bind, Sem.run_pure, Result.andThen_ok, hr]) h
open Go.RowKit Go.Maps
theorem key3 : Keyed Try.prog 3 := int_keyed Try.underlying3
theorem zero3 (w : World) : (zeroValue 3).run Try.prog w = .ok (.int .i64 0) w := by kernel_rfl
theorem zero4 (w : World) : (zeroValue 4).run Try.prog w = .ok (.bool false) w := by kernel_rfl
def updI {α : Type} (f : Int → α) (i : Int) (x : α) : Int → α := fun j => if j = i then x else f j
@[simp] theorem updI_same {α : Type} (f : Int → α) (i : Int) (x : α) : updI f i x i = x := by simp [updI]
theorem updI_other {α : Type} (f : Int → α) (i j : Int) (x : α) (h : j ≠ i) : updI f i x j = f j := by simp [updI, h]
def MapI (w : World) (b n : Nat) (f : Int → Int) : Prop := ∃ D : DataW Unit, w.ownsMap Try.prog 3 (plainElem Try.prog 3) b n D ∧ ∀ k, D.atKey (.int .i64 k) (.lit (.int .i64 0)) = .lit (.int .i64 (f k))
def MapB (w : World) (b n : Nat) (f : Int → Bool) : Prop := ∃ D : DataW Unit, w.ownsMap Try.prog 3 (plainElem Try.prog 4) b n D ∧ ∀ k, D.atKey (.int .i64 k) (.lit (.bool false)) = .lit (.bool (f k))
section
variable {w w' W : World} {S : List Nat} {b n : Nat} {f : Int → Int} {h : Int → Bool}
theorem ownsMap_block {H : Type} {P : Program} {k : TypeId} {R : Value → Option (DataW H × List MemPlace)} {D : DataW H} (m : w.ownsMap P k R b n D) (e : w'.heap[b]? = w.heap[b]?) : w'.ownsMap P k R b n D := by
 obtain ⟨es, c, hb, r⟩ := m
 exact ⟨es, c, e.trans hb, r⟩
theorem MapI.lt (m : MapI w b n f) : b < w.heap.size := m.choose_spec.1.lt
theorem MapB.lt (m : MapB w b n h) : b < w.heap.size := m.choose_spec.1.lt
theorem MapI.keeps (m : MapI w b n f) (k : Keeps w w' S) (hs : b ∉ S) : MapI w' b n f := by
 obtain ⟨D, h1, h2⟩ := m
 exact ⟨D, ownsMap_block h1 (k.block b h1.lt hs), h2⟩
theorem MapB.keeps (m : MapB w b n h) (k : Keeps w w' S) (hs : b ∉ S) : MapB w' b n h := by
 obtain ⟨D, h1, h2⟩ := m
 exact ⟨D, ownsMap_block h1 (k.block b h1.lt hs), h2⟩
theorem ownsMap_not_blk {H : Type} {P : Program} {k : TypeId} {R : Value → Option (DataW H × List MemPlace)} {D : DataW H} (m : w.ownsMap P k R b n D) {g : Nat} {t : TypeId} {cs : Array Value} (hg : Blk w g t cs) : g ≠ b := by
 rintro rfl
 obtain ⟨es, c, hb, _⟩ := m
 rw [Blk, hb] at hg
 cases hg
theorem MapI.not_blk (m : MapI w b n f) {g : Nat} {t : TypeId} {cs : Array Value} (hg : Blk w g t cs) : g ≠ b := ownsMap_not_blk m.choose_spec.1 hg
theorem MapB.not_blk (m : MapB w b n h) {g : Nat} {t : TypeId} {cs : Array Value} (hg : Blk w g t cs) : g ≠ b := ownsMap_not_blk m.choose_spec.1 hg
theorem keeps_of_grown (g : w.grownBy w' (some b)) : Keeps w w' [b] := ⟨g.os, g.tape, g.output, g.size, fun k hk hn => g.block k hk (by simpa using hn)⟩
theorem MapI.made (w : World) : MapI (w.alloc (.map #[] 0)) w.heap.size 0 fun _ => 0 := ⟨.map [], World.ownsMap_made _ _ _ _, fun k => by simp [DataW.atKey]⟩
theorem MapB.made (w : World) : MapB (w.alloc (.map #[] 0)) w.heap.size 0 fun _ => false := ⟨.map [], World.ownsMap_made _ _ _ _, fun k => by simp [DataW.atKey]⟩
end
section
variable {ops : Array Oper} {rest : List Oper} {o : Oper} {a : Act} {W : World} {Q : Exit → Act → World → Prop} {T b n : Nat} {f : Int → Int} {h : Int → Bool} {x y z : Operand} {k v : Int} {r : Bool}
theorem map_storeI (M : MapI W b n f) (T : TypeId) (ht : Try.prog.underlying T = some (.map 3 3)) (hg : o.guard = none) (ho : o.op = .mapUpdate T x y z) (hx : a.eval x = .map (some b)) (hy : a.eval y = .int .i64 k) (hk : (Lit.int .i64 k).wf = true)
   (hz : a.eval z = .int .i64 v) (hv : (Lit.int .i64 v).wf = true) (hn : n < maxLen)
   (hK : ∀ u, Keeps W u [b] → MapI u b (n + 1) (updI f k v) → wpList Try.prog ops Q rest (a.put o.dst undef) u) : wpList Try.prog ops Q (o :: rest) a W := by
 obtain ⟨D, h1, h2⟩ := M
 refine wpList_mapUpdate_own _ hg _ _ _ T ho 3 3 key3 ht _ b n D hx h1 hn _ _ _ hy hz (keyOf_int_mk Try.underlying3 hk) _ [] (plainElem_int Try.underlying3 hv) fun u m g => hK u (keeps_of_grown g) ⟨_, m, fun j => ?_⟩
 by_cases hj : j = k
 · subst hj; rw [updI_same, Maps.atKey_put_same (k := .int .i64 j) h1.isMap True.intro]
 · rw [updI_other _ _ _ _ hj, Maps.atKey_put_other (fun e => hj (by injection e)), h2]
theorem map_storeB (M : MapB W b n h) (T : TypeId) (ht : Try.prog.underlying T = some (.map 3 4)) (hg : o.guard = none) (ho : o.op = .mapUpdate T x y z) (hx : a.eval x = .map (some b)) (hy : a.eval y = .int .i64 k) (hk : (Lit.int .i64 k).wf = true)
   (hz : a.eval z = .bool r) (hn : n < maxLen)
   (hK : ∀ u, Keeps W u [b] → MapB u b (n + 1) (updI h k r) → wpList Try.prog ops Q rest (a.put o.dst undef) u) : wpList Try.prog ops Q (o :: rest) a W := by
 obtain ⟨D, h1, h2⟩ := M
 refine wpList_mapUpdate_own _ hg _ _ _ T ho 3 4 key3 ht _ b n D hx h1 hn _ _ _ hy hz (keyOf_int_mk Try.underlying3 hk) _ [] (plainElem_bool Try.underlying4 r) fun u m g => hK u (keeps_of_grown g) ⟨_, m, fun j => ?_⟩
 by_cases hj : j = k
 · subst hj; rw [updI_same, Maps.atKey_put_same (k := .int .i64 j) h1.isMap True.intro]
 · rw [updI_other _ _ _ _ hj, Maps.atKey_put_other (fun e => hj (by injection e)), h2]
end
open Go.RowKit Go.Deep
structure Ev where
 who : Int
 op : Int
 a : Int
 v : Int
 sh : Bool
def evC (e : Ev) : Array Value := #[.int .i64 e.who, .int .i64 e.op, .int .i64 e.a, .int .i64 e.v, .bool e.sh]
theorem evC_cell (e : Ev) : ∀ v ∈ (evC e).toList, v.oneCell' = true := by
 intro v hv
 simp only [evC, List.mem_cons, List.not_mem_nil, or_false] at hv
 rcases hv with rfl | rfl | rfl | rfl | rfl <;> rfl
structure St where
 r : Int
 held : Int → Bool
 sent : Int → Int
 took : Int → Int
 shut : Int → Bool
def cnt (S : Sys) (op : Int) : Int :=
 if op = 5 ∨ op = 6 ∨ op = 7 then S.nr else if op = 8 ∨ op = 9 then S.lk else if op = 10 ∨ op = 11 then S.gr else if op = 12 ∨ op = 13 then S.ce else if op = 14 then S.np else -1
def headE (S : Sys) (st : St) (e : Ev) : Bool :=
 decide (0 ≤ e.who) && (decide (e.who < st.r) && (decide (1 ≤ e.op) && (decide (e.op ≤ 16) && (decide (cnt S e.op < 0) || (decide (0 ≤ e.a) && decide (e.a < cnt S e.op))))))
def bodyE (st : St) (e : Ev) : Bool :=
 if e.op = 14 then decide (e.v = 0) || (decide (e.v = st.r) && decide (e.v < 512))
 else if e.op = 6 then (if e.sh then st.shut e.a else decide (st.took e.a + 1 ≤ st.sent e.a))
 else if e.op = 8 then !st.held e.a else true
def okE (S : Sys) (st : St) (e : Ev) : Bool := headE S st e && bodyE st e
def nextE (st : St) (e : Ev) : St :=
 if e.op = 14 then (if e.v = 0 then st else { st with r := st.r + 1 })
 else if e.op = 5 then { st with sent := updI st.sent e.a (st.sent e.a + 1) }
 else if e.op = 6 then (if e.sh then st else { st with took := updI st.took e.a (st.took e.a + 1) })
 else if e.op = 7 then { st with shut := updI st.shut e.a true }
 else if e.op = 8 then { st with held := updI st.held e.a true }
 else if e.op = 9 then { st with held := updI st.held e.a false }
 else st
def st0 : St := ⟨1, fun _ => false, fun _ => 0, fun _ => 0, fun _ => false⟩
def stN (E : Nat → Ev) : Nat → St
 | 0 => st0
 | k + 1 => nextE (stN E k) (E k)
theorem nextE_r (st : St) (e : Ev) : st.r ≤ (nextE st e).r ∧ (nextE st e).r ≤ st.r + 1 := by
 unfold nextE; split
 · split <;> simp <;> omega
 · repeat' split
   all_goals simp <;> omega
theorem nextE_le (st : St) (e : Ev) (j : Int) : st.sent j ≤ (nextE st e).sent j ∧ (nextE st e).sent j ≤ st.sent j + 1 ∧ st.took j ≤ (nextE st e).took j ∧ (nextE st e).took j ≤ st.took j + 1 := by
 unfold nextE
 have h : ∀ (f : Int → Int) (i : Int), f j ≤ updI f i (f i + 1) j ∧ updI f i (f i + 1) j ≤ f j + 1 := fun f i => by
   by_cases hj : j = i
   · subst hj; rw [updI_same]; omega
   · rw [updI_other _ _ _ _ hj]; omega
 repeat' split
 all_goals (first | (have := h st.sent e.a; simp; omega) | (have := h st.took e.a; simp; omega) | (simp; omega))
theorem stN_le (E : Nat → Ev) (k : Nat) : 1 ≤ (stN E k).r ∧ (stN E k).r ≤ k + 1 ∧ ∀ j, 0 ≤ (stN E k).sent j ∧ (stN E k).sent j ≤ k ∧ 0 ≤ (stN E k).took j ∧ (stN E k).took j ≤ k := by
 induction k with
 | zero => exact ⟨by simp [stN, st0], by simp [stN, st0], fun j => by simp [stN, st0]⟩
 | succ k ih =>
   obtain ⟨h1, h2, h3⟩ := ih
   have h4 := nextE_r (stN E k) (E k)
   refine ⟨by simp only [stN]; omega, by simp only [stN]; omega, fun j => ?_⟩
   have h5 := nextE_le (stN E k) (E k) j
   have h6 := h3 j
   simp only [stN]
   omega
def EvsAt (W : World) (A : Option Addr) (n : Nat) (E : Nat → Ev) : Prop := 0 < n → ∃ ad, A = some ad ∧ ad.block < W.heap.size ∧ ∀ i j, i < n → j < 5 → W.cell? (ad.add (i * 5 + j)) = (evC (E i))[j]?
theorem EvsAt.kept {w u : World} {A : Option Addr} {n : Nat} {E : Nat → Ev} (h : EvsAt w A n E) (k : Keeps w u []) : EvsAt u A n E := fun hn => by
 obtain ⟨ad, e, hb, hc⟩ := h hn
 exact ⟨ad, e, by have := k.size; omega, fun i j hi hj => by rw [k.cellAt (by rw [add_block]; exact hb) (by simp)]; exact hc i j hi hj⟩
theorem EvsAt.row {w u : World} {A : Option Addr} {n : Nat} {E : Nat → Ev} (h : EvsAt w A n E) {i : Nat} (hi : i < n) : ∃ ad, A = some ad ∧ ∀ S u, Keeps w u S → ad.block ∉ S → ∀ j, j < (evC (E i)).size → u.cell? ((ad.add (i * 5)).add j) = (evC (E i))[j]? := by
 obtain ⟨ad, e, hb, hc⟩ := h (by omega)
 refine ⟨ad, e, fun S u k hn j hj => ?_⟩
 rw [Addr.add_add, k.cellAt (by rw [add_block]; exact hb) (by rw [add_block]; exact hn)]
 exact hc i j hi hj
section
variable (S : Sys) (A : Option Addr) (c : Nat) (R : Option Addr) (d : Nat) (w : World)
set_option maxRecDepth 100000 in
theorem shared_5 : Calls Try.prog 109 #[.agg (sysV S A c R d), .int .i64 5] w fun e w' => e = .returned (.int .i64 (cnt S 5)) ∧ Keeps w w' [] := by
 have O := Own.start w []
 unfold sysV
 go_enter Try.func109, Try.ntmps109
 go_wp2_with (first
   | go_big_skip
   | (refine own_box 2 _ O rfl rfl rfl rfl ?_; clear O; intro W a2 O; simp only [Act.put, kA, kZ, kS]; have c2 := (O.get 0 rfl).cell))
 go_ret
 exact ⟨rfl, O.keep⟩
set_option maxRecDepth 100000 in
theorem shared_6 : Calls Try.prog 109 #[.agg (sysV S A c R d), .int .i64 6] w fun e w' => e = .returned (.int .i64 (cnt S 6)) ∧ Keeps w w' [] := by
 have O := Own.start w []
 unfold sysV
 go_enter Try.func109, Try.ntmps109
 go_wp2_with (first
   | go_big_skip
   | (refine own_box 2 _ O rfl rfl rfl rfl ?_; clear O; intro W a2 O; simp only [Act.put, kA, kZ, kS]; have c2 := (O.get 0 rfl).cell))
 go_ret
 exact ⟨rfl, O.keep⟩
set_option maxRecDepth 100000 in
theorem shared_7 : Calls Try.prog 109 #[.agg (sysV S A c R d), .int .i64 7] w fun e w' => e = .returned (.int .i64 (cnt S 7)) ∧ Keeps w w' [] := by
 have O := Own.start w []
 unfold sysV
 go_enter Try.func109, Try.ntmps109
 go_wp2_with (first
   | go_big_skip
   | (refine own_box 2 _ O rfl rfl rfl rfl ?_; clear O; intro W a2 O; simp only [Act.put, kA, kZ, kS]; have c2 := (O.get 0 rfl).cell))
 go_ret
 exact ⟨rfl, O.keep⟩
set_option maxRecDepth 100000 in
theorem shared_8 : Calls Try.prog 109 #[.agg (sysV S A c R d), .int .i64 8] w fun e w' => e = .returned (.int .i64 (cnt S 8)) ∧ Keeps w w' [] := by
 have O := Own.start w []
 unfold sysV
 go_enter Try.func109, Try.ntmps109
 go_wp2_with (first
   | go_big_skip
   | (refine own_box 2 _ O rfl rfl rfl rfl ?_; clear O; intro W a2 O; simp only [Act.put, kA, kZ, kS]; have c2 := (O.get 0 rfl).cell))
 go_ret
 exact ⟨rfl, O.keep⟩
set_option maxRecDepth 100000 in
theorem shared_9 : Calls Try.prog 109 #[.agg (sysV S A c R d), .int .i64 9] w fun e w' => e = .returned (.int .i64 (cnt S 9)) ∧ Keeps w w' [] := by
 have O := Own.start w []
 unfold sysV
 go_enter Try.func109, Try.ntmps109
 go_wp2_with (first
   | go_big_skip
   | (refine own_box 2 _ O rfl rfl rfl rfl ?_; clear O; intro W a2 O; simp only [Act.put, kA, kZ, kS]; have c2 := (O.get 0 rfl).cell))
 go_ret
 exact ⟨rfl, O.keep⟩
set_option maxRecDepth 100000 in
theorem shared_10 : Calls Try.prog 109 #[.agg (sysV S A c R d), .int .i64 10] w fun e w' => e = .returned (.int .i64 (cnt S 10)) ∧ Keeps w w' [] := by
 have O := Own.start w []
 unfold sysV
 go_enter Try.func109, Try.ntmps109
 go_wp2_with (first
   | go_big_skip
   | (refine own_box 2 _ O rfl rfl rfl rfl ?_; clear O; intro W a2 O; simp only [Act.put, kA, kZ, kS]; have c2 := (O.get 0 rfl).cell))
 go_ret
 exact ⟨rfl, O.keep⟩
set_option maxRecDepth 100000 in
theorem shared_11 : Calls Try.prog 109 #[.agg (sysV S A c R d), .int .i64 11] w fun e w' => e = .returned (.int .i64 (cnt S 11)) ∧ Keeps w w' [] := by
 have O := Own.start w []
 unfold sysV
 go_enter Try.func109, Try.ntmps109
 go_wp2_with (first
   | go_big_skip
   | (refine own_box 2 _ O rfl rfl rfl rfl ?_; clear O; intro W a2 O; simp only [Act.put, kA, kZ, kS]; have c2 := (O.get 0 rfl).cell))
 go_ret
 exact ⟨rfl, O.keep⟩
set_option maxRecDepth 100000 in
theorem shared_12 : Calls Try.prog 109 #[.agg (sysV S A c R d), .int .i64 12] w fun e w' => e = .returned (.int .i64 (cnt S 12)) ∧ Keeps w w' [] := by
 have O := Own.start w []
 unfold sysV
 go_enter Try.func109, Try.ntmps109
 go_wp2_with (first
   | go_big_skip
   | (refine own_box 2 _ O rfl rfl rfl rfl ?_; clear O; intro W a2 O; simp only [Act.put, kA, kZ, kS]; have c2 := (O.get 0 rfl).cell))
 go_ret
 exact ⟨rfl, O.keep⟩
set_option maxRecDepth 100000 in
theorem shared_13 : Calls Try.prog 109 #[.agg (sysV S A c R d), .int .i64 13] w fun e w' => e = .returned (.int .i64 (cnt S 13)) ∧ Keeps w w' [] := by
 have O := Own.start w []
 unfold sysV
 go_enter Try.func109, Try.ntmps109
 go_wp2_with (first
   | go_big_skip
   | (refine own_box 2 _ O rfl rfl rfl rfl ?_; clear O; intro W a2 O; simp only [Act.put, kA, kZ, kS]; have c2 := (O.get 0 rfl).cell))
 go_ret
 exact ⟨rfl, O.keep⟩
set_option maxRecDepth 100000 in
theorem shared_14 : Calls Try.prog 109 #[.agg (sysV S A c R d), .int .i64 14] w fun e w' => e = .returned (.int .i64 (cnt S 14)) ∧ Keeps w w' [] := by
 have O := Own.start w []
 unfold sysV
 go_enter Try.func109, Try.ntmps109
 go_wp2_with (first
   | go_big_skip
   | (refine own_box 2 _ O rfl rfl rfl rfl ?_; clear O; intro W a2 O; simp only [Act.put, kA, kZ, kS]; have c2 := (O.get 0 rfl).cell))
 go_ret
 exact ⟨rfl, O.keep⟩
set_option maxRecDepth 100000 in
theorem shared_other (op : Int) (h5 : ¬ op = 5) (h6 : ¬ op = 6) (h7 : ¬ op = 7) (h8 : ¬ op = 8) (h9 : ¬ op = 9) (h10 : ¬ op = 10) (h11 : ¬ op = 11) (h12 : ¬ op = 12) (h13 : ¬ op = 13) (h14 : ¬ op = 14) : Calls Try.prog 109 #[.agg (sysV S A c R d), .int .i64 op] w fun e w' => e = .returned (.int .i64 (cnt S op)) ∧ Keeps w w' [] := by
 have O := Own.start w []
 have H := Lib.hid (show cnt S op = -1 by simp [cnt, h5, h6, h7, h8, h9, h10, h11, h12, h13, h14])
 unfold sysV
 go_enter Try.func109, Try.ntmps109
 go_wp2_with (first
   | go_big_skip
   | (refine own_box 2 _ O rfl rfl rfl rfl ?_; clear O; intro W a2 O; simp only [Act.put, kA, kZ, kS]; have c2 := (O.get 0 rfl).cell))
 go_ret
 exact ⟨by rw [H.out]; rfl, O.keep⟩
theorem sharedT_any (op : Int) : Calls Try.prog 109 #[.agg (sysV S A c R d), .int .i64 op] w fun e w' => e = .returned (.int .i64 (cnt S op)) ∧ Keeps w w' [] := by
 by_cases h5 : op = 5
 · subst h5; exact shared_5 S A c R d w
 by_cases h6 : op = 6
 · subst h6; exact shared_6 S A c R d w
 by_cases h7 : op = 7
 · subst h7; exact shared_7 S A c R d w
 by_cases h8 : op = 8
 · subst h8; exact shared_8 S A c R d w
 by_cases h9 : op = 9
 · subst h9; exact shared_9 S A c R d w
 by_cases h10 : op = 10
 · subst h10; exact shared_10 S A c R d w
 by_cases h11 : op = 11
 · subst h11; exact shared_11 S A c R d w
 by_cases h12 : op = 12
 · subst h12; exact shared_12 S A c R d w
 by_cases h13 : op = 13
 · subst h13; exact shared_13 S A c R d w
 by_cases h14 : op = 14
 · subst h14; exact shared_14 S A c R d w
 exact shared_other S A c R d w op h5 h6 h7 h8 h9 h10 h11 h12 h13 h14
variable (hh : 0 ≤ S.gr ∧ 0 ≤ S.lk ∧ 0 ≤ S.ce)
include hh
end
open Go.RowKit Go.Maps Go.Deep
theorem shB_iff (n : Int) : shB n = true ↔ 0 ≤ n ∧ n ≤ 64 := by simp [shB]
section
variable {ops : Array Oper} {rest : List Oper} {o : Oper} {a : Act} {w W : World} {Q : Exit → Act → World → Prop} {S : List Nat} {L : List Ent} {T : TypeId}
theorem own_allocK (d : Nat) (cs : Array Value) (O : Own w W S L) (_hd : o.dst = some d) (hgd : o.guard = none) (ho : o.op = .alloc T) (hz : ∀ w, (zeroValue T).run Try.prog w = .ok (.agg cs) w)
   (h : ∀ u g, Own w u S ((g, T, cs) :: L) → Keeps W u [] → W.heap.size ≤ g → wpList Try.prog ops Q rest (a.put o.dst (.pointer (some ⟨g, 0, none⟩))) u) : wpList Try.prog ops Q (o :: rest) a W :=
 wpList_alloc d cs _hd hgd ho hz fun u k b _ => h u _ (O.add k b) k (Nat.le_refl _)
theorem own_store_rowK {ty g t : Nat} {cs cs' : Array Value} (k : Nat) (y z : Operand) (O : Own w W S L) (hgd : o.guard = none) (hdst : o.dst = none) (ho : o.op = .store ty y z) (hy : a.eval y = .pointer (some ⟨g, 0, none⟩)) (hz : a.eval z = .agg cs') (hk : L[k]? = some (g, t, cs))
   (hi : (Try.prog.info? ty).map (·.size) = some cs'.size) (hs : cs.size = cs'.size) (h1 : ∀ v ∈ cs'.toList, v.oneCell' = true)
   (h : ∀ u, Own w u S (L.set k (g, t, cs')) → Keeps W u [g] → wpList Try.prog ops Q rest a u) : wpList Try.prog ops Q (o :: rest) a W :=
 wpList_store_row y z hgd hdst ho hy hz (O.get k hk) hi hs h1 fun u kp b => h u (O.set k hk kp b) kp
end
def arrI (n : Nat) (f : Int → Int) : Array Value := (Array.range n).map fun i => .int .i64 (f (i : Nat))
def arrB (n : Nat) (f : Int → Bool) : Array Value := (Array.range n).map fun i => .bool (f (i : Nat))
@[go_sem] theorem arrI_size (n : Nat) (f : Int → Int) : (arrI n f).size = n := by simp [arrI]
@[go_sem] theorem arrB_size (n : Nat) (f : Int → Bool) : (arrB n f).size = n := by simp [arrB]
theorem arrI_get (n : Nat) (f : Int → Int) (i : Nat) (h : i < n) : (arrI n f)[i]? = some (.int .i64 (f (i : Nat))) := by simp [arrI, h]
theorem arrB_get (n : Nat) (f : Int → Bool) (i : Nat) (h : i < n) : (arrB n f)[i]? = some (.bool (f (i : Nat))) := by simp [arrB, h]
theorem arrI_set (n : Nat) (f : Int → Int) (i : Nat) (x : Int) : (arrI n f).setIfInBounds i (.int .i64 x) = arrI n (updI f (i : Nat) x) := by
 apply Array.ext_getElem?
 intro j
 rw [Array.getElem?_setIfInBounds]
 by_cases hj : i = j
 · subst hj
   by_cases hi : i < n
   · rw [if_pos rfl, if_pos (by rw [arrI_size]; exact hi), arrI_get _ _ _ hi, updI_same]
   · simp [arrI, hi]
 · rw [if_neg hj]
   by_cases hi : j < n
   · rw [arrI_get _ _ _ hi, arrI_get _ _ _ hi, updI_other _ _ _ _ (by omega)]
   · simp [arrI, hi]
theorem arrB_set (n : Nat) (f : Int → Bool) (i : Nat) (x : Bool) : (arrB n f).setIfInBounds i (.bool x) = arrB n (updI f (i : Nat) x) := by
 apply Array.ext_getElem?
 intro j
 rw [Array.getElem?_setIfInBounds]
 by_cases hj : i = j
 · subst hj
   by_cases hi : i < n
   · rw [if_pos rfl, if_pos (by rw [arrB_size]; exact hi), arrB_get _ _ _ hi, updI_same]
   · simp [arrB, hi]
 · rw [if_neg hj]
   by_cases hi : j < n
   · rw [arrB_get _ _ _ hi, arrB_get _ _ _ hi, updI_other _ _ _ _ (by omega)]
   · simp [arrB, hi]
theorem info3' : (Try.prog.info? 3).map (fun i => (i.zero, i.size, i.bytes)) = some (some (.int .i64 0), 1, 8) := by kernel_rfl
theorem made_I (n : Nat) : madeCells #[.int .i64 0] n = arrI n fun _ => 0 := by
 apply Array.ext_getElem?
 intro j
 by_cases hj : j < n
 · rw [arrI_get _ _ _ hj]; simp [madeCells, hj, Nat.mod_one]
 · simp [madeCells, arrI, hj]
theorem made_B (n : Nat) : madeCells #[.bool false] n = arrB n fun _ => false := by
 apply Array.ext_getElem?
 intro j
 by_cases hj : j < n
 · rw [arrB_get _ _ _ hj]; simp [madeCells, hj, Nat.mod_one]
 · simp [madeCells, arrB, hj]
open Go.ChangeShapes Go.WideShapes Go.RowKit Go.Maps Go.Deep
instance Ev.some_ : Inhabited Ev := ⟨⟨0, 0, 0, 0, false⟩⟩
theorem info37 : ∃ i, Try.prog.info? 37 = some i ∧ i.zero = some (.agg (evC ⟨0, 0, 0, 0, false⟩)) ∧ i.size = 5 ∧ i.bytes = 40 := by
 have h : (Try.prog.info? 37).map (fun i => (i.zero, i.size, i.bytes)) = some (some (.agg (evC ⟨0, 0, 0, 0, false⟩)), 5, 40) := by kernel_rfl
 obtain ⟨i, hi, he⟩ := Option.map_eq_some_iff.1 h
 simp only [Prod.mk.injEq] at he
 exact ⟨i, hi, he.1, he.2.1, he.2.2⟩
def evL (E : Nat → Ev) (n : Nat) : List Value := (List.range (n * 5)).map fun i => (evC (E (i / 5))).getD (i % 5) undef
theorem evL_length (E : Nat → Ev) (n : Nat) : (evL E n).length = n * 5 := by simp [evL]
theorem evC_getD (e : Ev) (j : Nat) (h : j < 5) : (evC e)[j]? = some ((evC e).getD j undef) := by
 have h' : j < (evC e).size := h
 simp [h']
theorem evL_get (E : Nat → Ev) (n i j : Nat) (hi : i < n) (hj : j < 5) : (evL E n)[i * 5 + j]? = (evC (E i))[j]? := by
 rw [evC_getD _ _ hj]
 have h : i * 5 + j < n * 5 := by omega
 simp [evL, h, show (i * 5 + j) / 5 = i by omega, show (i * 5 + j) % 5 = j by omega]
open Go.RowKit Go.Maps Go.Deep
def Mint (base : Nat) (W : World) (v : Value) (xs : List Int) : Prop := W.ownsRow base 3 1 v xs.length (xs.map fun x => Value.int .i64 x)
theorem Mint.nil (base : Nat) (W : World) : Mint base W (.slice none 0 0) [] := World.ownsRow_nil W base 3 1
theorem Mint.own {base : Nat} {W : World} {v : Value} {xs : List Int} (h : Mint base W v xs) {g : Nat} (hg : v.ownBlock = some g) : base ≤ g ∧ g < W.heap.size ∧ ∃ cur, Blk W g 3 cur := by
 have hl := h.lt g hg
 refine ⟨hl.1, hl.2, ?_⟩
 rcases h.2 with ⟨rfl, _⟩ | ⟨g', cap, cur, rfl, _, hb, _⟩
 · cases hg
 · simp [Value.ownBlock] at hg
   subst hg
   exact ⟨cur, hb⟩
theorem Mint.keeps {base : Nat} {W u : World} {v : Value} {xs : List Int} {S : List Nat} (h : Mint base W v xs) (k : Keeps W u S) (hS : ∀ g, v.ownBlock = some g → g ∉ S) : Mint base u v xs := by
 refine ⟨h.1, ?_⟩
 rcases h.2 with hn | ⟨g, cap, cur, rfl, hb, hgg, rest⟩
 · exact .inl hn
 · refine .inr ⟨g, cap, cur, rfl, hb, ?_, rest⟩
   rw [k.block g (Array.getElem?_eq_some_iff.1 hgg).1 (hS g rfl)]
   exact hgg
def IntL (W : World) (v : Value) (xs : List Int) : Prop := ∃ A c, v = .slice A xs.length c ∧ (0 < xs.length → ∃ ad, A = some ad ∧ ad.block < W.heap.size ∧ ∀ j, j < xs.length → W.cell? (ad.add j) = some (.int .i64 (xs.getD j 0)))
theorem Mint.list {base : Nat} {W : World} {v : Value} {xs : List Int} (h : Mint base W v xs) : IntL W v xs := by
 have hc := fun g hg j u hu => h.cells (g := g) hg j u hu
 have hl := h.lt
 rcases h.2 with ⟨rfl, h0⟩ | ⟨g, cap, cur, rfl, _⟩
 · have : xs = [] := List.eq_nil_of_length_eq_zero h0
   subst this
   exact ⟨none, 0, rfl, fun h => by simp at h⟩
 · refine ⟨_, cap, rfl, fun _ => ⟨_, rfl, (hl g rfl).2, fun j hj => hc g rfl j _ ?_⟩⟩
   simp [hj]
theorem IntL.kept {w u : World} {v : Value} {xs : List Int} (h : IntL w v xs) (k : Keeps w u []) : IntL u v xs := by
 obtain ⟨A, c, e, hx⟩ := h
 refine ⟨A, c, e, fun hn => ?_⟩
 obtain ⟨ad, e, hb, hc⟩ := hx hn
 exact ⟨ad, e, by have := k.size; omega, fun j hj => by rw [k.cellAt (by rw [add_block]; exact hb) (by simp)]; exact hc j hj⟩
theorem info3 : ∃ i, Try.prog.info? 3 = some i ∧ i.zero = some (.int .i64 0) ∧ i.size = 1 ∧ i.bytes = 8 := by
 obtain ⟨i, hi, he⟩ := Option.map_eq_some_iff.1 info3'
 simp only [Prod.mk.injEq] at he
 exact ⟨i, hi, he.1, he.2.1, he.2.2⟩
section
variable {ops : Array Oper} {rest : List Oper} {o : Oper} {a : Act} {w W : World} {Q : Exit → Act → World → Prop}
theorem app_one (base : Nat) (v : Value) (xs : List Int) (x : Int) (gl : Nat) (s z : Operand) (hM : Mint base W v xs) (hb : base ≤ W.heap.size) (hgd : o.guard = none) (ho : o.op = .call { callee := .builtin .append, args := #[s, z], argTypes := #[25, 25] })
   (hs : a.eval s = v) (hz' : a.eval z = .slice (some ⟨gl, 0, none⟩) 1 1) (hc : W.cell? ⟨gl, 0, none⟩ = some (.int .i64 x)) (hn : xs.length ≤ 1000000)
   (h : ∀ v' u, W.grownBy u v.ownBlock → Mint base u v' (xs ++ [x]) → wpList Try.prog ops Q rest (a.put o.dst v') u) : wpList Try.prog ops Q (o :: rest) a W := by
 obtain ⟨i, hi, hz, hsz, hby⟩ := info3
 refine wpList_append_own W hgd s z 25 ho base 3 i (.int .i64 0) 1 8 Try.underlying25 hi hz hsz hby rfl (by decide) v xs.length (xs.map fun x => .int .i64 x) hs hM ⟨gl, 0, none⟩ 1 1 [.int .i64 x] hz' rfl (fun j u hu => ?_) (fun u hu => by rw [List.mem_singleton] at hu; subst hu; rfl)
   (by simp only [maxLen]; omega) (by omega) hb fun v' u h1 h2 _ => ?_
 · match j with
   | 0 => simp at hu; subst hu; exact hc
   | j + 1 => simp at hu
 · exact h v' u h2 (by unfold Mint; rw [List.length_append, List.map_append]; exact h1)
end
section
variable {ops : Array Oper} {rest : List Oper} {o : Oper} {a : Act} {w W : World} {Q : Exit → Act → World → Prop} {S : List Nat} {L : List Ent} {x0 x : Operand} {T : TypeId}
theorem own_lit1 (d : Nat) (n0 : Int) (O : Own w W S L) (_hd : o.dst = some d) (hgd : o.guard = none) (ho : o.op = .buildSlice 25 1 #[(0, x0)]) (h0 : a.eval x0 = .int .i64 n0)
   (h : ∀ u g, Own w u S ((g, 3, #[.int .i64 n0]) :: L) → Keeps W u [] → W.heap.size ≤ g → wpList Try.prog ops Q rest (a.put o.dst (.slice (some ⟨g, 0, none⟩) 1 1)) u) : wpList Try.prog ops Q (o :: rest) a W := by
 obtain ⟨i, hi, hz, hs, hb⟩ := info3
 have k := (Keeps.refl W []).alloc (.cells #[Value.int .i64 n0] 3)
 refine wpList_buildSlice hgd 25 3 1 _ ho #[.int .i64 n0] i (.int .i64 0) Try.underlying25 hi hz (by rw [hs]; decide) (by rw [hs]; decide) ?_ (h _ _ (O.add k (Blk.new _ _ _)) k (Nat.le_refl _))
 rw [hs]
 have e : ((#[(0, x0)] : Array (Nat × Operand)).map (fun (i, x) => (i, a.eval x))).toList = [(0, .int .i64 n0)] := by simp [h0]
 rw [e]
 have r : Array.range 1 = #[0] := by decide
 simp [Instr.fill, r, Value.cells]
theorem own_box1 (d : Nat) (v : Value) (O : Own w W S L) (_hd : o.dst = some d) (hgd : o.guard = none) (ho : o.op = .box T x) (hx : a.eval x = v) (hv : v.cells = #[v])
   (h : ∀ u g, Own w u S ((g, T, #[v]) :: L) → wpList Try.prog ops Q rest (a.put o.dst (.pointer (some ⟨g, 0, none⟩))) u) : wpList Try.prog ops Q (o :: rest) a W := by
 refine wpList_plain hgd fun K hK => ?_
 have hr : (Instr.box T v).run Try.prog W = .ok (.pointer (some ⟨W.heap.size, 0, none⟩)) (W.alloc (.cells #[v] T)) := by
   simp [Instr.box, newVar, newRow, hv]
 unfold Oper.wp execOp
 simp only [ho, hx, Sem.run_bind, hr, Result.andThen_ok, Sem.run_pure]
 exact hK _ _ (h _ _ (O.add ((Keeps.refl _ _).alloc _) (Blk.new _ _ _)))
theorem own_app (base : Nat) (v : Value) (xs : List Int) (y : Int) (gl : Nat) (s z : Operand) (O : Own w W S L) (hM : Mint base W v xs) (hgd : o.guard = none) (ho : o.op = .call { callee := .builtin .append, args := #[s, z], argTypes := #[25, 25] })
   (hs : a.eval s = v) (hz' : a.eval z = .slice (some ⟨gl, 0, none⟩) 1 1) (hc : W.cell? ⟨gl, 0, none⟩ = some (.int .i64 y)) (hb : w.heap.size = base) (hL : ∀ q ∈ L, q.2.1 ≠ 3) (hn : xs.length ≤ 1000000)
   (h : ∀ v' u, Own w u S L → Mint base u v' (xs ++ [y]) → wpList Try.prog ops Q rest (a.put o.dst v') u) : wpList Try.prog ops Q (o :: rest) a W := by
 refine app_one base v xs y gl s z hM (by have := O.keep.size; omega) hgd ho hs hz' hc hn fun v' u g M => h v' u ?_ M
 have hk : Keeps W u (v.ownBlock.toList) := ⟨g.os, g.tape, g.output, g.size, fun b hb' hn => g.block b hb' (by intro e; exact hn (by rw [← e]; simp))⟩
 refine ⟨O.keep.trans hk (fun b hb' hlt => ?_), fun q hq => (O.blk q hq).keeps hk (fun hm => ?_), O.new, O.nd⟩
 · have := (hM.own (g := b) (by simpa using hb')).1
   omega
 · obtain ⟨_, _, cur, hcur⟩ := hM.own (g := q.1) (by simpa using hm)
   have h1 := O.blk q hq
   rw [Blk, hcur] at h1
   injection h1 with h1
   injection h1 with _ h1 _
   exact hL q hq h1.symm
end
theorem IntL.nil (W : World) : IntL W (.slice none 0 0) [] := ⟨none, 0, rfl, fun h => by simp at h⟩
end Go.Proofs.Ytakmcpadkanggaa
