/-
  Words of 64 and 32 bits as values, arrays of them in a block; worlds that keep all but some blocks.
-/
import Derived.Test.YtakmcpadkanggaaTail
import Derived.WalkKit
import Derived.WalkSpells
import Derived.WalkLawsBesides
import Derived.Deep.Draws
import Derived.Outline
import Derived.Deep.MidRow
import Derived.ChangeKeysEq
import Derived.Laws.CopyRow
namespace Go.Proofs.Ytakmcpadkanggaa
open Go.RowKit

/-! ### Words -/
def U64 (x : BitVec 64) : Value := .int .u64 (x.toNat : Int)
def U32 (x : BitVec 32) : Value := .int .u32 (x.toNat : Int)
def U8 (x : BitVec 8) : Value := .int .u8 (x.toNat : Int)

theorem ofInt_toNat {n : Nat} (x : BitVec n) : BitVec.ofInt n (x.toNat : Int) = x := by
  rw [BitVec.ofInt_natCast, BitVec.ofNat_toNat, BitVec.setWidth_eq]

theorem wrap_u64 (n : Int) : IntKind.u64.wrap n = n % 18446744073709551616 := by simp [IntKind.wrap, IntKind.bits, IntKind.signed]

theorem wrap_toNat64 (x : BitVec 64) : IntKind.u64.wrap (x.toNat : Int) = x.toNat := by
  rw [wrap_u64]; have := x.isLt; omega
theorem wrap_toNat32 (x : BitVec 32) : IntKind.u32.wrap (x.toNat : Int) = x.toNat := by
  rw [IntKind.wrap_u32']; have := x.isLt; omega
theorem wrap_toNat8 (x : BitVec 8) : IntKind.u8.wrap (x.toNat : Int) = x.toNat := by
  rw [IntKind.wrap_u8']; have := x.isLt; omega

section
variable (op : BinOp) (t : TypeId) (p q : Operand) (v : Value)
@[go_sem] theorem eqGuard_U64 (x : BitVec 64) : eqGuard op t p q (U64 x) v = pure () := by cases op <;> rfl
@[go_sem] theorem eqGuard_U32 (x : BitVec 32) : eqGuard op t p q (U32 x) v = pure () := by cases op <;> rfl
@[go_sem] theorem eqGuard_U8 (x : BitVec 8) : eqGuard op t p q (U8 x) v = pure () := by cases op <;> rfl
end

section
variable (t : TypeId) (x y : BitVec 64)
@[go_sem] theorem add_U64 : binOp .add t (U64 x) (U64 y) = pure (U64 (x + y)) := by
  simp only [U64, binOp_add, Op.intArith]
  exact congrArg (fun n => Sem.pure (Value.int .u64 n)) (by rw [wrap_u64, BitVec.toNat_add]; simp)
@[go_sem] theorem sub_U64 : binOp .sub t (U64 x) (U64 y) = pure (U64 (x - y)) := by
  simp only [U64, binOp_sub, Op.intArith]
  congr 2; rw [wrap_u64, BitVec.toNat_sub]; have := x.isLt; have := y.isLt; omega
@[go_sem] theorem xor_U64 : binOp .xor t (U64 x) (U64 y) = pure (U64 (x ^^^ y)) := by
  simp only [U64, binOp_xor, Op.intBits, IntKind.bits, ofInt_toNat]
  congr 2; exact wrap_toNat64 _
@[go_sem] theorem or_U64 : binOp .or t (U64 x) (U64 y) = pure (U64 (x ||| y)) := by
  simp only [U64, binOp_or, Op.intBits, IntKind.bits, ofInt_toNat]
  congr 2; exact wrap_toNat64 _
@[go_sem] theorem and_U64 : binOp .and t (U64 x) (U64 y) = pure (U64 (x &&& y)) := by
  simp only [U64, binOp_and, Op.intBits, IntKind.bits, ofInt_toNat]
  congr 2; exact wrap_toNat64 _
@[go_sem] theorem shl_U64 (yk : IntKind) (n : Int) (h : 0 ≤ n) : binOp .shl t (U64 x) (.int yk n) = pure (U64 (x <<< n.toNat)) := by
  obtain ⟨m, rfl⟩ := Int.eq_ofNat_of_zero_le h
  simp only [U64, binOp_shl, Op.shift, IntKind.bits, Int.toNat_natCast]
  rw [if_neg (by omega)]
  congr 2
  rw [wrap_u64, BitVec.toNat_shiftLeft, Nat.shiftLeft_eq]
  rcases Nat.le_total m 64 with hm | hm
  · rw [Nat.min_eq_left hm]
    rw [show ((x.toNat : Int) * 2 ^ m) = ((x.toNat * 2 ^ m : Nat) : Int) from by simp]
    omega
  · rw [Nat.min_eq_right hm]
    have h1 : x.toNat * 2 ^ m % 2 ^ 64 = 0 := by
      rw [show m = 64 + (m - 64) from by omega, Nat.pow_add, ← Nat.mul_assoc, Nat.mul_comm x.toNat, Nat.mul_assoc]; exact Nat.mul_mod_right _ _
    rw [h1]
    omega
@[go_sem] theorem shr_U64 (yk : IntKind) (n : Int) (h : 0 ≤ n) : binOp .shr t (U64 x) (.int yk n) = pure (U64 (x >>> n.toNat)) := by
  obtain ⟨m, rfl⟩ := Int.eq_ofNat_of_zero_le h
  simp only [U64, binOp_shr, Op.shift, IntKind.bits, Int.toNat_natCast]
  rw [if_neg (by omega)]
  congr 2
  rw [BitVec.toNat_ushiftRight, Nat.shiftRight_eq_div_pow]
  rcases Nat.le_total m 64 with hm | hm
  · rw [Nat.min_eq_left hm, Int.fdiv_eq_ediv_of_nonneg _ (Int.pow_nonneg (by decide))]
    simp
  · rw [Nat.min_eq_right hm]
    have h1 : x.toNat / 2 ^ m = 0 := Nat.div_eq_of_lt (Nat.lt_of_lt_of_le x.isLt (Nat.pow_le_pow_right (by decide) hm))
    rw [h1, Int.fdiv_eq_ediv_of_nonneg _ (by decide)]
    have := x.isLt
    omega
@[go_sem] theorem not_U64 : Op.unary .xor (U64 x) = pure (U64 (~~~x)) := by
  have h1 : BitVec.ofInt 64 IntKind.u64.max = BitVec.allOnes 64 := by decide
  have h2 : (BitVec.ofInt 64 IntKind.u64.max ^^^ BitVec.ofInt 64 (x.toNat : Int)) = ~~~x := by rw [h1, ofInt_toNat, BitVec.allOnes_xor]
  show Sem.pure (Value.int .u64 (IntKind.u64.wrap ((BitVec.ofInt 64 IntKind.u64.max ^^^ BitVec.ofInt 64 (x.toNat : Int)).toNat : Int))) = _
  rw [h2, wrap_toNat64]; rfl
@[go_sem] theorem eql_U64 : binOp .eql t (U64 x) (U64 y) = pure (.bool (x == y)) := by
  simp only [U64, binOp_eql]
  congr 2
  rw [Bool.eq_iff_iff, beq_iff_eq, beq_iff_eq, Int.natCast_inj, BitVec.toNat_inj]
@[go_sem] theorem neq_U64 : binOp .neq t (U64 x) (U64 y) = pure (.bool (x != y)) := by
  simp only [U64, binOp_neq]
  congr 2
  rw [Bool.eq_iff_iff, bne_iff_ne, bne_iff_ne, ne_eq, ne_eq, Int.natCast_inj, BitVec.toNat_inj]
@[go_sem] theorem eql_U64_lit (n : Int) (h : 0 ≤ n) (h' : n ≤ 18446744073709551615) : binOp .eql t (U64 x) (.int .u64 n) = pure (.bool (x == BitVec.ofInt 64 n)) := by
  simp only [U64, binOp_eql]
  congr 2
  obtain ⟨m, rfl⟩ := Int.eq_ofNat_of_zero_le h
  rw [Bool.eq_iff_iff]
  simp only [beq_iff_eq, ← BitVec.toNat_inj, BitVec.ofInt_natCast, BitVec.toNat_ofNat]
  omega
end

section
variable (P : Program) (w : World) (a : Addr) (m : Mode)
@[go_sem] theorem store_U64 (x : BitVec 64) : (store a (U64 x) m).run P w = stored P w a (U64 x) m := run_store P w a _ m rfl
@[go_sem] theorem store_U32 (x : BitVec 32) : (store a (U32 x) m).run P w = stored P w a (U32 x) m := run_store P w a _ m rfl
@[go_sem] theorem store_U8 (x : BitVec 8) : (store a (U8 x) m).run P w = stored P w a (U8 x) m := run_store P w a _ m rfl
end
@[go_sem] theorem cells_U64 (x : BitVec 64) : (U64 x).cells = #[U64 x] := rfl
@[go_sem] theorem cells_U32 (x : BitVec 32) : (U32 x).cells = #[U32 x] := rfl
@[go_sem] theorem cells_U8 (x : BitVec 8) : (U8 x).cells = #[U8 x] := rfl

/-! ### Arrays of words -/
/-- The cells of an array of n words. -/
def words (n : Nat) (V : Nat → BitVec 64) : Array Value := (Array.range n).map fun i => U64 (V i)
/-- One place anew. -/
def upd (V : Nat → BitVec 64) (i : Nat) (x : BitVec 64) : Nat → BitVec 64 := fun j => if j = i then x else V j

@[go_sem] theorem words_size (n : Nat) (V : Nat → BitVec 64) : (words n V).size = n := by simp [words]
theorem words_get (n : Nat) (V : Nat → BitVec 64) (i : Nat) (h : i < n) : (words n V)[i]? = some (U64 (V i)) := by simp [words, h]
@[go_sem] theorem words_getElem (n : Nat) (V : Nat → BitVec 64) (i : Nat) (h : i < (words n V).size) : (words n V)[i] = U64 (V i) := by simp [words]
theorem words_get' (n : Nat) (V : Nat → BitVec 64) (i : Nat) : (words n V)[i]? = if i < n then some (U64 (V i)) else none := by
  by_cases h : i < n <;> simp [words, h]
theorem words_set (n : Nat) (V : Nat → BitVec 64) (i : Nat) (x : BitVec 64) : (words n V).setIfInBounds i (U64 x) = words n (upd V i x) := by
  apply Array.ext_getElem?
  intro j
  rw [Array.getElem?_setIfInBounds, words_get', words_get', words_size]
  by_cases hj : i = j
  · subst hj; simp [upd]
  · rw [if_neg hj]; simp [upd, show ¬ j = i from fun h => hj h.symm]
theorem words_congr {n : Nat} {V V' : Nat → BitVec 64} (h : ∀ i, i < n → V i = V' i) : words n V = words n V' := by
  apply Array.ext_getElem?
  intro j
  rw [words_get', words_get']
  by_cases hj : j < n
  · simp [hj, h j hj]
  · simp [hj]
theorem words_inj {n : Nat} {V V' : Nat → BitVec 64} (h : words n V = words n V') : ∀ i, i < n → V i = V' i := by
  intro i hi
  have h1 := words_get n V i hi
  rw [h, words_get n V' i hi] at h1
  simp only [U64, Option.some.injEq, Value.int.injEq, true_and] at h1
  exact (BitVec.toNat_inj.1 (by omega)).symm
theorem words_cell (n : Nat) (V : Nat → BitVec 64) : ∀ v ∈ (words n V).toList, v.oneCell' = true := by
  intro v hv
  simp only [words, Array.toList_map, List.mem_map] at hv
  obtain ⟨i, _, rfl⟩ := hv
  rfl

/-! ### Worlds that keep all but some blocks -/
/-- u is w with new blocks and with writes to the blocks S alone. -/
structure Keeps (w u : World) (S : List Nat) : Prop where
  os : u.os = w.os
  tape : u.tape = w.tape
  output : u.output = w.output
  size : w.heap.size ≤ u.heap.size
  block : ∀ b, b < w.heap.size → b ∉ S → u.heap[b]? = w.heap[b]?

/-- Block g is just these cells, none frozen. -/
def Blk (w : World) (g : Nat) (t : TypeId) (cs : Array Value) : Prop := w.heap[g]? = some (.cells cs t (0, 0))

section
variable {w u v : World} {S S' : List Nat} {g : Nat} {t : TypeId} {cs cs' : Array Value}
theorem Keeps.refl (w : World) (S : List Nat) : Keeps w w S := ⟨rfl, rfl, rfl, Nat.le_refl _, fun _ _ _ => rfl⟩
theorem Keeps.trans (h : Keeps w u S) (k : Keeps u v S') (hs : ∀ b ∈ S', b < w.heap.size → b ∈ S) : Keeps w v S :=
  ⟨k.os.trans h.os, k.tape.trans h.tape, k.output.trans h.output, Nat.le_trans h.size k.size, fun b hb hn =>
    (k.block b (Nat.lt_of_lt_of_le hb h.size) (fun hm => hn (hs b hm hb))).trans (h.block b hb hn)⟩
theorem Keeps.drew (h : Keeps w u S) : Keeps w u.drew S := ⟨h.os, h.tape, h.output, h.size, h.block⟩
theorem Keeps.drewN (h : Keeps w u S) (n : Nat) : Keeps w (u.drewN n) S := ⟨h.os, h.tape, h.output, h.size, h.block⟩
theorem Keeps.alloc (h : Keeps w u S) (o : Obj) : Keeps w (u.alloc o) S :=
  ⟨h.os, h.tape, h.output, Nat.le_trans h.size (by simp), fun b hb hn => (Below.heap_alloc u o b (Nat.lt_of_lt_of_le hb h.size)).trans (h.block b hb hn)⟩
theorem Keeps.setCell (h : Keeps w u S) (p : Addr) (x : Value) (hp : p.block < w.heap.size → p.block ∈ S) : Keeps w (u.setCell p x) S :=
  ⟨h.os, h.tape, h.output, by simpa [World.setCell] using h.size, fun b hb hn => (Below.heap_setCell u p x b (by rintro rfl; exact hn (hp hb))).trans (h.block b hb hn)⟩
theorem Keeps.setRow (h : Keeps w u S) (g : Nat) (cs : Array Value) (hp : g < w.heap.size → g ∈ S) : Keeps w (u.setRow g cs) S :=
  ⟨h.os, h.tape, h.output, by simpa using h.size, fun b hb hn => (setRow_other u g b cs (by rintro rfl; exact hn (hp hb))).trans (h.block b hb hn)⟩
theorem Keeps.below (h : Keeps w u []) : Below w.heap.size w u := ⟨h.os, h.tape, h.output, h.size, fun b hb => h.block b hb (by simp)⟩
theorem Keeps.of_below (h : Below w.heap.size w u) : Keeps w u S := ⟨h.os, h.tape, h.output, h.size, fun b hb _ => h.block b hb⟩
theorem Keeps.cell (h : Keeps w u S) : ∀ b o, b < w.heap.size → b ∉ S → u.cell? ⟨b, o, none⟩ = w.cell? ⟨b, o, none⟩ := fun b o hb hn => by
  simp only [World.cell?, h.block b hb hn]
theorem Keeps.frozen (h : Keeps w u S) : ∀ b o, b < w.heap.size → b ∉ S → u.frozen? ⟨b, o, none⟩ = w.frozen? ⟨b, o, none⟩ := fun b o hb hn => by
  simp only [World.frozen?, h.block b hb hn]

theorem Blk.lt (h : Blk w g t cs) : g < w.heap.size := by
  rcases Nat.lt_or_ge g w.heap.size with hlt | hge
  · exact hlt
  · unfold Blk at h; rw [Array.getElem?_eq_none hge] at h; cases h
theorem Blk.cell (h : Blk w g t cs) : ∀ i, w.cell? ⟨g, i, none⟩ = cs[i]? := fun i => cell_of_row w g i cs t (0, 0) h
theorem Blk.frozen (h : Blk w g t cs) : ∀ i, w.frozen? ⟨g, i, none⟩ = false := fun i => frozen_of_row w g i cs t h
theorem Blk.new (w : World) (t : TypeId) (cs : Array Value) : Blk (w.alloc (.cells cs t)) w.heap.size t cs := heap_alloc_new w _
theorem Blk.drew (h : Blk w g t cs) : Blk w.drew g t cs := h
theorem Blk.drewN (h : Blk w g t cs) (n : Nat) : Blk (w.drewN n) g t cs := h
theorem Blk.alloc (h : Blk w g t cs) (o : Obj) : Blk (w.alloc o) g t cs := (Below.heap_alloc w o g h.lt).trans h
theorem Blk.setCell (h : Blk w g t cs) (i : Nat) (x : Value) : Blk (w.setCell ⟨g, i, none⟩ x) g t (cs.setIfInBounds i x) := heap_setCell_same w g i cs t x h
theorem Blk.far (h : Blk w g t cs) {p : Addr} (hp : g ≠ p.block) (x : Value) : Blk (w.setCell p x) g t cs := (Below.heap_setCell w p x g hp).trans h
theorem Blk.setRow (h : Blk w g t cs) (cs' : Array Value) : Blk (w.setRow g cs') g t cs' := setRow_heap w g cs cs' t _ h
theorem Blk.farRow (h : Blk w g t cs) {g' : Nat} (hg : g ≠ g') (cs' : Array Value) : Blk (w.setRow g' cs') g t cs := (setRow_other w g' g cs' hg).trans h
theorem Blk.keeps (h : Blk w g t cs) (k : Keeps w u S) (hg : g ∉ S) : Blk u g t cs := (k.block g h.lt hg).trans h
end

/-- A contract that leaves the world alone, met in a quiet region. -/
theorem quiet_add_left {P : Program} {f : FuncId} {args : Array Value} {w : World} {a n : Nat} {v : Value}
    (h : Calls P f args (w.drewN (a + n)) fun e w' => e = .returned v ∧ w.drewN (a + n) = w') :
    Calls P f args (w.drewN (a + n)) fun e w'' => e = .returned v ∧ ∃ m, w'' = w.drewN (a + m) :=
  h.mono fun _ _ ⟨he, hm⟩ => ⟨he, n, hm.symm⟩
theorem quiet_left {P : Program} {f : FuncId} {args : Array Value} {w : World} {n : Nat} {v : Value}
    (h : Calls P f args (w.drewN n) fun e w' => e = .returned v ∧ w.drewN n = w') : Calls P f args (w.drewN n) fun e w'' => e = .returned v ∧ ∃ m, w'' = w.drewN m :=
  h.mono fun _ _ ⟨he, hm⟩ => ⟨he, n, hm.symm⟩

/-- A store to one cell of a known block; the world behind it a variable. -/
theorem wpList_store_blk {P : Program} {ops : Array Oper} {rest : List Oper} {o : Oper} {a : Act} {w : World} {Q : Exit → Act → World → Prop} (g i : Nat) (t : TypeId) (cs : Array Value) (x : Value)
    {ty : TypeId} {y z : Operand} (hgd : o.guard = none) (hdst : o.dst = none) (ho : o.op = .store ty y z) (hy : a.eval y = .pointer (some ⟨g, i, none⟩)) (hz : a.eval z = x)
    (hb : Blk w g t cs) (hi : i < cs.size) (hx : x.cells = #[x]) (h1 : x.oneCell' = true) (hs : (P.info? ty).map (·.size) = some 1)
    (h : ∀ u, Keeps w u [g] → Blk u g t (cs.setIfInBounds i x) → wpList P ops Q rest a u) : wpList P ops Q (o :: rest) a w := by
  refine wpList_plain hgd fun K hK => ?_
  have hc : w.cell? ⟨g, i, none⟩ = some cs[i] := by rw [hb.cell, Array.getElem?_eq_getElem hi]
  have hf : w.frozen? ⟨g, i, none⟩ = false := hb.frozen i
  have hst : (store ⟨g, i, none⟩ x .plain).run P w = .ok () (w.setCell ⟨g, i, none⟩ x) := by
    rw [run_store P w _ x .plain h1]
    simp [hc, hf]
  cases hq : P.info? ty with
  | none => simp [hq] at hs
  | some inf =>
    have hsz : inf.size = 1 := by simpa [hq] using hs
    have hv : (storeVar ty ⟨g, i, none⟩ x).run P w = .ok () (w.setCell ⟨g, i, none⟩ x) := by
      simp [storeVar, storeCells, hx, sizeOf, typeInfo, hq, hsz, hst, Addr.add_zero']
    unfold Oper.wp execOp
    simp only [ho, hy, hz, Instr.storeAt, Instr.sureAddr, Sem.run_bind, Sem.run_pure, Result.andThen_ok, hv]
    show K (a.put o.dst undef) _
    rw [hdst]
    exact hK _ _ (h _ ((Keeps.refl w _).setCell _ _ (fun _ => by simp)) (hb.setCell i x))

/-! ### The class of worlds that keep all of w -/
def Later (w : World) := { u : World // Keeps w u [] }
instance Later.some_ (w : World) : Nonempty (Later w) := ⟨⟨w, Keeps.refl w []⟩⟩

theorem Later.cell {w : World} {g : Nat} {t : TypeId} {cs : Array Value} (h : Blk w g t cs) : ∀ (p : Later w) (i : Nat), p.1.cell? ⟨g, i, none⟩ = cs[i]? := fun p => (h.keeps p.2 (by simp)).cell
theorem Later.frozen {w : World} {g : Nat} {t : TypeId} {cs : Array Value} (h : Blk w g t cs) : ∀ (p : Later w) (i : Nat), p.1.frozen? ⟨g, i, none⟩ = false := fun p => (h.keeps p.2 (by simp)).frozen

theorem wp_quiet_later {P : Program} {id : Nat} {Q : Exit → Act → World → Prop} {a : Act} {w : World} {l : List Oper} (hm : P.follows .mixedOrders = true) (hB : Region.lexB .any l.toArray = true)
    (h : wpQuiet P l.toArray (fun u => ∃ p : Later w, u = p.1) (fun a' => ∀ w', (∃ p : Later w, w' = p.1) → Q .normal a' w') l a) : (Code.region id l.toArray true).wp P Q a w :=
  wp_region_quiet (C := fun u => ∃ p : Later w, u = p.1) hm hB ⟨⟨w.drew, (Keeps.refl w []).drew⟩, rfl⟩ (by simpa using h)

theorem wp_quiet_tail_later {P : Program} {id : Nat} {Q : Exit → Act → World → Prop} {a : Act} {w : World} {l : List Oper} (n : Nat) (hm : P.follows .mixedOrders = true) (hB : Region.lexTailB .any l.toArray n = true)
    (h : wpQuiet P l.toArray (fun u => ∃ p : Later w, u = p.1) (fun a' => ∀ w', (∃ p : Later w, w' = p.1) → wpList P l.toArray Q (l.drop n) a' w') (l.take n) a) : (Code.region id l.toArray true).wp P Q a w :=
  wp_quiet_tail n hm hB ⟨⟨w.drew, (Keeps.refl w []).drew⟩, rfl⟩ h

theorem later_of {P : Program} {f : FuncId} {args : Array Value} {w : World} {p : Later w} {v : Value} (h : Calls P f args p.1 fun e w' => e = .returned v ∧ Keeps p.1 w' []) :
    Calls P f args p.1 fun e w'' => e = .returned v ∧ ∃ q : Later w, w'' = q.1 :=
  h.mono fun _ w' ⟨he, hk⟩ => ⟨he, ⟨w', p.2.trans hk (by simp)⟩, rfl⟩
theorem later_left {P : Program} {f : FuncId} {args : Array Value} {w : World} {p : Later w} {v : Value} (h : Calls P f args p.1 fun e w' => e = .returned v ∧ p.1 = w') :
    Calls P f args p.1 fun e w'' => e = .returned v ∧ ∃ q : Later w, w'' = q.1 :=
  h.mono fun _ _ ⟨he, hk⟩ => ⟨he, p, hk.symm⟩

/-! ### Whole rows -/
theorem wpList_load_blk {P : Program} {ops : Array Oper} {rest : List Oper} {o : Oper} {a : Act} {w : World} {Q : Exit → Act → World → Prop} {g : Nat} {t ty : TypeId} {cs : Array Value} {x : Operand} {d : TypeDesc} (n : Nat)
    (_hd : o.dst = some n) (hgd : o.guard = none) (ho : o.op = .load ty x) (hx : a.eval x = .pointer (some ⟨g, 0, none⟩)) (hb : Blk w g t cs)
    (hu : P.underlying ty = some d) (hd : (match d with | .struct _ | .array _ _ => true | _ => false) = true) (hi : (P.info? ty).map (·.size) = some cs.size)
    (h : wpList P ops Q rest (a.put o.dst (.agg cs)) w) : wpList P ops Q (o :: rest) a w :=
  wpList_load_row hgd ty x ho g hx t cs (0, 0) d hb hu hd hi h

theorem wpList_store_row {P : Program} {ops : Array Oper} {rest : List Oper} {o : Oper} {a : Act} {w : World} {Q : Exit → Act → World → Prop} {g : Nat} {t ty : TypeId} {cs cs' : Array Value} (y z : Operand)
    (hgd : o.guard = none) (hdst : o.dst = none) (ho : o.op = .store ty y z) (hy : a.eval y = .pointer (some ⟨g, 0, none⟩)) (hz : a.eval z = .agg cs') (hb : Blk w g t cs)
    (hi : (P.info? ty).map (·.size) = some cs'.size) (hs : cs.size = cs'.size) (h1 : ∀ v ∈ cs'.toList, v.oneCell' = true)
    (h : ∀ u, Keeps w u [g] → Blk u g t cs' → wpList P ops Q rest a u) : wpList P ops Q (o :: rest) a w := by
  refine wpList_plain hgd fun K hK => ?_
  cases hq : P.info? ty with
  | none => simp [hq] at hi
  | some inf =>
    have hsz : inf.size = cs'.size := by simpa [hq] using hi
    have hst := run_storeCells_from (P := P) g t cs'.toList 0 cs w hb (by simpa using hs.symm) h1
    have hv : (storeVar ty ⟨g, 0, none⟩ (.agg cs')).run P w = .ok () (w.setRow g cs') := by
      simp [storeVar, Value.cells, sizeOf, typeInfo, hq, hsz, hst]
    unfold Oper.wp execOp
    simp only [ho, hy, hz, Instr.storeAt, Instr.sureAddr, Sem.run_bind, Sem.run_pure, Result.andThen_ok, hv]
    show K (a.put o.dst undef) _
    rw [hdst]
    exact hK _ _ (h _ ((Keeps.refl w _).setRow _ _ (fun _ => by simp)) (hb.setRow cs'))

/-! ### Single operations -/
/-- A guard: the next operation writes slot d. -/
theorem at_dst {P : Program} {ops : Array Oper} {rest : List Oper} {o : Oper} {a : Act} {w : World} {Q : Exit → Act → World → Prop} (d : Nat) (_hd : o.dst = some d) (h : wpList P ops Q (o :: rest) a w) : wpList P ops Q (o :: rest) a w := h
/-- A guard: the next operation is this store. -/
theorem at_store {P : Program} {ops : Array Oper} {rest : List Oper} {o : Oper} {a : Act} {w : World} {Q : Exit → Act → World → Prop} (y z : Operand) {t : TypeId} (_hd : o.op = .store t y z) (h : wpList P ops Q (o :: rest) a w) : wpList P ops Q (o :: rest) a w := h

theorem wpList_const {P : Program} {ops : Array Oper} {rest : List Oper} {o : Oper} {a : Act} {w : World} {Q : Exit → Act → World → Prop} (d : Nat) (v : Value) (_hd : o.dst = some d) (hgd : o.guard = none)
    (hr : ∀ w, (execOp a.eval o).run P w = .ok (.value v) w) (h : wpList P ops Q rest (a.put o.dst v) w) : wpList P ops Q (o :: rest) a w :=
  wpList_plain hgd fun K hK => by
    unfold Oper.wp
    rw [hr w]
    exact hK _ _ h

theorem wpList_alloc {P : Program} {ops : Array Oper} {rest : List Oper} {o : Oper} {a : Act} {w : World} {Q : Exit → Act → World → Prop} {T : TypeId} (d : Nat) (cs : Array Value) (_hd : o.dst = some d) (hgd : o.guard = none)
    (ho : o.op = .alloc T) (hz : ∀ w, (zeroValue T).run P w = .ok (.agg cs) w)
    (h : ∀ u, Keeps w u [] → Blk u w.heap.size T cs → w.heap.size < u.heap.size → wpList P ops Q rest (a.put o.dst (.pointer (some ⟨w.heap.size, 0, none⟩))) u) : wpList P ops Q (o :: rest) a w := by
  refine wpList_plain hgd fun K hK => ?_
  have hr : (Instr.alloc T true (.tuple #[])).run P w = .ok (.pointer (some ⟨w.heap.size, 0, none⟩)) (w.alloc (.cells cs T)) := by
    simp [Instr.alloc, hz w, newVar, newRow, Value.cells]
  unfold Oper.wp execOp
  simp only [ho, Sem.run_bind, hr, Result.andThen_ok, Sem.run_pure]
  exact hK _ _ (h _ ((Keeps.refl _ _).alloc _) (Blk.new _ _ _) (by simp))

theorem wpList_box {P : Program} {ops : Array Oper} {rest : List Oper} {o : Oper} {a : Act} {w : World} {Q : Exit → Act → World → Prop} {T : TypeId} {x : Operand} (d : Nat) (cs : Array Value) (_hd : o.dst = some d) (hgd : o.guard = none)
    (ho : o.op = .box T x) (hx : a.eval x = .agg cs)
    (h : ∀ u, Keeps w u [] → Blk u w.heap.size T cs → w.heap.size < u.heap.size → wpList P ops Q rest (a.put o.dst (.pointer (some ⟨w.heap.size, 0, none⟩))) u) : wpList P ops Q (o :: rest) a w := by
  refine wpList_plain hgd fun K hK => ?_
  have hr : (Instr.box T (.agg cs)).run P w = .ok (.pointer (some ⟨w.heap.size, 0, none⟩)) (w.alloc (.cells cs T)) := by
    simp [Instr.box, newVar, newRow, Value.cells]
  unfold Oper.wp execOp
  simp only [ho, hx, Sem.run_bind, hr, Result.andThen_ok, Sem.run_pure]
  exact hK _ _ (h _ ((Keeps.refl _ _).alloc _) (Blk.new _ _ _) (by simp))

/-- A part of a known block, loaded whole. -/
theorem wpList_load_part {P : Program} {ops : Array Oper} {rest : List Oper} {o : Oper} {a : Act} {w : World} {Q : Exit → Act → World → Prop} {g off : Nat} {t ty : TypeId} {cs part : Array Value} {x : Operand} {d : TypeDesc} (n : Nat)
    (_hd : o.dst = some n) (hgd : o.guard = none) (ho : o.op = .load ty x) (hx : a.eval x = .pointer (some ⟨g, off, none⟩)) (hb : Blk w g t cs)
    (hu : P.underlying ty = some d) (hd : d.isRow = true) (hi : (P.info? ty).map (·.size) = some part.size) (hp : ∀ j, j < part.size → cs[off + j]? = part[j]?)
    (h : wpList P ops Q rest (a.put o.dst (.agg part)) w) : wpList P ops Q (o :: rest) a w := by
  refine wpList_load_mid hgd ty x ho g off hx part.toList d (fun j v hv => ?_) hu hd (by simpa using hi) (by simpa using h)
  rw [hb.cell]
  have hj : j < part.size := by
    rcases Nat.lt_or_ge j part.size with h1 | h1
    · exact h1
    · rw [List.getElem?_eq_none (by simpa using h1)] at hv; cases hv
  rw [hp j hj]
  simpa using hv

/-! ### '==' on arrays of integers -/
theorem run_eqItems_ints {P : Program} (w : World) (d : Nat) {e : TypeId} {k : IntKind} (he : P.underlying e = some (.int k)) (xs ys : Array Value) (A B : Nat → Int) : ∀ is : List Nat,
    (∀ i ∈ is, xs[i]? = some (.int k (A i)) ∧ ys[i]? = some (.int k (B i))) → (Op.eqItems (d + 1) e 1 xs ys is).run P w = .ok (is.all fun i => A i == B i) w
  | [], _ => by simp [Op.eqItems]
  | i :: is, h => by
    obtain ⟨hx, hy⟩ := h i (by simp)
    have ih := run_eqItems_ints w d he xs ys A B is (fun j hj => h j (by simp [hj]))
    have px : (part e xs (i * 1)).run P w = .ok (.int k (A i)) w := by simp [part, isAgg, run_underlying he, hx]
    have py : (part e ys (i * 1)).run P w = .ok (.int k (B i)) w := by simp [part, isAgg, run_underlying he, hy]
    have pe : (Op.equalIn (d + 1) e (.int k (A i)) (.int k (B i))).run P w = .ok (A i == B i) w := run_equalIn_int w d e k k _ _ he
    simp only [Op.eqItems, Sem.run_bind, px, py, pe, Result.andThen_ok]
    cases hb : (A i == B i)
    · simp [hb]
    · simp [hb, ih]

theorem run_eql_ints {P : Program} (w : World) {t e : TypeId} {n : Nat} {k : IntKind} {i : TypeInfo} (ht : P.underlying t = some (.array n e)) (he : P.underlying e = some (.int k)) (hi : P.info? e = some i) (hs : i.size = 1)
    (xs ys : Array Value) (A B : Nat → Int) (h : ∀ i, i < n → xs[i]? = some (.int k (A i)) ∧ ys[i]? = some (.int k (B i))) :
    (Op.equal t (.agg xs) (.agg ys)).run P w = .ok ((List.range n).all fun i => A i == B i) w := by
  have hC : P.cellsOf e = 1 := by simp [Program.cellsOf, hi, hs]
  unfold Op.equal
  show (Op.equalIn (9999 + 1) t (.agg xs) (.agg ys)).run P w = _
  rw [run_equalIn_array w 9999 xs ys ht hi, hC]
  exact run_eqItems_ints w 9998 he xs ys A B _ (fun j hj => h j (List.mem_range.1 hj))

/-- Do two arrays of n words agree? -/
def eqW (n : Nat) (V V' : Nat → BitVec 64) : Bool := (List.range n).all fun i => V i == V' i
theorem eqW_self (n : Nat) (V : Nat → BitVec 64) : eqW n V V = true := by simp [eqW]
theorem eqW_iff (n : Nat) (V V' : Nat → BitVec 64) : eqW n V V' = true ↔ ∀ i, i < n → V i = V' i := by simp [eqW]
theorem run_equal_words {P : Program} (w : World) {t e : TypeId} {n : Nat} {i : TypeInfo} (ht : P.underlying t = some (.array n e)) (he : P.underlying e = some (.int .u64)) (hi : P.info? e = some i) (hs : i.size = 1)
    (V V' : Nat → BitVec 64) : (Op.equalIn 10000 t (.agg (words n V)) (.agg (words n V'))).run P w = .ok (eqW n V V') w := by
  have h := run_eql_ints w ht he hi hs (words n V) (words n V') (fun i => (V i).toNat) (fun i => (V' i).toNat) (fun i hi => ⟨words_get n V i hi, words_get n V' i hi⟩)
  have e1 : ((List.range n).all fun i => ((V i).toNat : Int) == ((V' i).toNat : Int)) = eqW n V V' := by
    unfold eqW
    congr 1
    funext i
    rw [Bool.eq_iff_iff, beq_iff_eq, beq_iff_eq, Int.natCast_inj, BitVec.toNat_inj]
  rw [e1] at h
  exact h

/-! ### One quiet operation by a law of one's own -/
theorem wpQuiet_at {P : Program} {ops : Array Oper} {C : World → Prop} {Q : Act → Prop} {a : Act} {o : Oper} {rest : List Oper} (d : Nat) (v : Value) (_hd : o.dst = some d)
    (hw : Region.wanted o (yielded ops a.tmps) = true) (hq : ∀ w, C w → (execOp a.eval o).run P w = .ok (.value v) w)
    (h : wpQuiet P ops C Q rest (a.put o.dst v)) : wpQuiet P ops C Q (o :: rest) a := by
  unfold wpQuiet
  rw [if_pos hw]
  refine ⟨v, fun w hw' => ?_, h⟩
  unfold Oper.quietAt
  rw [hq w hw']
  exact ⟨rfl, rfl⟩

/-- A whole block loaded, in every world of a class that has it. -/
theorem wpQuiet_load {P : Program} {ops : Array Oper} {C : World → Prop} {Q : Act → Prop} {a : Act} {o : Oper} {rest : List Oper} {g : Nat} {t ty : TypeId} {cs : Array Value} {x : Operand} {d : TypeDesc} (n : Nat) (_hd : o.dst = some n)
    (hw : Region.wanted o (yielded ops a.tmps) = true) (ho : o.op = .load ty x) (hx : a.eval x = .pointer (some ⟨g, 0, none⟩)) (hb : ∀ w, C w → Blk w g t cs)
    (hu : P.underlying ty = some d) (hd' : (match d with | .struct _ | .array _ _ => true | _ => false) = true) (hi : (P.info? ty).map (·.size) = some cs.size)
    (h : wpQuiet P ops C Q rest (a.put o.dst (.agg cs))) : wpQuiet P ops C Q (o :: rest) a :=
  wpQuiet_at n (.agg cs) _hd hw (fun w hC => by
    unfold execOp
    simp only [ho, hx, Instr.loadAt, Instr.sureAddr, Sem.run_bind, Sem.run_pure, Result.andThen_ok, run_loadVar_row w g t ty cs (0, 0) d (hb w hC) hu hd' hi]) h

theorem Later.blk {w : World} {g : Nat} {t : TypeId} {cs : Array Value} (h : Blk w g t cs) : ∀ u, (∃ p : Later w, u = p.1) → Blk u g t cs := by
  rintro _ ⟨p, rfl⟩
  exact h.keeps p.2 (by simp)
theorem drawn_blk {w : World} {g : Nat} {t : TypeId} {cs : Array Value} (h : Blk w g t cs) : ∀ u, (∃ n, u = w.drewN n) → Blk u g t cs := by
  rintro _ ⟨n, rfl⟩
  exact h.drewN n

/-! ### copy between two arrays of words -/
theorem words_splice (n m off soff k : Nat) (V V' : Nat → BitVec 64) (hn : off + k ≤ n) (hm : soff + k ≤ m) :
    ((words n V).toList.take off ++ ((words m V').toList.drop soff).take k ++ (words n V).toList.drop (off + k)).toArray = words n (fun i => if off ≤ i ∧ i < off + k then V' (soff + (i - off)) else V i) := by
  have l1 : (words n V).toList.length = n := by simp [words]
  have l2 : (words m V').toList.length = m := by simp [words]
  apply Array.ext_getElem?
  intro j
  rw [words_get']
  simp only [List.getElem?_toArray]
  rw [List.getElem?_append, List.getElem?_append]
  simp only [List.length_append, List.length_take, List.length_drop, l1, l2]
  have e1 : min off n = off := by omega
  have e2 : min k (m - soff) = k := by omega
  rw [e1, e2]
  by_cases h1 : j < off
  · rw [if_pos (by omega), if_pos h1, List.getElem?_take, if_pos h1, Array.getElem?_toList, words_get', if_neg (by omega : ¬ (off ≤ j ∧ j < off + k))]
  · by_cases h2 : j < off + k
    · rw [if_pos h2, if_neg h1, List.getElem?_take, if_pos (by omega), List.getElem?_drop, Array.getElem?_toList, words_get', if_pos (by omega), if_pos (by omega), if_pos ⟨by omega, h2⟩]
    · rw [if_neg h2, List.getElem?_drop, Array.getElem?_toList, words_get', show off + k + (j - (off + k)) = j from by omega, if_neg (by omega : ¬ (off ≤ j ∧ j < off + k))]

theorem wpList_copy_words {P : Program} {ops : Array Oper} {rest : List Oper} {o : Oper} {a : Act} {w : World} {Q : Exit → Act → World → Prop} {g h n m off soff dLen dCap sLen sCap : Nat} {t t' dT sT elem : TypeId} {V V' : Nat → BitVec 64} {x y : Operand} (d : Nat)
    (_hd : o.dst = some d) (hgd : o.guard = none) (ho : o.op = .call { callee := .builtin .copy, args := #[x, y], argTypes := #[dT, sT] })
    (hx : a.eval x = .slice (some ⟨g, off, none⟩) dLen dCap) (hy : a.eval y = .slice (some ⟨h, soff, none⟩) sLen sCap)
    (hb : Blk w g t (words n V)) (hb' : Blk w h t' (words m V')) (hl : sLen = dLen) (hn : off + dLen ≤ n) (hm : soff + dLen ≤ m)
    (hu : P.underlying dT = some (.slice elem)) (hs : (P.info? elem).map (·.size) = some 1)
    (hk : ∀ u, Keeps w u [g] → Blk u g t (words n (fun i => if off ≤ i ∧ i < off + dLen then V' (soff + (i - off)) else V i)) → wpList P ops Q rest (a.put o.dst (.int .i64 dLen)) u) : wpList P ops Q (o :: rest) a w := by
  subst hl
  refine wpList_plain hgd fun K hK => ?_
  have hlen : (((words m V').toList.drop soff).take sLen).length = sLen := by simp [words]; omega
  have hrun := run_copy_row (P := P) w dT sT o.type elem g off sLen dCap ⟨h, soff, none⟩ sLen sCap (words n V) t (((words m V').toList.drop soff).take sLen) hu hs hb (by rw [hlen]; exact (Nat.min_self _).symm) (fun j v hv => by
      have hj : j < sLen := by
        rcases Nat.lt_or_ge j sLen with h1 | h1
        · exact h1
        · rw [List.getElem?_eq_none (by omega)] at hv; cases hv
      rw [List.getElem?_take, if_pos hj, List.getElem?_drop, Array.getElem?_toList] at hv
      rw [Addr.add_lit, hb'.cell]
      exact hv) (by rw [hlen, words_size]; exact hn) (fun v hv => words_cell m V' v (List.mem_of_mem_drop (List.mem_of_mem_take hv)))
  rw [hlen, words_splice n m off soff sLen V V' hn hm] at hrun
  unfold Oper.wp execOp
  simp only [ho, resolve, invoke, builtin, Sem.run_bind, Sem.run_pure, Result.andThen_ok, List.map_toArray, List.map_cons, List.map_nil, hx, hy, hrun]
  exact hK _ _ (hk _ ((Keeps.refl w _).setRow _ _ (fun _ => by simp)) (hb.setRow _))

/-- A part of a block loaded, in every world of a class that has it. -/
theorem wpQuiet_load_part {P : Program} {ops : Array Oper} {C : World → Prop} {Q : Act → Prop} {a : Act} {o : Oper} {rest : List Oper} {g off : Nat} {t ty : TypeId} {cs part : Array Value} {x : Operand} {d : TypeDesc} (n : Nat) (_hd : o.dst = some n)
    (hw : Region.wanted o (yielded ops a.tmps) = true) (ho : o.op = .load ty x) (hx : a.eval x = .pointer (some ⟨g, off, none⟩)) (hb : ∀ w, C w → Blk w g t cs)
    (hu : P.underlying ty = some d) (hd' : d.isRow = true) (hi : (P.info? ty).map (·.size) = some part.size) (hp : ∀ j, j < part.size → cs[off + j]? = part[j]?)
    (h : wpQuiet P ops C Q rest (a.put o.dst (.agg part))) : wpQuiet P ops C Q (o :: rest) a :=
  wpQuiet_at n (.agg part) _hd hw (fun w hC => by
    have hl := run_loadVar_mid (P := P) w g off ty part.toList d (fun j v hv => by
      rw [(hb w hC).cell]
      have hj : j < part.size := by
        rcases Nat.lt_or_ge j part.size with h1 | h1
        · exact h1
        · rw [List.getElem?_eq_none (by simpa using h1)] at hv; cases hv
      rw [hp j hj]
      simpa using hv) hu hd' (by simpa using hi)
    unfold execOp
    simp only [ho, hx, Instr.loadAt, Instr.sureAddr, Sem.run_bind, Sem.run_pure, Result.andThen_ok, hl, Array.toArray_toList]) h

end Go.Proofs.Ytakmcpadkanggaa
