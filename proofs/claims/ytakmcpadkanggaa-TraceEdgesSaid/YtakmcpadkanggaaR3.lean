/-
  Rows of any elements that a call has made: what one append does to them; pairs of integers.
-/
import Derived.Test.YtakmcpadkanggaaV4
import Derived.Great.BuildSlice
import Derived.WalkLawsBesides
namespace Go.Proofs.Ytakmcpadkanggaa
open Go.RowKit Go.Maps Go.Deep

/-- T is a slice type of elements e of so many cells and bytes. -/
def RowT (T e size bytes : Nat) (z : Value) : Prop := Try.prog.underlying T = some (.slice e) ∧ (∃ i, Try.prog.info? e = some i ∧ i.zero = some z ∧ i.size = size ∧ i.bytes = bytes) ∧ z.cells.size = size ∧ 0 < size
section
variable {W u : World} {S : List Nat} {T e size bytes base base' n : Nat} {z v : Value} {xs : List Value}
theorem gr_nil (base e size : Nat) (W : World) : W.ownsRow base e size (.slice none 0 0) 0 [] := World.ownsRow_nil W base e size
theorem gr_own (h : W.ownsRow base e size v n xs) {g : Nat} (hg : v.ownBlock = some g) : base ≤ g ∧ g < W.heap.size ∧ ∃ cur, Blk W g e cur := by
  have hl := h.lt g hg
  refine ⟨hl.1, hl.2, ?_⟩
  rcases h.2 with ⟨rfl, _⟩ | ⟨g', cap, cur, rfl, _, hb, _⟩
  · cases hg
  · simp [Value.ownBlock] at hg
    subst hg
    exact ⟨cur, hb⟩
theorem gr_keeps (h : W.ownsRow base e size v n xs) (k : Keeps W u S) (hS : ∀ g, v.ownBlock = some g → g ∉ S) : u.ownsRow base e size v n xs := by
  refine ⟨h.1, ?_⟩
  rcases h.2 with hn | ⟨g, cap, cur, rfl, hb, hgg, rest⟩
  · exact .inl hn
  · refine .inr ⟨g, cap, cur, rfl, hb, ?_, rest⟩
    rw [k.block g (Array.getElem?_eq_some_iff.1 hgg).1 (hS g rfl)]
    exact hgg
theorem gr_low (h : W.ownsRow base' e size v n xs) (hb : base ≤ base') : W.ownsRow base e size v n xs := by
  refine ⟨h.1, ?_⟩
  rcases h.2 with hn | ⟨g, cap, cur, rfl, hg, rest⟩
  · exact .inl hn
  · exact .inr ⟨g, cap, cur, rfl, Nat.le_trans hb hg, rest⟩
theorem gr_shape (h : W.ownsRow base e size v n xs) : ∃ A c, v = .slice A n c ∧ (A = none → n = 0 ∧ c = 0) ∧ n ≤ c ∧ c ≤ maxLen := by
  rcases h.2 with ⟨rfl, rfl⟩ | ⟨g, cap, cur, rfl, _, _, hle, hm, _⟩
  · exact ⟨none, 0, rfl, fun _ => ⟨rfl, rfl⟩, Nat.le_refl _, by simp [maxLen]⟩
  · exact ⟨_, cap, rfl, (fun h => by cases h), hle, hm⟩
theorem gr_ne {g t : Nat} {cs : Array Value} (h : W.ownsRow base e size v n xs) (hb : Blk W g t cs) (ht : t ≠ e) : v.ownBlock ≠ some g := fun hg => by
  obtain ⟨_, _, cur, hc⟩ := gr_own h hg
  rw [Blk, hc] at hb
  injection hb with hb
  injection hb with _ hb _
  exact ht hb.symm
/-- Its cells. -/
theorem gr_cell (h : W.ownsRow base e size v n xs) {ad : Addr} {m c : Nat} (hv : v = .slice (some ad) m c) {j : Nat} {x : Value} (hj : xs[j]? = some x) : ad.block < W.heap.size ∧ W.cell? (ad.add j) = some x := by
  have hl := h.lt
  have hc := fun g hg j u hu => h.cells (g := g) hg j u hu
  rcases h.2 with ⟨rfl, h0⟩ | ⟨g, cap, cur, rfl, _⟩
  · cases hv
  · cases hv
    exact ⟨(hl g rfl).2, hc g rfl j x hj⟩
end
theorem gr_news {W : World} {g t : Nat} {cs : Array Value} (h : Blk W g t cs) : ∀ j u, cs.toList[j]? = some u → W.cell? ((⟨g, 0, none⟩ : Addr).add j) = some u := fun j u hu => by
  have e : (⟨g, 0, none⟩ : Addr).add j = ⟨g, j, none⟩ := by
    by_cases h : j = 0
    · subst h; rfl
    · simp [Addr.add, h]
  rw [e, h.cell, ← Array.getElem?_toList]
  exact hu
section
variable {ops : Array Oper} {rest : List Oper} {o : Oper} {a : Act} {w W : World} {Q : Exit → Act → World → Prop} {S : List Nat} {L : List Ent} {T e size bytes n base gl : Nat} {z v : Value} {xs : List Value} {cs : Array Value} {x0 : Operand}
/-- One element more. -/
theorem gr_app (s y : Operand) (hT : RowT T e size bytes z) (O : Own w W S ((gl, e, cs) :: L)) (M : W.ownsRow base e size v n xs) (hcs : cs.size = size) (h1 : ∀ u ∈ cs.toList, u.oneCell' = true) (hgd : o.guard = none)
    (ho : o.op = .call { callee := .builtin .append, args := #[s, y], argTypes := #[T, T] }) (hs : a.eval s = v) (hy : a.eval y = .slice (some ⟨gl, 0, none⟩) 1 1) (hb : w.heap.size ≤ base) (hbW : base ≤ W.heap.size) (hL : ∀ q ∈ L, v.ownBlock ≠ some q.1)
    (hn : n ≤ 5000000) (hby : bytes ≤ 1000)
    (h : ∀ v' u, Own w u S L → u.ownsRow base e size v' (n + 1) (xs ++ cs.toList) → Keeps W u v.ownBlock.toList → (v'.ownBlock = v.ownBlock ∨ v'.ownBlock = some W.heap.size) → wpList Try.prog ops Q rest (a.put o.dst v') u) : wpList Try.prog ops Q (o :: rest) a W := by
  obtain ⟨ht, ⟨i, hi, hz, hsz, hbt⟩, hzs, hpos⟩ := hT
  have hB := O.get 0 rfl
  have hl : cs.toList.length = 1 * size := by rw [Nat.one_mul, ← hcs]; simp
  have hnews : ∀ j u, cs.toList[j]? = some u → W.cell? ((⟨gl, 0, none⟩ : Addr).add j) = some u := gr_news hB
  have hbytes : (n + 1) * bytes ≤ 140737488355328 := Nat.le_trans (Nat.mul_le_mul (show n + 1 ≤ 5000001 by omega) hby) (by decide)
  obtain ⟨v', u, hr, h2, h3, _⟩ := run_append_own (P := Try.prog) W base T o.type e i z size bytes ht hi hz hsz hbt hzs hpos v n _ M ⟨gl, 0, none⟩ 1 1 cs.toList hl hnews h1 (by simp only [maxLen]; omega) hbytes hbW
  have hf := append_fresh (w := W) (P := Try.prog) base T o.type e i z size bytes ht hi hz hsz hbt v n _ M ⟨gl, 0, none⟩ 1 1 cs.toList hl hnews h1 (by simp only [maxLen]; omega) hbytes (by omega) hr
  refine wpList_plain hgd fun K hK => ?_
  unfold Oper.wp execOp
  simp only [ho, resolve, invoke, builtin, Sem.run_bind, Sem.run_pure, Result.andThen_ok, List.map_toArray, List.map_cons, List.map_nil, hs, hy, hr]
  have hk := grown_keepsV h3
  refine hK _ _ (h v' u ((O.drop_ 1).wrote hk (fun b hb' hlt => ?_) (fun q hq hm => hL q hq (by simpa using hm))) h2 hk hf)
  have := (gr_own M (g := b) (by simpa using hb')).1
  omega
end

/-! ### Pairs -/
def prC (x : Int × Int) : Array Value := #[.int .i64 x.1, .int .i64 x.2]
def prL (ps : List (Int × Int)) : List Value := ps.flatMap fun x => [.int .i64 x.1, .int .i64 x.2]
theorem prC_cell (x : Int × Int) : ∀ v ∈ (prC x).toList, v.oneCell' = true := by
  intro v hv
  simp only [prC, List.mem_cons, List.not_mem_nil, or_false] at hv
  rcases hv with rfl | rfl <;> rfl
theorem prL_snoc (ps : List (Int × Int)) (x : Int × Int) : prL (ps ++ [x]) = prL ps ++ (prC x).toList := by simp [prL, prC]
theorem prL_length (ps : List (Int × Int)) : (prL ps).length = ps.length * 2 := by
  induction ps with
  | nil => rfl
  | cons x l ih => simp only [prL, List.flatMap_cons, List.length_append, List.length_cons, List.length_nil] at *; omega
theorem prL_get : ∀ (ps : List (Int × Int)) (i f : Nat), i < ps.length → f < 2 → (prL ps)[i * 2 + f]? = (prC (ps.getD i (0, 0)))[f]?
  | x :: l, 0, 0, _, _ => rfl
  | x :: l, 0, 1, _, _ => rfl
  | x :: l, i + 1, f, h, hf => by
    have ih := prL_get l i f (by simpa using h) hf
    have e : prL (x :: l) = Value.int .i64 x.1 :: Value.int .i64 x.2 :: prL l := rfl
    rw [e, show (i + 1) * 2 + f = (i * 2 + f) + 1 + 1 by omega, List.getElem?_cons_succ, List.getElem?_cons_succ, ih]
    rfl
def MintP (e base : Nat) (W : World) (v : Value) (ps : List (Int × Int)) : Prop := W.ownsRow base e 2 v ps.length (prL ps)
theorem rowT61 : RowT 61 67 2 16 (.agg #[.int .i64 0, .int .i64 0]) := by
  have h : (Try.prog.info? 67).map (fun i => (i.zero, i.size, i.bytes)) = some (some (.agg #[.int .i64 0, .int .i64 0]), 2, 16) := by kernel_rfl
  obtain ⟨i, hi, he⟩ := Option.map_eq_some_iff.1 h
  simp only [Prod.mk.injEq] at he
  exact ⟨Try.underlying61, ⟨i, hi, he.1, he.2.1, he.2.2⟩, rfl, by decide⟩
section
variable {ops : Array Oper} {rest : List Oper} {o : Oper} {a : Act} {w W : World} {Q : Exit → Act → World → Prop} {S : List Nat} {L : List Ent} {x0 : Operand}
theorem own_lit2 (d T e : Nat) (x : Int × Int) (O : Own w W S L) (_hd : o.dst = some d) (hgd : o.guard = none) (ho : o.op = .buildSlice T 1 #[(0, x0)]) (h0 : a.eval x0 = .agg (prC x)) (ht : Try.prog.underlying T = some (.slice e)) (hi : (Try.prog.info? e).map (fun i => (i.zero, i.size)) = some (some (.agg #[.int .i64 0, .int .i64 0]), 2))
    (h : ∀ u g, Own w u S ((g, e, prC x) :: L) → Keeps W u [] → W.heap.size ≤ g → wpList Try.prog ops Q rest (a.put o.dst (.slice (some ⟨g, 0, none⟩) 1 1)) u) : wpList Try.prog ops Q (o :: rest) a W := by
  obtain ⟨i, hi2, he⟩ := Option.map_eq_some_iff.1 hi
  simp only [Prod.mk.injEq] at he
  obtain ⟨hz, hs⟩ := he
  have k := (Keeps.refl W []).alloc (.cells (prC x) e)
  refine wpList_buildSlice hgd T e 1 _ ho (prC x) i (.agg #[.int .i64 0, .int .i64 0]) ht hi2 hz (by rw [hs]; decide) (by rw [hs]; decide) ?_ (h _ _ (O.add k (Blk.new _ _ _)) k (Nat.le_refl _))
  rw [hs]
  have e1 : ((#[(0, x0)] : Array (Nat × Operand)).map (fun (i, x) => (i, a.eval x))).toList = [(0, .agg (prC x))] := by simp [h0]
  rw [e1]
  have rr : Array.range 2 = #[0, 1] := by decide
  simp [Instr.fill, rr, Value.cells, prC]
end
end Go.Proofs.Ytakmcpadkanggaa
