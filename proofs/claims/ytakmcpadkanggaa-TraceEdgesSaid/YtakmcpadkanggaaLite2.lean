/-
  Rows of integers that a call has made.
-/
import Derived.Test.YtakmcpadkanggaaT12
import Derived.Great.BuildSlice
namespace Go.Proofs.Ytakmcpadkanggaa
open Go.RowKit Go.Maps Go.Deep

/-- v is a row of these numbers, of the call's own making (from block base on). -/
def Mint (base : Nat) (W : World) (v : Value) (xs : List Int) : Prop := W.ownsRow base 3 1 v xs.length (xs.map fun x => Value.int .i64 x)
theorem Mint.nil (base : Nat) (W : World) : Mint base W (.slice none 0 0) [] := World.ownsRow_nil W base 3 1
theorem Mint.own {base : Nat} {W : World} {v : Value} {xs : List Int} (h : Mint base W v xs) {g : Nat} (hg : v.ownBlock = some g) : base ≤ g ∧ g < W.heap.size ∧ ∃ cur, Blk W g 3 cur := by
  have hl := h.lt g hg
  refine ⟨hl.1, hl.2, ?_⟩
  rcases h.2 with ⟨rfl, _⟩ | ⟨g', cap, cur, rfl, _, hb, _⟩
  · cases hg
  · simp [Value.ownBlock] at hg
    subst hg
    exact ⟨cur, hb⟩
theorem Mint.keeps {base : Nat} {W u : World} {v : Value} {xs : List Int} {S : List Nat} (h : Mint base W v xs) (k : Keeps W u S) (hS : ∀ g, v.ownBlock = some g → g ∉ S) : Mint base u v xs := by
  refine ⟨h.1, ?_⟩
  rcases h.2 with hn | ⟨g, cap, cur, rfl, hb, hgg, rest⟩
  · exact .inl hn
  · refine .inr ⟨g, cap, cur, rfl, hb, ?_, rest⟩
    rw [k.block g (Array.getElem?_eq_some_iff.1 hgg).1 (hS g rfl)]
    exact hgg
/-- A slice of these numbers. -/
def IntL (W : World) (v : Value) (xs : List Int) : Prop := ∃ A c, v = .slice A xs.length c ∧ (0 < xs.length → ∃ ad, A = some ad ∧ ad.block < W.heap.size ∧ ∀ j, j < xs.length → W.cell? (ad.add j) = some (.int .i64 (xs.getD j 0)))
theorem Mint.list {base : Nat} {W : World} {v : Value} {xs : List Int} (h : Mint base W v xs) : IntL W v xs := by
  have hc := fun g hg j u hu => h.cells (g := g) hg j u hu
  have hl := h.lt
  rcases h.2 with ⟨rfl, h0⟩ | ⟨g, cap, cur, rfl, _⟩
  · have : xs = [] := List.eq_nil_of_length_eq_zero h0
    subst this
    exact ⟨none, 0, rfl, fun h => by simp at h⟩
  · refine ⟨_, cap, rfl, fun _ => ⟨_, rfl, (hl g rfl).2, fun j hj => hc g rfl j _ ?_⟩⟩
    simp [hj]
theorem IntL.kept {w u : World} {v : Value} {xs : List Int} (h : IntL w v xs) (k : Keeps w u []) : IntL u v xs := by
  obtain ⟨A, c, e, hx⟩ := h
  refine ⟨A, c, e, fun hn => ?_⟩
  obtain ⟨ad, e, hb, hc⟩ := hx hn
  exact ⟨ad, e, by have := k.size; omega, fun j hj => by rw [k.cellAt (by rw [add_block]; exact hb) (by simp)]; exact hc j hj⟩
theorem info3 : ∃ i, Try.prog.info? 3 = some i ∧ i.zero = some (.int .i64 0) ∧ i.size = 1 ∧ i.bytes = 8 := by
  obtain ⟨i, hi, he⟩ := Option.map_eq_some_iff.1 info3'
  simp only [Prod.mk.injEq] at he
  exact ⟨i, hi, he.1, he.2.1, he.2.2⟩
section
variable {ops : Array Oper} {rest : List Oper} {o : Oper} {a : Act} {w W : World} {Q : Exit → Act → World → Prop}
theorem app_one (base : Nat) (v : Value) (xs : List Int) (x : Int) (gl : Nat) (s z : Operand) (hM : Mint base W v xs) (hb : base ≤ W.heap.size) (hgd : o.guard = none) (ho : o.op = .call { callee := .builtin .append, args := #[s, z], argTypes := #[25, 25] })
    (hs : a.eval s = v) (hz' : a.eval z = .slice (some ⟨gl, 0, none⟩) 1 1) (hc : W.cell? ⟨gl, 0, none⟩ = some (.int .i64 x)) (hn : xs.length ≤ 1000000)
    (h : ∀ v' u, W.grownBy u v.ownBlock → Mint base u v' (xs ++ [x]) → wpList Try.prog ops Q rest (a.put o.dst v') u) : wpList Try.prog ops Q (o :: rest) a W := by
  obtain ⟨i, hi, hz, hsz, hby⟩ := info3
  refine wpList_append_own W hgd s z 25 ho base 3 i (.int .i64 0) 1 8 Try.underlying25 hi hz hsz hby rfl (by decide) v xs.length (xs.map fun x => .int .i64 x) hs hM ⟨gl, 0, none⟩ 1 1 [.int .i64 x] hz' rfl (fun j u hu => ?_) (fun u hu => by rw [List.mem_singleton] at hu; subst hu; rfl)
    (by simp only [maxLen]; omega) (by omega) hb fun v' u h1 h2 _ => ?_
  · match j with
    | 0 => simp at hu; subst hu; exact hc
    | j + 1 => simp at hu
  · exact h v' u h2 (by unfold Mint; rw [List.length_append, List.map_append]; exact h1)
end
section
variable {ops : Array Oper} {rest : List Oper} {o : Oper} {a : Act} {w W : World} {Q : Exit → Act → World → Prop} {S : List Nat} {L : List Ent} {x0 x : Operand} {T : TypeId}
theorem own_lit1 (d : Nat) (n0 : Int) (O : Own w W S L) (_hd : o.dst = some d) (hgd : o.guard = none) (ho : o.op = .buildSlice 25 1 #[(0, x0)]) (h0 : a.eval x0 = .int .i64 n0)
    (h : ∀ u g, Own w u S ((g, 3, #[.int .i64 n0]) :: L) → Keeps W u [] → W.heap.size ≤ g → wpList Try.prog ops Q rest (a.put o.dst (.slice (some ⟨g, 0, none⟩) 1 1)) u) : wpList Try.prog ops Q (o :: rest) a W := by
  obtain ⟨i, hi, hz, hs, hb⟩ := info3
  have k := (Keeps.refl W []).alloc (.cells #[Value.int .i64 n0] 3)
  refine wpList_buildSlice hgd 25 3 1 _ ho #[.int .i64 n0] i (.int .i64 0) Try.underlying25 hi hz (by rw [hs]; decide) (by rw [hs]; decide) ?_ (h _ _ (O.add k (Blk.new _ _ _)) k (Nat.le_refl _))
  rw [hs]
  have e : ((#[(0, x0)] : Array (Nat × Operand)).map (fun (i, x) => (i, a.eval x))).toList = [(0, .int .i64 n0)] := by simp [h0]
  rw [e]
  have r : Array.range 1 = #[0] := by decide
  simp [Instr.fill, r, Value.cells]
theorem own_box1 (d : Nat) (v : Value) (O : Own w W S L) (_hd : o.dst = some d) (hgd : o.guard = none) (ho : o.op = .box T x) (hx : a.eval x = v) (hv : v.cells = #[v])
    (h : ∀ u g, Own w u S ((g, T, #[v]) :: L) → wpList Try.prog ops Q rest (a.put o.dst (.pointer (some ⟨g, 0, none⟩))) u) : wpList Try.prog ops Q (o :: rest) a W := by
  refine wpList_plain hgd fun K hK => ?_
  have hr : (Instr.box T v).run Try.prog W = .ok (.pointer (some ⟨W.heap.size, 0, none⟩)) (W.alloc (.cells #[v] T)) := by
    simp [Instr.box, newVar, newRow, hv]
  unfold Oper.wp execOp
  simp only [ho, hx, Sem.run_bind, hr, Result.andThen_ok, Sem.run_pure]
  exact hK _ _ (h _ _ (O.add ((Keeps.refl _ _).alloc _) (Blk.new _ _ _)))
/-- A row of one's own grows by one. -/
theorem own_app (base : Nat) (v : Value) (xs : List Int) (y : Int) (gl : Nat) (s z : Operand) (O : Own w W S L) (hM : Mint base W v xs) (hgd : o.guard = none) (ho : o.op = .call { callee := .builtin .append, args := #[s, z], argTypes := #[25, 25] })
    (hs : a.eval s = v) (hz' : a.eval z = .slice (some ⟨gl, 0, none⟩) 1 1) (hc : W.cell? ⟨gl, 0, none⟩ = some (.int .i64 y)) (hb : w.heap.size = base) (hL : ∀ q ∈ L, q.2.1 ≠ 3) (hn : xs.length ≤ 1000000)
    (h : ∀ v' u, Own w u S L → Mint base u v' (xs ++ [y]) → wpList Try.prog ops Q rest (a.put o.dst v') u) : wpList Try.prog ops Q (o :: rest) a W := by
  refine app_one base v xs y gl s z hM (by have := O.keep.size; omega) hgd ho hs hz' hc hn fun v' u g M => h v' u ?_ M
  have hk : Keeps W u (v.ownBlock.toList) := ⟨g.os, g.tape, g.output, g.size, fun b hb' hn => g.block b hb' (by intro e; exact hn (by rw [← e]; simp))⟩
  refine ⟨O.keep.trans hk (fun b hb' hlt => ?_), fun q hq => (O.blk q hq).keeps hk (fun hm => ?_), O.new, O.nd⟩
  · have := (hM.own (g := b) (by simpa using hb')).1
    omega
  · obtain ⟨_, _, cur, hcur⟩ := hM.own (g := q.1) (by simpa using hm)
    have h1 := O.blk q hq
    rw [Blk, hcur] at h1
    injection h1 with h1
    injection h1 with _ h1 _
    exact hL q hq h1.symm
end
theorem IntL.nil (W : World) : IntL W (.slice none 0 0) [] := ⟨none, 0, rfl, fun h => by simp at h⟩
end Go.Proofs.Ytakmcpadkanggaa
