/-
  Small laws on rows that a call has made.
-/
import Derived.Test.YtakmcpadkanggaaT8
import Derived.Deep.OwnRows
namespace Go.Proofs.Ytakmcpadkanggaa
open Go.RowKit Go.Maps Go.Deep

theorem shB_iff (n : Int) : shB n = true ↔ 0 ≤ n ∧ n ≤ 64 := by simp [shB]
section
variable {ops : Array Oper} {rest : List Oper} {o : Oper} {a : Act} {w W : World} {Q : Exit → Act → World → Prop} {S : List Nat} {L : List Ent} {T : TypeId}
theorem own_allocK (d : Nat) (cs : Array Value) (O : Own w W S L) (_hd : o.dst = some d) (hgd : o.guard = none) (ho : o.op = .alloc T) (hz : ∀ w, (zeroValue T).run Try.prog w = .ok (.agg cs) w)
    (h : ∀ u g, Own w u S ((g, T, cs) :: L) → Keeps W u [] → W.heap.size ≤ g → wpList Try.prog ops Q rest (a.put o.dst (.pointer (some ⟨g, 0, none⟩))) u) : wpList Try.prog ops Q (o :: rest) a W :=
  wpList_alloc d cs _hd hgd ho hz fun u k b _ => h u _ (O.add k b) k (Nat.le_refl _)
theorem own_store_rowK {ty g t : Nat} {cs cs' : Array Value} (k : Nat) (y z : Operand) (O : Own w W S L) (hgd : o.guard = none) (hdst : o.dst = none) (ho : o.op = .store ty y z) (hy : a.eval y = .pointer (some ⟨g, 0, none⟩)) (hz : a.eval z = .agg cs') (hk : L[k]? = some (g, t, cs))
    (hi : (Try.prog.info? ty).map (·.size) = some cs'.size) (hs : cs.size = cs'.size) (h1 : ∀ v ∈ cs'.toList, v.oneCell' = true)
    (h : ∀ u, Own w u S (L.set k (g, t, cs')) → Keeps W u [g] → wpList Try.prog ops Q rest a u) : wpList Try.prog ops Q (o :: rest) a W :=
  wpList_store_row y z hgd hdst ho hy hz (O.get k hk) hi hs h1 fun u kp b => h u (O.set k hk kp b) kp
end
def arrI (n : Nat) (f : Int → Int) : Array Value := (Array.range n).map fun i => .int .i64 (f (i : Nat))
def arrB (n : Nat) (f : Int → Bool) : Array Value := (Array.range n).map fun i => .bool (f (i : Nat))
@[go_sem] theorem arrI_size (n : Nat) (f : Int → Int) : (arrI n f).size = n := by simp [arrI]
@[go_sem] theorem arrB_size (n : Nat) (f : Int → Bool) : (arrB n f).size = n := by simp [arrB]
theorem arrI_get (n : Nat) (f : Int → Int) (i : Nat) (h : i < n) : (arrI n f)[i]? = some (.int .i64 (f (i : Nat))) := by simp [arrI, h]
theorem arrB_get (n : Nat) (f : Int → Bool) (i : Nat) (h : i < n) : (arrB n f)[i]? = some (.bool (f (i : Nat))) := by simp [arrB, h]
theorem arrI_set (n : Nat) (f : Int → Int) (i : Nat) (x : Int) : (arrI n f).setIfInBounds i (.int .i64 x) = arrI n (updI f (i : Nat) x) := by
  apply Array.ext_getElem?
  intro j
  rw [Array.getElem?_setIfInBounds]
  by_cases hj : i = j
  · subst hj
    by_cases hi : i < n
    · rw [if_pos rfl, if_pos (by rw [arrI_size]; exact hi), arrI_get _ _ _ hi, updI_same]
    · simp [arrI, hi]
  · rw [if_neg hj]
    by_cases hi : j < n
    · rw [arrI_get _ _ _ hi, arrI_get _ _ _ hi, updI_other _ _ _ _ (by omega)]
    · simp [arrI, hi]
theorem arrB_set (n : Nat) (f : Int → Bool) (i : Nat) (x : Bool) : (arrB n f).setIfInBounds i (.bool x) = arrB n (updI f (i : Nat) x) := by
  apply Array.ext_getElem?
  intro j
  rw [Array.getElem?_setIfInBounds]
  by_cases hj : i = j
  · subst hj
    by_cases hi : i < n
    · rw [if_pos rfl, if_pos (by rw [arrB_size]; exact hi), arrB_get _ _ _ hi, updI_same]
    · simp [arrB, hi]
  · rw [if_neg hj]
    by_cases hi : j < n
    · rw [arrB_get _ _ _ hi, arrB_get _ _ _ hi, updI_other _ _ _ _ (by omega)]
    · simp [arrB, hi]
theorem info3' : (Try.prog.info? 3).map (fun i => (i.zero, i.size, i.bytes)) = some (some (.int .i64 0), 1, 8) := by kernel_rfl
theorem info4' : (Try.prog.info? 4).map (fun i => (i.zero, i.size, i.bytes)) = some (some (.bool false), 1, 1) := by kernel_rfl
theorem made_I (n : Nat) : madeCells #[.int .i64 0] n = arrI n fun _ => 0 := by
  apply Array.ext_getElem?
  intro j
  by_cases hj : j < n
  · rw [arrI_get _ _ _ hj]; simp [madeCells, hj, Nat.mod_one]
  · simp [madeCells, arrI, hj]
theorem made_B (n : Nat) : madeCells #[.bool false] n = arrB n fun _ => false := by
  apply Array.ext_getElem?
  intro j
  by_cases hj : j < n
  · rw [arrB_get _ _ _ hj]; simp [madeCells, hj, Nat.mod_one]
  · simp [madeCells, arrB, hj]
section
variable {ops : Array Oper} {rest : List Oper} {o : Oper} {a : Act} {w W : World} {Q : Exit → Act → World → Prop} {S : List Nat} {L : List Ent} {x : Operand}
theorem own_loadG {P : Program} {ty g t : Nat} {cs : Array Value} {e : TypeDesc} (d k : Nat) (O : Own w W S L) (_hd : o.dst = some d) (hw : Region.wanted o (yielded ops a.tmps) = true) (ho : o.op = .load ty x) (hx : a.eval x = .pointer (some ⟨g, 0, none⟩)) (hk : L[k]? = some (g, t, cs))
    (hu : P.underlying ty = some e) (he : (match e with | .struct _ | .array _ _ => true | _ => false) = true) (hi : (P.info? ty).map (·.size) = some cs.size)
    (h : wpList P ops Q rest (a.put o.dst (.agg cs)) W) : wpList P ops Q (o :: rest) a W := by
  have hr : (loadVar ty ⟨g, 0, none⟩).run P W = .ok (.agg cs) W := run_loadVar_row W g t ty cs (0, 0) e (O.get k hk) hu he hi
  simp only [wpList, hw, if_true]
  left
  unfold Oper.wp execOp
  simp only [ho, hx, Instr.loadAt, Instr.sureAddr, Sem.run_bind, Sem.run_pure, Result.andThen_ok, hr]
  exact h
theorem own_makeI (d n : Nat) (O : Own w W S L) (_hd : o.dst = some d) (hgd : o.guard = none) (ho : o.op = .makeSlice 25 x x) (hx : a.eval x = .int .i64 (n : Int)) (hn : n ≤ 1000000)
    (h : ∀ u g, Own w u S ((g, 3, arrI n fun _ => 0) :: L) → wpList Try.prog ops Q rest (a.put o.dst (.slice (some ⟨g, 0, none⟩) n n)) u) : wpList Try.prog ops Q (o :: rest) a W := by
  refine wpList_plain hgd fun K hK => ?_
  unfold Oper.wp execOp
  simp only [ho, hx, Sem.run_bind, run_make_row' 25 3 (.int .i64 0) 8 Try.underlying25 info3' rfl .i64 .i64 n (by omega) (by omega), Result.andThen_ok, Sem.run_pure]
  exact hK _ _ (h _ _ (O.add ((Keeps.refl _ _).alloc _) (by rw [made_I]; exact Blk.new _ _ _)))
theorem own_makeB (d n : Nat) (O : Own w W S L) (_hd : o.dst = some d) (hgd : o.guard = none) (ho : o.op = .makeSlice 41 x x) (hx : a.eval x = .int .i64 (n : Int)) (hn : n ≤ 1000000)
    (h : ∀ u g, Own w u S ((g, 4, arrB n fun _ => false) :: L) → wpList Try.prog ops Q rest (a.put o.dst (.slice (some ⟨g, 0, none⟩) n n)) u) : wpList Try.prog ops Q (o :: rest) a W := by
  refine wpList_plain hgd fun K hK => ?_
  unfold Oper.wp execOp
  simp only [ho, hx, Sem.run_bind, run_make_row' 41 4 (.bool false) 1 Try.underlying41 info4' rfl .i64 .i64 n (by omega) (by omega), Result.andThen_ok, Sem.run_pure]
  exact hK _ _ (h _ _ (O.add ((Keeps.refl _ _).alloc _) (by rw [made_B]; exact Blk.new _ _ _)))
end
end Go.Proofs.Ytakmcpadkanggaa
