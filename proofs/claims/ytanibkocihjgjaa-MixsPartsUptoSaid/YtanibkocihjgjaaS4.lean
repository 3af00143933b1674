/-
  What the laws are asked, by value: their cells; own facts of the program.
-/
import Derived.Test.YtanibkocihjgjaaProg
import Derived.Test.YtanibkocihjgjaaOwn
import Derived.Test.YtanibkocihjgjaaOpen
import Derived.Test.YtanibkocihjgjaaRows
import Derived.Test.YtanibkocihjgjaaLaw
import Derived.Lib.Hide
namespace Go.Proofs.Ytanibkocihjgjaa
open Go.RowKit Go.WideShapes

theorem own : ownKnob Try.prog.godebug = none := by kernel_rfl
theorem laid : laidOutB Try.prog = true := by kernel_rfl

/-- A load of a whole known block, its guard being met. -/
theorem own_load_w {P : Program} {ops : Array Oper} {rest : List Oper} {o : Oper} {a : Act} {w W : World} {Q : Exit → Act → World → Prop} {S : List Nat} {L : List (Nat × TypeId × Array Value)} {g : Nat} {t ty : TypeId} {cs : Array Value} {x : Operand}
    (d k : Nat) (O : Own w W S L) (_hd : o.dst = some d) (hw : Region.wanted o (yielded ops a.tmps) = true) (ho : o.op = .load ty x) (hx : a.eval x = .pointer (some ⟨g, 0, none⟩)) (hk : L[k]? = some (g, t, cs)) {e : TypeDesc}
    (hu : P.underlying ty = some e) (he : (match e with | .struct _ | .array _ _ => true | _ => false) = true) (hi : (P.info? ty).map (·.size) = some cs.size)
    (h : wpList P ops Q rest (a.put o.dst (.agg cs)) W) : wpList P ops Q (o :: rest) a W :=
  wpList_step fun K hK => by rw [if_pos hw]; exact wp_load_row ty x ho g hx t cs (0, 0) e (O.get k hk) hu he hi (hK _ _ h)
/-- A load of a part of a known block, its guard being met. -/
theorem own_load_part_w {P : Program} {ops : Array Oper} {rest : List Oper} {o : Oper} {a : Act} {w W : World} {Q : Exit → Act → World → Prop} {S : List Nat} {L : List (Nat × TypeId × Array Value)} {g off : Nat} {t ty : TypeId} {cs part : Array Value} {x : Operand}
    (d k : Nat) (O : Own w W S L) (_hd : o.dst = some d) (hw : Region.wanted o (yielded ops a.tmps) = true) (ho : o.op = .load ty x) (hx : a.eval x = .pointer (some ⟨g, off, none⟩)) (hk : L[k]? = some (g, t, cs)) {e : TypeDesc}
    (hu : P.underlying ty = some e) (he : e.isRow = true) (hi : (P.info? ty).map (·.size) = some part.size) (hp : ∀ j, j < part.size → cs[off + j]? = part[j]?)
    (h : wpList P ops Q rest (a.put o.dst (.agg part)) W) : wpList P ops Q (o :: rest) a W :=
  wpList_step fun K hK => by
    rw [if_pos hw]
    have h' : wpList P ops Q rest (a.put o.dst (.agg part.toList.toArray)) W := by simpa using h
    refine wp_load_mid ty x ho g off hx part.toList e (fun j v hv => ?_) hu he (by simpa using hi) (hK _ _ h')
    rw [(O.get k hk).cell]
    have hj : j < part.size := by
      rcases Nat.lt_or_ge j part.size with h1 | h1
      · exact h1
      · rw [List.getElem?_eq_none (by simpa using h1)] at hv; cases hv
    rw [hp j hj]
    simpa using hv

theorem info22 : ∃ i, Try.prog.info? 22 = some i ∧ i.size = 1 := by
  have h : (Try.prog.info? 22).map (·.size) = some 1 := by kernel_rfl
  cases hq : Try.prog.info? 22 with
  | none => rw [hq] at h; cases h
  | some i => exact ⟨i, rfl, by simpa [hq] using h⟩
@[go_sem] theorem equal23 (w : World) (V V' : Nat → BitVec 32) : (Op.equalIn 10000 23 (.agg (words 16 V)) (.agg (words 16 V'))).run Try.prog w = .ok (eqW 16 V V') w := by
  obtain ⟨i, hi, hs⟩ := info22
  exact run_equal_words w Try.underlying23 Try.underlying22 hi hs V V'
@[go_sem] theorem equal33 (w : World) (V V' : Nat → BitVec 32) : (Op.equalIn 10000 33 (.agg (words 8 V)) (.agg (words 8 V'))).run Try.prog w = .ok (eqW 8 V V') w := by
  obtain ⟨i, hi, hs⟩ := info22
  exact run_equal_words w Try.underlying33 Try.underlying22 hi hs V V'

/-! ### Put -/
def putC (V M : Nat → BitVec 32) (a b c d : Int) (x y : BitVec 32) (r : Int) : Array Value := words 16 V ++ words 16 M ++ #[.int .i64 a, .int .i64 b, .int .i64 c, .int .i64 d, U32 x, U32 y, .int .i64 r]
section
variable (V M : Nat → BitVec 32) (a b c d : Int) (x y : BitVec 32) (r : Int)
theorem putC_size : (putC V M a b c d x y r).size = 39 := by simp [putC, words_size]
theorem putC_V (i : Nat) (h : i < 16) : (putC V M a b c d x y r)[0 + i]? = (words 16 V)[i]? := by
  unfold putC
  rw [Array.getElem?_append_left (by simp [words_size]; omega), Array.getElem?_append_left (by simp [words_size]; omega), Nat.zero_add]
theorem putC_M (i : Nat) (h : i < 16) : (putC V M a b c d x y r)[16 + i]? = (words 16 M)[i]? := by
  unfold putC
  rw [Array.getElem?_append_left (by simp [words_size]; omega), Array.getElem?_append_right (by simp [words_size])]
  congr 1
  simp [words_size]
theorem putC_r (i : Nat) : (putC V M a b c d x y r)[32 + i]? = (#[.int .i64 a, .int .i64 b, .int .i64 c, .int .i64 d, U32 x, U32 y, .int .i64 r] : Array Value)[i]? := by
  unfold putC
  rw [Array.getElem?_append_right (by simp [words_size])]
  congr 1
  simp [words_size]
end

theorem open_put {w : World} {b : Nat} {v : Value} (h : Value.okWide Try.prog w .any b 25 v) : ∃ (V M : Nat → BitVec 32) (a b c d : Int) (x y : BitVec 32) (r : Int), v = .agg (putC V M a b c d x y r) := by
  have hts : Try.prog.cellTypes Try.prog.depth 25 = some (List.replicate 32 22 ++ [3, 3, 3, 3, 22, 22, 3]) := by kernel_rfl
  obtain ⟨cs, rfl, hs, hc⟩ := agg_cells (n := 39) Try.underlying25 rfl hts rfl (by kernel_rfl) h
  have cw : ∀ i, (i < 32 ∨ i = 36 ∨ i = 37) → ∃ x : BitVec 32, cs[i]? = some (U32 x) := fun i hi => by
    obtain ⟨x, u, hx, hu, hk⟩ := hc i (by omega)
    have hu' : u = 22 := by
      rcases hi with hi | rfl | rfl
      · have h1 : ∀ i : Fin 32, (List.replicate 32 22 ++ [3, 3, 3, 3, 22, 22, 3] : List TypeId)[i.1]? = some 22 := by decide
        rw [h1 ⟨i, hi⟩] at hu
        exact (Option.some.inj hu).symm
      · exact (Option.some.inj hu).symm
      · exact (Option.some.inj hu).symm
    subst hu'
    obtain ⟨y, rfl⟩ := cell_u32 Try.underlying22 hk
    exact ⟨y, hx⟩
  have cb : ∀ i, (i = 32 ∨ i = 33 ∨ i = 34 ∨ i = 35 ∨ i = 38) → ∃ n : Int, cs[i]? = some (.int .i64 n) := fun i hi => by
    obtain ⟨x, u, hx, hu, hk⟩ := hc i (by omega)
    have hu' : u = 3 := by
      rcases hi with rfl | rfl | rfl | rfl | rfl <;> exact (Option.some.inj hu).symm
    subst hu'
    obtain ⟨n, rfl, hn⟩ := cell_i64 Try.underlying3 hk
    exact ⟨n, hx⟩
  obtain ⟨V, hV⟩ := choose_words (n := 16) (off := 0) (cs := cs) (fun i hi => cw _ (by omega))
  obtain ⟨M, hM⟩ := choose_words (n := 16) (off := 16) (cs := cs) (fun i hi => cw _ (by omega))
  obtain ⟨a, ha⟩ := cb 32 (by omega)
  obtain ⟨b, hb⟩ := cb 33 (by omega)
  obtain ⟨c, hcc⟩ := cb 34 (by omega)
  obtain ⟨d, hd⟩ := cb 35 (by omega)
  obtain ⟨x, hx⟩ := cw 36 (by omega)
  obtain ⟨y, hy⟩ := cw 37 (by omega)
  obtain ⟨r, hr⟩ := cb 38 (by omega)
  refine ⟨V, M, a, b, c, d, x, y, r, congrArg Value.agg (Array.ext_getElem? fun j => ?_)⟩
  by_cases h1 : j < 16
  · have e := putC_V V M a b c d x y r j h1
    rw [Nat.zero_add] at e
    have e2 := hV j h1
    rw [Nat.zero_add] at e2
    rw [e, words_get _ _ _ h1, e2]
  · by_cases h2 : j < 32
    · have e := putC_M V M a b c d x y r (j - 16) (by omega)
      have e2 := hM (j - 16) (by omega)
      rw [show 16 + (j - 16) = j from by omega] at e e2
      rw [e, words_get _ _ _ (by omega), e2]
    · by_cases h3 : j < 39
      · have h4 : j = 32 ∨ j = 33 ∨ j = 34 ∨ j = 35 ∨ j = 36 ∨ j = 37 ∨ j = 38 := by omega
        rcases h4 with rfl | rfl | rfl | rfl | rfl | rfl | rfl
        · rw [ha]; exact (putC_r V M a b c d x y r 0).symm
        · rw [hb]; exact (putC_r V M a b c d x y r 1).symm
        · rw [hcc]; exact (putC_r V M a b c d x y r 2).symm
        · rw [hd]; exact (putC_r V M a b c d x y r 3).symm
        · rw [hx]; exact (putC_r V M a b c d x y r 4).symm
        · rw [hy]; exact (putC_r V M a b c d x y r 5).symm
        · rw [hr]; exact (putC_r V M a b c d x y r 6).symm
      · rw [Array.getElem?_eq_none (by omega), Array.getElem?_eq_none (by rw [putC_size]; omega)]

/-! ### Run -/
def runC (H M : Nat → BitVec 32) (n : BitVec 64) (last node : Bool) : Array Value := words 8 H ++ words 16 M ++ #[U64 n, .bool last, .bool node]
section
variable (H M : Nat → BitVec 32) (n : BitVec 64) (last node : Bool)
theorem runC_size : (runC H M n last node).size = 27 := by simp [runC, words_size]
theorem runC_H (i : Nat) (h : i < 8) : (runC H M n last node)[0 + i]? = (words 8 H)[i]? := by
  unfold runC
  rw [Array.getElem?_append_left (by simp [words_size]; omega), Array.getElem?_append_left (by simp [words_size]; omega), Nat.zero_add]
theorem runC_M (i : Nat) (h : i < 16) : (runC H M n last node)[8 + i]? = (words 16 M)[i]? := by
  unfold runC
  rw [Array.getElem?_append_left (by simp [words_size]; omega), Array.getElem?_append_right (by simp [words_size])]
  congr 1
  simp [words_size]
theorem runC_r (i : Nat) : (runC H M n last node)[24 + i]? = (#[U64 n, .bool last, .bool node] : Array Value)[i]? := by
  unfold runC
  rw [Array.getElem?_append_right (by simp [words_size])]
  congr 1
  simp [words_size]
end

theorem open_run {w : World} {b : Nat} {v : Value} (h : Value.okWide Try.prog w .any b 48 v) : ∃ (H M : Nat → BitVec 32) (n : BitVec 64) (last node : Bool), v = .agg (runC H M n last node) := by
  have hts : Try.prog.cellTypes Try.prog.depth 48 = some (List.replicate 24 22 ++ [46, 4, 4]) := by kernel_rfl
  obtain ⟨cs, rfl, hs, hc⟩ := agg_cells (n := 27) Try.underlying48 rfl hts rfl (by kernel_rfl) h
  have cw : ∀ i, i < 24 → ∃ x : BitVec 32, cs[i]? = some (U32 x) := fun i hi => by
    obtain ⟨x, u, hx, hu, hk⟩ := hc i (by omega)
    have hu' : u = 22 := by
      have h1 : ∀ i : Fin 24, (List.replicate 24 22 ++ [46, 4, 4] : List TypeId)[i.1]? = some 22 := by decide
      rw [h1 ⟨i, hi⟩] at hu
      exact (Option.some.inj hu).symm
    subst hu'
    obtain ⟨y, rfl⟩ := cell_u32 Try.underlying22 hk
    exact ⟨y, hx⟩
  have cb : ∀ i, (i = 25 ∨ i = 26) → ∃ x : Bool, cs[i]? = some (.bool x) := fun i hi => by
    obtain ⟨x, u, hx, hu, hk⟩ := hc i (by omega)
    have hu' : u = 4 := by
      rcases hi with rfl | rfl <;> exact (Option.some.inj hu).symm
    subst hu'
    obtain ⟨y, rfl⟩ := cell_bool Try.underlying4 hk
    exact ⟨y, hx⟩
  obtain ⟨H, hH⟩ := choose_words (n := 8) (off := 0) (cs := cs) (fun i hi => cw _ (by omega))
  obtain ⟨M, hM⟩ := choose_words (n := 16) (off := 8) (cs := cs) (fun i hi => cw _ (by omega))
  obtain ⟨n, hn⟩ : ∃ x : BitVec 64, cs[24]? = some (U64 x) := by
    obtain ⟨x, u, hx, hu, hk⟩ := hc 24 (by omega)
    have hu' : u = 46 := (Option.some.inj hu).symm
    subst hu'
    obtain ⟨y, rfl⟩ := cell_u64 Try.underlying46 hk
    exact ⟨y, hx⟩
  obtain ⟨last, hla⟩ := cb 25 (by omega)
  obtain ⟨node, hno⟩ := cb 26 (by omega)
  refine ⟨H, M, n, last, node, congrArg Value.agg (Array.ext_getElem? fun j => ?_)⟩
  by_cases h1 : j < 8
  · have e := runC_H H M n last node j h1
    rw [Nat.zero_add] at e
    have e2 := hH j h1
    rw [Nat.zero_add] at e2
    rw [e, words_get _ _ _ h1, e2]
  · by_cases h2 : j < 24
    · have e := runC_M H M n last node (j - 8) (by omega)
      have e2 := hM (j - 8) (by omega)
      rw [show 8 + (j - 8) = j from by omega] at e e2
      rw [e, words_get _ _ _ (by omega), e2]
    · by_cases h3 : j < 27
      · have h4 : j = 24 ∨ j = 25 ∨ j = 26 := by omega
        rcases h4 with rfl | rfl | rfl
        · rw [hn]; exact (runC_r H M n last node 0).symm
        · rw [hla]; exact (runC_r H M n last node 1).symm
        · rw [hno]; exact (runC_r H M n last node 2).symm
      · rw [Array.getElem?_eq_none (by omega), Array.getElem?_eq_none (by rw [runC_size]; omega)]
end Go.Proofs.Ytanibkocihjgjaa
