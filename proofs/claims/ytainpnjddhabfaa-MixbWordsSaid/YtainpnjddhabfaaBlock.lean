/-
  What F is asked, by value: its cells; own facts of the program.
-/
import Derived.Test.YtainpnjddhabfaaW7
import Derived.Test.YtainpnjddhabfaaOpen
import Derived.Test.YtainpnjddhabfaaRows
import Derived.Test.YtainpnjddhabfaaLaw
namespace Go.Proofs.Ytainpnjddhabfaa
open Go.RowKit Go.WideShapes

theorem own : ownKnob Try.prog.godebug = none := by kernel_rfl
theorem laid : laidOutB Try.prog = true := by kernel_rfl

def blkC (H M : Nat → BitVec 64) (lo hi : BitVec 64) (last node : Bool) : Array Value := words 8 H ++ words 16 M ++ #[U64 lo, U64 hi, .bool last, .bool node]
section
variable (H M : Nat → BitVec 64) (lo hi : BitVec 64) (last node : Bool)
theorem blkC_size : (blkC H M lo hi last node).size = 28 := by simp [blkC, words_size]
theorem blkC_H (i : Nat) (h : i < 8) : (blkC H M lo hi last node)[0 + i]? = (words 8 H)[i]? := by
  unfold blkC
  rw [Array.getElem?_append_left (by simp [words_size]; omega), Array.getElem?_append_left (by simp [words_size]; omega), Nat.zero_add]
theorem blkC_M (i : Nat) (h : i < 16) : (blkC H M lo hi last node)[8 + i]? = (words 16 M)[i]? := by
  unfold blkC
  rw [Array.getElem?_append_left (by simp [words_size]; omega), Array.getElem?_append_right (by simp [words_size])]
  congr 1
  simp [words_size]
theorem blkC_r (i : Nat) : (blkC H M lo hi last node)[24 + i]? = (#[U64 lo, U64 hi, .bool last, .bool node] : Array Value)[i]? := by
  unfold blkC
  rw [Array.getElem?_append_right (by simp [words_size])]
  congr 1
  simp [words_size]
theorem blkC_24 : (blkC H M lo hi last node)[24]? = some (U64 lo) := blkC_r H M lo hi last node 0
theorem blkC_25 : (blkC H M lo hi last node)[25]? = some (U64 hi) := blkC_r H M lo hi last node 1
theorem blkC_26 : (blkC H M lo hi last node)[26]? = some (.bool last) := blkC_r H M lo hi last node 2
theorem blkC_27 : (blkC H M lo hi last node)[27]? = some (.bool node) := blkC_r H M lo hi last node 3
theorem blkC_c (j : Nat) (h : j < 2) : (blkC H M lo hi last node)[24 + j]? = (#[U64 lo, U64 hi] : Array Value)[j]? := by
  rw [blkC_r]
  match j, h with
  | 0, _ => rfl
  | 1, _ => rfl
end

theorem open_block {w : World} {b : Nat} {v : Value} (h : Value.okWide Try.prog w .any b 37 v) : ∃ H M lo hi last node, v = .agg (blkC H M lo hi last node) := by
  have hts : Try.prog.cellTypes Try.prog.depth 37 = some (List.replicate 24 22 ++ [22, 22, 4, 4]) := by kernel_rfl
  obtain ⟨cs, rfl, hs, hc⟩ := agg_cells (n := 28) Try.underlying37 rfl hts rfl (by kernel_rfl) h
  have cw : ∀ i, i < 26 → ∃ x : BitVec 64, cs[i]? = some (U64 x) := fun i hi => by
    obtain ⟨x, u, hx, hu, hk⟩ := hc i (by omega)
    have hu' : u = 22 := by
      have h1 : ∀ i : Fin 26, (List.replicate 24 22 ++ [22, 22, 4, 4] : List TypeId)[i.1]? = some 22 := by decide
      rw [h1 ⟨i, hi⟩] at hu
      exact (Option.some.inj hu).symm
    subst hu'
    obtain ⟨y, rfl⟩ := cell_u64 Try.underlying22 hk
    exact ⟨y, hx⟩
  have cb : ∀ i, 26 ≤ i → i < 28 → ∃ x : Bool, cs[i]? = some (.bool x) := fun i h1 hi => by
    obtain ⟨x, u, hx, hu, hk⟩ := hc i (by omega)
    have hu' : u = 4 := by
      have h1 : i = 26 ∨ i = 27 := by omega
      rcases h1 with rfl | rfl <;> exact (Option.some.inj hu).symm
    subst hu'
    obtain ⟨y, rfl⟩ := cell_bool Try.underlying4 hk
    exact ⟨y, hx⟩
  obtain ⟨H, hH⟩ := choose_words (n := 8) (off := 0) (cs := cs) (fun i hi => cw _ (by omega))
  obtain ⟨M, hM⟩ := choose_words (n := 16) (off := 8) (cs := cs) (fun i hi => cw _ (by omega))
  obtain ⟨lo, hlo⟩ := cw 24 (by omega)
  obtain ⟨hi, hhi⟩ := cw 25 (by omega)
  obtain ⟨last, hla⟩ := cb 26 (by omega) (by omega)
  obtain ⟨node, hno⟩ := cb 27 (by omega) (by omega)
  refine ⟨H, M, lo, hi, last, node, congrArg Value.agg (Array.ext_getElem? fun j => ?_)⟩
  by_cases h1 : j < 8
  · have e := blkC_H H M lo hi last node j h1
    rw [Nat.zero_add] at e
    have e2 := hH j h1
    rw [Nat.zero_add] at e2
    rw [e, words_get _ _ _ h1, e2]
  · by_cases h2 : j < 24
    · have e := blkC_M H M lo hi last node (j - 8) (by omega)
      have e2 := hM (j - 8) (by omega)
      rw [show 8 + (j - 8) = j from by omega] at e e2
      rw [e, words_get _ _ _ (by omega), e2]
    · by_cases h3 : j < 28
      · have h4 : j = 24 ∨ j = 25 ∨ j = 26 ∨ j = 27 := by omega
        rcases h4 with rfl | rfl | rfl | rfl
        · rw [hlo, blkC_24]
        · rw [hhi, blkC_25]
        · rw [hla, blkC_26]
        · rw [hno, blkC_27]
      · rw [Array.getElem?_eq_none (by omega), Array.getElem?_eq_none (by rw [blkC_size]; omega)]
end Go.Proofs.Ytainpnjddhabfaa
