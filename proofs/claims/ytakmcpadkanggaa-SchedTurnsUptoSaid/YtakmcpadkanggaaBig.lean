/-
  What the bound of the Upto form gives: lists no longer than the bulk.
-/
import Derived.Test.YtakmcpadkanggaaT43
import Derived.Test.YtakmcpadkanggaaLaw
import Derived.Test.YtakmcpadkanggaaRows
import Derived.JoinedCond
import Derived.Deep.CondSized
namespace Go.Proofs.Ytakmcpadkanggaa
open Go.ChangeShapes Go.WideShapes Go.ChangeAt Go.RowKit

theorem bulk_one {H : Type} (d : DataW H) : 1 ≤ Rows.uptoBulk d := by
  cases d with
  | lit l => cases l <;> simp [Rows.uptoBulk]
  | _ => simp [Rows.uptoBulk]
theorem bulk_part {H : Type} {d : DataW H} {l : List (DataW H)} (h : d ∈ l) : Rows.uptoBulk d ≤ Rows.uptoBulkAll l := by
  induction l with
  | nil => cases h
  | cons x r ih =>
    simp only [Rows.uptoBulkAll]
    rcases List.mem_cons.1 h with e | e
    · subst e; omega
    · have := ih e; omega
theorem bulk_length {H : Type} (l : List (DataW H)) : l.length ≤ Rows.uptoBulkAll l := by
  induction l with
  | nil => simp [Rows.uptoBulkAll]
  | cons x r ih => have := bulk_one x; simp only [Rows.uptoBulkAll, List.length_cons]; omega
theorem bulk_slice {H : Type} (e s : List (DataW H)) : e.length + s.length ≤ Rows.uptoBulk (.slice e s) := by
  have h1 := bulk_length e
  have h2 := bulk_length s
  simp only [Rows.uptoBulk]
  omega
set_option maxRecDepth 100000 in
/-- A list of numbers, opened, with its length bounded by the bulk. -/
theorem open_bulk {H : Type} {enc : TypeId × Value → H} {w : World} {base : Nat} {v : Value} {d : DataW H} {p : List MemPlace} {t e : TypeId} {k : IntKind} (ht : Try.prog.underlying t = some (.slice e)) (he : Try.prog.underlying e = some (.int k)) (hc : Try.prog.cellsOf e = 1)
    (hval : Value.okWide Try.prog w .any base t v) (h : DataW.Trod enc Try.prog w 0 (fun _ => true) true t v d p) :
    ∃ (xs : List Int) (A : Option Addr) (c : Nat), v = .slice A xs.length c ∧ xs.length ≤ Rows.uptoBulk d ∧ (∀ x ∈ xs, (Lit.int k x).wf = true) ∧ (A = none → xs.length = 0 ∧ c = 0) ∧
      (0 < xs.length → ∃ ad, A = some ad ∧ ad.block < w.heap.size ∧ ∀ j, j < xs.length → w.cell? (ad.add j) = some (.int k (xs.getD j 0))) := by
  obtain ⟨a0, len0, cap0, rfl⟩ := okWide_slice ht hval
  obtain ⟨fuel, hf⟩ := h
  rcases open_ints ht he hc hf with ⟨hcs, _⟩ | ⟨a, len, cap, zs, hcs, _, hle, hmax, hzl, hx, hcell, hwf⟩
  · have e1 : Value.slice a0 len0 cap0 = .slice none 0 0 := by simpa [Value.cells] using hcs
    exact ⟨[], none, 0, by rw [e1]; rfl, by simp, by simp, fun _ => ⟨rfl, rfl⟩, fun h => by simp at h⟩
  · have e1 : Value.slice a0 len0 cap0 = .slice (some a) len cap := by simpa [Value.cells] using hcs
    have hz : zs.length = cap := by simpa using hzl
    have hl : (zs.take len).length = len := by rw [List.length_take]; omega
    simp only [Prod.mk.injEq] at hx
    refine ⟨zs.take len, some a, cap, by rw [e1, hl], ?_, fun x hx => hwf x (List.mem_of_mem_take hx), fun h => (by cases h), fun hn => ⟨a, rfl, ?_, fun j hj => ?_⟩⟩
    · rw [hx.1]
      have := bulk_slice (lits k (zs.take len) : List (DataW H)) (lits k (zs.drop len))
      have h4 : (lits k (zs.take len) : List (DataW H)).length = len := by simp [lits]; omega
      omega
    · rw [hl] at hn
      have := World.block_lt_of_cell? w _ (hcell 0 (by omega))
      rwa [add_block] at this
    · rw [hl] at hj
      rw [hcell j (by omega)]
      simp [List.getD_eq_getElem?_getD, hj]
set_option maxRecDepth 100000 in
/-- Picks, opened, with their number bounded. -/
theorem open_picks_bulk {H : Type} {enc : TypeId × Value → H} {w : World} {base : Nat} {v : Value} {d : DataW H} {p : List MemPlace} (hval : Value.okWide Try.prog w .any base 25 v) (h : DataW.Trod enc Try.prog w 0 (fun _ => true) true 25 v d p) : ∃ picks, IntL w v picks ∧ picks.length ≤ Rows.uptoBulk d ∧ ∀ n c, v = .slice none n c → n = 0 ∧ c = 0 := by
  obtain ⟨xs, A, c, e, hl, _, hN, hx⟩ := open_bulk Try.underlying25 Try.underlying3 cells3 hval h
  refine ⟨xs, ⟨A, c, e, hx⟩, hl, fun n c' h => ?_⟩
  rw [e] at h
  cases h
  exact hN rfl
end Go.Proofs.Ytakmcpadkanggaa
