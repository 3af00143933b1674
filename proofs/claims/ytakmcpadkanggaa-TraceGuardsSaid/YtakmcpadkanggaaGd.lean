/-
  TraceGuards: without the document's answer, the pairs that are told to race are pairs of accesses of one cell by different runners, one of them a write, and a cell that has a guard is in none of them; the law returns true.
-/
import Derived.Test.YtakmcpadkanggaaGd7
import Derived.Test.YtakmcpadkanggaaRows
namespace Go.Proofs.Ytakmcpadkanggaa
open Go.ChangeShapes Go.WideShapes Go.ChangeAt Go.RowKit

theorem own : ownKnob Try.prog.godebug = none := by kernel_rfl
theorem laid : laidOutB Try.prog = true := by kernel_rfl

set_option maxRecDepth 100000 in
theorem guards_lifted (os : Os) (started : os.Started) (H : Type) (enc : TypeId × Value → H) :
    ReturnsInHanded {} Try.checked os 17 .any (Rows.traceGuardsSpec.pre6 enc Try.prog Try.f17 Rows.traceGuardsRow.domain false) (Rows.traceGuardsSpec.post enc Try.prog Try.f17 false true false false) := by
  refine law_lifted (C := Try.checked) own started (by kernel_rfl) Try.func17 rfl (fun ds h => ?_) rfl Try.underlying4 laid ?_
    (ChangeSpec.witness6 (enc := enc) (C := Try.checked) false ⟨#[], #[.agg #[.slice none 0 0, .slice none 0 0, .int .i64 0, .int .i64 0, .int .i64 0], .slice none 0 0, .int .i64 0], []⟩ 8 (by kernel_rfl) (by kernel_rfl) (by kernel_rfl) (by kernel_rfl)) ?_
  · match ds, h with
    | [d0, d1, d2], _ => exact ⟨rfl, rfl, rfl⟩
  · intro t ht
    have ht' : t ∈ ([27, 31, 3] : List TypeId) := ht
    simp only [List.mem_cons, List.not_mem_nil, or_false] at ht'
    rcases ht' with rfl | rfl | rfl
    all_goals exact ⟨by kernel_rfl, of_decide_eq_true (by kernel_rfl)⟩
  · intro W base args ds ps hval hA hlt hfz hsz
    have hA' : DataW.TrodAll enc Try.prog W 0 (fun _ => true) true [27, 31, 3] args.toList ds ps := hA
    clear hA
    obtain ⟨v0, v1, v2, d0, d1, d2, p0, p1, p2, hargs, rfl, rfl, h0, h1, h2⟩ := trodAll_three hA'
    obtain rfl : args = #[v0, v1, v2] := by cases args; simp_all
    obtain ⟨S, A, c, R, e, rfl, hS⟩ := open_sys (hval 0 27 v0 rfl rfl) h0
    obtain ⟨B, n, cb, E, rfl, hE, hwf, hn, hB⟩ := open_events (hval 1 31 v1 rfl rfl) h1 (fun e s he => by
      subst he
      have hsz' : (DataW.weightsEach Try.prog [27, 31, 3] [d0, .slice e s, d2]).all (· ≤ reachBytes) = true := hsz
      exact of_decide_eq_true (List.all_eq_true.1 hsz' _ (DataW.weights_mem_each (j := 1) (t := 31) rfl rfl ((e.length + s.length) * Try.prog.bytesOf 37) (by simp [DataW.weights, Try.underlying31]))))
    obtain ⟨most, rfl⟩ := okWide_int Try.underlying3 (hval 2 3 v2 rfl rfl)
    exact (guards_walk hS hE hwf most).mono fun e W' ⟨he, hk⟩ => ⟨he, hk.below⟩

theorem guards_holds : Rows.TraceGuardsSaid :=
  OpenClaim.holds_of_wide 17 Try.f17 rfl rfl rfl rfl rfl rfl rfl ⟨rfl, rfl, rfl, rfl, rfl⟩ rfl rfl rfl rfl rfl (by kernel_rfl) Try.func17 (by kernel_rfl)
    (of_decide_eq_true (by kernel_rfl)) (by unfold Func.isWrapper; rw [if_neg (of_decide_eq_false (by kernel_rfl))]; exact ⟨rfl, rfl⟩)
    (fun os started H enc _ => guards_lifted os started H enc)
end Go.Proofs.Ytakmcpadkanggaa
