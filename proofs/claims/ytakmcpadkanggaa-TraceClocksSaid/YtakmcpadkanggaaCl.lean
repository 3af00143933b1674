/-
  TraceClocks: each event's clock is what the document's answer says, also when they are told a second time; answers are new memory; the law returns true.
-/
import Derived.Test.YtakmcpadkanggaaCl8
import Derived.Test.YtakmcpadkanggaaRows
namespace Go.Proofs.Ytakmcpadkanggaa
open Go.ChangeShapes Go.WideShapes Go.ChangeAt Go.RowKit

theorem own : ownKnob Try.prog.godebug = none := by kernel_rfl
theorem laid : laidOutB Try.prog = true := by kernel_rfl

set_option maxRecDepth 100000 in
theorem clocks_lifted (os : Os) (started : os.Started) (H : Type) (enc : TypeId × Value → H) :
    ReturnsInHanded {} Try.checked os 12 .any (Rows.traceClocksSpec.pre6 enc Try.prog Try.f12 Rows.traceClocksRow.domain false) (Rows.traceClocksSpec.post enc Try.prog Try.f12 false true false false) := by
  refine law_lifted (C := Try.checked) own started (by kernel_rfl) Try.func12 rfl (fun ds h => ?_) rfl Try.underlying4 laid ?_
    (ChangeSpec.witness6 (enc := enc) (C := Try.checked) false ⟨#[], #[.agg #[.slice none 0 0, .slice none 0 0, .int .i64 0, .int .i64 0, .int .i64 0], .slice none 0 0], []⟩ 8 (by kernel_rfl) (by kernel_rfl) (by kernel_rfl) (by kernel_rfl)) ?_
  · match ds, h with
    | [d0, d1], _ => exact ⟨rfl, rfl, rfl⟩
  · intro t ht
    have ht' : t ∈ ([27, 31] : List TypeId) := ht
    simp only [List.mem_cons, List.not_mem_nil, or_false] at ht'
    rcases ht' with rfl | rfl
    all_goals exact ⟨by kernel_rfl, of_decide_eq_true (by kernel_rfl)⟩
  · intro W base args ds ps hval hA hlt hfz hsz
    have hA' : DataW.TrodAll enc Try.prog W 0 (fun _ => true) true [27, 31] args.toList ds ps := hA
    clear hA
    obtain ⟨v0, v1, d0, d1, p0, p1, hargs, rfl, rfl, h0, h1⟩ := trodAll_two hA'
    obtain rfl : args = #[v0, v1] := by cases args; simp_all
    obtain ⟨S, A, c, R, e, rfl, hS⟩ := open_sys (hval 0 27 v0 rfl rfl) h0
    obtain ⟨B, n, cb, E, rfl, hE, hwf, hn, hB⟩ := open_events (hval 1 31 v1 rfl rfl) h1 (fun e s he => by
      subst he
      have hsz' : (DataW.weightsEach Try.prog [27, 31] [d0, .slice e s]).all (· ≤ reachBytes) = true := hsz
      exact of_decide_eq_true (List.all_eq_true.1 hsz' _ (DataW.weights_mem_each (j := 1) (t := 31) rfl rfl ((e.length + s.length) * Try.prog.bytesOf 37) (by simp [DataW.weights, Try.underlying31]))))
    exact (clocks_walk hS hE hwf hB hn).mono fun e W' ⟨he, hk⟩ => ⟨he, hk.below⟩

theorem clocks_holds : Rows.TraceClocksSaid :=
  OpenClaim.holds_of_wide 12 Try.f12 rfl rfl rfl rfl rfl rfl rfl ⟨rfl, rfl, rfl, rfl, rfl⟩ rfl rfl rfl rfl rfl (by kernel_rfl) Try.func12 (by kernel_rfl)
    (of_decide_eq_true (by kernel_rfl)) (by unfold Func.isWrapper; rw [if_neg (of_decide_eq_false (by kernel_rfl))]; exact ⟨rfl, rfl⟩)
    (fun os started H enc _ => clocks_lifted os started H enc)
end Go.Proofs.Ytakmcpadkanggaa
