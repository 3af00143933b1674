/-
  TraceOrders: whether one event is before another and the shortest way between them are what the document's answer says; the law returns true.
-/
import Derived.Test.YtakmcpadkanggaaOs9
import Derived.Test.YtakmcpadkanggaaRows
namespace Go.Proofs.Ytakmcpadkanggaa
open Go.ChangeShapes Go.WideShapes Go.ChangeAt Go.RowKit Go.Deep

theorem own : ownKnob Try.prog.godebug = none := by kernel_rfl
theorem laid : laidOutB Try.prog = true := by kernel_rfl

set_option maxRecDepth 100000 in
/-- Three numbers, opened. -/
theorem open_at {H : Type} {enc : TypeId × Value → H} {w : World} {base : Nat} {v : Value} {d : DataW H} {p : List MemPlace} (hval : Value.okWide Try.prog w .any base 54 v) (h : DataW.Trod enc Try.prog w 0 (fun _ => true) true 54 v d p) :
    ∃ i j cell : Int, v = .agg #[.int .i64 i, .int .i64 j, .int .i64 cell] := by
  obtain ⟨cs, rfl, hs⟩ := okWide_struct Try.underlying54 hval
  obtain ⟨fuel, hf⟩ := h
  have h5 : Try.prog.cellsOf 54 = 3 := by kernel_rfl
  rw [h5] at hs
  obtain ⟨xs, n, _, _, _, hlen, hx⟩ := DataW.trod_struct Try.underlying54 hf
  obtain ⟨l⟩ := cs
  match l, hs, xs, hlen with
  | [v0, v1, v2], _, [y0, y1, y2], _ =>
    obtain ⟨n0, e0⟩ := field1 (j := 0) (by simpa using hx 0 _ rfl)
    obtain ⟨n1, e1⟩ := field1 (j := 1) (by simpa using hx 1 _ rfl)
    obtain ⟨n2, e2⟩ := field1 (j := 2) (by simpa using hx 2 _ rfl)
    simp [Value.cells] at e0 e1 e2
    subst e0 e1 e2
    exact ⟨n0, n1, n2, rfl⟩

set_option maxRecDepth 100000 in
theorem orders14_lifted (os : Os) (started : os.Started) (H : Type) (enc : TypeId × Value → H) :
    ReturnsInHanded {} Try.checked os 15 .any (Rows.traceOrdersSpec.pre6 enc Try.prog Try.f15 Rows.traceOrdersRow.domain false) (Rows.traceOrdersSpec.post enc Try.prog Try.f15 false true false false) := by
  refine law_lifted (C := Try.checked) own started (by kernel_rfl) Try.func15 rfl (fun ds h => ?_) rfl Try.underlying4 laid ?_
    (ChangeSpec.witness6 (enc := enc) (C := Try.checked) false ⟨#[], #[.agg #[.slice none 0 0, .slice none 0 0, .int .i64 0, .int .i64 0, .int .i64 0], .slice none 0 0, .agg #[.int .i64 0, .int .i64 0, .int .i64 0]], []⟩ 8 (by kernel_rfl) (by kernel_rfl) (by kernel_rfl) (by kernel_rfl)) ?_
  · match ds, h with
    | [d0, d1, d2], _ => exact ⟨rfl, rfl, rfl⟩
  · intro t ht
    have ht' : t ∈ ([27, 31, 54] : List TypeId) := ht
    simp only [List.mem_cons, List.not_mem_nil, or_false] at ht'
    rcases ht' with rfl | rfl | rfl
    all_goals exact ⟨by kernel_rfl, of_decide_eq_true (by kernel_rfl)⟩
  · intro W base args ds ps hval hA hlt hfz hsz
    have hA' : DataW.TrodAll enc Try.prog W 0 (fun _ => true) true [27, 31, 54] args.toList ds ps := hA
    clear hA
    obtain ⟨v0, v1, v2, d0, d1, d2, p0, p1, p2, hargs, rfl, rfl, h0, h1, h2⟩ := trodAll_three hA'
    obtain rfl : args = #[v0, v1, v2] := by cases args; simp_all
    obtain ⟨S, A, c, R, e, rfl, hS⟩ := open_sys (hval 0 27 v0 rfl rfl) h0
    obtain ⟨B, n, cb, E, rfl, hE, hwf, hn, hB⟩ := open_events (hval 1 31 v1 rfl rfl) h1 (fun e s he => by
      subst he
      have hsz' : (DataW.weightsEach Try.prog [27, 31, 54] [d0, .slice e s, d2]).all (· ≤ reachBytes) = true := hsz
      exact of_decide_eq_true (List.all_eq_true.1 hsz' _ (DataW.weights_mem_each (j := 1) (t := 31) rfl rfl ((e.length + s.length) * Try.prog.bytesOf 37) (by simp [DataW.weights, Try.underlying31]))))
    obtain ⟨i, j, cell, rfl⟩ := open_at (hval 2 54 v2 rfl rfl) h2
    exact (orders_walk hS hE hwf hB hn i j cell).mono fun e W' ⟨he, hk⟩ => ⟨he, hk.below⟩

theorem orders14_holds : Rows.TraceOrdersSaid :=
  OpenClaim.holds_of_wide 15 Try.f15 rfl rfl rfl rfl rfl rfl rfl ⟨rfl, rfl, rfl, rfl, rfl⟩ rfl rfl rfl rfl rfl (by kernel_rfl) Try.func15 (by kernel_rfl)
    (of_decide_eq_true (by kernel_rfl)) (by unfold Func.isWrapper; rw [if_neg (of_decide_eq_false (by kernel_rfl))]; exact ⟨rfl, rfl⟩)
    (fun os started H enc _ => orders14_lifted os started H enc)
end Go.Proofs.Ytakmcpadkanggaa
