/-
  TraceWays: without the document's answer, a way is a row of edges from one event to the other, and there is one exactly where the one is before the other; the law returns true.
-/
import Derived.Test.YtakmcpadkanggaaWz6
import Derived.Test.YtakmcpadkanggaaRows
namespace Go.Proofs.Ytakmcpadkanggaa
open Go.ChangeShapes Go.WideShapes Go.ChangeAt Go.RowKit Go.Deep

theorem own : ownKnob Try.prog.godebug = none := by kernel_rfl
theorem laid : laidOutB Try.prog = true := by kernel_rfl
set_option maxRecDepth 100000 in
/-- Three numbers, opened. -/
theorem open_at {H : Type} {enc : TypeId × Value → H} {w : World} {base : Nat} {v : Value} {d : DataW H} {p : List MemPlace} (hval : Value.okWide Try.prog w .any base 54 v) (h : DataW.Trod enc Try.prog w 0 (fun _ => true) true 54 v d p) :
    ∃ i j cell : Int, v = .agg #[.int .i64 i, .int .i64 j, .int .i64 cell] := by
  obtain ⟨cs, rfl, hs⟩ := okWide_struct Try.underlying54 hval
  obtain ⟨fuel, hf⟩ := h
  have h5 : Try.prog.cellsOf 54 = 3 := by kernel_rfl
  rw [h5] at hs
  obtain ⟨xs, n, _, _, _, hlen, hx⟩ := DataW.trod_struct Try.underlying54 hf
  obtain ⟨l⟩ := cs
  match l, hs, xs, hlen with
  | [v0, v1, v2], _, [y0, y1, y2], _ =>
    obtain ⟨n0, e0⟩ := field1 (j := 0) (by simpa using hx 0 _ rfl)
    obtain ⟨n1, e1⟩ := field1 (j := 1) (by simpa using hx 1 _ rfl)
    obtain ⟨n2, e2⟩ := field1 (j := 2) (by simpa using hx 2 _ rfl)
    simp [Value.cells] at e0 e1 e2
    subst e0 e1 e2
    exact ⟨n0, n1, n2, rfl⟩

set_option maxRecDepth 100000 in
/-- A list of events, opened. -/
theorem open_eventsC {H : Type} {enc : TypeId × Value → H} {w : World} {base : Nat} {v : Value} {d : DataW H} {p : List MemPlace} (hval : Value.okWide Try.prog w .any base 31 v) (h : DataW.Trod enc Try.prog w 0 (fun _ => true) true 31 v d p) :
    ∃ (A : Option Addr) (n c : Nat) (E : Nat → Ev), v = .slice A n c ∧ EvsAt w A n E ∧ (∀ i, i < n → (Lit.int .i64 (E i).a).wf = true) ∧ n ≤ c := by
  obtain ⟨a0, len0, cap0, rfl⟩ := okWide_slice Try.underlying31 hval
  obtain ⟨fuel, hf⟩ := h
  rcases open_slice Try.underlying31 hf with ⟨hcs, _⟩ | ⟨a, len, cap, m, n, D, Pl, hcs, hb, hl, hm, hmm, hx, hel⟩
  · simp [Value.cells] at hcs
    obtain ⟨rfl, rfl, rfl⟩ := hcs
    exact ⟨none, 0, 0, fun _ => default, rfl, fun hn => by omega, fun i hi => by omega, Nat.le_refl _⟩
  · simp [Value.cells] at hcs
    obtain ⟨rfl, rfl, rfl⟩ := hcs
    simp only [if_true] at hmm
    subst hmm
    have key : ∀ i, i < m → ∃ e : Ev, (∀ j, j < 5 → w.cell? (a.add (i * 5 + j)) = (evC e)[j]?) ∧ (Lit.int .i64 e.a).wf = true := fun i hi => by
      obtain ⟨cs', h1, h2⟩ := hel i hi
      rw [cells37] at h1
      obtain ⟨xs, n', _, _, _, hlen, hf⟩ := DataW.trod_struct Try.underlying37 h2
      have hc := (World.cells?_some h1).2.2
      match xs, hlen with
      | [y0, y1, y2, y3, y4], _ =>
        obtain ⟨n0, e0, _⟩ := field1w (j := 0) (by simpa using hf 0 _ rfl)
        obtain ⟨n1, e1, _⟩ := field1w (j := 1) (by simpa using hf 1 _ rfl)
        obtain ⟨n2, e2, w2⟩ := field1w (j := 2) (by simpa using hf 2 _ rfl)
        obtain ⟨n3, e3, _⟩ := field1w (j := 3) (by simpa using hf 3 _ rfl)
        obtain ⟨n4, e4⟩ := field1b (j := 4) (by simpa using hf 4 _ rfl)
        refine ⟨⟨n0, n1, n2, n3, n4⟩, fun j hj => ?_, w2⟩
        rw [← Addr.add_add]
        match j, hj with
        | 0, _ => rw [hc 0 (by omega)]; exact e0
        | 1, _ => rw [hc 1 (by omega)]; exact e1
        | 2, _ => rw [hc 2 (by omega)]; exact e2
        | 3, _ => rw [hc 3 (by omega)]; exact e3
        | 4, _ => rw [hc 4 (by omega)]; exact e4
    obtain ⟨g, hg⟩ := choose_lt key
    refine ⟨some a, len0, m, g, rfl, fun hn => ⟨a, rfl, ?_, fun i j hi hj => (hg i (by omega)).1 j hj⟩, fun i hi => (hg i (by omega)).2, hl⟩
    have h0 := (hg 0 (by omega)).1 0 (by omega)
    have := World.block_lt_of_cell? w _ h0
    rwa [add_block] at this

set_option maxRecDepth 100000 in
theorem ways_lifted (os : Os) (started : os.Started) (H : Type) (enc : TypeId × Value → H) :
    ReturnsInHanded {} Try.checked os 16 .any (Rows.traceWaysSpec.pre6 enc Try.prog Try.f16 Rows.traceWaysRow.domain false) (Rows.traceWaysSpec.post enc Try.prog Try.f16 false true false false) := by
  refine law_lifted (C := Try.checked) own started (by kernel_rfl) Try.func16 rfl (fun ds h => ?_) rfl Try.underlying4 laid ?_
    (ChangeSpec.witness6 (enc := enc) (C := Try.checked) false ⟨#[], #[.agg #[.slice none 0 0, .slice none 0 0, .int .i64 0, .int .i64 0, .int .i64 0], .slice none 0 0, .agg #[.int .i64 0, .int .i64 0, .int .i64 0]], []⟩ 8 (by kernel_rfl) (by kernel_rfl) (by kernel_rfl) (by kernel_rfl)) ?_
  · match ds, h with
    | [d0, d1, d2], _ => exact ⟨rfl, rfl, rfl⟩
  · intro t ht
    have ht' : t ∈ ([27, 31, 54] : List TypeId) := ht
    simp only [List.mem_cons, List.not_mem_nil, or_false] at ht'
    rcases ht' with rfl | rfl | rfl
    all_goals exact ⟨by kernel_rfl, of_decide_eq_true (by kernel_rfl)⟩
  · intro W base args ds ps hval hA hlt hfz hsz
    have hA' : DataW.TrodAll enc Try.prog W 0 (fun _ => true) true [27, 31, 54] args.toList ds ps := hA
    clear hA
    obtain ⟨v0, v1, v2, d0, d1, d2, p0, p1, p2, hargs, rfl, rfl, h0, h1, h2⟩ := trodAll_three hA'
    obtain rfl : args = #[v0, v1, v2] := by cases args; simp_all
    obtain ⟨S, A, c, R, e, rfl, hS⟩ := open_sys (hval 0 27 v0 rfl rfl) h0
    obtain ⟨B, n, cb, E, rfl, hE, hwf, hcb⟩ := open_eventsC (hval 1 31 v1 rfl rfl) h1
    obtain ⟨i, j, cell, rfl⟩ := open_at (hval 2 54 v2 rfl rfl) h2
    exact (ways_walk hS hE hcb hwf i j cell).mono fun e W' ⟨he, hk⟩ => ⟨he, hk.below⟩

theorem ways_holds : Rows.TraceWaysSaid :=
  OpenClaim.holds_of_wide 16 Try.f16 rfl rfl rfl rfl rfl rfl rfl ⟨rfl, rfl, rfl, rfl, rfl⟩ rfl rfl rfl rfl rfl (by kernel_rfl) Try.func16 (by kernel_rfl)
    (of_decide_eq_true (by kernel_rfl)) (by unfold Func.isWrapper; rw [if_neg (of_decide_eq_false (by kernel_rfl))]; exact ⟨rfl, rfl⟩)
    (fun os started H enc _ => ways_lifted os started H enc)
end Go.Proofs.Ytakmcpadkanggaa
