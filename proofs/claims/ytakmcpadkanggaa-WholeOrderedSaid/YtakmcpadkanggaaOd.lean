/-
 WholeOrdered: in a run of a pool each leaf is hashed before it is folded, by the order of the events; the law returns true.
-/
import Derived.Test.YtakmcpadkanggaaOd13
import Derived.Test.YtakmcpadkanggaaRows
namespace Go.Proofs.Ytakmcpadkanggaa
open Go.ChangeShapes Go.WideShapes Go.ChangeAt Go.RowKit

theorem own : ownKnob Try.prog.godebug = none := by kernel_rfl
theorem laid : laidOutB Try.prog = true := by kernel_rfl
set_option maxRecDepth 100000 in
theorem open_pool {H : Type} {enc : TypeId × Value → H} {w : World} {base : Nat} {v : Value} {d : DataW H} {p : List MemPlace} (hval : Value.okWide Try.prog w .any base 89 v) (h : DataW.Trod enc Try.prog w 0 (fun _ => true) true 89 v d p) :
   ∃ x y : Int, v = .agg (plV x y) := by
 obtain ⟨cs, rfl, hs⟩ := okWide_struct Try.underlying89 hval
 obtain ⟨fuel, hf⟩ := h
 have h5 : Try.prog.cellsOf 89 = 2 := by kernel_rfl
 rw [h5] at hs
 obtain ⟨xs, n, _, _, _, hlen, hx⟩ := DataW.trod_struct Try.underlying89 hf
 obtain ⟨l⟩ := cs
 match l, hs, xs, hlen with
 | [v0, v1], _, [y0, y1], _ =>
   obtain ⟨n0, e0⟩ := field1 (j := 0) (by simpa using hx 0 _ rfl)
   obtain ⟨n1, e1⟩ := field1 (j := 1) (by simpa using hx 1 _ rfl)
   simp [Value.cells] at e0 e1
   subst e0 e1
   exact ⟨n0, n1, rfl⟩
set_option maxRecDepth 100000 in
theorem open_byte {H : Type} {enc : TypeId × Value → H} {w : World} {base : Nat} {v : Value} {d : DataW H} {p : List MemPlace} (hval : Value.okWide Try.prog w .any base 5 v) (h : DataW.Trod enc Try.prog w 0 (fun _ => true) true 5 v d p) :
   ∃ j : Nat, j ≤ 255 ∧ v = .int .u8 (j : Int) := by
 obtain ⟨n, rfl⟩ := okWide_int Try.underlying5 hval
 obtain ⟨fuel, hf⟩ := h
 obtain ⟨m, e, _, hw⟩ := DataW.trod_int Try.underlying5 hf
 have e2 : m = n := by simp [Value.cells] at e; exact e.symm
 subst e2
 have e1 : IntKind.u8.min = 0 := by decide
 have e3 : IntKind.u8.max = 255 := by decide
 simp only [Lit.wf, e1, e3, Bool.and_eq_true, decide_eq_true_eq] at hw
 exact ⟨m.toNat, by omega, by rw [Int.toNat_of_nonneg (by omega)]⟩

set_option maxRecDepth 100000 in
theorem ordered15_lifted (os : Os) (started : os.Started) (H : Type) (enc : TypeId × Value → H) :
   ReturnsInHanded {} Try.checked os 19 .any (Rows.wholeOrderedSpec.pre6 enc Try.prog Try.f19 Rows.wholeOrderedRow.domain false) (Rows.wholeOrderedSpec.post enc Try.prog Try.f19 false true false false) := by
 refine law_lifted (C := Try.checked) own started (by kernel_rfl) Try.func19 rfl (fun ds h => ?_) rfl Try.underlying4 laid ?_
   (ChangeSpec.witness6 (enc := enc) (C := Try.checked) false ⟨#[], #[.int .u8 0, .agg #[.int .i64 0, .int .i64 0], .slice none 0 0], []⟩ 8 (by kernel_rfl) (by kernel_rfl) (by kernel_rfl) (by kernel_rfl)) ?_
 · match ds, h with
   | [d0, d1, d2], _ => exact ⟨rfl, rfl, rfl⟩
 · intro t ht
   have ht' : t ∈ ([5, 89, 25] : List TypeId) := ht
   simp only [List.mem_cons, List.not_mem_nil, or_false] at ht'
   rcases ht' with rfl | rfl | rfl
   all_goals exact ⟨by kernel_rfl, of_decide_eq_true (by kernel_rfl)⟩
 · intro W base args ds ps hval hA hlt hfz hsz
   have hA' : DataW.TrodAll enc Try.prog W 0 (fun _ => true) true [5, 89, 25] args.toList ds ps := hA
   clear hA
   obtain ⟨v0, v1, v2, d0, d1, d2, p0, p1, p2, hargs, rfl, rfl, h0, h1, h2⟩ := trodAll_three hA'
   obtain rfl : args = #[v0, v1, v2] := by cases args; simp_all
   obtain ⟨jb, hj, rfl⟩ := open_byte (hval 0 5 v0 rfl rfl) h0
   obtain ⟨x, y, rfl⟩ := open_pool (hval 1 89 v1 rfl rfl) h1
   obtain ⟨picks, hp⟩ := open_picks (hval 2 25 v2 rfl rfl) h2
   exact (ordered_walk jb hj x y v2 picks hp).mono fun e W' ⟨he, hk⟩ => ⟨he, hk.below⟩

theorem ordered15_holds : Rows.WholeOrderedSaid :=
 OpenClaim.holds_of_wide 19 Try.f19 rfl rfl rfl rfl rfl rfl rfl ⟨rfl, rfl, rfl, rfl, rfl⟩ rfl rfl rfl rfl rfl (by kernel_rfl) Try.func19 (by kernel_rfl)
   (of_decide_eq_true (by kernel_rfl)) (by unfold Func.isWrapper; rw [if_neg (of_decide_eq_false (by kernel_rfl))]; exact ⟨rfl, rfl⟩)
   (fun os started H enc _ => ordered15_lifted os started H enc)
end Go.Proofs.Ytakmcpadkanggaa
