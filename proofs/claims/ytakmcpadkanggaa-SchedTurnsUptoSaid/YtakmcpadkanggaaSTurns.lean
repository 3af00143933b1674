/-
  SchedTurns, where what comes in is of bulk at most 1048576: picks that a number is added to that every count of ready runners divides play the same run; the law returns true.
-/
import Derived.Test.YtakmcpadkanggaaT46
import Derived.Test.YtakmcpadkanggaaBig
import Derived.Test.YtakmcpadkanggaaRows
namespace Go.Proofs.Ytakmcpadkanggaa
open Go.ChangeShapes Go.WideShapes Go.ChangeAt Go.RowKit
theorem own : ownKnob Try.prog.godebug = none := by kernel_rfl
theorem laid : laidOutB Try.prog = true := by kernel_rfl

theorem sturns_walk {w : World} {S : Sys} {A : Option Addr} {c : Nat} {R : Option Addr} {d : Nat} {xs : List Int} {pv : Value} {z : Int} (hS : SysIn w S A c R d) (hp : IntL8 w pv xs) (hx : ∀ x ∈ xs, -128 ≤ x ∧ x < 128) (hz : -32768 ≤ z ∧ z < 32768) (hl : xs.length ≤ 2000000) :
    Calls Try.prog 8 #[.agg (sysV S A c R d), pv, .int .i16 z] w fun e w' => e = .returned (.bool true) ∧ Keeps w w' [] := by
  cases hv : validB S with
  | false => exact sturns_bad hS hv
  | true =>
    by_cases hnp : S.np ≤ 4
    · exact sturns_good hS hv hnp hp hx hz hl
    · exact sturns_many hS hv (by omega)

set_option maxRecDepth 100000 in
theorem contract (H : Type) (enc : TypeId × Value → H) (W : World) (base : Nat) (args : Array Value) (ds gs : List (DataW H)) (before : List MemPlace)
    (hval : ∀ (j : Nat) t v, Try.f8.params[j]? = some t → args[j]? = some v → Value.okWide Try.prog W .any base t v)
    (hW : DataW.Whole enc Try.prog Try.f8.params.toList Rows.schedTurnsSpec.vars false W args.toList ds gs before) (hk : Rows.uptoSmall H (ds ++ gs) = true) :
    Calls Try.prog 8 args W fun e W' => ∃ v, e = .returned v ∧ Rows.schedTurnsSpec.post enc Try.prog Try.f8 false true false false W args v W' := by
  have hlt : ∀ p ∈ before, p.block < W.heap.size := fun p hp => hW.lt p hp
  have hW' := hW
  obtain ⟨p, q, hA0, hV, rfl, hfz, hnd⟩ := hW
  have hA : DataW.TrodAll enc Try.prog W 0 (fun _ => true) true [27, 42, 43] args.toList ds p := hA0
  obtain ⟨rfl, rfl⟩ := trodVars_none hV
  simp only [List.append_nil] at hlt hW' hk
  have hbk : Rows.uptoBulkAll ds ≤ 1048576 := of_decide_eq_true hk
  obtain ⟨v0, v1, v2, d0, d1, d2, p0, p1, p2, hargs, rfl, rfl, h0, h1, h2⟩ := trodAll_three hA
  obtain rfl : args = #[v0, v1, v2] := by cases args; simp_all
  obtain ⟨S, A, c, R, e, rfl, hS⟩ := open_sys (hval 0 27 v0 rfl rfl) h0
  obtain ⟨xs, A1, c1, rfl, hl, hwf, _, hp⟩ := open_bulk Try.underlying42 Try.underlying44 (by kernel_rfl) (hval 1 42 v1 rfl rfl) h1
  obtain ⟨z, rfl, rfl, _, hz⟩ := open_int Try.underlying43 (hval 2 43 v2 rfl rfl) h2
  have hb1 : Rows.uptoBulk d1 ≤ Rows.uptoBulkAll [d0, d1, .lit (.int .i16 z)] := bulk_part (by simp)
  have hx : ∀ x ∈ xs, -128 ≤ x ∧ x < 128 := fun x hx => by
    have := hwf x hx
    simp only [Lit.wf, Bool.and_eq_true, decide_eq_true_eq] at this
    have a1 : IntKind.i8.min = -128 := by decide
    have a2 : IntKind.i8.max = 127 := by decide
    omega
  have hz' : -32768 ≤ z ∧ z < 32768 := by
    simp only [Lit.wf, Bool.and_eq_true, decide_eq_true_eq] at hz
    have a1 : IntKind.i16.min = -32768 := by decide
    have a2 : IntKind.i16.max = 32767 := by decide
    omega
  refine (sturns_walk hS ⟨A1, c1, rfl, hp⟩ hx hz' (by omega)).mono fun e W' ⟨he, hk'⟩ => ?_
  subst he
  have hbl := hk'.below
  refine ⟨_, rfl, _, [], _, [], p0 ++ p1 ++ p2, [], hW', ?_, ?_, ?_, ?_, fun h => by cases h⟩
  · rw [List.append_nil]
    exact trodAll_mk1 (shut_bool Try.underlying4 true)
  · rw [List.append_nil]
    refine trodAll_stays laid _ _ _ _ (fun t ht => ?_) hA (fun x hx => hbl.same (hlt x hx)) (fun x hx => by simpa using hlt x hx)
    have ht' : t ∈ ([27, 42, 43] : List TypeId) := ht
    simp only [List.mem_cons, List.not_mem_nil, or_false] at ht'
    rcases ht' with rfl | rfl | rfl
    all_goals exact ⟨by kernel_rfl, of_decide_eq_true (by kernel_rfl)⟩
  · trivial
  · exact World.keptBut_mono (fun x hx => ⟨hx, by simpa using hx⟩) (hbl.frame (· ∈ p0 ++ p1 ++ p2))

set_option maxRecDepth 100000 in
theorem sturns_lifted (os : Os) (started : os.Started) (H : Type) (enc : TypeId × Value → H) (F : Stop.Interp) :
    ReturnsInHanded {} Try.checked os 8 .any ((Rows.OpenSpec.upto Rows.schedTurnsSpec).pre6 enc Try.prog Try.f8 Rows.schedTurnsUptoRow.domain false) (((Rows.OpenSpec.upto Rows.schedTurnsSpec).at F).post enc Try.prog Try.f8 false true false false) := by
  refine returnsInHanded_of_cond (C := Try.checked) (s := Rows.OpenSpec.upto Rows.schedTurnsSpec) (k := Rows.uptoSmall) rfl own started (by kernel_rfl) Try.func8
    (OpenSpec.witness (enc := enc) (C := Try.checked) (s := Rows.OpenSpec.upto Rows.schedTurnsSpec) (k := Rows.uptoSmall) rfl false ⟨#[], #[.agg #[.slice none 0 0, .slice none 0 0, .int .i64 0, .int .i64 0, .int .i64 0], .slice none 0 0, .int .i16 0], []⟩ 8 (by kernel_rfl) (by kernel_rfl) (by kernel_rfl)
      (x := ([.agg [.nil, .nil, .lit (.int .i64 0), .lit (.int .i64 0), .lit (.int .i64 0)], .nil, .lit (.int .i16 0)], [], [])) (by kernel_rfl) rfl (by kernel_rfl)) ?_
  intro W base args ds gs before hval hW _ hk _
  exact contract H enc W base args ds gs before hval hW hk

theorem sturns_holds : Rows.SchedTurnsUptoSaid :=
  OpenClaim.holds_of_cond 8 Try.f8 rfl rfl rfl rfl rfl rfl rfl ⟨rfl, rfl, rfl, rfl, rfl⟩ rfl rfl rfl rfl rfl (by kernel_rfl) Try.func8 (by kernel_rfl)
    (of_decide_eq_true (by kernel_rfl)) (by unfold Func.isWrapper; rw [if_neg (of_decide_eq_false (by kernel_rfl))]; exact ⟨rfl, rfl⟩)
    (fun os started H enc _ F => sturns_lifted os started H enc F)
end Go.Proofs.Ytakmcpadkanggaa
