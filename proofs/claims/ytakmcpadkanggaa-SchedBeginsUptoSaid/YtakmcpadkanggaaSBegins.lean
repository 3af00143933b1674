/-
  SchedBegins, where what comes in is of bulk at most 1048576: runs by two pick lists of which one begins with the other begin alike; the law returns true.
-/
import Derived.Test.YtakmcpadkanggaaT47
import Derived.Test.YtakmcpadkanggaaBig
import Derived.Test.YtakmcpadkanggaaRows
namespace Go.Proofs.Ytakmcpadkanggaa
open Go.ChangeShapes Go.WideShapes Go.ChangeAt Go.RowKit
theorem own : ownKnob Try.prog.godebug = none := by kernel_rfl
theorem laid : laidOutB Try.prog = true := by kernel_rfl

theorem sbegins_walk {w : World} {S : Sys} {A : Option Addr} {c : Nat} {R : Option Addr} {d : Nat} {xs ys : List Int} {pv qv : Value} (hS : SysIn w S A c R d) (hp : IntL w pv xs) (hq : IntL w qv ys) (hpn : ∀ n c, pv = .slice none n c → n = 0 ∧ c = 0) (hqn : ∀ n c, qv = .slice none n c → n = 0 ∧ c = 0) (hl : xs.length ≤ 2000000) (hm : ys.length ≤ 2000000) :
    Calls Try.prog 5 #[.agg (sysV S A c R d), pv, qv] w fun e w' => e = .returned (.bool true) ∧ Keeps w w' [] := by
  cases hv : validB S with
  | false => exact sbegins_bad hS hv
  | true => exact sbegins_good hS hv hp hq hpn hqn hl hm

set_option maxRecDepth 100000 in
theorem contract (H : Type) (enc : TypeId × Value → H) (W : World) (base : Nat) (args : Array Value) (ds gs : List (DataW H)) (before : List MemPlace)
    (hval : ∀ (j : Nat) t v, Try.f5.params[j]? = some t → args[j]? = some v → Value.okWide Try.prog W .any base t v)
    (hW : DataW.Whole enc Try.prog Try.f5.params.toList Rows.schedBeginsSpec.vars false W args.toList ds gs before) (hk : Rows.uptoSmall H (ds ++ gs) = true) :
    Calls Try.prog 5 args W fun e W' => ∃ v, e = .returned v ∧ Rows.schedBeginsSpec.post enc Try.prog Try.f5 false true false false W args v W' := by
  have hlt : ∀ p ∈ before, p.block < W.heap.size := fun p hp => hW.lt p hp
  have hW' := hW
  obtain ⟨p, q, hA0, hV, rfl, hfz, hnd⟩ := hW
  have hA : DataW.TrodAll enc Try.prog W 0 (fun _ => true) true [27, 25, 25] args.toList ds p := hA0
  obtain ⟨rfl, rfl⟩ := trodVars_none hV
  simp only [List.append_nil] at hlt hW' hk
  have hbk : Rows.uptoBulkAll ds ≤ 1048576 := of_decide_eq_true hk
  obtain ⟨v0, v1, v2, d0, d1, d2, p0, p1, p2, hargs, rfl, rfl, h0, h1, h2⟩ := trodAll_three hA
  obtain rfl : args = #[v0, v1, v2] := by cases args; simp_all
  obtain ⟨S, A, c, R, e, rfl, hS⟩ := open_sys (hval 0 27 v0 rfl rfl) h0
  obtain ⟨xs, hp, hl, hpn⟩ := open_picks_bulk (hval 1 25 v1 rfl rfl) h1
  obtain ⟨ys, hq, hm, hqn⟩ := open_picks_bulk (hval 2 25 v2 rfl rfl) h2
  have hb1 : Rows.uptoBulk d1 ≤ Rows.uptoBulkAll [d0, d1, d2] := bulk_part (by simp)
  have hb2 : Rows.uptoBulk d2 ≤ Rows.uptoBulkAll [d0, d1, d2] := bulk_part (by simp)
  refine (sbegins_walk hS hp hq hpn hqn (by omega) (by omega)).mono fun e W' ⟨he, hk'⟩ => ?_
  subst he
  have hbl := hk'.below
  refine ⟨_, rfl, _, [], _, [], p0 ++ p1 ++ p2, [], hW', ?_, ?_, ?_, ?_, fun h => by cases h⟩
  · rw [List.append_nil]
    exact trodAll_mk1 (shut_bool Try.underlying4 true)
  · rw [List.append_nil]
    refine trodAll_stays laid _ _ _ _ (fun t ht => ?_) hA (fun x hx => hbl.same (hlt x hx)) (fun x hx => by simpa using hlt x hx)
    have ht' : t ∈ ([27, 25, 25] : List TypeId) := ht
    simp only [List.mem_cons, List.not_mem_nil, or_false] at ht'
    rcases ht' with rfl | rfl | rfl
    all_goals exact ⟨by kernel_rfl, of_decide_eq_true (by kernel_rfl)⟩
  · trivial
  · exact World.keptBut_mono (fun x hx => ⟨hx, by simpa using hx⟩) (hbl.frame (· ∈ p0 ++ p1 ++ p2))

set_option maxRecDepth 100000 in
theorem sbegins_lifted (os : Os) (started : os.Started) (H : Type) (enc : TypeId × Value → H) (F : Stop.Interp) :
    ReturnsInHanded {} Try.checked os 5 .any ((Rows.OpenSpec.upto Rows.schedBeginsSpec).pre6 enc Try.prog Try.f5 Rows.schedBeginsUptoRow.domain false) (((Rows.OpenSpec.upto Rows.schedBeginsSpec).at F).post enc Try.prog Try.f5 false true false false) := by
  refine returnsInHanded_of_cond (C := Try.checked) (s := Rows.OpenSpec.upto Rows.schedBeginsSpec) (k := Rows.uptoSmall) rfl own started (by kernel_rfl) Try.func5
    (OpenSpec.witness (enc := enc) (C := Try.checked) (s := Rows.OpenSpec.upto Rows.schedBeginsSpec) (k := Rows.uptoSmall) rfl false ⟨#[], #[.agg #[.slice none 0 0, .slice none 0 0, .int .i64 0, .int .i64 0, .int .i64 0], .slice none 0 0, .slice none 0 0], []⟩ 8 (by kernel_rfl) (by kernel_rfl) (by kernel_rfl)
      (x := ([.agg [.nil, .nil, .lit (.int .i64 0), .lit (.int .i64 0), .lit (.int .i64 0)], .nil, .nil], [], [])) (by kernel_rfl) rfl (by kernel_rfl)) ?_
  intro W base args ds gs before hval hW _ hk _
  exact contract H enc W base args ds gs before hval hW hk

theorem sbegins_holds : Rows.SchedBeginsUptoSaid :=
  OpenClaim.holds_of_cond 5 Try.f5 rfl rfl rfl rfl rfl rfl rfl ⟨rfl, rfl, rfl, rfl, rfl⟩ rfl rfl rfl rfl rfl (by kernel_rfl) Try.func5 (by kernel_rfl)
    (of_decide_eq_true (by kernel_rfl)) (by unfold Func.isWrapper; rw [if_neg (of_decide_eq_false (by kernel_rfl))]; exact ⟨rfl, rfl⟩)
    (fun os started H enc _ F => sbegins_lifted os started H enc F)
end Go.Proofs.Ytakmcpadkanggaa
