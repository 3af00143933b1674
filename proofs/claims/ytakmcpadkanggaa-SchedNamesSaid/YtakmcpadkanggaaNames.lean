/-
  SchedNames: the numbers of this layer; the law returns true.
-/
import Derived.Test.YtakmcpadkanggaaProg
import Derived.Test.YtakmcpadkanggaaOwn
import Derived.Test.YtakmcpadkanggaaRows
import Derived.Test.YtakmcpadkanggaaLaw
import Derived.Lib.Hide
namespace Go.Proofs.Ytakmcpadkanggaa
open Go.ChangeShapes Go.WideShapes Go.ChangeAt Go.RowKit

theorem own : ownKnob Try.prog.godebug = none := by kernel_rfl
theorem laid : laidOutB Try.prog = true := by kernel_rfl
theorem tmod_facts (n m : Int) (hm : 1 ≤ m) : -m < n.tmod m ∧ n.tmod m < m ∧ (n.tmod m < 0 → n.tmod m + m = n % m) ∧ (0 ≤ n.tmod m → n.tmod m = n % m) := by
  have h1 := Int.lt_tmod_of_pos n (b := m) (by omega)
  have h2 := Int.tmod_lt_of_pos n (b := m) (by omega)
  have h3 : (n.tmod m) % m = n % m := by rw [Int.tmod_def]; exact Int.sub_mul_emod_self_left n m _
  refine ⟨h1, h2, fun h => ?_, fun h => ?_⟩
  · rw [← h3, ← Int.add_emod_right, Int.emod_eq_of_lt (by omega) (by omega)]
  · rw [← h3, Int.emod_eq_of_lt h h2]

theorem rest_any (n m : Int) (hm : 1 ≤ m ∧ m ≤ 64) (w : World) : Calls Try.prog 22 #[.int .i64 n, .int .i64 m] w fun e w' => e = .returned (.int .i64 (n % m)) ∧ w = w' := by
  obtain ⟨h1, h2, h3, h4⟩ := tmod_facts n m hm.1
  by_cases h : n.tmod m < 0
  · have H := Lib.hid (h3 h)
    clear h3 h4
    go_enter Try.func22, Try.ntmps22
    go_wp2
    go_ret
    exact ⟨by rw [← H.out]; rfl, rfl⟩
  · have H := Lib.hid (h4 (by omega))
    clear h3 h4
    go_enter Try.func22, Try.ntmps22
    go_wp2
    go_ret
    exact ⟨by rw [← H.out]; rfl, rfl⟩


theorem valid_zero (w : World) : Calls Try.prog 21 #[.agg #[.slice none 0 0, .slice none 0 0, .int .i64 0, .int .i64 0, .int .i64 0]] w fun e w' => e = .returned (.int .i64 130) ∧ Keeps w w' [] := by
  have O := Own.start w []
  go_enter Try.func21, Try.ntmps21
  go_wp2_with (first
    | (refine own_box 1 (#[.slice none 0 0, .slice none 0 0, .int .i64 0, .int .i64 0, .int .i64 0]) O rfl rfl rfl rfl ?_; clear O; intro W a1 O; simp only [Act.put, List.setIfInBounds_toArray, List.set_cons_zero, List.set_cons_succ]; have c1 := (O.get 0 rfl).cell))
  go_ret
  exact ⟨rfl, O.keep⟩

theorem names_walk (w : World) : Calls Try.prog 3 #[] w fun e w' => e = .returned (.bool true) ∧ Keeps w w' [] := by
  have O := Own.start w []
  have hr := fun w => rest_any (-1) 3 (by omega) w
  rw [show (-1 : Int) % 3 = 2 from by decide] at hr
  have HR := Lib.hid hr
  clear hr
  go_enter Try.func3, Try.ntmps3
  go_wp2_with (first
    | (refine wpList_const 1 (.agg #[.slice none 0 0, .slice none 0 0, .int .i64 0, .int .i64 0, .int .i64 0]) rfl rfl (fun _ => by kernel_rfl) ?_; simp only [Act.put, List.setIfInBounds_toArray, List.set_cons_zero, List.set_cons_succ])
    | (go_at_call 21; refine (valid_zero _).mono ?_; rintro e W ⟨rfl, K⟩; replace O := O.keeps K; clear K)
    | (go_at_call 22; refine (HR.out _).mono ?_; rintro e W ⟨rfl, rfl⟩))
  go_ret
  exact ⟨rfl, O.keep⟩

set_option maxRecDepth 100000 in
theorem names_lifted (os : Os) (started : os.Started) (H : Type) (enc : TypeId × Value → H) :
    ReturnsInHanded {} Try.checked os 3 .any (Rows.schedNamesSpec.pre6 enc Try.prog Try.f3 Rows.schedNamesRow.domain false) (Rows.schedNamesSpec.post enc Try.prog Try.f3 false true false false) := by
  refine law_lifted (C := Try.checked) own started (by kernel_rfl) Try.func3 rfl (fun ds h => ?_) rfl Try.underlying4 laid ?_
    (ChangeSpec.witness6 (enc := enc) (C := Try.checked) false ⟨#[], #[], []⟩ 8 (by kernel_rfl) (by kernel_rfl) (by kernel_rfl) (by kernel_rfl)) ?_
  · match ds, h with
    | [], _ => exact ⟨rfl, rfl, rfl⟩
  · intro t ht
    have ht' : t ∈ ([] : List TypeId) := ht
    cases ht'
  · intro W base args ds ps hval hA hlt hfz hsz
    have hA' : DataW.TrodAll enc Try.prog W 0 (fun _ => true) true [] args.toList ds ps := hA
    clear hA
    obtain ⟨hargs, rfl, rfl⟩ := trodAll_nil hA'
    obtain rfl : args = #[] := by cases args; simp_all
    exact (names_walk W).mono fun e W' ⟨he, hk⟩ => ⟨he, hk.below⟩

theorem names_holds : Rows.SchedNamesSaid :=
  OpenClaim.holds_of_wide 3 Try.f3 rfl rfl rfl rfl rfl rfl rfl ⟨rfl, rfl, rfl, rfl, rfl⟩ rfl rfl rfl rfl rfl (by kernel_rfl) Try.func3 (by kernel_rfl)
    (of_decide_eq_true (by kernel_rfl)) (by unfold Func.isWrapper; rw [if_neg (of_decide_eq_false (by kernel_rfl))]; exact ⟨rfl, rfl⟩)
    (fun os started H enc _ => names_lifted os started H enc)
end Go.Proofs.Ytakmcpadkanggaa
