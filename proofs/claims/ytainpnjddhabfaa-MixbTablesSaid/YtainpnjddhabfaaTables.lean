/-
  MixbTables: for every round number the IV and the order of mixb are the reference's; the law returns true for every input.
-/
import Derived.Test.YtainpnjddhabfaaRows
import Derived.Test.YtainpnjddhabfaaLaw
import Derived.Test.YtainpnjddhabfaaW4
namespace Go.Proofs.Ytainpnjddhabfaa
open Go.ChangeShapes Go.WideShapes Go.ChangeAt Go.RowKit

theorem tables_walk (r : Int) (w : World) : Calls Try.prog 3 #[.int .i64 r] w fun e w' => e = .returned (.bool true) ∧ Keeps w w' [] := by
  go_enter Try.func3, Try.ntmps3
  go_wp2_with (first
    | (go_at_call 12; refine (iv_any _).mono ?_; rintro e W0 ⟨rfl, K0⟩)
    | (refine wpList_alloc 3 (words 8 fun _ => 0) rfl rfl rfl (fun _ => by kernel_rfl) ?_; intro W1 K1 B1 s1; simp only [Act.put, List.setIfInBounds_toArray, List.set_cons_zero, List.set_cons_succ])
    | (refine wpList_store_row (.tmp 3) (.tmp 7) rfl rfl rfl rfl rfl B1 (by kernel_rfl) (by rw [words_size, words_size]) (words_cell _ _) ?_; intro W2 K2 B2))
  have K2' : Keeps w W2 [] := (K0.trans K1 (by simp)).trans K2 (by have := K0.size; simp; omega)
  clear K0 K1 K2 B1 s1
  go_loopw [4] (fun i wr => ∃ k : Nat, k ≤ 8 ∧ i = .int .i64 k ∧ Keeps W2 wr []) (fun i _ => 8 - (intOf i).toNat)
  case atStart => exact ⟨0, by omega, rfl, Keeps.refl _ _⟩
  case round =>
    obtain ⟨k, hk, rfl, hkr⟩ := hrel
    have B3 := B2.keeps hkr (by simp)
    have lc := Later.cell B3
    by_cases hlt : k < 8
    · have g1 : ((k : Int)) < 8 := by omega
      go_wp2
      refine wp_quiet_later (by kernel_rfl) (by kernel_rfl) ?_
      repeat (go_big_quiet_step ((go_at_call 13; exact later_of (refiv_any _ hlt _))))
      refine wpQuiet_nil ?_
      intro _ hw
      obtain ⟨p, rfl⟩ := hw
      go_wp2
      go_roundw
      case rel => exact ⟨k + 1, by omega, by go_num, hkr.trans p.2 (by simp)⟩
      case measure => simp [intOf]; omega
    · have g1 : ¬ ((k : Int)) < 8 := by omega
      have K3 : Keeps w wr [] := K2'.trans hkr (by simp)
      clear lc B3 hkr B2 K2'
      go_wp2_with (first
        | (go_at_call 14; refine (sigma_any _ _).mono ?_; rintro e W3 ⟨rfl, K4⟩)
        | (refine wpList_alloc 5 (ints 16 fun _ => 0) rfl rfl rfl (fun _ => by kernel_rfl) ?_; intro W4 K5 B4 s4; simp only [Act.put, List.setIfInBounds_toArray, List.set_cons_zero, List.set_cons_succ])
        | (refine wpList_store_row (.tmp 5) (.tmp 19) rfl rfl rfl rfl rfl B4 (by kernel_rfl) (by rw [ints_size, ints_size]) (ints_cell _ _) ?_; intro W5 K6 B5))
      have K7 : Keeps w W5 [] := ((K3.trans K4 (by simp)).trans K5 (by simp)).trans K6 (by have := K3.size; have := K4.size; simp; omega)
      clear K3 K4 K5 K6 B4 s4
      go_loopw [6] (fun i wr => ∃ k : Nat, k ≤ 16 ∧ i = .int .i64 k ∧ Keeps W5 wr []) (fun i _ => 16 - (intOf i).toNat)
      case atStart => exact ⟨0, by omega, rfl, Keeps.refl _ _⟩
      case round =>
        obtain ⟨j, hj, rfl, hjr⟩ := hrel
        have B6 := B5.keeps hjr (by simp)
        have lc := Later.cell B6
        have lg := ints_get 16 (sig (row r))
        by_cases hlt : j < 16
        · go_wp2
          refine wp_quiet_later (by kernel_rfl) (by kernel_rfl) ?_
          repeat (go_big_quiet_step ((go_at_call 15; exact later_left (sigref_any _ _ hlt _))))
          refine wpQuiet_nil ?_
          intro _ hw
          obtain ⟨p, rfl⟩ := hw
          go_wp2
          go_roundw
          case rel => exact ⟨j + 1, by omega, by go_num, hjr.trans p.2 (by simp)⟩
          case measure => simp [intOf]; omega
        · go_wp2
          go_ret
          exact ⟨rfl, K7.trans hjr (by simp)⟩

theorem own : ownKnob Try.prog.godebug = none := by kernel_rfl
theorem laid : laidOutB Try.prog = true := by kernel_rfl

set_option maxRecDepth 100000 in
theorem tables_lifted (os : Os) (started : os.Started) (H : Type) (enc : TypeId × Value → H) :
    ReturnsInHanded {} Try.checked os 3 .any (Rows.mixbTablesSpec.pre6 enc Try.prog Try.f3 Rows.mixbTablesRow.domain false) (Rows.mixbTablesSpec.post enc Try.prog Try.f3 false true false false) := by
  refine law_lifted (C := Try.checked) own started (by kernel_rfl) Try.func3 rfl (fun ds h => ?_) rfl Try.underlying4 laid ?_
    (ChangeSpec.witness6 (enc := enc) (C := Try.checked) false ⟨#[], #[.int .i64 0], []⟩ 8 (by kernel_rfl) (by kernel_rfl) (by kernel_rfl) (by kernel_rfl)) ?_
  · match ds, h with
    | [d], _ => exact ⟨rfl, rfl, rfl⟩
  · intro t ht
    have ht' : t ∈ ([3] : List TypeId) := ht
    simp only [List.mem_singleton] at ht'
    subst ht'
    exact ⟨by kernel_rfl, of_decide_eq_true (by kernel_rfl)⟩
  · intro W base args ds ps hval hA _ _ _
    have hA' : DataW.TrodAll enc Try.prog W 0 (fun _ => true) true [3] args.toList ds ps := hA
    obtain ⟨v0, d0, hargs, rfl, h0⟩ := trodAll_one hA'
    obtain rfl : args = #[v0] := by cases args; simp_all
    obtain ⟨r, rfl, rfl, rfl, _⟩ := open_int Try.underlying3 (hval 0 3 v0 rfl rfl) h0
    exact (tables_walk r W).mono fun e W' ⟨he, hk⟩ => ⟨he, hk.below⟩

theorem tables_holds : Rows.MixbTablesSaid :=
  OpenClaim.holds_of_wide 3 Try.f3 rfl rfl rfl rfl rfl rfl rfl ⟨rfl, rfl, rfl, rfl, rfl⟩ rfl rfl rfl rfl rfl (by kernel_rfl) Try.func3 (by kernel_rfl)
    (of_decide_eq_true (by kernel_rfl)) (by unfold Func.isWrapper; rw [if_neg (of_decide_eq_false (by kernel_rfl))]; exact ⟨rfl, rfl⟩)
    (fun os started H enc _ => tables_lifted os started H enc)
end Go.Proofs.Ytainpnjddhabfaa
