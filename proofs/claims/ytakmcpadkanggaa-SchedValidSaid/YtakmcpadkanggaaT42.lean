/-
  The walk of SchedValid.
-/
import Derived.Test.YtakmcpadkanggaaT41
import Derived.Test.YtakmcpadkanggaaT7
namespace Go.Proofs.Ytakmcpadkanggaa
open Go.ChangeShapes Go.WideShapes Go.ChangeAt Go.RowKit Go.Maps Go.Deep

section
variable {w : World} {S : Sys} {A : Option Addr} {c : Nat} {R : Option Addr} {d : Nat}
set_option maxRecDepth 100000 in
theorem svalid_walk (hS : SysIn w S A c R d) : Calls Try.prog 4 #[.agg (sysV S A c R d)] w fun e w' => e = .returned (.bool true) ∧ Keeps w w' [] := by
  have O := Own.start w []
  cases hv : validB S with
  | true =>
    have HV := Lib.hid (fun u (k : Keeps w u []) => show Calls Try.prog 21 #[.agg (sysV S A c R d)] u fun e w' => e = .returned (.int .i64 0) ∧ Keeps u w' [] from by have := valid_any (hS.kept k); rwa [validE_yes hv] at this)
    have HR := Lib.hid (fun u (k : Keeps w u []) => show Calls Try.prog 23 #[.agg (sysV S A c R d)] u fun e w' => e = .returned (.bool true) ∧ Keeps u w' [] from by have := refvalid_any (hS.kept k); rwa [hv] at this)
    clear hv hS
    go_enter Try.func4, Try.ntmps4
    go_wp2_with (first
      | (refine own_box 1 (sysV S A c R d) O rfl rfl rfl rfl ?_; clear O; intro W ps O; simp only [Act.put, List.setIfInBounds_toArray, List.set_cons_zero, List.set_cons_succ])
      | (refine own_load 4 0 O rfl rfl rfl rfl rfl Try.underlying27 rfl (by kernel_rfl) ?_; simp only [Act.put, List.setIfInBounds_toArray, List.set_cons_zero, List.set_cons_succ])
      | (refine own_load 6 0 O rfl rfl rfl rfl rfl Try.underlying27 rfl (by kernel_rfl) ?_; simp only [Act.put, List.setIfInBounds_toArray, List.set_cons_zero, List.set_cons_succ])
      | (go_at_call 21; refine (HV.out _ O.keep).mono ?_; rintro e W ⟨rfl, K⟩; replace O := O.keeps K; clear K)
      | (go_at_call 23; refine (HR.out _ O.keep).mono ?_; rintro e W ⟨rfl, K⟩; replace O := O.keeps K; clear K)
      | (go_at_call 24; refine awake_any.mono ?_; rintro e W ⟨rfl, K⟩; replace O := O.keeps K; clear K)
      | go_big_skip)
    go_ret
    exact ⟨rfl, O.keep⟩
  | false =>
    have HV := Lib.hid (fun u (k : Keeps w u []) => show Calls Try.prog 21 #[.agg (sysV S A c R d)] u fun e w' => e = .returned (.int .i64 130) ∧ Keeps u w' [] from by have := valid_any (hS.kept k); rwa [validE_no hv] at this)
    have HR := Lib.hid (fun u (k : Keeps w u []) => show Calls Try.prog 23 #[.agg (sysV S A c R d)] u fun e w' => e = .returned (.bool false) ∧ Keeps u w' [] from by have := refvalid_any (hS.kept k); rwa [hv] at this)
    clear hv hS
    go_enter Try.func4, Try.ntmps4
    go_wp2_with (first
      | (refine own_box 1 (sysV S A c R d) O rfl rfl rfl rfl ?_; clear O; intro W ps O; simp only [Act.put, List.setIfInBounds_toArray, List.set_cons_zero, List.set_cons_succ])
      | (refine own_load 4 0 O rfl rfl rfl rfl rfl Try.underlying27 rfl (by kernel_rfl) ?_; simp only [Act.put, List.setIfInBounds_toArray, List.set_cons_zero, List.set_cons_succ])
      | (refine own_load 6 0 O rfl rfl rfl rfl rfl Try.underlying27 rfl (by kernel_rfl) ?_; simp only [Act.put, List.setIfInBounds_toArray, List.set_cons_zero, List.set_cons_succ])
      | (go_at_call 21; refine (HV.out _ O.keep).mono ?_; rintro e W ⟨rfl, K⟩; replace O := O.keeps K; clear K)
      | (go_at_call 23; refine (HR.out _ O.keep).mono ?_; rintro e W ⟨rfl, K⟩; replace O := O.keeps K; clear K)
      | (go_at_call 24; refine awake_any.mono ?_; rintro e W ⟨rfl, K⟩; replace O := O.keeps K; clear K)
      | go_big_skip)
    go_ret
    exact ⟨rfl, O.keep⟩
end
end Go.Proofs.Ytakmcpadkanggaa
