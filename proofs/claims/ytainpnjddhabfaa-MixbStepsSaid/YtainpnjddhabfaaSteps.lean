/-
  The reference's G where the places are not four unlike ones; and MixbSteps: for every step asked, mixb.G is the reference's; the law returns true for every input.
-/
import Derived.Test.YtainpnjddhabfaaW9
import Derived.Test.YtainpnjddhabfaaBlock
namespace Go.Proofs.Ytainpnjddhabfaa
open Go.ChangeShapes Go.WideShapes Go.ChangeAt Go.RowKit

set_option maxRecDepth 100000 in
theorem refg_bad0 (V0 : Nat → BitVec 64) (a b c d : Int) (x y : BitVec 64) (w : World) (ka : okP a = false) :
    Calls Try.prog 20 #[.agg (words 16 V0), .int .i64 a, .int .i64 b, .int .i64 c, .int .i64 d, U64 x, U64 y] w fun e w' => e = .returned (.tuple #[.agg (words 16 fun _ => 0), .int .i64 1]) ∧ Keeps w w' [] := by
  have O := Own.start w []
  have pa := fun w => place_any a w
  rw [ka] at pa
  have Pa := Lib.hid pa
  clear pa ka
  go_enter Try.func20, Try.ntmps20
  go_wp2_with (first
    | (refine own_box 7 (words 16 V0) O rfl rfl rfl rfl ?_; clear O; intro W a0 O; simp only [Act.put, List.setIfInBounds_toArray, List.set_cons_zero, List.set_cons_succ])
    | (refine own_alloc 14 (words 16 fun _ => 0) O rfl rfl rfl (fun _ => by kernel_rfl) ?_; clear O; intro W a1 O; simp only [Act.put, List.setIfInBounds_toArray, List.set_cons_zero, List.set_cons_succ])
    | (go_at_call 38; first | ((with_reducible refine (Pa.out _).mono ?_); rintro e W ⟨rfl, rfl⟩))
    | (refine wpList_const 64 (.agg (words 16 fun _ => 0)) rfl rfl (fun _ => by kernel_rfl) ?_; simp only [Act.put, List.setIfInBounds_toArray, List.set_cons_zero, List.set_cons_succ])
    | (refine own_store_row 0 (.tmp 14) (.tmp 64) O rfl rfl rfl rfl rfl rfl (by kernel_rfl) (by simp only [words_size]) (words_cell _ _) ?_; clear O; intro W O; simp only [List.set_cons_zero, List.set_cons_succ] at O))
  refine bodyPost_ret (v := .tuple #[.agg (words 16 fun _ => 0), .int .i64 1]) (results_cell_tmp rfl _ _ a1 33 _ _ rfl (O.get 0 rfl) Try.underlying33 rfl (by kernel_rfl) _ rfl) rfl ⟨?_, O.keep⟩
  rfl
set_option maxRecDepth 100000 in
theorem refg_bad1 (V0 : Nat → BitVec 64) (a b c d : Int) (x y : BitVec 64) (w : World) (ka : okP a = true) (kb : okP b = false) :
    Calls Try.prog 20 #[.agg (words 16 V0), .int .i64 a, .int .i64 b, .int .i64 c, .int .i64 d, U64 x, U64 y] w fun e w' => e = .returned (.tuple #[.agg (words 16 fun _ => 0), .int .i64 1]) ∧ Keeps w w' [] := by
  have O := Own.start w []
  have pa := fun w => place_any a w
  rw [ka] at pa
  have Pa := Lib.hid pa
  clear pa ka
  have pb := fun w => place_any b w
  rw [kb] at pb
  have Pb := Lib.hid pb
  clear pb kb
  go_enter Try.func20, Try.ntmps20
  go_wp2_with (first
    | (refine own_box 7 (words 16 V0) O rfl rfl rfl rfl ?_; clear O; intro W a0 O; simp only [Act.put, List.setIfInBounds_toArray, List.set_cons_zero, List.set_cons_succ])
    | (refine own_alloc 14 (words 16 fun _ => 0) O rfl rfl rfl (fun _ => by kernel_rfl) ?_; clear O; intro W a1 O; simp only [Act.put, List.setIfInBounds_toArray, List.set_cons_zero, List.set_cons_succ])
    | (go_at_call 38; first | ((with_reducible refine (Pa.out _).mono ?_); rintro e W ⟨rfl, rfl⟩) | ((with_reducible refine (Pb.out _).mono ?_); rintro e W ⟨rfl, rfl⟩))
    | (refine wpList_const 64 (.agg (words 16 fun _ => 0)) rfl rfl (fun _ => by kernel_rfl) ?_; simp only [Act.put, List.setIfInBounds_toArray, List.set_cons_zero, List.set_cons_succ])
    | (refine own_store_row 0 (.tmp 14) (.tmp 64) O rfl rfl rfl rfl rfl rfl (by kernel_rfl) (by simp only [words_size]) (words_cell _ _) ?_; clear O; intro W O; simp only [List.set_cons_zero, List.set_cons_succ] at O))
  refine bodyPost_ret (v := .tuple #[.agg (words 16 fun _ => 0), .int .i64 1]) (results_cell_tmp rfl _ _ a1 33 _ _ rfl (O.get 0 rfl) Try.underlying33 rfl (by kernel_rfl) _ rfl) rfl ⟨?_, O.keep⟩
  rfl
set_option maxRecDepth 100000 in
theorem refg_bad2 (V0 : Nat → BitVec 64) (a b c d : Int) (x y : BitVec 64) (w : World) (ka : okP a = true) (kb : okP b = true) (kc : okP c = false) :
    Calls Try.prog 20 #[.agg (words 16 V0), .int .i64 a, .int .i64 b, .int .i64 c, .int .i64 d, U64 x, U64 y] w fun e w' => e = .returned (.tuple #[.agg (words 16 fun _ => 0), .int .i64 1]) ∧ Keeps w w' [] := by
  have O := Own.start w []
  have pa := fun w => place_any a w
  rw [ka] at pa
  have Pa := Lib.hid pa
  clear pa ka
  have pb := fun w => place_any b w
  rw [kb] at pb
  have Pb := Lib.hid pb
  clear pb kb
  have pc := fun w => place_any c w
  rw [kc] at pc
  have Pc := Lib.hid pc
  clear pc kc
  go_enter Try.func20, Try.ntmps20
  go_wp2_with (first
    | (refine own_box 7 (words 16 V0) O rfl rfl rfl rfl ?_; clear O; intro W a0 O; simp only [Act.put, List.setIfInBounds_toArray, List.set_cons_zero, List.set_cons_succ])
    | (refine own_alloc 14 (words 16 fun _ => 0) O rfl rfl rfl (fun _ => by kernel_rfl) ?_; clear O; intro W a1 O; simp only [Act.put, List.setIfInBounds_toArray, List.set_cons_zero, List.set_cons_succ])
    | (go_at_call 38; first | ((with_reducible refine (Pa.out _).mono ?_); rintro e W ⟨rfl, rfl⟩) | ((with_reducible refine (Pb.out _).mono ?_); rintro e W ⟨rfl, rfl⟩) | ((with_reducible refine (Pc.out _).mono ?_); rintro e W ⟨rfl, rfl⟩))
    | (refine wpList_const 64 (.agg (words 16 fun _ => 0)) rfl rfl (fun _ => by kernel_rfl) ?_; simp only [Act.put, List.setIfInBounds_toArray, List.set_cons_zero, List.set_cons_succ])
    | (refine own_store_row 0 (.tmp 14) (.tmp 64) O rfl rfl rfl rfl rfl rfl (by kernel_rfl) (by simp only [words_size]) (words_cell _ _) ?_; clear O; intro W O; simp only [List.set_cons_zero, List.set_cons_succ] at O))
  refine bodyPost_ret (v := .tuple #[.agg (words 16 fun _ => 0), .int .i64 1]) (results_cell_tmp rfl _ _ a1 33 _ _ rfl (O.get 0 rfl) Try.underlying33 rfl (by kernel_rfl) _ rfl) rfl ⟨?_, O.keep⟩
  rfl
set_option maxRecDepth 100000 in
theorem refg_bad3 (V0 : Nat → BitVec 64) (a b c d : Int) (x y : BitVec 64) (w : World) (ka : okP a = true) (kb : okP b = true) (kc : okP c = true) (kd : okP d = false) :
    Calls Try.prog 20 #[.agg (words 16 V0), .int .i64 a, .int .i64 b, .int .i64 c, .int .i64 d, U64 x, U64 y] w fun e w' => e = .returned (.tuple #[.agg (words 16 fun _ => 0), .int .i64 1]) ∧ Keeps w w' [] := by
  have O := Own.start w []
  have pa := fun w => place_any a w
  rw [ka] at pa
  have Pa := Lib.hid pa
  clear pa ka
  have pb := fun w => place_any b w
  rw [kb] at pb
  have Pb := Lib.hid pb
  clear pb kb
  have pc := fun w => place_any c w
  rw [kc] at pc
  have Pc := Lib.hid pc
  clear pc kc
  have pd := fun w => place_any d w
  rw [kd] at pd
  have Pd := Lib.hid pd
  clear pd kd
  go_enter Try.func20, Try.ntmps20
  go_wp2_with (first
    | (refine own_box 7 (words 16 V0) O rfl rfl rfl rfl ?_; clear O; intro W a0 O; simp only [Act.put, List.setIfInBounds_toArray, List.set_cons_zero, List.set_cons_succ])
    | (refine own_alloc 14 (words 16 fun _ => 0) O rfl rfl rfl (fun _ => by kernel_rfl) ?_; clear O; intro W a1 O; simp only [Act.put, List.setIfInBounds_toArray, List.set_cons_zero, List.set_cons_succ])
    | (go_at_call 38; first | ((with_reducible refine (Pa.out _).mono ?_); rintro e W ⟨rfl, rfl⟩) | ((with_reducible refine (Pb.out _).mono ?_); rintro e W ⟨rfl, rfl⟩) | ((with_reducible refine (Pc.out _).mono ?_); rintro e W ⟨rfl, rfl⟩) | ((with_reducible refine (Pd.out _).mono ?_); rintro e W ⟨rfl, rfl⟩))
    | (refine wpList_const 64 (.agg (words 16 fun _ => 0)) rfl rfl (fun _ => by kernel_rfl) ?_; simp only [Act.put, List.setIfInBounds_toArray, List.set_cons_zero, List.set_cons_succ])
    | (refine own_store_row 0 (.tmp 14) (.tmp 64) O rfl rfl rfl rfl rfl rfl (by kernel_rfl) (by simp only [words_size]) (words_cell _ _) ?_; clear O; intro W O; simp only [List.set_cons_zero, List.set_cons_succ] at O))
  refine bodyPost_ret (v := .tuple #[.agg (words 16 fun _ => 0), .int .i64 1]) (results_cell_tmp rfl _ _ a1 33 _ _ rfl (O.get 0 rfl) Try.underlying33 rfl (by kernel_rfl) _ rfl) rfl ⟨?_, O.keep⟩
  rfl
set_option maxRecDepth 100000 in
theorem refg_bad4 (V0 : Nat → BitVec 64) (a b c d : Int) (x y : BitVec 64) (w : World) (ka : okP a = true) (kb : okP b = true) (kc : okP c = true) (kd : okP d = true) (e0 : (a == b) = true) :
    Calls Try.prog 20 #[.agg (words 16 V0), .int .i64 a, .int .i64 b, .int .i64 c, .int .i64 d, U64 x, U64 y] w fun e w' => e = .returned (.tuple #[.agg (words 16 fun _ => 0), .int .i64 1]) ∧ Keeps w w' [] := by
  have O := Own.start w []
  have pa := fun w => place_any a w
  rw [ka] at pa
  have Pa := Lib.hid pa
  clear pa ka
  have pb := fun w => place_any b w
  rw [kb] at pb
  have Pb := Lib.hid pb
  clear pb kb
  have pc := fun w => place_any c w
  rw [kc] at pc
  have Pc := Lib.hid pc
  clear pc kc
  have pd := fun w => place_any d w
  rw [kd] at pd
  have Pd := Lib.hid pd
  clear pd kd
  go_enter Try.func20, Try.ntmps20
  go_wp2_with (first
    | (refine own_box 7 (words 16 V0) O rfl rfl rfl rfl ?_; clear O; intro W a0 O; simp only [Act.put, List.setIfInBounds_toArray, List.set_cons_zero, List.set_cons_succ])
    | (refine own_alloc 14 (words 16 fun _ => 0) O rfl rfl rfl (fun _ => by kernel_rfl) ?_; clear O; intro W a1 O; simp only [Act.put, List.setIfInBounds_toArray, List.set_cons_zero, List.set_cons_succ])
    | (go_at_call 38; first | ((with_reducible refine (Pa.out _).mono ?_); rintro e W ⟨rfl, rfl⟩) | ((with_reducible refine (Pb.out _).mono ?_); rintro e W ⟨rfl, rfl⟩) | ((with_reducible refine (Pc.out _).mono ?_); rintro e W ⟨rfl, rfl⟩) | ((with_reducible refine (Pd.out _).mono ?_); rintro e W ⟨rfl, rfl⟩))
    | (refine wpList_const 64 (.agg (words 16 fun _ => 0)) rfl rfl (fun _ => by kernel_rfl) ?_; simp only [Act.put, List.setIfInBounds_toArray, List.set_cons_zero, List.set_cons_succ])
    | (refine own_store_row 0 (.tmp 14) (.tmp 64) O rfl rfl rfl rfl rfl rfl (by kernel_rfl) (by simp only [words_size]) (words_cell _ _) ?_; clear O; intro W O; simp only [List.set_cons_zero, List.set_cons_succ] at O))
  refine bodyPost_ret (v := .tuple #[.agg (words 16 fun _ => 0), .int .i64 1]) (results_cell_tmp rfl _ _ a1 33 _ _ rfl (O.get 0 rfl) Try.underlying33 rfl (by kernel_rfl) _ rfl) rfl ⟨?_, O.keep⟩
  rfl
set_option maxRecDepth 100000 in
theorem refg_bad5 (V0 : Nat → BitVec 64) (a b c d : Int) (x y : BitVec 64) (w : World) (ka : okP a = true) (kb : okP b = true) (kc : okP c = true) (kd : okP d = true) (e0 : (a == b) = false) (e1 : (a == c) = true) :
    Calls Try.prog 20 #[.agg (words 16 V0), .int .i64 a, .int .i64 b, .int .i64 c, .int .i64 d, U64 x, U64 y] w fun e w' => e = .returned (.tuple #[.agg (words 16 fun _ => 0), .int .i64 1]) ∧ Keeps w w' [] := by
  have O := Own.start w []
  have pa := fun w => place_any a w
  rw [ka] at pa
  have Pa := Lib.hid pa
  clear pa ka
  have pb := fun w => place_any b w
  rw [kb] at pb
  have Pb := Lib.hid pb
  clear pb kb
  have pc := fun w => place_any c w
  rw [kc] at pc
  have Pc := Lib.hid pc
  clear pc kc
  have pd := fun w => place_any d w
  rw [kd] at pd
  have Pd := Lib.hid pd
  clear pd kd
  go_enter Try.func20, Try.ntmps20
  go_wp2_with (first
    | (refine own_box 7 (words 16 V0) O rfl rfl rfl rfl ?_; clear O; intro W a0 O; simp only [Act.put, List.setIfInBounds_toArray, List.set_cons_zero, List.set_cons_succ])
    | (refine own_alloc 14 (words 16 fun _ => 0) O rfl rfl rfl (fun _ => by kernel_rfl) ?_; clear O; intro W a1 O; simp only [Act.put, List.setIfInBounds_toArray, List.set_cons_zero, List.set_cons_succ])
    | (go_at_call 38; first | ((with_reducible refine (Pa.out _).mono ?_); rintro e W ⟨rfl, rfl⟩) | ((with_reducible refine (Pb.out _).mono ?_); rintro e W ⟨rfl, rfl⟩) | ((with_reducible refine (Pc.out _).mono ?_); rintro e W ⟨rfl, rfl⟩) | ((with_reducible refine (Pd.out _).mono ?_); rintro e W ⟨rfl, rfl⟩))
    | (refine wpList_const 64 (.agg (words 16 fun _ => 0)) rfl rfl (fun _ => by kernel_rfl) ?_; simp only [Act.put, List.setIfInBounds_toArray, List.set_cons_zero, List.set_cons_succ])
    | (refine own_store_row 0 (.tmp 14) (.tmp 64) O rfl rfl rfl rfl rfl rfl (by kernel_rfl) (by simp only [words_size]) (words_cell _ _) ?_; clear O; intro W O; simp only [List.set_cons_zero, List.set_cons_succ] at O))
  refine bodyPost_ret (v := .tuple #[.agg (words 16 fun _ => 0), .int .i64 1]) (results_cell_tmp rfl _ _ a1 33 _ _ rfl (O.get 0 rfl) Try.underlying33 rfl (by kernel_rfl) _ rfl) rfl ⟨?_, O.keep⟩
  rfl
set_option maxRecDepth 100000 in
theorem refg_bad6 (V0 : Nat → BitVec 64) (a b c d : Int) (x y : BitVec 64) (w : World) (ka : okP a = true) (kb : okP b = true) (kc : okP c = true) (kd : okP d = true) (e0 : (a == b) = false) (e1 : (a == c) = false) (e2 : (a == d) = true) :
    Calls Try.prog 20 #[.agg (words 16 V0), .int .i64 a, .int .i64 b, .int .i64 c, .int .i64 d, U64 x, U64 y] w fun e w' => e = .returned (.tuple #[.agg (words 16 fun _ => 0), .int .i64 1]) ∧ Keeps w w' [] := by
  have O := Own.start w []
  have pa := fun w => place_any a w
  rw [ka] at pa
  have Pa := Lib.hid pa
  clear pa ka
  have pb := fun w => place_any b w
  rw [kb] at pb
  have Pb := Lib.hid pb
  clear pb kb
  have pc := fun w => place_any c w
  rw [kc] at pc
  have Pc := Lib.hid pc
  clear pc kc
  have pd := fun w => place_any d w
  rw [kd] at pd
  have Pd := Lib.hid pd
  clear pd kd
  go_enter Try.func20, Try.ntmps20
  go_wp2_with (first
    | (refine own_box 7 (words 16 V0) O rfl rfl rfl rfl ?_; clear O; intro W a0 O; simp only [Act.put, List.setIfInBounds_toArray, List.set_cons_zero, List.set_cons_succ])
    | (refine own_alloc 14 (words 16 fun _ => 0) O rfl rfl rfl (fun _ => by kernel_rfl) ?_; clear O; intro W a1 O; simp only [Act.put, List.setIfInBounds_toArray, List.set_cons_zero, List.set_cons_succ])
    | (go_at_call 38; first | ((with_reducible refine (Pa.out _).mono ?_); rintro e W ⟨rfl, rfl⟩) | ((with_reducible refine (Pb.out _).mono ?_); rintro e W ⟨rfl, rfl⟩) | ((with_reducible refine (Pc.out _).mono ?_); rintro e W ⟨rfl, rfl⟩) | ((with_reducible refine (Pd.out _).mono ?_); rintro e W ⟨rfl, rfl⟩))
    | (refine wpList_const 64 (.agg (words 16 fun _ => 0)) rfl rfl (fun _ => by kernel_rfl) ?_; simp only [Act.put, List.setIfInBounds_toArray, List.set_cons_zero, List.set_cons_succ])
    | (refine own_store_row 0 (.tmp 14) (.tmp 64) O rfl rfl rfl rfl rfl rfl (by kernel_rfl) (by simp only [words_size]) (words_cell _ _) ?_; clear O; intro W O; simp only [List.set_cons_zero, List.set_cons_succ] at O))
  refine bodyPost_ret (v := .tuple #[.agg (words 16 fun _ => 0), .int .i64 1]) (results_cell_tmp rfl _ _ a1 33 _ _ rfl (O.get 0 rfl) Try.underlying33 rfl (by kernel_rfl) _ rfl) rfl ⟨?_, O.keep⟩
  rfl
set_option maxRecDepth 100000 in
theorem refg_bad7 (V0 : Nat → BitVec 64) (a b c d : Int) (x y : BitVec 64) (w : World) (ka : okP a = true) (kb : okP b = true) (kc : okP c = true) (kd : okP d = true) (e0 : (a == b) = false) (e1 : (a == c) = false) (e2 : (a == d) = false) (e3 : (b == c) = true) :
    Calls Try.prog 20 #[.agg (words 16 V0), .int .i64 a, .int .i64 b, .int .i64 c, .int .i64 d, U64 x, U64 y] w fun e w' => e = .returned (.tuple #[.agg (words 16 fun _ => 0), .int .i64 1]) ∧ Keeps w w' [] := by
  have O := Own.start w []
  have pa := fun w => place_any a w
  rw [ka] at pa
  have Pa := Lib.hid pa
  clear pa ka
  have pb := fun w => place_any b w
  rw [kb] at pb
  have Pb := Lib.hid pb
  clear pb kb
  have pc := fun w => place_any c w
  rw [kc] at pc
  have Pc := Lib.hid pc
  clear pc kc
  have pd := fun w => place_any d w
  rw [kd] at pd
  have Pd := Lib.hid pd
  clear pd kd
  go_enter Try.func20, Try.ntmps20
  go_wp2_with (first
    | (refine own_box 7 (words 16 V0) O rfl rfl rfl rfl ?_; clear O; intro W a0 O; simp only [Act.put, List.setIfInBounds_toArray, List.set_cons_zero, List.set_cons_succ])
    | (refine own_alloc 14 (words 16 fun _ => 0) O rfl rfl rfl (fun _ => by kernel_rfl) ?_; clear O; intro W a1 O; simp only [Act.put, List.setIfInBounds_toArray, List.set_cons_zero, List.set_cons_succ])
    | (go_at_call 38; first | ((with_reducible refine (Pa.out _).mono ?_); rintro e W ⟨rfl, rfl⟩) | ((with_reducible refine (Pb.out _).mono ?_); rintro e W ⟨rfl, rfl⟩) | ((with_reducible refine (Pc.out _).mono ?_); rintro e W ⟨rfl, rfl⟩) | ((with_reducible refine (Pd.out _).mono ?_); rintro e W ⟨rfl, rfl⟩))
    | (refine wpList_const 64 (.agg (words 16 fun _ => 0)) rfl rfl (fun _ => by kernel_rfl) ?_; simp only [Act.put, List.setIfInBounds_toArray, List.set_cons_zero, List.set_cons_succ])
    | (refine own_store_row 0 (.tmp 14) (.tmp 64) O rfl rfl rfl rfl rfl rfl (by kernel_rfl) (by simp only [words_size]) (words_cell _ _) ?_; clear O; intro W O; simp only [List.set_cons_zero, List.set_cons_succ] at O))
  refine bodyPost_ret (v := .tuple #[.agg (words 16 fun _ => 0), .int .i64 1]) (results_cell_tmp rfl _ _ a1 33 _ _ rfl (O.get 0 rfl) Try.underlying33 rfl (by kernel_rfl) _ rfl) rfl ⟨?_, O.keep⟩
  rfl
set_option maxRecDepth 100000 in
theorem refg_bad8 (V0 : Nat → BitVec 64) (a b c d : Int) (x y : BitVec 64) (w : World) (ka : okP a = true) (kb : okP b = true) (kc : okP c = true) (kd : okP d = true) (e0 : (a == b) = false) (e1 : (a == c) = false) (e2 : (a == d) = false) (e3 : (b == c) = false) (e4 : (b == d) = true) :
    Calls Try.prog 20 #[.agg (words 16 V0), .int .i64 a, .int .i64 b, .int .i64 c, .int .i64 d, U64 x, U64 y] w fun e w' => e = .returned (.tuple #[.agg (words 16 fun _ => 0), .int .i64 1]) ∧ Keeps w w' [] := by
  have O := Own.start w []
  have pa := fun w => place_any a w
  rw [ka] at pa
  have Pa := Lib.hid pa
  clear pa ka
  have pb := fun w => place_any b w
  rw [kb] at pb
  have Pb := Lib.hid pb
  clear pb kb
  have pc := fun w => place_any c w
  rw [kc] at pc
  have Pc := Lib.hid pc
  clear pc kc
  have pd := fun w => place_any d w
  rw [kd] at pd
  have Pd := Lib.hid pd
  clear pd kd
  go_enter Try.func20, Try.ntmps20
  go_wp2_with (first
    | (refine own_box 7 (words 16 V0) O rfl rfl rfl rfl ?_; clear O; intro W a0 O; simp only [Act.put, List.setIfInBounds_toArray, List.set_cons_zero, List.set_cons_succ])
    | (refine own_alloc 14 (words 16 fun _ => 0) O rfl rfl rfl (fun _ => by kernel_rfl) ?_; clear O; intro W a1 O; simp only [Act.put, List.setIfInBounds_toArray, List.set_cons_zero, List.set_cons_succ])
    | (go_at_call 38; first | ((with_reducible refine (Pa.out _).mono ?_); rintro e W ⟨rfl, rfl⟩) | ((with_reducible refine (Pb.out _).mono ?_); rintro e W ⟨rfl, rfl⟩) | ((with_reducible refine (Pc.out _).mono ?_); rintro e W ⟨rfl, rfl⟩) | ((with_reducible refine (Pd.out _).mono ?_); rintro e W ⟨rfl, rfl⟩))
    | (refine wpList_const 64 (.agg (words 16 fun _ => 0)) rfl rfl (fun _ => by kernel_rfl) ?_; simp only [Act.put, List.setIfInBounds_toArray, List.set_cons_zero, List.set_cons_succ])
    | (refine own_store_row 0 (.tmp 14) (.tmp 64) O rfl rfl rfl rfl rfl rfl (by kernel_rfl) (by simp only [words_size]) (words_cell _ _) ?_; clear O; intro W O; simp only [List.set_cons_zero, List.set_cons_succ] at O))
  refine bodyPost_ret (v := .tuple #[.agg (words 16 fun _ => 0), .int .i64 1]) (results_cell_tmp rfl _ _ a1 33 _ _ rfl (O.get 0 rfl) Try.underlying33 rfl (by kernel_rfl) _ rfl) rfl ⟨?_, O.keep⟩
  rfl
set_option maxRecDepth 100000 in
theorem refg_bad9 (V0 : Nat → BitVec 64) (a b c d : Int) (x y : BitVec 64) (w : World) (ka : okP a = true) (kb : okP b = true) (kc : okP c = true) (kd : okP d = true) (e0 : (a == b) = false) (e1 : (a == c) = false) (e2 : (a == d) = false) (e3 : (b == c) = false) (e4 : (b == d) = false) (e5 : (c == d) = true) :
    Calls Try.prog 20 #[.agg (words 16 V0), .int .i64 a, .int .i64 b, .int .i64 c, .int .i64 d, U64 x, U64 y] w fun e w' => e = .returned (.tuple #[.agg (words 16 fun _ => 0), .int .i64 1]) ∧ Keeps w w' [] := by
  have O := Own.start w []
  have pa := fun w => place_any a w
  rw [ka] at pa
  have Pa := Lib.hid pa
  clear pa ka
  have pb := fun w => place_any b w
  rw [kb] at pb
  have Pb := Lib.hid pb
  clear pb kb
  have pc := fun w => place_any c w
  rw [kc] at pc
  have Pc := Lib.hid pc
  clear pc kc
  have pd := fun w => place_any d w
  rw [kd] at pd
  have Pd := Lib.hid pd
  clear pd kd
  go_enter Try.func20, Try.ntmps20
  go_wp2_with (first
    | (refine own_box 7 (words 16 V0) O rfl rfl rfl rfl ?_; clear O; intro W a0 O; simp only [Act.put, List.setIfInBounds_toArray, List.set_cons_zero, List.set_cons_succ])
    | (refine own_alloc 14 (words 16 fun _ => 0) O rfl rfl rfl (fun _ => by kernel_rfl) ?_; clear O; intro W a1 O; simp only [Act.put, List.setIfInBounds_toArray, List.set_cons_zero, List.set_cons_succ])
    | (go_at_call 38; first | ((with_reducible refine (Pa.out _).mono ?_); rintro e W ⟨rfl, rfl⟩) | ((with_reducible refine (Pb.out _).mono ?_); rintro e W ⟨rfl, rfl⟩) | ((with_reducible refine (Pc.out _).mono ?_); rintro e W ⟨rfl, rfl⟩) | ((with_reducible refine (Pd.out _).mono ?_); rintro e W ⟨rfl, rfl⟩))
    | (refine wpList_const 64 (.agg (words 16 fun _ => 0)) rfl rfl (fun _ => by kernel_rfl) ?_; simp only [Act.put, List.setIfInBounds_toArray, List.set_cons_zero, List.set_cons_succ])
    | (refine own_store_row 0 (.tmp 14) (.tmp 64) O rfl rfl rfl rfl rfl rfl (by kernel_rfl) (by simp only [words_size]) (words_cell _ _) ?_; clear O; intro W O; simp only [List.set_cons_zero, List.set_cons_succ] at O))
  refine bodyPost_ret (v := .tuple #[.agg (words 16 fun _ => 0), .int .i64 1]) (results_cell_tmp rfl _ _ a1 33 _ _ rfl (O.get 0 rfl) Try.underlying33 rfl (by kernel_rfl) _ rfl) rfl ⟨?_, O.keep⟩
  rfl

theorem refg_any (V : Nat → BitVec 64) (a b c d : Int) (x y : BitVec 64) (w : World) :
    Calls Try.prog 20 #[.agg (words 16 V), .int .i64 a, .int .i64 b, .int .i64 c, .int .i64 d, U64 x, U64 y] w fun e w' => e = .returned (gAns V a b c d x y) ∧ Keeps w w' [] := by
  cases h4 : fourB a b c d with
  | true =>
    obtain ⟨i, j, k, l, rfl, rfl, rfl, rfl, hi, hj, hk, hl, n1, n2, n3, n4, n5, n6⟩ := places_nat h4
    have HA : gAns V i j k l x y = .tuple #[.agg (words 16 (stepB V i j k l x y)), .int .i64 0] := by unfold gAns; rw [h4]; rfl
    rw [HA]
    exact refg_good V i j k l x y hi hj hk hl n1 n2 n3 n4 n5 n6 w
  | false =>
    have HA : gAns V a b c d x y = .tuple #[.agg (words 16 fun _ => 0), .int .i64 1] := by unfold gAns; rw [h4]; rfl
    rw [HA]
    cases ka : okP a with
    | false => exact refg_bad0 V a b c d x y w ka
    | true =>
    cases kb : okP b with
    | false => exact refg_bad1 V a b c d x y w ka kb
    | true =>
    cases kc : okP c with
    | false => exact refg_bad2 V a b c d x y w ka kb kc
    | true =>
    cases kd : okP d with
    | false => exact refg_bad3 V a b c d x y w ka kb kc kd
    | true =>
    cases e0 : (a == b) with
    | true => exact refg_bad4 V a b c d x y w ka kb kc kd e0
    | false =>
    cases e1 : (a == c) with
    | true => exact refg_bad5 V a b c d x y w ka kb kc kd e0 e1
    | false =>
    cases e2 : (a == d) with
    | true => exact refg_bad6 V a b c d x y w ka kb kc kd e0 e1 e2
    | false =>
    cases e3 : (b == c) with
    | true => exact refg_bad7 V a b c d x y w ka kb kc kd e0 e1 e2 e3
    | false =>
    cases e4 : (b == d) with
    | true => exact refg_bad8 V a b c d x y w ka kb kc kd e0 e1 e2 e3 e4
    | false =>
    cases e5 : (c == d) with
    | true => exact refg_bad9 V a b c d x y w ka kb kc kd e0 e1 e2 e3 e4 e5
    | false =>
    exfalso
    simp only [beq_eq_false_iff_ne] at e0 e1 e2 e3 e4 e5
    have : fourB a b c d = true := by simp [fourB, *]
    rw [h4] at this
    cases this

/-! ### The law -/
def stpC (V : Nat → BitVec 64) (a b c d : Int) (x y : BitVec 64) : Array Value := words 16 V ++ #[.int .i64 a, .int .i64 b, .int .i64 c, .int .i64 d, U64 x, U64 y]
section
variable (V : Nat → BitVec 64) (a b c d : Int) (x y : BitVec 64)
theorem stpC_size : (stpC V a b c d x y).size = 22 := by simp [stpC, words_size]
theorem stpC_V (i : Nat) (h : i < 16) : (stpC V a b c d x y)[0 + i]? = (words 16 V)[i]? := by
  unfold stpC
  rw [Array.getElem?_append_left (by simp [words_size]; omega), Nat.zero_add]
theorem stpC_r (i : Nat) : (stpC V a b c d x y)[16 + i]? = (#[.int .i64 a, .int .i64 b, .int .i64 c, .int .i64 d, U64 x, U64 y] : Array Value)[i]? := by
  unfold stpC
  rw [Array.getElem?_append_right (by simp [words_size])]
  congr 1
  simp [words_size]
end

theorem open_step {w : World} {b : Nat} {v : Value} (h : Value.okWide Try.prog w .any b 42 v) : ∃ (V : Nat → BitVec 64) (a b c d : Int) (x y : BitVec 64), v = .agg (stpC V a b c d x y) ∧
    (-9223372036854775808 ≤ a ∧ a ≤ 9223372036854775807) ∧ (-9223372036854775808 ≤ b ∧ b ≤ 9223372036854775807) ∧ (-9223372036854775808 ≤ c ∧ c ≤ 9223372036854775807) ∧ (-9223372036854775808 ≤ d ∧ d ≤ 9223372036854775807) := by
  have hts : Try.prog.cellTypes Try.prog.depth 42 = some (List.replicate 16 22 ++ [3, 3, 3, 3, 22, 22]) := by kernel_rfl
  obtain ⟨cs, rfl, hs, hc⟩ := agg_cells (n := 22) Try.underlying42 rfl hts rfl (by kernel_rfl) h
  have cw : ∀ i, (i < 16 ∨ i = 20 ∨ i = 21) → ∃ x : BitVec 64, cs[i]? = some (U64 x) := fun i hi => by
    obtain ⟨x, u, hx, hu, hk⟩ := hc i (by omega)
    have hu' : u = 22 := by
      rcases hi with hi | rfl | rfl
      · have h1 : ∀ i : Fin 16, (List.replicate 16 22 ++ [3, 3, 3, 3, 22, 22] : List TypeId)[i.1]? = some 22 := by decide
        rw [h1 ⟨i, hi⟩] at hu
        exact (Option.some.inj hu).symm
      · exact (Option.some.inj hu).symm
      · exact (Option.some.inj hu).symm
    subst hu'
    obtain ⟨y, rfl⟩ := cell_u64 Try.underlying22 hk
    exact ⟨y, hx⟩
  have cb : ∀ i, 16 ≤ i → i < 20 → ∃ n : Int, cs[i]? = some (.int .i64 n) ∧ -9223372036854775808 ≤ n ∧ n ≤ 9223372036854775807 := fun i h1 hi => by
    obtain ⟨x, u, hx, hu, hk⟩ := hc i (by omega)
    have hu' : u = 3 := by
      have h1 : i = 16 ∨ i = 17 ∨ i = 18 ∨ i = 19 := by omega
      rcases h1 with rfl | rfl | rfl | rfl <;> exact (Option.some.inj hu).symm
    subst hu'
    obtain ⟨n, rfl, hn⟩ := cell_i64 Try.underlying3 hk
    exact ⟨n, hx, hn⟩
  obtain ⟨V, hV⟩ := choose_words (n := 16) (off := 0) (cs := cs) (fun i hi => cw _ (by omega))
  obtain ⟨a, ha, na⟩ := cb 16 (by omega) (by omega)
  obtain ⟨b, hb, nb⟩ := cb 17 (by omega) (by omega)
  obtain ⟨c, hcc, nc⟩ := cb 18 (by omega) (by omega)
  obtain ⟨d, hd, nd⟩ := cb 19 (by omega) (by omega)
  obtain ⟨x, hx⟩ := cw 20 (by omega)
  obtain ⟨y, hy⟩ := cw 21 (by omega)
  refine ⟨V, a, b, c, d, x, y, congrArg Value.agg (Array.ext_getElem? fun j => ?_), na, nb, nc, nd⟩
  by_cases h1 : j < 16
  · have e := stpC_V V a b c d x y j h1
    rw [Nat.zero_add] at e
    have e2 := hV j h1
    rw [Nat.zero_add] at e2
    rw [e, words_get _ _ _ h1, e2]
  · by_cases h3 : j < 22
    · have h4 : j = 16 ∨ j = 17 ∨ j = 18 ∨ j = 19 ∨ j = 20 ∨ j = 21 := by omega
      rcases h4 with rfl | rfl | rfl | rfl | rfl | rfl
      · rw [ha]; exact (stpC_r V a b c d x y 0).symm
      · rw [hb]; exact (stpC_r V a b c d x y 1).symm
      · rw [hcc]; exact (stpC_r V a b c d x y 2).symm
      · rw [hd]; exact (stpC_r V a b c d x y 3).symm
      · rw [hx]; exact (stpC_r V a b c d x y 4).symm
      · rw [hy]; exact (stpC_r V a b c d x y 5).symm
    · rw [Array.getElem?_eq_none (by omega), Array.getElem?_eq_none (by rw [stpC_size]; omega)]

/-- Both parts of G's answer. -/
def gSt (V : Nat → BitVec 64) (a b c d : Int) (x y : BitVec 64) : Nat → BitVec 64 := if fourB a b c d then stepB V a.toNat b.toNat c.toNat d.toNat x y else fun _ => 0
def gEr (a b c d : Int) : Int := if fourB a b c d then 0 else 1
theorem gAns_eq (V : Nat → BitVec 64) (a b c d : Int) (x y : BitVec 64) : gAns V a b c d x y = .tuple #[.agg (words 16 (gSt V a b c d x y)), .int .i64 (gEr a b c d)] := by
  unfold gAns gSt gEr
  cases fourB a b c d <;> rfl

set_option maxHeartbeats 1000000 in
theorem steps_walk (V : Nat → BitVec 64) (a b c d : Int) (x y : BitVec 64) (ha : -9223372036854775808 ≤ a ∧ a ≤ 9223372036854775807) (hb : -9223372036854775808 ≤ b ∧ b ≤ 9223372036854775807) (hc : -9223372036854775808 ≤ c ∧ c ≤ 9223372036854775807) (hd : -9223372036854775808 ≤ d ∧ d ≤ 9223372036854775807) (w : World) :
    Calls Try.prog 6 #[.agg (stpC V a b c d x y)] w fun e w' => e = .returned (.bool true) ∧ Keeps w w' [] := by
  have O := Own.start w []
  have g1 := fun w => g_any V a b c d x y ha hb hc hd w
  have g2 := fun w => refg_any V a b c d x y w
  simp only [gAns_eq] at g1 g2
  have G1 := Lib.hid g1
  have G2 := Lib.hid g2
  clear g1 g2 ha hb hc hd
  generalize gSt V a b c d x y = R at *
  generalize gEr a b c d = E at *
  have n1 := eqW_self 16 R
  go_enter Try.func6, Try.ntmps6
  go_wp2_with (first
    | (refine own_box 1 (stpC V a b c d x y) O rfl rfl rfl rfl ?_; clear O; intro W a0 O; simp only [Act.put, List.setIfInBounds_toArray, List.set_cons_zero, List.set_cons_succ]; have q16 : W.cell? ⟨a0, 16, none⟩ = some (Value.int .i64 a) := ((O.get 0 rfl).cell 16).trans (stpC_r V a b c d x y 0); have q17 : W.cell? ⟨a0, 17, none⟩ = some (Value.int .i64 b) := ((O.get 0 rfl).cell 17).trans (stpC_r V a b c d x y 1); have q18 : W.cell? ⟨a0, 18, none⟩ = some (Value.int .i64 c) := ((O.get 0 rfl).cell 18).trans (stpC_r V a b c d x y 2); have q19 : W.cell? ⟨a0, 19, none⟩ = some (Value.int .i64 d) := ((O.get 0 rfl).cell 19).trans (stpC_r V a b c d x y 3); have q20 : W.cell? ⟨a0, 20, none⟩ = some (U64 x) := ((O.get 0 rfl).cell 20).trans (stpC_r V a b c d x y 4); have q21 : W.cell? ⟨a0, 21, none⟩ = some (U64 y) := ((O.get 0 rfl).cell 21).trans (stpC_r V a b c d x y 5))
    | (refine own_load_part (part := words 16 V) 9 0 O rfl rfl rfl rfl rfl Try.underlying33 rfl (by kernel_rfl) ?_ ?_; (exact fun j hj => stpC_V V a b c d x y j (by simpa [words_size] using hj)); simp only [Act.put, List.setIfInBounds_toArray, List.set_cons_zero, List.set_cons_succ])
    | (go_at_call 19; refine (G1.out _).mono ?_; rintro e W ⟨rfl, K⟩; replace O := O.keeps K; clear K q16 q17 q18 q19 q20 q21)
    | (refine own_alloc 3 (words 16 fun _ => 0) O rfl rfl rfl (fun _ => by kernel_rfl) ?_; clear O; intro W a1 O; simp only [Act.put, List.setIfInBounds_toArray, List.set_cons_zero, List.set_cons_succ])
    | (refine own_store_row 0 (.tmp 3) (.tmp 23) O rfl rfl rfl rfl rfl rfl (by kernel_rfl) (by simp only [words_size]) (words_cell _ _) ?_; clear O; intro W O; simp only [List.set_cons_zero, List.set_cons_succ] at O; have q16 : W.cell? ⟨a0, 16, none⟩ = some (Value.int .i64 a) := ((O.get 1 rfl).cell 16).trans (stpC_r V a b c d x y 0); have q17 : W.cell? ⟨a0, 17, none⟩ = some (Value.int .i64 b) := ((O.get 1 rfl).cell 17).trans (stpC_r V a b c d x y 1); have q18 : W.cell? ⟨a0, 18, none⟩ = some (Value.int .i64 c) := ((O.get 1 rfl).cell 18).trans (stpC_r V a b c d x y 2); have q19 : W.cell? ⟨a0, 19, none⟩ = some (Value.int .i64 d) := ((O.get 1 rfl).cell 19).trans (stpC_r V a b c d x y 3); have q20 : W.cell? ⟨a0, 20, none⟩ = some (U64 x) := ((O.get 1 rfl).cell 20).trans (stpC_r V a b c d x y 4); have q21 : W.cell? ⟨a0, 21, none⟩ = some (U64 y) := ((O.get 1 rfl).cell 21).trans (stpC_r V a b c d x y 5))
    | (refine own_load_part (part := words 16 V) 27 1 O rfl rfl rfl rfl rfl Try.underlying33 rfl (by kernel_rfl) ?_ ?_; (exact fun j hj => stpC_V V a b c d x y j (by simpa [words_size] using hj)); simp only [Act.put, List.setIfInBounds_toArray, List.set_cons_zero, List.set_cons_succ])
    | (go_at_call 20; refine (G2.out _).mono ?_; rintro e W ⟨rfl, K⟩; replace O := O.keeps K; clear K q16 q17 q18 q19 q20 q21)
    | (refine own_alloc 5 (words 16 fun _ => 0) O rfl rfl rfl (fun _ => by kernel_rfl) ?_; clear O; intro W a2 O; simp only [Act.put, List.setIfInBounds_toArray, List.set_cons_zero, List.set_cons_succ])
    | (refine own_store_row 0 (.tmp 5) (.tmp 41) O rfl rfl rfl rfl rfl rfl (by kernel_rfl) (by simp only [words_size]) (words_cell _ _) ?_; clear O; intro W O; simp only [List.set_cons_zero, List.set_cons_succ] at O)
    | (refine own_load 43 1 O rfl rfl rfl rfl rfl Try.underlying33 rfl (by kernel_rfl) ?_; simp only [Act.put, List.setIfInBounds_toArray, List.set_cons_zero, List.set_cons_succ])
    | (refine own_load 44 0 O rfl rfl rfl rfl rfl Try.underlying33 rfl (by kernel_rfl) ?_; simp only [Act.put, List.setIfInBounds_toArray, List.set_cons_zero, List.set_cons_succ])
    | (go_at_call 16; refine (awake_any _).mono ?_; rintro e W ⟨rfl, K⟩; replace O := O.keeps K; clear K))
  go_ret
  exact ⟨rfl, O.keep⟩

set_option maxRecDepth 100000 in
theorem steps_lifted (os : Os) (started : os.Started) (H : Type) (enc : TypeId × Value → H) :
    ReturnsInHanded {} Try.checked os 6 .any (Rows.mixbStepsSpec.pre6 enc Try.prog Try.f6 Rows.mixbStepsRow.domain false) (Rows.mixbStepsSpec.post enc Try.prog Try.f6 false true false false) := by
  refine law_lifted (C := Try.checked) own started (by kernel_rfl) Try.func6 rfl (fun ds h => ?_) rfl Try.underlying4 laid ?_
    (ChangeSpec.witness6 (enc := enc) (C := Try.checked) false ⟨#[], #[.agg #[.int .u64 0, .int .u64 0, .int .u64 0, .int .u64 0, .int .u64 0, .int .u64 0, .int .u64 0, .int .u64 0, .int .u64 0, .int .u64 0, .int .u64 0, .int .u64 0, .int .u64 0, .int .u64 0, .int .u64 0, .int .u64 0, .int .i64 0, .int .i64 0, .int .i64 0, .int .i64 0, .int .u64 0, .int .u64 0]], []⟩ 8 (by kernel_rfl) (by kernel_rfl) (by kernel_rfl) (by kernel_rfl)) ?_
  · match ds, h with
    | [d], _ => exact ⟨rfl, rfl, rfl⟩
  · intro t ht
    have ht' : t ∈ ([42] : List TypeId) := ht
    simp only [List.mem_cons, List.not_mem_nil, or_false] at ht'
    subst ht'
    exact ⟨by kernel_rfl, of_decide_eq_true (by kernel_rfl)⟩
  · intro W base args ds ps hval hA hlt hfz hsz
    have hA' : DataW.TrodAll enc Try.prog W 0 (fun _ => true) true [42] args.toList ds ps := hA
    clear hA
    obtain ⟨v0, d0, hargs, rfl, h0⟩ := trodAll_one hA'
    obtain rfl : args = #[v0] := by cases args; simp_all
    obtain ⟨V, a, b, c, d, x, y, rfl, ha, hb, hc, hd⟩ := open_step (hval 0 42 v0 rfl rfl)
    exact (steps_walk V a b c d x y ha hb hc hd W).mono fun e W' ⟨he, hk⟩ => ⟨he, hk.below⟩

theorem steps_holds : Rows.MixbStepsSaid :=
  OpenClaim.holds_of_wide 6 Try.f6 rfl rfl rfl rfl rfl rfl rfl ⟨rfl, rfl, rfl, rfl, rfl⟩ rfl rfl rfl rfl rfl (by kernel_rfl) Try.func6 (by kernel_rfl)
    (of_decide_eq_true (by kernel_rfl)) (by unfold Func.isWrapper; rw [if_neg (of_decide_eq_false (by kernel_rfl))]; exact ⟨rfl, rfl⟩)
    (fun os started H enc _ => steps_lifted os started H enc)
end Go.Proofs.Ytainpnjddhabfaa
