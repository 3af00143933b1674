import Derived.Test.YtainpnjddhabfaaW3
namespace Go.Proofs.Ytainpnjddhabfaa
open Go.RowKit

set_option maxRecDepth 100000 in
theorem places_any (w : World) : Calls Try.prog 45 #[] w fun e w' => e = .returned (.agg (ints 32 fun i => pl (i / 4) (i % 4))) ∧ Keeps w w' [] := by
  go_enter Try.func45, Try.ntmps45
  go_wp2_with (first
    | (refine wpList_alloc 0 (ints 32 fun _ => 0) rfl rfl rfl (fun _ => by kernel_rfl) ?_; intro u0 K0 B0 s0; simp only [Act.put, List.setIfInBounds_toArray, List.set_cons_zero, List.set_cons_succ])
    | (refine wpList_const 1 (.agg (ints 4 (pl 0))) rfl rfl (fun _ => by kernel_rfl) ?_; simp only [Act.put, List.setIfInBounds_toArray, List.set_cons_zero, List.set_cons_succ])
    | (refine wpList_const 2 (.agg (ints 4 (pl 1))) rfl rfl (fun _ => by kernel_rfl) ?_; simp only [Act.put, List.setIfInBounds_toArray, List.set_cons_zero, List.set_cons_succ])
    | (refine wpList_const 3 (.agg (ints 4 (pl 2))) rfl rfl (fun _ => by kernel_rfl) ?_; simp only [Act.put, List.setIfInBounds_toArray, List.set_cons_zero, List.set_cons_succ])
    | (refine wpList_const 4 (.agg (ints 4 (pl 3))) rfl rfl (fun _ => by kernel_rfl) ?_; simp only [Act.put, List.setIfInBounds_toArray, List.set_cons_zero, List.set_cons_succ])
    | (refine wpList_const 5 (.agg (ints 4 (pl 4))) rfl rfl (fun _ => by kernel_rfl) ?_; simp only [Act.put, List.setIfInBounds_toArray, List.set_cons_zero, List.set_cons_succ])
    | (refine wpList_const 6 (.agg (ints 4 (pl 5))) rfl rfl (fun _ => by kernel_rfl) ?_; simp only [Act.put, List.setIfInBounds_toArray, List.set_cons_zero, List.set_cons_succ])
    | (refine wpList_const 7 (.agg (ints 4 (pl 6))) rfl rfl (fun _ => by kernel_rfl) ?_; simp only [Act.put, List.setIfInBounds_toArray, List.set_cons_zero, List.set_cons_succ])
    | (refine wpList_const 8 (.agg (ints 4 (pl 7))) rfl rfl (fun _ => by kernel_rfl) ?_; simp only [Act.put, List.setIfInBounds_toArray, List.set_cons_zero, List.set_cons_succ])
    | (refine wpList_const 9 (.agg (ints 32 fun i => pl (i / 4) (i % 4))) rfl rfl (fun _ => by kernel_rfl) ?_; simp only [Act.put, List.setIfInBounds_toArray, List.set_cons_zero, List.set_cons_succ])
    | (refine wpList_store_row (.tmp 0) (.tmp 9) rfl rfl rfl rfl rfl B0 (by kernel_rfl) (by rw [ints_size, ints_size]) (ints_cell _ _) ?_; intro u1 K1 B1))
  refine bodyPost_ret (v := .agg (ints 32 fun i => pl (i / 4) (i % 4))) (results_cell_row rfl _ _ w.heap.size 80 _ (0, 0) _ rfl B1 Try.underlying80 rfl (by kernel_rfl)) rfl ⟨rfl, ?_⟩
  exact K0.trans K1 (by simp)

theorem pl_get (k j : Nat) (hk : k < 8) (hj : j < 4) : (ints 32 fun i => pl (i / 4) (i % 4))[k * 4 + j]? = (ints 4 (pl k))[j]? := by
  rw [ints_get _ _ _ (by omega), ints_get _ _ _ hj, show (k * 4 + j) / 4 = k from by omega, show (k * 4 + j) % 4 = j from by omega]

set_option maxRecDepth 100000 in
theorem refplaces_any (i : Nat) (hi : i < 8) (w : World) : Calls Try.prog 47 #[.int .i64 i] w fun e w' => e = .returned (.agg (ints 4 (pl i))) ∧ Keeps w w' [] := by
  have hm : i % 8 = i := by omega
  go_enter Try.func47, Try.ntmps47
  go_wp2_with (first
    | (refine wpList_alloc 2 (ints 4 fun _ => 0) rfl rfl rfl (fun _ => by kernel_rfl) ?_; intro u0 K0 B0 s0; simp only [Act.put, List.setIfInBounds_toArray, List.set_cons_zero, List.set_cons_succ])
    | (refine wpList_const 4 (.agg (ints 4 (pl 0))) rfl rfl (fun _ => by kernel_rfl) ?_; simp only [Act.put, List.setIfInBounds_toArray, List.set_cons_zero, List.set_cons_succ])
    | (refine wpList_const 5 (.agg (ints 4 (pl 1))) rfl rfl (fun _ => by kernel_rfl) ?_; simp only [Act.put, List.setIfInBounds_toArray, List.set_cons_zero, List.set_cons_succ])
    | (refine wpList_const 6 (.agg (ints 4 (pl 2))) rfl rfl (fun _ => by kernel_rfl) ?_; simp only [Act.put, List.setIfInBounds_toArray, List.set_cons_zero, List.set_cons_succ])
    | (refine wpList_const 7 (.agg (ints 4 (pl 3))) rfl rfl (fun _ => by kernel_rfl) ?_; simp only [Act.put, List.setIfInBounds_toArray, List.set_cons_zero, List.set_cons_succ])
    | (refine wpList_const 8 (.agg (ints 4 (pl 4))) rfl rfl (fun _ => by kernel_rfl) ?_; simp only [Act.put, List.setIfInBounds_toArray, List.set_cons_zero, List.set_cons_succ])
    | (refine wpList_const 9 (.agg (ints 4 (pl 5))) rfl rfl (fun _ => by kernel_rfl) ?_; simp only [Act.put, List.setIfInBounds_toArray, List.set_cons_zero, List.set_cons_succ])
    | (refine wpList_const 10 (.agg (ints 4 (pl 6))) rfl rfl (fun _ => by kernel_rfl) ?_; simp only [Act.put, List.setIfInBounds_toArray, List.set_cons_zero, List.set_cons_succ])
    | (refine wpList_const 11 (.agg (ints 4 (pl 7))) rfl rfl (fun _ => by kernel_rfl) ?_; simp only [Act.put, List.setIfInBounds_toArray, List.set_cons_zero, List.set_cons_succ])
    | (refine wpList_const 12 (.agg (ints 32 fun i => pl (i / 4) (i % 4))) rfl rfl (fun _ => by kernel_rfl) ?_; simp only [Act.put, List.setIfInBounds_toArray, List.set_cons_zero, List.set_cons_succ])
    | (refine wpList_alloc 3 (ints 32 fun _ => 0) rfl rfl rfl (fun _ => by kernel_rfl) ?_; intro u1 K1 B1 s1; simp only [Act.put, List.setIfInBounds_toArray, List.set_cons_zero, List.set_cons_succ])
    | (refine wpList_store_row (.tmp 3) (.tmp 12) rfl rfl rfl rfl rfl B1 (by kernel_rfl) (by rw [ints_size, ints_size]) (ints_cell _ _) ?_; intro u2 K2 B2)
    | (refine wpList_load_part (part := ints 4 (pl i)) 16 rfl rfl rfl rfl B2 Try.underlying71 rfl (by kernel_rfl) ?_ ?_; (exact fun j hj => by rw [hm]; exact pl_get i j hi (by simpa [ints_size] using hj)); simp only [Act.put, List.setIfInBounds_toArray, List.set_cons_zero, List.set_cons_succ])
    | (refine wpList_store_row (.tmp 2) (.tmp 16) rfl rfl rfl rfl rfl ((B0.keeps K1 (by simp)).keeps K2 (by simp; omega)) (by kernel_rfl) (by rw [ints_size, ints_size]) (ints_cell _ _) ?_; intro u3 K3 B3))
  refine bodyPost_ret (v := .agg (ints 4 (pl i))) (results_cell_row rfl _ _ w.heap.size 71 _ (0, 0) _ rfl B3 Try.underlying71 rfl (by kernel_rfl)) rfl ⟨rfl, ?_⟩
  exact ((K0.trans K1 (by simp)).trans K2 (by simp; omega)).trans K3 (by simp)
end Go.Proofs.Ytainpnjddhabfaa
