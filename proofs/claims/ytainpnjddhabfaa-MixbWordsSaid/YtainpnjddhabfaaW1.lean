/-
  mixb and its reference: tables, places, rotations: what each call computes.
-/
import Derived.Test.YtainpnjddhabfaaProg
import Derived.Test.YtainpnjddhabfaaBase
import Derived.Lib.Hide
namespace Go.Proofs.Ytainpnjddhabfaa
open Go.RowKit

/-! ### Tables -/
def ivL : List (BitVec 64) := [0x6a09e667f3bcc908, 0xbb67ae8584caa73b, 0x3c6ef372fe94f82b, 0xa54ff53a5f1d36f1, 0x510e527fade682d1, 0x9b05688c2b3e6c1f, 0x1f83d9abfb41bd6b, 0x5be0cd19137e2179]
def ivV (i : Nat) : BitVec 64 := ivL.getD i 0
def sigL : List (List Nat) := [
  [0, 1, 2, 3, 4, 5, 6, 7, 8, 9, 10, 11, 12, 13, 14, 15],
  [14, 10, 4, 8, 9, 15, 13, 6, 1, 12, 0, 2, 11, 7, 5, 3],
  [11, 8, 12, 0, 5, 2, 15, 13, 10, 14, 3, 6, 7, 1, 9, 4],
  [7, 9, 3, 1, 13, 12, 11, 14, 2, 6, 5, 10, 4, 0, 15, 8],
  [9, 0, 5, 7, 2, 4, 10, 15, 14, 1, 11, 12, 6, 8, 3, 13],
  [2, 12, 6, 10, 0, 11, 8, 3, 4, 13, 7, 5, 15, 14, 1, 9],
  [12, 5, 1, 15, 14, 13, 4, 10, 0, 7, 6, 3, 9, 2, 8, 11],
  [13, 11, 7, 14, 12, 1, 3, 9, 5, 0, 15, 4, 8, 6, 2, 10],
  [6, 15, 14, 9, 11, 3, 0, 8, 12, 2, 13, 7, 1, 4, 10, 5],
  [10, 2, 8, 4, 7, 6, 1, 5, 15, 11, 9, 14, 3, 12, 13, 0]]
/-- The j-th place of row k. -/
def sig (k j : Nat) : Nat := (sigL.getD k []).getD j 0
def plL : List (List Nat) := [[0, 4, 8, 12], [1, 5, 9, 13], [2, 6, 10, 14], [3, 7, 11, 15], [0, 5, 10, 15], [1, 6, 11, 12], [2, 7, 8, 13], [3, 4, 9, 14]]
/-- The j-th place of the k-th step of a round. -/
def pl (k j : Nat) : Nat := (plL.getD k []).getD j 0
/-- Cells of ints. -/
def ints (n : Nat) (f : Nat → Nat) : Array Value := (Array.range n).map fun i => .int .i64 (f i : Nat)
def row (r : Int) : Nat := (r % 10).toNat

theorem row_lt (r : Int) : row r < 10 := by unfold row; omega
@[go_sem] theorem ints_size (n : Nat) (f : Nat → Nat) : (ints n f).size = n := by simp [ints]
@[go_sem] theorem ints_getElem (n : Nat) (f : Nat → Nat) (i : Nat) (h : i < (ints n f).size) : (ints n f)[i] = .int .i64 (f i : Nat) := by simp [ints]
theorem ints_get (n : Nat) (f : Nat → Nat) (i : Nat) (h : i < n) : (ints n f)[i]? = some (.int .i64 (f i : Nat)) := by simp [ints, h]

/-! ### Go's functions -/
theorem iv_any (w : World) : Calls Try.prog 12 #[] w fun e w' => e = .returned (.agg (words 8 ivV)) ∧ Keeps w w' [] := by
  go_enter Try.func12, Try.ntmps12
  go_wp2
  refine bodyPost_ret (v := .agg (words 8 ivV)) (by simp [results, Try.results12, go_sem]; kernel_rfl) rfl ⟨rfl, ?_⟩
  exact (Keeps.refl _ _).alloc _

theorem tmod_facts (n m : Int) (hm : 1 ≤ m) : -m < n.tmod m ∧ n.tmod m < m ∧ (n.tmod m < 0 → n.tmod m + m = n % m) ∧ (0 ≤ n.tmod m → n.tmod m = n % m) := by
  have h1 := Int.lt_tmod_of_pos n (b := m) (by omega)
  have h2 := Int.tmod_lt_of_pos n (b := m) (by omega)
  have h3 : (n.tmod m) % m = n % m := by rw [Int.tmod_def]; exact Int.sub_mul_emod_self_left n m _
  refine ⟨h1, h2, fun h => ?_, fun h => ?_⟩
  · rw [← h3, ← Int.add_emod_right, Int.emod_eq_of_lt (by omega) (by omega)]
  · rw [← h3, Int.emod_eq_of_lt h h2]

theorem rest_any (n m : Int) (hm : 1 ≤ m ∧ m ≤ 64) (w : World) : Calls Try.prog 35 #[.int .i64 n, .int .i64 m] w fun e w' => e = .returned (.int .i64 (n % m)) ∧ w = w' := by
  obtain ⟨h1, h2, h3, h4⟩ := tmod_facts n m hm.1
  by_cases h : n.tmod m < 0
  · have H := Lib.hid (h3 h)
    clear h3 h4
    go_enter Try.func35, Try.ntmps35
    go_wp2
    go_ret
    exact ⟨by rw [← H.out]; rfl, rfl⟩
  · have H := Lib.hid (h4 (by omega))
    clear h3 h4
    go_enter Try.func35, Try.ntmps35
    go_wp2
    go_ret
    exact ⟨by rw [← H.out]; rfl, rfl⟩

theorem ints_cell (n : Nat) (f : Nat → Nat) : ∀ v ∈ (ints n f).toList, v.oneCell' = true := by
  intro v hv
  simp only [ints, Array.toList_map, List.mem_map] at hv
  obtain ⟨i, _, rfl⟩ := hv
  rfl

theorem part_get (k j : Nat) (hk : k < 10) (hj : j < 16) : (ints 160 fun i => sig (i / 16) (i % 16))[k * 16 + j]? = (ints 16 (sig k))[j]? := by
  rw [ints_get _ _ _ (by omega), ints_get _ _ _ hj, show (k * 16 + j) / 16 = k from by omega, show (k * 16 + j) % 16 = j from by omega]

set_option maxRecDepth 100000 in
theorem sigma_any (r : Int) (w : World) :
    Calls Try.prog 14 #[.int .i64 r] w fun e w' => e = .returned (.agg (ints 16 (sig (row r)))) ∧ Keeps w w' [] := by
  obtain ⟨h1, h2, h3, h4⟩ := tmod_facts r 10 (by omega)
  have h5 : IntKind.i64.wrap (r.tmod 10 + 10) = r.tmod 10 + 10 := IntWalk.i64_in _ (by omega)
  have h6 : (r.tmod 10 + 10).tmod 10 = (row r : Int) := by
    rw [Int.tmod_eq_emod_of_nonneg (by omega)]; unfold row; omega
  have hk := row_lt r
  generalize row r = k at *
  clear h3 h4
  go_enter Try.func14, Try.ntmps14
  go_wp2_with (first
    | (refine wpList_alloc 2 (ints 16 fun _ => 0) rfl rfl rfl (fun _ => by kernel_rfl) ?_; intro u0 K0 B0 s0; simp only [Act.put, List.setIfInBounds_toArray, List.set_cons_zero, List.set_cons_succ])
    | (refine wpList_const 4 (.agg (ints 16 (sig 0))) rfl rfl (fun _ => by kernel_rfl) ?_; simp only [Act.put, List.setIfInBounds_toArray, List.set_cons_zero, List.set_cons_succ])
    | (refine wpList_const 5 (.agg (ints 16 (sig 1))) rfl rfl (fun _ => by kernel_rfl) ?_; simp only [Act.put, List.setIfInBounds_toArray, List.set_cons_zero, List.set_cons_succ])
    | (refine wpList_const 6 (.agg (ints 16 (sig 2))) rfl rfl (fun _ => by kernel_rfl) ?_; simp only [Act.put, List.setIfInBounds_toArray, List.set_cons_zero, List.set_cons_succ])
    | (refine wpList_const 7 (.agg (ints 16 (sig 3))) rfl rfl (fun _ => by kernel_rfl) ?_; simp only [Act.put, List.setIfInBounds_toArray, List.set_cons_zero, List.set_cons_succ])
    | (refine wpList_const 8 (.agg (ints 16 (sig 4))) rfl rfl (fun _ => by kernel_rfl) ?_; simp only [Act.put, List.setIfInBounds_toArray, List.set_cons_zero, List.set_cons_succ])
    | (refine wpList_const 9 (.agg (ints 16 (sig 5))) rfl rfl (fun _ => by kernel_rfl) ?_; simp only [Act.put, List.setIfInBounds_toArray, List.set_cons_zero, List.set_cons_succ])
    | (refine wpList_const 10 (.agg (ints 16 (sig 6))) rfl rfl (fun _ => by kernel_rfl) ?_; simp only [Act.put, List.setIfInBounds_toArray, List.set_cons_zero, List.set_cons_succ])
    | (refine wpList_const 11 (.agg (ints 16 (sig 7))) rfl rfl (fun _ => by kernel_rfl) ?_; simp only [Act.put, List.setIfInBounds_toArray, List.set_cons_zero, List.set_cons_succ])
    | (refine wpList_const 12 (.agg (ints 16 (sig 8))) rfl rfl (fun _ => by kernel_rfl) ?_; simp only [Act.put, List.setIfInBounds_toArray, List.set_cons_zero, List.set_cons_succ])
    | (refine wpList_const 13 (.agg (ints 16 (sig 9))) rfl rfl (fun _ => by kernel_rfl) ?_; simp only [Act.put, List.setIfInBounds_toArray, List.set_cons_zero, List.set_cons_succ])
    | (refine wpList_const 14 (.agg (ints 160 fun i => sig (i / 16) (i % 16))) rfl rfl (fun _ => by kernel_rfl) ?_; simp only [Act.put, List.setIfInBounds_toArray, List.set_cons_zero, List.set_cons_succ])
    | (refine wpList_alloc 3 (ints 160 fun _ => 0) rfl rfl rfl (fun _ => by kernel_rfl) ?_; intro u1 K1 B1 s1; simp only [Act.put, List.setIfInBounds_toArray, List.set_cons_zero, List.set_cons_succ])
    | (refine wpList_store_row (.tmp 3) (.tmp 14) rfl rfl rfl rfl rfl B1 (by kernel_rfl) (by rw [ints_size, ints_size]) (ints_cell _ _) ?_; intro u2 K2 B2)
    | (refine wpList_load_part (part := ints 16 (sig k)) 20 rfl rfl rfl rfl B2 Try.underlying26 rfl (by kernel_rfl) ?_ ?_; (exact fun j hj => part_get k j hk (by simpa [ints_size] using hj)); simp only [Act.put, List.setIfInBounds_toArray, List.set_cons_zero, List.set_cons_succ])
    | (refine wpList_store_row (.tmp 2) (.tmp 20) rfl rfl rfl rfl rfl ((B0.keeps K1 (by simp)).keeps K2 (by simp; omega)) (by kernel_rfl) (by rw [ints_size, ints_size]) (ints_cell _ _) ?_; intro u3 K3 B3))
  refine bodyPost_ret (v := .agg (ints 16 (sig k))) (results_cell_row rfl _ _ w.heap.size 26 _ (0, 0) _ rfl B3 Try.underlying26 rfl (by kernel_rfl)) rfl ⟨rfl, ?_⟩
  exact ((K0.trans K1 (by simp)).trans K2 (by simp; omega)).trans K3 (by simp)

end Go.Proofs.Ytainpnjddhabfaa
