/-
  Tables, places, the IV of mixs and of the reference.
-/
import Derived.Test.YtanibkocihjgjaaProg
import Derived.Test.YtanibkocihjgjaaS4
import Derived.Lib.Hide
namespace Go.Proofs.Ytanibkocihjgjaa
open Go.RowKit

def ivL : List (BitVec 32) := [0x6a09e667, 0xbb67ae85, 0x3c6ef372, 0xa54ff53a, 0x510e527f, 0x9b05688c, 0x1f83d9ab, 0x5be0cd19]
def ivV (i : Nat) : BitVec 32 := ivL.getD i 0
def sigL : List (List Nat) := [
  [0, 1, 2, 3, 4, 5, 6, 7, 8, 9, 10, 11, 12, 13, 14, 15],
  [14, 10, 4, 8, 9, 15, 13, 6, 1, 12, 0, 2, 11, 7, 5, 3],
  [11, 8, 12, 0, 5, 2, 15, 13, 10, 14, 3, 6, 7, 1, 9, 4],
  [7, 9, 3, 1, 13, 12, 11, 14, 2, 6, 5, 10, 4, 0, 15, 8],
  [9, 0, 5, 7, 2, 4, 10, 15, 14, 1, 11, 12, 6, 8, 3, 13],
  [2, 12, 6, 10, 0, 11, 8, 3, 4, 13, 7, 5, 15, 14, 1, 9],
  [12, 5, 1, 15, 14, 13, 4, 10, 0, 7, 6, 3, 9, 2, 8, 11],
  [13, 11, 7, 14, 12, 1, 3, 9, 5, 0, 15, 4, 8, 6, 2, 10],
  [6, 15, 14, 9, 11, 3, 0, 8, 12, 2, 13, 7, 1, 4, 10, 5],
  [10, 2, 8, 4, 7, 6, 1, 5, 15, 11, 9, 14, 3, 12, 13, 0]]
/-- The j-th place of row k. -/
def sig (k j : Nat) : Nat := (sigL.getD k []).getD j 0
def plL : List (List Nat) := [[0, 4, 8, 12], [1, 5, 9, 13], [2, 6, 10, 14], [3, 7, 11, 15], [0, 5, 10, 15], [1, 6, 11, 12], [2, 7, 8, 13], [3, 4, 9, 14]]
/-- The j-th place of the k-th step of a round. -/
def pl (k j : Nat) : Nat := (plL.getD k []).getD j 0
/-- Cells of ints. -/
def ints (n : Nat) (f : Nat → Nat) : Array Value := (Array.range n).map fun i => .int .i64 (f i : Nat)
def row (r : Int) : Nat := (r % 10).toNat

theorem row_lt (r : Int) : row r < 10 := by unfold row; omega
@[go_sem] theorem ints_size (n : Nat) (f : Nat → Nat) : (ints n f).size = n := by simp [ints]
@[go_sem] theorem ints_getElem (n : Nat) (f : Nat → Nat) (i : Nat) (h : i < (ints n f).size) : (ints n f)[i] = .int .i64 (f i : Nat) := by simp [ints]
theorem ints_get (n : Nat) (f : Nat → Nat) (i : Nat) (h : i < n) : (ints n f)[i]? = some (.int .i64 (f i : Nat)) := by simp [ints, h]


theorem iv_any (w : World) : Calls Try.prog 23 #[] w fun e w' => e = .returned (.agg (words 8 ivV)) ∧ Keeps w w' [] := by
  go_enter Try.func23, Try.ntmps23
  go_wp2
  refine bodyPost_ret (v := .agg (words 8 ivV)) (by simp [results, Try.results23, go_sem]; kernel_rfl) rfl ⟨rfl, ?_⟩
  exact (Keeps.refl _ _).alloc _
theorem refiv_any (w : World) : Calls Try.prog 24 #[] w fun e w' => e = .returned (.agg (words 8 ivV)) ∧ Keeps w w' [] := by
  have O := Own.start w []
  go_enter Try.func24, Try.ntmps24
  go_wp2_with (first
    | (refine own_alloc 0 (words 8 fun _ => 0) O rfl rfl rfl (fun _ => by kernel_rfl) ?_; clear O; intro W a0 O; simp only [Act.put, List.setIfInBounds_toArray, List.set_cons_zero, List.set_cons_succ])
    | (refine wpList_const 1 (.agg (words 8 ivV)) rfl rfl (fun _ => by kernel_rfl) ?_; simp only [Act.put, List.setIfInBounds_toArray, List.set_cons_zero, List.set_cons_succ])
    | (refine own_store_row 0 (.tmp 0) (.tmp 1) O rfl rfl rfl rfl rfl rfl (by kernel_rfl) (by simp only [words_size]) (words_cell _ _) ?_; clear O; intro W O; simp only [List.set_cons_zero] at O))
  refine bodyPost_ret (v := .agg (words 8 ivV)) (results_cell_row rfl _ _ a0 33 _ (0, 0) _ rfl (O.get 0 rfl) Try.underlying33 rfl (by kernel_rfl)) rfl ⟨rfl, O.keep⟩

theorem tmod_facts (n m : Int) (hm : 1 ≤ m) : -m < n.tmod m ∧ n.tmod m < m ∧ (n.tmod m < 0 → n.tmod m + m = n % m) ∧ (0 ≤ n.tmod m → n.tmod m = n % m) := by
  have h1 := Int.lt_tmod_of_pos n (b := m) (by omega)
  have h2 := Int.tmod_lt_of_pos n (b := m) (by omega)
  have h3 : (n.tmod m) % m = n % m := by rw [Int.tmod_def]; exact Int.sub_mul_emod_self_left n m _
  refine ⟨h1, h2, fun h => ?_, fun h => ?_⟩
  · rw [← h3, ← Int.add_emod_right, Int.emod_eq_of_lt (by omega) (by omega)]
  · rw [← h3, Int.emod_eq_of_lt h h2]

theorem rest_any (n m : Int) (hm : 1 ≤ m ∧ m ≤ 64) (w : World) : Calls Try.prog 64 #[.int .i64 n, .int .i64 m] w fun e w' => e = .returned (.int .i64 (n % m)) ∧ w = w' := by
  obtain ⟨h1, h2, h3, h4⟩ := tmod_facts n m hm.1
  by_cases h : n.tmod m < 0
  · have H := Lib.hid (h3 h)
    clear h3 h4
    go_enter Try.func64, Try.ntmps64
    go_wp2
    go_ret
    exact ⟨by rw [← H.out]; rfl, rfl⟩
  · have H := Lib.hid (h4 (by omega))
    clear h3 h4
    go_enter Try.func64, Try.ntmps64
    go_wp2
    go_ret
    exact ⟨by rw [← H.out]; rfl, rfl⟩

theorem ints_cell (n : Nat) (f : Nat → Nat) : ∀ v ∈ (ints n f).toList, v.oneCell' = true := by
  intro v hv
  simp only [ints, Array.toList_map, List.mem_map] at hv
  obtain ⟨i, _, rfl⟩ := hv
  rfl

theorem part_get (k j : Nat) (hk : k < 10) (hj : j < 16) : (ints 160 fun i => sig (i / 16) (i % 16))[k * 16 + j]? = (ints 16 (sig k))[j]? := by
  rw [ints_get _ _ _ (by omega), ints_get _ _ _ hj, show (k * 16 + j) / 16 = k from by omega, show (k * 16 + j) % 16 = j from by omega]

set_option maxRecDepth 100000 in
theorem sigma_any (r : Int) (w : World) :
    Calls Try.prog 61 #[.int .i64 r] w fun e w' => e = .returned (.agg (ints 16 (sig (row r)))) ∧ Keeps w w' [] := by
  obtain ⟨h1, h2, h3, h4⟩ := tmod_facts r 10 (by omega)
  have h5 : IntKind.i64.wrap (r.tmod 10 + 10) = r.tmod 10 + 10 := IntWalk.i64_in _ (by omega)
  have h6 : (r.tmod 10 + 10).tmod 10 = (row r : Int) := by
    rw [Int.tmod_eq_emod_of_nonneg (by omega)]; unfold row; omega
  have hk := row_lt r
  generalize row r = k at *
  clear h3 h4
  go_enter Try.func61, Try.ntmps61
  go_wp2_with (first
    | (refine wpList_alloc 2 (ints 16 fun _ => 0) rfl rfl rfl (fun _ => by kernel_rfl) ?_; intro u0 K0 B0 s0; simp only [Act.put, List.setIfInBounds_toArray, List.set_cons_zero, List.set_cons_succ])
    | (refine wpList_const 4 (.agg (ints 16 (sig 0))) rfl rfl (fun _ => by kernel_rfl) ?_; simp only [Act.put, List.setIfInBounds_toArray, List.set_cons_zero, List.set_cons_succ])
    | (refine wpList_const 5 (.agg (ints 16 (sig 1))) rfl rfl (fun _ => by kernel_rfl) ?_; simp only [Act.put, List.setIfInBounds_toArray, List.set_cons_zero, List.set_cons_succ])
    | (refine wpList_const 6 (.agg (ints 16 (sig 2))) rfl rfl (fun _ => by kernel_rfl) ?_; simp only [Act.put, List.setIfInBounds_toArray, List.set_cons_zero, List.set_cons_succ])
    | (refine wpList_const 7 (.agg (ints 16 (sig 3))) rfl rfl (fun _ => by kernel_rfl) ?_; simp only [Act.put, List.setIfInBounds_toArray, List.set_cons_zero, List.set_cons_succ])
    | (refine wpList_const 8 (.agg (ints 16 (sig 4))) rfl rfl (fun _ => by kernel_rfl) ?_; simp only [Act.put, List.setIfInBounds_toArray, List.set_cons_zero, List.set_cons_succ])
    | (refine wpList_const 9 (.agg (ints 16 (sig 5))) rfl rfl (fun _ => by kernel_rfl) ?_; simp only [Act.put, List.setIfInBounds_toArray, List.set_cons_zero, List.set_cons_succ])
    | (refine wpList_const 10 (.agg (ints 16 (sig 6))) rfl rfl (fun _ => by kernel_rfl) ?_; simp only [Act.put, List.setIfInBounds_toArray, List.set_cons_zero, List.set_cons_succ])
    | (refine wpList_const 11 (.agg (ints 16 (sig 7))) rfl rfl (fun _ => by kernel_rfl) ?_; simp only [Act.put, List.setIfInBounds_toArray, List.set_cons_zero, List.set_cons_succ])
    | (refine wpList_const 12 (.agg (ints 16 (sig 8))) rfl rfl (fun _ => by kernel_rfl) ?_; simp only [Act.put, List.setIfInBounds_toArray, List.set_cons_zero, List.set_cons_succ])
    | (refine wpList_const 13 (.agg (ints 16 (sig 9))) rfl rfl (fun _ => by kernel_rfl) ?_; simp only [Act.put, List.setIfInBounds_toArray, List.set_cons_zero, List.set_cons_succ])
    | (refine wpList_const 14 (.agg (ints 160 fun i => sig (i / 16) (i % 16))) rfl rfl (fun _ => by kernel_rfl) ?_; simp only [Act.put, List.setIfInBounds_toArray, List.set_cons_zero, List.set_cons_succ])
    | (refine wpList_alloc 3 (ints 160 fun _ => 0) rfl rfl rfl (fun _ => by kernel_rfl) ?_; intro u1 K1 B1 s1; simp only [Act.put, List.setIfInBounds_toArray, List.set_cons_zero, List.set_cons_succ])
    | (refine wpList_store_row (.tmp 3) (.tmp 14) rfl rfl rfl rfl rfl B1 (by kernel_rfl) (by rw [ints_size, ints_size]) (ints_cell _ _) ?_; intro u2 K2 B2)
    | (refine wpList_load_part (part := ints 16 (sig k)) 20 rfl rfl rfl rfl B2 Try.underlying86 rfl (by kernel_rfl) ?_ ?_; (exact fun j hj => part_get k j hk (by simpa [ints_size] using hj)); simp only [Act.put, List.setIfInBounds_toArray, List.set_cons_zero, List.set_cons_succ])
    | (refine wpList_store_row (.tmp 2) (.tmp 20) rfl rfl rfl rfl rfl ((B0.keeps K1 (by simp)).keeps K2 (by simp; omega)) (by kernel_rfl) (by rw [ints_size, ints_size]) (ints_cell _ _) ?_; intro u3 K3 B3))
  refine bodyPost_ret (v := .agg (ints 16 (sig k))) (results_cell_row rfl _ _ w.heap.size 86 _ (0, 0) _ rfl B3 Try.underlying86 rfl (by kernel_rfl)) rfl ⟨rfl, ?_⟩
  exact ((K0.trans K1 (by simp)).trans K2 (by simp; omega)).trans K3 (by simp)

def digitN (c : Nat) : Int := if 48 ≤ c ∧ c ≤ 57 then (c : Int) - 48 else if 97 ≤ c ∧ c ≤ 102 then (c : Int) - 97 + 10 else if 65 ≤ c ∧ c ≤ 70 then (c : Int) - 65 + 10 else -1

theorem digit_any (c : Nat) (hc : c < 256) (w : World) : Calls Try.prog 63 #[.int .u8 c] w fun e w' => e = .returned (.int .i64 (digitN c)) ∧ w = w' := by
  by_cases h1 : 48 ≤ c ∧ c ≤ 57
  · obtain ⟨a, b⟩ := h1
    have H := Lib.hid (show digitN c = (c : Int) - 48 by unfold digitN; rw [if_pos ⟨a, b⟩])
    go_enter Try.func63, Try.ntmps63
    go_wp2
    go_ret
    exact ⟨by rw [H.out]; rfl, rfl⟩
  · by_cases h2 : 97 ≤ c ∧ c ≤ 102
    · obtain ⟨a, b⟩ := h2
      have H := Lib.hid (show digitN c = (c : Int) - 97 + 10 by unfold digitN; rw [if_neg h1, if_pos ⟨a, b⟩])
      go_enter Try.func63, Try.ntmps63
      go_wp2
      go_ret
      exact ⟨by rw [H.out]; rfl, rfl⟩
    · by_cases h3 : 65 ≤ c ∧ c ≤ 70
      · obtain ⟨a, b⟩ := h3
        have H := Lib.hid (show digitN c = (c : Int) - 65 + 10 by unfold digitN; rw [if_neg h1, if_neg h2, if_pos ⟨a, b⟩])
        go_enter Try.func63, Try.ntmps63
        go_wp2
        go_ret
        exact ⟨by rw [H.out]; rfl, rfl⟩
      · have H := Lib.hid (show digitN c = -1 by unfold digitN; rw [if_neg h1, if_neg h2, if_neg h3])
        go_enter Try.func63, Try.ntmps63
        go_wp2
        all_goals (go_ret; exact ⟨by rw [H.out]; rfl, rfl⟩)

def rowsB : ByteArray := ⟨#[48, 49, 50, 51, 52, 53, 54, 55, 56, 57, 97, 98, 99, 100, 101, 102, 101, 97, 52, 56, 57, 102, 100, 54, 49, 99, 48, 50, 98, 55, 53, 51, 98, 56, 99, 48, 53, 50, 102, 100, 97, 101, 51, 54, 55, 49, 57, 52, 55, 57, 51, 49, 100, 99, 98, 101, 50, 54, 53, 97, 52, 48, 102, 56, 57, 48, 53, 55, 50, 52, 97, 102, 101, 49, 98, 99, 54, 56, 51, 100, 50, 99, 54, 97, 48, 98, 56, 51, 52, 100, 55, 53, 102, 101, 49, 57, 99, 53, 49, 102, 101, 100, 52, 97, 48, 55, 54, 51, 57, 50, 56, 98, 100, 98, 55, 101, 99, 49, 51, 57, 53, 48, 102, 52, 56, 54, 50, 97, 54, 102, 101, 57, 98, 51, 48, 56, 99, 50, 100, 55, 49, 52, 97, 53, 97, 50, 56, 52, 55, 54, 49, 53, 102, 98, 57, 101, 51, 99, 100, 48]⟩
theorem rows_sig (k i : Nat) (hk : k < 10) (hi : i < 16) (h : 16 * k + i < rowsB.size) : digitN (rowsB[16 * k + i].toNat) = (sig k i : Nat) := by
  have key : ∀ (k : Fin 10) (i : Fin 16), digitN ((rowsB.get! (16 * k.1 + i.1)).toNat) = (sig k.1 i.1 : Nat) := by decide +kernel
  have := key ⟨k, hk⟩ ⟨i, hi⟩
  rw [← this]
  have e : rowsB.get! (16 * k + i) = rowsB[16 * k + i] := by
    simp only [ByteArray.get!]
    exact getElem!_pos rowsB.data (16 * k + i) h
  rw [e]

set_option maxRecDepth 100000 in
theorem sigref_any (r : Int) (i : Nat) (hi : i < 16) (w : World) : Calls Try.prog 57 #[.int .i64 r, .int .i64 i] w fun e w' => e = .returned (.int .i64 (sig (row r) i : Nat)) ∧ w = w' := by
  have hk : r % 10 = (row r : Int) := by unfold row; omega
  have hl := row_lt r
  have H := Lib.hid hk
  clear hk
  generalize row r = k at *
  go_enter Try.func57, Try.ntmps57
  go_wp2_with (go_at_call 64; refine (rest_any _ _ (by omega) _).mono ?_; rintro e w' ⟨he, rfl⟩; rw [H.out] at he; subst he)
  refine (digit_any _ (UInt8.toNat_lt _) _).mono ?_
  rintro e w' ⟨rfl, rfl⟩
  go_wp2
  go_ret
  exact ⟨congrArg (fun n => Ending.returned (.int .i64 n)) (rows_sig k i hl hi (by show _ < 160; omega)), rfl⟩
set_option maxRecDepth 100000 in
theorem places_any (w : World) : Calls Try.prog 62 #[] w fun e w' => e = .returned (.agg (ints 32 fun i => pl (i / 4) (i % 4))) ∧ Keeps w w' [] := by
  go_enter Try.func62, Try.ntmps62
  go_wp2_with (first
    | (refine wpList_alloc 0 (ints 32 fun _ => 0) rfl rfl rfl (fun _ => by kernel_rfl) ?_; intro u0 K0 B0 s0; simp only [Act.put, List.setIfInBounds_toArray, List.set_cons_zero, List.set_cons_succ])
    | (refine wpList_const 1 (.agg (ints 4 (pl 0))) rfl rfl (fun _ => by kernel_rfl) ?_; simp only [Act.put, List.setIfInBounds_toArray, List.set_cons_zero, List.set_cons_succ])
    | (refine wpList_const 2 (.agg (ints 4 (pl 1))) rfl rfl (fun _ => by kernel_rfl) ?_; simp only [Act.put, List.setIfInBounds_toArray, List.set_cons_zero, List.set_cons_succ])
    | (refine wpList_const 3 (.agg (ints 4 (pl 2))) rfl rfl (fun _ => by kernel_rfl) ?_; simp only [Act.put, List.setIfInBounds_toArray, List.set_cons_zero, List.set_cons_succ])
    | (refine wpList_const 4 (.agg (ints 4 (pl 3))) rfl rfl (fun _ => by kernel_rfl) ?_; simp only [Act.put, List.setIfInBounds_toArray, List.set_cons_zero, List.set_cons_succ])
    | (refine wpList_const 5 (.agg (ints 4 (pl 4))) rfl rfl (fun _ => by kernel_rfl) ?_; simp only [Act.put, List.setIfInBounds_toArray, List.set_cons_zero, List.set_cons_succ])
    | (refine wpList_const 6 (.agg (ints 4 (pl 5))) rfl rfl (fun _ => by kernel_rfl) ?_; simp only [Act.put, List.setIfInBounds_toArray, List.set_cons_zero, List.set_cons_succ])
    | (refine wpList_const 7 (.agg (ints 4 (pl 6))) rfl rfl (fun _ => by kernel_rfl) ?_; simp only [Act.put, List.setIfInBounds_toArray, List.set_cons_zero, List.set_cons_succ])
    | (refine wpList_const 8 (.agg (ints 4 (pl 7))) rfl rfl (fun _ => by kernel_rfl) ?_; simp only [Act.put, List.setIfInBounds_toArray, List.set_cons_zero, List.set_cons_succ])
    | (refine wpList_const 9 (.agg (ints 32 fun i => pl (i / 4) (i % 4))) rfl rfl (fun _ => by kernel_rfl) ?_; simp only [Act.put, List.setIfInBounds_toArray, List.set_cons_zero, List.set_cons_succ])
    | (refine wpList_store_row (.tmp 0) (.tmp 9) rfl rfl rfl rfl rfl B0 (by kernel_rfl) (by rw [ints_size, ints_size]) (ints_cell _ _) ?_; intro u1 K1 B1))
  refine bodyPost_ret (v := .agg (ints 32 fun i => pl (i / 4) (i % 4))) (results_cell_row rfl _ _ w.heap.size 88 _ (0, 0) _ rfl B1 Try.underlying88 rfl (by kernel_rfl)) rfl ⟨rfl, ?_⟩
  exact K0.trans K1 (by simp)

theorem pl_get (k j : Nat) (hk : k < 8) (hj : j < 4) : (ints 32 fun i => pl (i / 4) (i % 4))[k * 4 + j]? = (ints 4 (pl k))[j]? := by
  rw [ints_get _ _ _ (by omega), ints_get _ _ _ hj, show (k * 4 + j) / 4 = k from by omega, show (k * 4 + j) % 4 = j from by omega]


theorem pl_lt (k j : Nat) (hk : k < 8) (hj : j < 4) : pl k j < 16 := by
  have h : ∀ (k : Fin 8) (j : Fin 4), pl k.1 j.1 < 16 := by decide +kernel
  exact h ⟨k, hk⟩ ⟨j, hj⟩
theorem sig_lt (k j : Nat) (hk : k < 10) (hj : j < 16) : sig k j < 16 := by
  have h : ∀ (k : Fin 10) (j : Fin 16), sig k.1 j.1 < 16 := by decide +kernel
  exact h ⟨k, hk⟩ ⟨j, hj⟩
theorem pl_ne (k : Nat) (hk : k < 8) : pl k 0 ≠ pl k 1 ∧ pl k 0 ≠ pl k 2 ∧ pl k 0 ≠ pl k 3 ∧ pl k 1 ≠ pl k 2 ∧ pl k 1 ≠ pl k 3 ∧ pl k 2 ≠ pl k 3 := by
  have h : ∀ k : Fin 8, pl k.1 0 ≠ pl k.1 1 ∧ pl k.1 0 ≠ pl k.1 2 ∧ pl k.1 0 ≠ pl k.1 3 ∧ pl k.1 1 ≠ pl k.1 2 ∧ pl k.1 1 ≠ pl k.1 3 ∧ pl k.1 2 ≠ pl k.1 3 := by decide +kernel
  exact h ⟨k, hk⟩
theorem sigref_at (r i : Int) (n : Nat) (hn : i = n) (h : n < 16) (w : World) : Calls Try.prog 57 #[.int .i64 r, .int .i64 i] w fun e w' => e = .returned (.int .i64 (sig (row r) n : Nat)) ∧ w = w' := by
  subst hn
  exact sigref_any r n h w

/-! ### four of the reference -/
theorem refour_0 (w : World) : Calls Try.prog 56 #[.int .i64 0] w fun e w' => e = .returned (.tuple #[.int .i64 0, .int .i64 4, .int .i64 8, .int .i64 12]) ∧ w = w' := by
  go_enter Try.func56, Try.ntmps56
  go_wp2
  refine bodyPost_ret (v := .tuple #[.int .i64 0, .int .i64 4, .int .i64 8, .int .i64 12]) (by simp [results, Try.results56, go_sem]; try kernel_rfl) rfl ⟨rfl, rfl⟩
theorem refour_1 (w : World) : Calls Try.prog 56 #[.int .i64 1] w fun e w' => e = .returned (.tuple #[.int .i64 1, .int .i64 5, .int .i64 9, .int .i64 13]) ∧ w = w' := by
  go_enter Try.func56, Try.ntmps56
  go_wp2
  refine bodyPost_ret (v := .tuple #[.int .i64 1, .int .i64 5, .int .i64 9, .int .i64 13]) (by simp [results, Try.results56, go_sem]; try kernel_rfl) rfl ⟨rfl, rfl⟩
theorem refour_2 (w : World) : Calls Try.prog 56 #[.int .i64 2] w fun e w' => e = .returned (.tuple #[.int .i64 2, .int .i64 6, .int .i64 10, .int .i64 14]) ∧ w = w' := by
  go_enter Try.func56, Try.ntmps56
  go_wp2
  refine bodyPost_ret (v := .tuple #[.int .i64 2, .int .i64 6, .int .i64 10, .int .i64 14]) (by simp [results, Try.results56, go_sem]; try kernel_rfl) rfl ⟨rfl, rfl⟩
theorem refour_3 (w : World) : Calls Try.prog 56 #[.int .i64 3] w fun e w' => e = .returned (.tuple #[.int .i64 3, .int .i64 7, .int .i64 11, .int .i64 15]) ∧ w = w' := by
  go_enter Try.func56, Try.ntmps56
  go_wp2
  refine bodyPost_ret (v := .tuple #[.int .i64 3, .int .i64 7, .int .i64 11, .int .i64 15]) (by simp [results, Try.results56, go_sem]; try kernel_rfl) rfl ⟨rfl, rfl⟩
theorem refour_4 (w : World) : Calls Try.prog 56 #[.int .i64 4] w fun e w' => e = .returned (.tuple #[.int .i64 0, .int .i64 5, .int .i64 10, .int .i64 15]) ∧ w = w' := by
  go_enter Try.func56, Try.ntmps56
  go_wp2
  refine bodyPost_ret (v := .tuple #[.int .i64 0, .int .i64 5, .int .i64 10, .int .i64 15]) (by simp [results, Try.results56, go_sem]; try kernel_rfl) rfl ⟨rfl, rfl⟩
theorem refour_5 (w : World) : Calls Try.prog 56 #[.int .i64 5] w fun e w' => e = .returned (.tuple #[.int .i64 1, .int .i64 6, .int .i64 11, .int .i64 12]) ∧ w = w' := by
  go_enter Try.func56, Try.ntmps56
  go_wp2
  refine bodyPost_ret (v := .tuple #[.int .i64 1, .int .i64 6, .int .i64 11, .int .i64 12]) (by simp [results, Try.results56, go_sem]; try kernel_rfl) rfl ⟨rfl, rfl⟩
theorem refour_6 (w : World) : Calls Try.prog 56 #[.int .i64 6] w fun e w' => e = .returned (.tuple #[.int .i64 2, .int .i64 7, .int .i64 8, .int .i64 13]) ∧ w = w' := by
  go_enter Try.func56, Try.ntmps56
  go_wp2
  refine bodyPost_ret (v := .tuple #[.int .i64 2, .int .i64 7, .int .i64 8, .int .i64 13]) (by simp [results, Try.results56, go_sem]; try kernel_rfl) rfl ⟨rfl, rfl⟩
theorem refour_7 (w : World) : Calls Try.prog 56 #[.int .i64 7] w fun e w' => e = .returned (.tuple #[.int .i64 3, .int .i64 4, .int .i64 9, .int .i64 14]) ∧ w = w' := by
  go_enter Try.func56, Try.ntmps56
  go_wp2
  refine bodyPost_ret (v := .tuple #[.int .i64 3, .int .i64 4, .int .i64 9, .int .i64 14]) (by simp [results, Try.results56, go_sem]; try kernel_rfl) rfl ⟨rfl, rfl⟩
theorem refour_any (k : Nat) (hk : k < 8) (w : World) : Calls Try.prog 56 #[.int .i64 (k : Int)] w fun e w' => e = .returned (.tuple #[.int .i64 (pl k 0 : Nat), .int .i64 (pl k 1 : Nat), .int .i64 (pl k 2 : Nat), .int .i64 (pl k 3 : Nat)]) ∧ w = w' := by
  match k, hk with
  | 0, _ => exact refour_0 w
  | 1, _ => exact refour_1 w
  | 2, _ => exact refour_2 w
  | 3, _ => exact refour_3 w
  | 4, _ => exact refour_4 w
  | 5, _ => exact refour_5 w
  | 6, _ => exact refour_6 w
  | 7, _ => exact refour_7 w

theorem alive_any (w : World) : Calls Try.prog 32 #[] w fun e w' => e = .returned (.bool true) ∧ Keeps w w' [] := by
  have O := Own.start w []
  have h1 : (ivV 0 == BitVec.ofInt 32 1779033703) = true := by decide
  have h2 : (ivV 7 == BitVec.ofInt 32 1541459225) = true := by decide
  go_enter Try.func32, Try.ntmps32
  go_wp2_with (first
    | (go_at_call 23; refine (iv_any _).mono ?_; rintro e W ⟨rfl, K⟩; replace O := O.keeps K; clear K)
    | (refine own_alloc 1 (words 8 fun _ => 0) O rfl rfl rfl (fun _ => by kernel_rfl) ?_; clear O; intro W a1 O; simp only [Act.put, List.setIfInBounds_toArray, List.set_cons_zero, List.set_cons_succ])
    | (refine own_store_row 0 (.tmp 1) (.tmp 2) O rfl rfl rfl rfl rfl rfl (by kernel_rfl) (by simp only [words_size]) (words_cell _ _) ?_; clear O; intro W O; simp only [List.set_cons_zero] at O; have c1 := (O.get 0 rfl).cell))
  go_ret
  exact ⟨rfl, O.keep⟩
end Go.Proofs.Ytanibkocihjgjaa
