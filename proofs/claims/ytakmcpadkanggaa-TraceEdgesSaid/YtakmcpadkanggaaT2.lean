/-
  What a field of an instruction must be: fields, may and the closure of sched.Valid.
-/
import Derived.Test.YtakmcpadkanggaaT1
namespace Go.Proofs.Ytakmcpadkanggaa
open Go.RowKit

def ints (n : Nat) (f : Nat → Nat) : Array Value := (Array.range n).map fun i => .int .i64 (f i : Nat)
@[go_sem] theorem ints_size (n : Nat) (f : Nat → Nat) : (ints n f).size = n := by simp [ints]
theorem ints_get (n : Nat) (f : Nat → Nat) (i : Nat) (h : i < n) : (ints n f)[i]? = some (.int .i64 (f i : Nat)) := by simp [ints, h]
theorem ints_cell (n : Nat) (f : Nat → Nat) : ∀ v ∈ (ints n f).toList, v.oneCell' = true := by
  intro v hv
  simp only [ints, Array.toList_map, List.mem_map] at hv
  obtain ⟨i, _, rfl⟩ := hv
  rfl
theorem results_cell_tmp {P : Program} {fn : Func} {p q : Tmp} {ty : TypeId} (h : fn.results = #[.cell p ty, .tmp q]) (tmps : Array Value) (w : World) (g : Nat) (t : TypeId) (cs : Array Value) (d : TypeDesc)
    (hp : tmps.getD p undef = .pointer (some ⟨g, 0, none⟩)) (hg : Blk w g t cs)
    (hu : P.underlying ty = some d) (hd : (match d with | .struct _ | .array _ _ => true | _ => false) = true) (hi : (P.info? ty).map (·.size) = some cs.size) (v : Value) (hq : tmps.getD q undef = v) :
    (results fn tmps).run P w = .ok (.tuple #[.agg cs, v]) w := by
  have hp' : tmps[p]?.getD undef = .pointer (some ⟨g, 0, none⟩) := by simpa using hp
  subst hq
  simp [results, h, hp', asAddr, run_loadVar_row w g t ty cs (0, 0) d hg hu hd hi]

/-- What fields A, B and C of an operation are: 0 nothing, 1 register, 2 place, 3 any number, 4 channel, 5 lock, 6 group, 7 program. -/
def kdL : List (List Nat) := [[0, 0, 0], [1, 3, 0], [1, 1, 0], [1, 1, 2], [0, 0, 2], [4, 1, 0], [4, 1, 2], [4, 0, 0], [5, 0, 0], [5, 0, 0], [6, 3, 0], [6, 0, 0], [1, 1, 0], [1, 1, 0], [7, 0, 0], [3, 1, 0], [0, 0, 0]]
def kd (o k : Nat) : Nat := (kdL.getD o []).getD k 0
theorem kd_le (o k : Nat) (ho : o < 17) (hk : k < 3) : kd o k ≤ 7 := by
  have h : ∀ (o : Fin 17) (k : Fin 3), kd o.1 k.1 ≤ 7 := by decide +kernel
  exact h ⟨o, ho⟩ ⟨k, hk⟩
def opOk (op : Int) : Bool := decide (1 ≤ op) && decide (op ≤ 16)
theorem kd_part (o j : Nat) (ho : o < 17) (hj : j < 3) : (ints 51 fun i => kd (i / 3) (i % 3))[o * 3 + j]? = (ints 3 (kd o))[j]? := by
  rw [ints_get _ _ _ (by omega), ints_get _ _ _ hj, show (o * 3 + j) / 3 = o from by omega, show (o * 3 + j) % 3 = j from by omega]

theorem shared_any (n : Int) (w : World) : Calls Try.prog 52 #[.int .i64 n] w fun e w' => e = .returned (.bool (decide (0 ≤ n) && decide (n ≤ 64))) ∧ w = w' := by
  by_cases h0 : 0 ≤ n
  · by_cases h1 : n ≤ 64
    · have H := Lib.hid (show (decide (0 ≤ n) && decide (n ≤ 64)) = true by simp [h0, h1])
      go_enter Try.func52, Try.ntmps52
      go_wp2
      go_ret
      exact ⟨by rw [H.out]; rfl, rfl⟩
    · generalize hr : (decide (0 ≤ n) && decide (n ≤ 64)) = r
      obtain rfl : false = r := by rw [← hr]; simp [h1]
      clear hr
      go_enter Try.func52, Try.ntmps52
      go_wp2
      go_ret
      exact ⟨rfl, rfl⟩
  · have H := Lib.hid (show (decide (0 ≤ n) && decide (n ≤ 64)) = false by simp [h0])
    go_enter Try.func52, Try.ntmps52
    go_wp2
    go_ret
    exact ⟨by rw [H.out]; rfl, rfl⟩

set_option maxRecDepth 100000 in
set_option maxHeartbeats 1000000 in
theorem fields_good (o : Nat) (h0 : 1 ≤ o) (h1 : o ≤ 16) (w : World) : Calls Try.prog 85 #[.int .i64 (o : Int)] w fun e w' => e = .returned (.tuple #[.agg (ints 3 (kd o)), .bool true]) ∧ Keeps w w' [] := by
  have O := Own.start w []
  have g0 : ¬ (o : Int) < 1 := by omega
  have g1 : ¬ (17 : Int) ≤ o := by omega
  have g2 : (0 : Int) ≤ o := by omega
  have g3 : (o : Int) < 17 := by omega
  go_enter Try.func85, Try.ntmps85
  go_wp2_with (first
    | go_big_skip
    | (refine own_alloc 2 (ints 3 fun _ => 0) O rfl rfl rfl (fun _ => by kernel_rfl) ?_; clear O; intro W a2 O; simp only [Act.put, List.setIfInBounds_toArray, List.set_cons_zero, List.set_cons_succ])
    | (refine wpList_const 5 (.agg (ints 3 (kd 1))) rfl rfl (fun _ => by kernel_rfl) ?_; simp only [Act.put, List.setIfInBounds_toArray, List.set_cons_zero, List.set_cons_succ])
    | (refine wpList_const 6 (.agg (ints 3 (kd 2))) rfl rfl (fun _ => by kernel_rfl) ?_; simp only [Act.put, List.setIfInBounds_toArray, List.set_cons_zero, List.set_cons_succ])
    | (refine wpList_const 7 (.agg (ints 3 (kd 3))) rfl rfl (fun _ => by kernel_rfl) ?_; simp only [Act.put, List.setIfInBounds_toArray, List.set_cons_zero, List.set_cons_succ])
    | (refine wpList_const 8 (.agg (ints 3 (kd 4))) rfl rfl (fun _ => by kernel_rfl) ?_; simp only [Act.put, List.setIfInBounds_toArray, List.set_cons_zero, List.set_cons_succ])
    | (refine wpList_const 9 (.agg (ints 3 (kd 5))) rfl rfl (fun _ => by kernel_rfl) ?_; simp only [Act.put, List.setIfInBounds_toArray, List.set_cons_zero, List.set_cons_succ])
    | (refine wpList_const 10 (.agg (ints 3 (kd 6))) rfl rfl (fun _ => by kernel_rfl) ?_; simp only [Act.put, List.setIfInBounds_toArray, List.set_cons_zero, List.set_cons_succ])
    | (refine wpList_const 11 (.agg (ints 3 (kd 7))) rfl rfl (fun _ => by kernel_rfl) ?_; simp only [Act.put, List.setIfInBounds_toArray, List.set_cons_zero, List.set_cons_succ])
    | (refine wpList_const 12 (.agg (ints 3 (kd 8))) rfl rfl (fun _ => by kernel_rfl) ?_; simp only [Act.put, List.setIfInBounds_toArray, List.set_cons_zero, List.set_cons_succ])
    | (refine wpList_const 13 (.agg (ints 3 (kd 9))) rfl rfl (fun _ => by kernel_rfl) ?_; simp only [Act.put, List.setIfInBounds_toArray, List.set_cons_zero, List.set_cons_succ])
    | (refine wpList_const 14 (.agg (ints 3 (kd 10))) rfl rfl (fun _ => by kernel_rfl) ?_; simp only [Act.put, List.setIfInBounds_toArray, List.set_cons_zero, List.set_cons_succ])
    | (refine wpList_const 15 (.agg (ints 3 (kd 11))) rfl rfl (fun _ => by kernel_rfl) ?_; simp only [Act.put, List.setIfInBounds_toArray, List.set_cons_zero, List.set_cons_succ])
    | (refine wpList_const 16 (.agg (ints 3 (kd 12))) rfl rfl (fun _ => by kernel_rfl) ?_; simp only [Act.put, List.setIfInBounds_toArray, List.set_cons_zero, List.set_cons_succ])
    | (refine wpList_const 17 (.agg (ints 3 (kd 13))) rfl rfl (fun _ => by kernel_rfl) ?_; simp only [Act.put, List.setIfInBounds_toArray, List.set_cons_zero, List.set_cons_succ])
    | (refine wpList_const 18 (.agg (ints 3 (kd 14))) rfl rfl (fun _ => by kernel_rfl) ?_; simp only [Act.put, List.setIfInBounds_toArray, List.set_cons_zero, List.set_cons_succ])
    | (refine wpList_const 19 (.agg (ints 3 (kd 15))) rfl rfl (fun _ => by kernel_rfl) ?_; simp only [Act.put, List.setIfInBounds_toArray, List.set_cons_zero, List.set_cons_succ])
    | (refine wpList_const 20 (.agg (ints 3 (kd 16))) rfl rfl (fun _ => by kernel_rfl) ?_; simp only [Act.put, List.setIfInBounds_toArray, List.set_cons_zero, List.set_cons_succ])
    | (refine wpList_const 21 (.agg (ints 51 fun i => kd (i / 3) (i % 3))) rfl rfl (fun _ => by kernel_rfl) ?_; simp only [Act.put, List.setIfInBounds_toArray, List.set_cons_zero, List.set_cons_succ])
    | (refine own_alloc 4 (ints 51 fun _ => 0) O rfl rfl rfl (fun _ => by kernel_rfl) ?_; clear O; intro W a4 O; simp only [Act.put, List.setIfInBounds_toArray, List.set_cons_zero, List.set_cons_succ])
    | (refine own_store_row 0 (.tmp 4) (.tmp 21) O rfl rfl rfl rfl rfl rfl (by kernel_rfl) (by simp only [ints_size]) (ints_cell _ _) ?_; clear O; intro W O; simp only [List.set_cons_zero] at O)
    | (refine own_load_part (part := ints 3 (kd o)) 31 0 O rfl rfl rfl rfl rfl Try.underlying144 rfl (by kernel_rfl) ?_ ?_; (exact fun j hj => kd_part o j (by omega) (by simpa [ints_size] using hj)); simp only [Act.put, List.setIfInBounds_toArray, List.set_cons_zero, List.set_cons_succ])
    | (refine own_store_row 1 (.tmp 2) (.tmp 31) O rfl rfl rfl rfl rfl rfl (by kernel_rfl) (by simp only [ints_size]) (ints_cell _ _) ?_; clear O; intro W O; simp only [List.set_cons_zero, List.set_cons_succ] at O))
  refine bodyPost_ret (v := .tuple #[.agg (ints 3 (kd o)), .bool true]) (results_cell_tmp rfl _ _ a2 144 _ _ rfl (O.get 1 rfl) Try.underlying144 rfl (by kernel_rfl) _ rfl) rfl ⟨?_, O.keep⟩
  rfl

set_option maxRecDepth 100000 in
set_option maxHeartbeats 1000000 in
theorem fields_low (op : Int) (h : op < 1) (w : World) : Calls Try.prog 85 #[.int .i64 op] w fun e w' => e = .returned (.tuple #[.agg (ints 3 fun _ => 0), .bool false]) ∧ Keeps w w' [] := by
  have O := Own.start w []
  go_enter Try.func85, Try.ntmps85
  go_wp2_with (first
    | go_big_skip
    | (refine own_alloc 2 (ints 3 fun _ => 0) O rfl rfl rfl (fun _ => by kernel_rfl) ?_; clear O; intro W a2 O; simp only [Act.put, List.setIfInBounds_toArray, List.set_cons_zero, List.set_cons_succ])
    | (refine wpList_const 5 (.agg (ints 3 (kd 1))) rfl rfl (fun _ => by kernel_rfl) ?_; simp only [Act.put, List.setIfInBounds_toArray, List.set_cons_zero, List.set_cons_succ])
    | (refine wpList_const 6 (.agg (ints 3 (kd 2))) rfl rfl (fun _ => by kernel_rfl) ?_; simp only [Act.put, List.setIfInBounds_toArray, List.set_cons_zero, List.set_cons_succ])
    | (refine wpList_const 7 (.agg (ints 3 (kd 3))) rfl rfl (fun _ => by kernel_rfl) ?_; simp only [Act.put, List.setIfInBounds_toArray, List.set_cons_zero, List.set_cons_succ])
    | (refine wpList_const 8 (.agg (ints 3 (kd 4))) rfl rfl (fun _ => by kernel_rfl) ?_; simp only [Act.put, List.setIfInBounds_toArray, List.set_cons_zero, List.set_cons_succ])
    | (refine wpList_const 9 (.agg (ints 3 (kd 5))) rfl rfl (fun _ => by kernel_rfl) ?_; simp only [Act.put, List.setIfInBounds_toArray, List.set_cons_zero, List.set_cons_succ])
    | (refine wpList_const 10 (.agg (ints 3 (kd 6))) rfl rfl (fun _ => by kernel_rfl) ?_; simp only [Act.put, List.setIfInBounds_toArray, List.set_cons_zero, List.set_cons_succ])
    | (refine wpList_const 11 (.agg (ints 3 (kd 7))) rfl rfl (fun _ => by kernel_rfl) ?_; simp only [Act.put, List.setIfInBounds_toArray, List.set_cons_zero, List.set_cons_succ])
    | (refine wpList_const 12 (.agg (ints 3 (kd 8))) rfl rfl (fun _ => by kernel_rfl) ?_; simp only [Act.put, List.setIfInBounds_toArray, List.set_cons_zero, List.set_cons_succ])
    | (refine wpList_const 13 (.agg (ints 3 (kd 9))) rfl rfl (fun _ => by kernel_rfl) ?_; simp only [Act.put, List.setIfInBounds_toArray, List.set_cons_zero, List.set_cons_succ])
    | (refine wpList_const 14 (.agg (ints 3 (kd 10))) rfl rfl (fun _ => by kernel_rfl) ?_; simp only [Act.put, List.setIfInBounds_toArray, List.set_cons_zero, List.set_cons_succ])
    | (refine wpList_const 15 (.agg (ints 3 (kd 11))) rfl rfl (fun _ => by kernel_rfl) ?_; simp only [Act.put, List.setIfInBounds_toArray, List.set_cons_zero, List.set_cons_succ])
    | (refine wpList_const 16 (.agg (ints 3 (kd 12))) rfl rfl (fun _ => by kernel_rfl) ?_; simp only [Act.put, List.setIfInBounds_toArray, List.set_cons_zero, List.set_cons_succ])
    | (refine wpList_const 17 (.agg (ints 3 (kd 13))) rfl rfl (fun _ => by kernel_rfl) ?_; simp only [Act.put, List.setIfInBounds_toArray, List.set_cons_zero, List.set_cons_succ])
    | (refine wpList_const 18 (.agg (ints 3 (kd 14))) rfl rfl (fun _ => by kernel_rfl) ?_; simp only [Act.put, List.setIfInBounds_toArray, List.set_cons_zero, List.set_cons_succ])
    | (refine wpList_const 19 (.agg (ints 3 (kd 15))) rfl rfl (fun _ => by kernel_rfl) ?_; simp only [Act.put, List.setIfInBounds_toArray, List.set_cons_zero, List.set_cons_succ])
    | (refine wpList_const 20 (.agg (ints 3 (kd 16))) rfl rfl (fun _ => by kernel_rfl) ?_; simp only [Act.put, List.setIfInBounds_toArray, List.set_cons_zero, List.set_cons_succ])
    | (refine wpList_const 21 (.agg (ints 51 fun i => kd (i / 3) (i % 3))) rfl rfl (fun _ => by kernel_rfl) ?_; simp only [Act.put, List.setIfInBounds_toArray, List.set_cons_zero, List.set_cons_succ])
    | (refine own_alloc 4 (ints 51 fun _ => 0) O rfl rfl rfl (fun _ => by kernel_rfl) ?_; clear O; intro W a4 O; simp only [Act.put, List.setIfInBounds_toArray, List.set_cons_zero, List.set_cons_succ])
    | (refine own_store_row 0 (.tmp 4) (.tmp 21) O rfl rfl rfl rfl rfl rfl (by kernel_rfl) (by simp only [ints_size]) (ints_cell _ _) ?_; clear O; intro W O; simp only [List.set_cons_zero] at O)
    | (refine wpList_const 28 (.agg (ints 3 fun _ => 0)) rfl rfl (fun _ => by kernel_rfl) ?_; simp only [Act.put, List.setIfInBounds_toArray, List.set_cons_zero, List.set_cons_succ])
    | (refine own_store_row 1 (.tmp 2) (.tmp 28) O rfl rfl rfl rfl rfl rfl (by kernel_rfl) (by simp only [ints_size]) (ints_cell _ _) ?_; clear O; intro W O; simp only [List.set_cons_zero, List.set_cons_succ] at O))
  refine bodyPost_ret (v := .tuple #[.agg (ints 3 fun _ => 0), .bool false]) (results_cell_tmp rfl _ _ a2 144 _ _ rfl (O.get 1 rfl) Try.underlying144 rfl (by kernel_rfl) _ rfl) rfl ⟨?_, O.keep⟩
  rfl

set_option maxRecDepth 100000 in
set_option maxHeartbeats 1000000 in
theorem fields_high (op : Int) (h : 17 ≤ op) (w : World) : Calls Try.prog 85 #[.int .i64 op] w fun e w' => e = .returned (.tuple #[.agg (ints 3 fun _ => 0), .bool false]) ∧ Keeps w w' [] := by
  have O := Own.start w []
  have g0 : ¬ op < 1 := by omega
  go_enter Try.func85, Try.ntmps85
  go_wp2_with (first
    | go_big_skip
    | (refine own_alloc 2 (ints 3 fun _ => 0) O rfl rfl rfl (fun _ => by kernel_rfl) ?_; clear O; intro W a2 O; simp only [Act.put, List.setIfInBounds_toArray, List.set_cons_zero, List.set_cons_succ])
    | (refine wpList_const 5 (.agg (ints 3 (kd 1))) rfl rfl (fun _ => by kernel_rfl) ?_; simp only [Act.put, List.setIfInBounds_toArray, List.set_cons_zero, List.set_cons_succ])
    | (refine wpList_const 6 (.agg (ints 3 (kd 2))) rfl rfl (fun _ => by kernel_rfl) ?_; simp only [Act.put, List.setIfInBounds_toArray, List.set_cons_zero, List.set_cons_succ])
    | (refine wpList_const 7 (.agg (ints 3 (kd 3))) rfl rfl (fun _ => by kernel_rfl) ?_; simp only [Act.put, List.setIfInBounds_toArray, List.set_cons_zero, List.set_cons_succ])
    | (refine wpList_const 8 (.agg (ints 3 (kd 4))) rfl rfl (fun _ => by kernel_rfl) ?_; simp only [Act.put, List.setIfInBounds_toArray, List.set_cons_zero, List.set_cons_succ])
    | (refine wpList_const 9 (.agg (ints 3 (kd 5))) rfl rfl (fun _ => by kernel_rfl) ?_; simp only [Act.put, List.setIfInBounds_toArray, List.set_cons_zero, List.set_cons_succ])
    | (refine wpList_const 10 (.agg (ints 3 (kd 6))) rfl rfl (fun _ => by kernel_rfl) ?_; simp only [Act.put, List.setIfInBounds_toArray, List.set_cons_zero, List.set_cons_succ])
    | (refine wpList_const 11 (.agg (ints 3 (kd 7))) rfl rfl (fun _ => by kernel_rfl) ?_; simp only [Act.put, List.setIfInBounds_toArray, List.set_cons_zero, List.set_cons_succ])
    | (refine wpList_const 12 (.agg (ints 3 (kd 8))) rfl rfl (fun _ => by kernel_rfl) ?_; simp only [Act.put, List.setIfInBounds_toArray, List.set_cons_zero, List.set_cons_succ])
    | (refine wpList_const 13 (.agg (ints 3 (kd 9))) rfl rfl (fun _ => by kernel_rfl) ?_; simp only [Act.put, List.setIfInBounds_toArray, List.set_cons_zero, List.set_cons_succ])
    | (refine wpList_const 14 (.agg (ints 3 (kd 10))) rfl rfl (fun _ => by kernel_rfl) ?_; simp only [Act.put, List.setIfInBounds_toArray, List.set_cons_zero, List.set_cons_succ])
    | (refine wpList_const 15 (.agg (ints 3 (kd 11))) rfl rfl (fun _ => by kernel_rfl) ?_; simp only [Act.put, List.setIfInBounds_toArray, List.set_cons_zero, List.set_cons_succ])
    | (refine wpList_const 16 (.agg (ints 3 (kd 12))) rfl rfl (fun _ => by kernel_rfl) ?_; simp only [Act.put, List.setIfInBounds_toArray, List.set_cons_zero, List.set_cons_succ])
    | (refine wpList_const 17 (.agg (ints 3 (kd 13))) rfl rfl (fun _ => by kernel_rfl) ?_; simp only [Act.put, List.setIfInBounds_toArray, List.set_cons_zero, List.set_cons_succ])
    | (refine wpList_const 18 (.agg (ints 3 (kd 14))) rfl rfl (fun _ => by kernel_rfl) ?_; simp only [Act.put, List.setIfInBounds_toArray, List.set_cons_zero, List.set_cons_succ])
    | (refine wpList_const 19 (.agg (ints 3 (kd 15))) rfl rfl (fun _ => by kernel_rfl) ?_; simp only [Act.put, List.setIfInBounds_toArray, List.set_cons_zero, List.set_cons_succ])
    | (refine wpList_const 20 (.agg (ints 3 (kd 16))) rfl rfl (fun _ => by kernel_rfl) ?_; simp only [Act.put, List.setIfInBounds_toArray, List.set_cons_zero, List.set_cons_succ])
    | (refine wpList_const 21 (.agg (ints 51 fun i => kd (i / 3) (i % 3))) rfl rfl (fun _ => by kernel_rfl) ?_; simp only [Act.put, List.setIfInBounds_toArray, List.set_cons_zero, List.set_cons_succ])
    | (refine own_alloc 4 (ints 51 fun _ => 0) O rfl rfl rfl (fun _ => by kernel_rfl) ?_; clear O; intro W a4 O; simp only [Act.put, List.setIfInBounds_toArray, List.set_cons_zero, List.set_cons_succ])
    | (refine own_store_row 0 (.tmp 4) (.tmp 21) O rfl rfl rfl rfl rfl rfl (by kernel_rfl) (by simp only [ints_size]) (ints_cell _ _) ?_; clear O; intro W O; simp only [List.set_cons_zero] at O)
    | (refine wpList_const 28 (.agg (ints 3 fun _ => 0)) rfl rfl (fun _ => by kernel_rfl) ?_; simp only [Act.put, List.setIfInBounds_toArray, List.set_cons_zero, List.set_cons_succ])
    | (refine own_store_row 1 (.tmp 2) (.tmp 28) O rfl rfl rfl rfl rfl rfl (by kernel_rfl) (by simp only [ints_size]) (ints_cell _ _) ?_; clear O; intro W O; simp only [List.set_cons_zero, List.set_cons_succ] at O))
  refine bodyPost_ret (v := .tuple #[.agg (ints 3 fun _ => 0), .bool false]) (results_cell_tmp rfl _ _ a2 144 _ _ rfl (O.get 1 rfl) Try.underlying144 rfl (by kernel_rfl) _ rfl) rfl ⟨?_, O.keep⟩
  rfl

/-- How great a field may be, by what it is. -/
def bnd (S : Sys) (p : Nat) : Nat → Int
  | 0 => 1
  | 1 => 8
  | 2 => (S.lp p : Int) + 1
  | 4 => S.nr
  | 5 => S.lk
  | 6 => S.gr
  | 7 => S.np
  | _ => 0
def mayS (S : Sys) (p : Nat) (v : Int) (k : Nat) : Bool := k == 3 || (decide (0 ≤ v) && decide (v < bnd S p k))
section
variable (S : Sys) (A : Option Addr) (c : Nat) (R : Option Addr) (d : Nat) (g : Nat) {t : TypeId} (p : Nat) (v : Int) (w : World) (hB : Blk w g t (sysV S A c R d)) (hS : SysIn w S A c R d) (hp : p < S.np) (hl : S.lp p ≤ 256)
include hB hS hp hl

theorem may_0 : Calls Try.prog 86 #[.pointer (some ⟨g, 0, none⟩), .int .i64 p, .int .i64 v, .int .i64 0] w fun e w' => e = .returned (.bool (mayS S p v 0)) ∧ w = w' := by
  have _u := And.intro hB (And.intro hS (And.intro hp hl))
  clear _u
  clear hB hS hp hl
  by_cases h0 : 0 ≤ v
  · by_cases h1 : v < 1
    · have H := Lib.hid (show mayS S p v 0 = true by simp [mayS, bnd, h0, h1])
      go_enter Try.func86, Try.ntmps86
      go_wp2
      go_ret
      exact ⟨by rw [H.out]; rfl, rfl⟩
    · have H := Lib.hid (show mayS S p v 0 = false by simp only [mayS, bnd]; rw [decide_eq_false h1, Bool.and_false]; rfl)
      go_enter Try.func86, Try.ntmps86
      go_wp2
      go_ret
      exact ⟨by rw [H.out]; rfl, rfl⟩
  · have H := Lib.hid (show mayS S p v 0 = false by simp only [mayS]; rw [decide_eq_false h0, Bool.false_and]; rfl)
    go_enter Try.func86, Try.ntmps86
    go_wp2
    go_ret
    exact ⟨by rw [H.out]; rfl, rfl⟩

theorem may_1 : Calls Try.prog 86 #[.pointer (some ⟨g, 0, none⟩), .int .i64 p, .int .i64 v, .int .i64 1] w fun e w' => e = .returned (.bool (mayS S p v 1)) ∧ w = w' := by
  have _u := And.intro hB (And.intro hS (And.intro hp hl))
  clear _u
  clear hB hS hp hl
  by_cases h0 : 0 ≤ v
  · by_cases h1 : v < 8
    · have H := Lib.hid (show mayS S p v 1 = true by simp [mayS, bnd, h0, h1])
      go_enter Try.func86, Try.ntmps86
      go_wp2
      go_ret
      exact ⟨by rw [H.out]; rfl, rfl⟩
    · have H := Lib.hid (show mayS S p v 1 = false by simp only [mayS, bnd]; rw [decide_eq_false h1, Bool.and_false]; rfl)
      go_enter Try.func86, Try.ntmps86
      go_wp2
      go_ret
      exact ⟨by rw [H.out]; rfl, rfl⟩
  · have H := Lib.hid (show mayS S p v 1 = false by simp only [mayS]; rw [decide_eq_false h0, Bool.false_and]; rfl)
    go_enter Try.func86, Try.ntmps86
    go_wp2
    go_ret
    exact ⟨by rw [H.out]; rfl, rfl⟩

theorem may_2 : Calls Try.prog 86 #[.pointer (some ⟨g, 0, none⟩), .int .i64 p, .int .i64 v, .int .i64 2] w fun e w' => e = .returned (.bool (mayS S p v 2)) ∧ w = w' := by
  have _u := And.intro hB (And.intro hS (And.intro hp hl))
  clear _u
  obtain ⟨ad, rfl, _, hc⟩ := hS.progs (by omega)
  obtain ⟨B, cb, hcell, _, _, _⟩ := hc p hp
  have q0 : w.cell? ⟨g, 0, none⟩ = some (.slice (some ad) S.np c) := hB.cell 0
  have z0 : (0 : Int) ≤ p := by omega
  have z1 : (p : Int) < S.np := by omega
  have r1 : IntKind.i64.wrap ((S.lp p : Int) + 1) = S.lp p + 1 := IntWalk.i64_in _ (by omega)
  clear hc
  clear hB hS hp hl
  by_cases h0 : 0 ≤ v
  · by_cases h1 : v < (S.lp p : Int) + 1
    · have H := Lib.hid (show mayS S p v 2 = true by simp [mayS, bnd, h0, h1])
      go_enter Try.func86, Try.ntmps86
      go_wp2
      go_ret
      exact ⟨by rw [H.out]; rfl, rfl⟩
    · have H := Lib.hid (show mayS S p v 2 = false by simp only [mayS, bnd]; rw [decide_eq_false h1, Bool.and_false]; rfl)
      go_enter Try.func86, Try.ntmps86
      go_wp2
      go_ret
      exact ⟨by rw [H.out]; rfl, rfl⟩
  · have H := Lib.hid (show mayS S p v 2 = false by simp only [mayS]; rw [decide_eq_false h0, Bool.false_and]; rfl)
    go_enter Try.func86, Try.ntmps86
    go_wp2
    go_ret
    exact ⟨by rw [H.out]; rfl, rfl⟩

theorem may_3 : Calls Try.prog 86 #[.pointer (some ⟨g, 0, none⟩), .int .i64 p, .int .i64 v, .int .i64 3] w fun e w' => e = .returned (.bool (mayS S p v 3)) ∧ w = w' := by
  have _u := And.intro hB (And.intro hS (And.intro hp hl))
  clear _u
  have H := Lib.hid (show mayS S p v 3 = true from rfl)
  clear hB hS hp hl
  go_enter Try.func86, Try.ntmps86
  go_wp2
  go_ret
  exact ⟨by rw [H.out]; rfl, rfl⟩

theorem may_4 : Calls Try.prog 86 #[.pointer (some ⟨g, 0, none⟩), .int .i64 p, .int .i64 v, .int .i64 4] w fun e w' => e = .returned (.bool (mayS S p v 4)) ∧ w = w' := by
  have _u := And.intro hB (And.intro hS (And.intro hp hl))
  clear _u
  have q0 : w.cell? ⟨g, 1, none⟩ = some (.slice R S.nr d) := hB.cell 1
  clear hB hS hp hl
  by_cases h0 : 0 ≤ v
  · by_cases h1 : v < (S.nr : Int)
    · have H := Lib.hid (show mayS S p v 4 = true by simp [mayS, bnd, h0, h1])
      go_enter Try.func86, Try.ntmps86
      go_wp2
      go_ret
      exact ⟨by rw [H.out]; rfl, rfl⟩
    · have H := Lib.hid (show mayS S p v 4 = false by simp only [mayS, bnd]; rw [decide_eq_false h1, Bool.and_false]; rfl)
      go_enter Try.func86, Try.ntmps86
      go_wp2
      go_ret
      exact ⟨by rw [H.out]; rfl, rfl⟩
  · have H := Lib.hid (show mayS S p v 4 = false by simp only [mayS]; rw [decide_eq_false h0, Bool.false_and]; rfl)
    go_enter Try.func86, Try.ntmps86
    go_wp2
    go_ret
    exact ⟨by rw [H.out]; rfl, rfl⟩

theorem may_5 : Calls Try.prog 86 #[.pointer (some ⟨g, 0, none⟩), .int .i64 p, .int .i64 v, .int .i64 5] w fun e w' => e = .returned (.bool (mayS S p v 5)) ∧ w = w' := by
  have _u := And.intro hB (And.intro hS (And.intro hp hl))
  clear _u
  have q0 : w.cell? ⟨g, 3, none⟩ = some (.int .i64 S.lk) := hB.cell 3
  clear hB hS hp hl
  by_cases h0 : 0 ≤ v
  · by_cases h1 : v < S.lk
    · have H := Lib.hid (show mayS S p v 5 = true by simp [mayS, bnd, h0, h1])
      go_enter Try.func86, Try.ntmps86
      go_wp2
      go_ret
      exact ⟨by rw [H.out]; rfl, rfl⟩
    · have H := Lib.hid (show mayS S p v 5 = false by simp only [mayS, bnd]; rw [decide_eq_false h1, Bool.and_false]; rfl)
      go_enter Try.func86, Try.ntmps86
      go_wp2
      go_ret
      exact ⟨by rw [H.out]; rfl, rfl⟩
  · have H := Lib.hid (show mayS S p v 5 = false by simp only [mayS]; rw [decide_eq_false h0, Bool.false_and]; rfl)
    go_enter Try.func86, Try.ntmps86
    go_wp2
    go_ret
    exact ⟨by rw [H.out]; rfl, rfl⟩

theorem may_6 : Calls Try.prog 86 #[.pointer (some ⟨g, 0, none⟩), .int .i64 p, .int .i64 v, .int .i64 6] w fun e w' => e = .returned (.bool (mayS S p v 6)) ∧ w = w' := by
  have _u := And.intro hB (And.intro hS (And.intro hp hl))
  clear _u
  have q0 : w.cell? ⟨g, 2, none⟩ = some (.int .i64 S.gr) := hB.cell 2
  clear hB hS hp hl
  by_cases h0 : 0 ≤ v
  · by_cases h1 : v < S.gr
    · have H := Lib.hid (show mayS S p v 6 = true by simp [mayS, bnd, h0, h1])
      go_enter Try.func86, Try.ntmps86
      go_wp2
      go_ret
      exact ⟨by rw [H.out]; rfl, rfl⟩
    · have H := Lib.hid (show mayS S p v 6 = false by simp only [mayS, bnd]; rw [decide_eq_false h1, Bool.and_false]; rfl)
      go_enter Try.func86, Try.ntmps86
      go_wp2
      go_ret
      exact ⟨by rw [H.out]; rfl, rfl⟩
  · have H := Lib.hid (show mayS S p v 6 = false by simp only [mayS]; rw [decide_eq_false h0, Bool.false_and]; rfl)
    go_enter Try.func86, Try.ntmps86
    go_wp2
    go_ret
    exact ⟨by rw [H.out]; rfl, rfl⟩

theorem may_7 : Calls Try.prog 86 #[.pointer (some ⟨g, 0, none⟩), .int .i64 p, .int .i64 v, .int .i64 7] w fun e w' => e = .returned (.bool (mayS S p v 7)) ∧ w = w' := by
  have _u := And.intro hB (And.intro hS (And.intro hp hl))
  clear _u
  have q0 : w.cell? ⟨g, 0, none⟩ = some (.slice A S.np c) := hB.cell 0
  clear hB hS hp hl
  by_cases h0 : 0 ≤ v
  · by_cases h1 : v < (S.np : Int)
    · have H := Lib.hid (show mayS S p v 7 = true by simp [mayS, bnd, h0, h1])
      go_enter Try.func86, Try.ntmps86
      go_wp2
      go_ret
      exact ⟨by rw [H.out]; rfl, rfl⟩
    · have H := Lib.hid (show mayS S p v 7 = false by simp only [mayS, bnd]; rw [decide_eq_false h1, Bool.and_false]; rfl)
      go_enter Try.func86, Try.ntmps86
      go_wp2
      go_ret
      exact ⟨by rw [H.out]; rfl, rfl⟩
  · have H := Lib.hid (show mayS S p v 7 = false by simp only [mayS]; rw [decide_eq_false h0, Bool.false_and]; rfl)
    go_enter Try.func86, Try.ntmps86
    go_wp2
    go_ret
    exact ⟨by rw [H.out]; rfl, rfl⟩
theorem may_any (k : Nat) (hk : k ≤ 7) : Calls Try.prog 86 #[.pointer (some ⟨g, 0, none⟩), .int .i64 p, .int .i64 v, .int .i64 (k : Int)] w fun e w' => e = .returned (.bool (mayS S p v k)) ∧ w = w' := by
  match k, hk with
  | 0, _ => exact may_0 S A c R d g p v w hB hS hp hl
  | 1, _ => exact may_1 S A c R d g p v w hB hS hp hl
  | 2, _ => exact may_2 S A c R d g p v w hB hS hp hl
  | 3, _ => exact may_3 S A c R d g p v w hB hS hp hl
  | 4, _ => exact may_4 S A c R d g p v w hB hS hp hl
  | 5, _ => exact may_5 S A c R d g p v w hB hS hp hl
  | 6, _ => exact may_6 S A c R d g p v w hB hS hp hl
  | 7, _ => exact may_7 S A c R d g p v w hB hS hp hl
end
end Go.Proofs.Ytakmcpadkanggaa
