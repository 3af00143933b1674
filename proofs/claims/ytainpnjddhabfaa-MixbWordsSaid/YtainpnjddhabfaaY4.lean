/-
  Words, Start: bytes to words, in both texts.
-/
import Derived.Test.YtainpnjddhabfaaY3
import Derived.Test.YtainpnjddhabfaaW4
import Derived.Test.YtainpnjddhabfaaW8
namespace Go.Proofs.Ytainpnjddhabfaa
open Go.RowKit

/-- Word k of the bytes f. -/
def wV (f : Nat → BitVec 8) : Nat → BitVec 64 := fun k => le64 fun j => f (8 * k + j)
def wK (G : Nat → BitVec 64) (k : Nat) : Nat → BitVec 64 := fun i => if i < k then G i else 0
theorem wK_zero (G : Nat → BitVec 64) (i : Nat) : (0 : BitVec 64) = wK G 0 i := by unfold wK; rw [if_neg (by omega)]
theorem wK_step (G : Nat → BitVec 64) (k i : Nat) : upd (wK G k) k (G k) i = wK G (k + 1) i := by
  unfold upd wK
  by_cases h1 : i = k
  · rw [if_pos h1, if_pos (by omega), h1]
  · rw [if_neg h1]
    by_cases h2 : i < k
    · rw [if_pos h2, if_pos (by omega)]
    · rw [if_neg h2, if_neg (by omega)]
theorem wK_all (G : Nat → BitVec 64) (n i : Nat) (h : i < n) : wK G n i = G i := by unfold wK; rw [if_pos h]
def wSt (n : Nat) (f : Nat → BitVec 8) : Nat → BitVec 64 := if n = 128 then wV f else fun _ => 0
def wEr (n m : Nat) : Int := if n = m then 0 else 1
theorem wSt_yes (f : Nat → BitVec 8) : wSt 128 f = wV f := by unfold wSt; rw [if_pos rfl]
theorem wSt_no (n : Nat) (f : Nat → BitVec 8) (h : n ≠ 128) : wSt n f = fun _ => 0 := by unfold wSt; rw [if_neg h]
theorem wEr_yes (m : Nat) : wEr m m = 0 := by unfold wEr; rw [if_pos rfl]
theorem wEr_no (n m : Nat) (h : n ≠ m) : wEr n m = 1 := by unfold wEr; rw [if_neg h]

set_option maxHeartbeats 1000000 in
theorem words_good (G : Nat → BitVec 64) (n c : Nat) (ad : Addr) (w : World) (hz1 : (n : Int) = 128) (ld : ∀ k : Nat, k < 16 → ∀ W : World, Keeps w W [] → Calls Try.prog 40 #[.slice (some ad) n c, .int .i64 (8 * (k : Int))] W fun e w' => e = .returned (.tuple #[U64 (G k), .int .i64 0]) ∧ W = w') :
    Calls Try.prog 21 #[.slice (some ad) n c] w fun e w' => e = .returned (.tuple #[.agg (words 16 G), .int .i64 0]) ∧ Keeps w w' [] := by
  have O := Own.start w []
  have CL := Lib.hid ld
  clear ld
  go_enter Try.func21, Try.ntmps21
  go_wp2_with (first
    | (refine own_alloc 2 (words 16 fun _ => 0) O rfl rfl rfl (fun _ => by kernel_rfl) ?_; clear O; intro W a2 O; simp only [Act.put, List.setIfInBounds_toArray, List.set_cons_zero, List.set_cons_succ])
    | (refine own_alloc 4 (words 16 fun _ => 0) O rfl rfl rfl (fun _ => by kernel_rfl) ?_; clear O; intro W a4 O; simp only [Act.put, List.setIfInBounds_toArray, List.set_cons_zero, List.set_cons_succ]))
  clear hz1
  go_loopw [10] (fun i wr => ∃ k : Nat, k ≤ 16 ∧ i = .int .i64 k ∧ Own w wr [] [(a4, 33, words 16 (wK G k)), (a2, 33, words 16 fun _ => 0)]) (fun i _ => 16 - (intOf i).toNat)
  case atStart => exact ⟨0, by omega, rfl, O.put 0 rfl (words_congr fun i _ => wK_zero G i)⟩
  case round =>
   obtain ⟨k, hk, rfl, O⟩ := hrel
   by_cases hlt : k < 16
   · have g1 : ((k : Int)) < 16 := by omega
     have m3 : IntKind.i64.wrap (8 * (k : Int)) = 8 * k := IntWalk.i64_in _ (by omega)
     go_wp2_with (first
       | (go_at_call 40; refine (CL.out k hlt _ O.keep).mono ?_; rintro e W ⟨rfl, rfl⟩)
       | (refine own_store 0 k (U64 (G k)) (.tmp 21) (.tmp 19) O rfl rfl rfl rfl rfl rfl (by simp only [words_size]; omega) rfl rfl (by kernel_rfl) (words_set 16 _ k _) ?_; clear O; intro W O; simp only [List.set_cons_zero] at O))
     clear m3
     go_roundw
     case rel => exact ⟨k + 1, by omega, by go_num, O.put 0 rfl (words_congr fun i _ => wK_step G k i)⟩
     case measure => (simp [intOf] <;> omega)
   · obtain rfl : k = 16 := by omega
     go_wp2_with (first
       | (refine own_load 23 0 O rfl rfl rfl rfl rfl Try.underlying33 rfl (by kernel_rfl) ?_; simp only [Act.put, List.setIfInBounds_toArray, List.set_cons_zero, List.set_cons_succ])
       | (refine own_store_row 1 (.tmp 2) (.tmp 23) O rfl rfl rfl rfl rfl rfl (by kernel_rfl) (by simp only [words_size]) (words_cell _ _) ?_; clear O; intro W O; simp only [List.set_cons_zero, List.set_cons_succ] at O))
     refine bodyPost_ret (v := .tuple #[.agg (words 16 (wK G 16)), .int .i64 0]) (results_cell_tmp rfl _ _ a2 33 _ _ rfl (O.get 1 rfl) Try.underlying33 rfl (by kernel_rfl) _ rfl) rfl ⟨?_, O.keep⟩
     rw [words_congr (fun i hi => wK_all G 16 i hi)]

set_option maxHeartbeats 1000000 in
theorem words_bad (A : Option Addr) (n c : Nat) (w : World) (hz1 : ¬ (n : Int) = 128) :
    Calls Try.prog 21 #[.slice A n c] w fun e w' => e = .returned (.tuple #[.agg (words 16 fun _ => 0), .int .i64 1]) ∧ Keeps w w' [] := by
  have O := Own.start w []
  go_enter Try.func21, Try.ntmps21
  go_wp2_with (first
    | (refine own_alloc 2 (words 16 fun _ => 0) O rfl rfl rfl (fun _ => by kernel_rfl) ?_; clear O; intro W a2 O; simp only [Act.put, List.setIfInBounds_toArray, List.set_cons_zero, List.set_cons_succ])
    | (refine own_alloc 4 (words 16 fun _ => 0) O rfl rfl rfl (fun _ => by kernel_rfl) ?_; clear O; intro W a4 O; simp only [Act.put, List.setIfInBounds_toArray, List.set_cons_zero, List.set_cons_succ])
    | (refine own_load 9 0 O rfl rfl rfl rfl rfl Try.underlying33 rfl (by kernel_rfl) ?_; simp only [Act.put, List.setIfInBounds_toArray, List.set_cons_zero, List.set_cons_succ])
    | (refine own_store_row 1 (.tmp 2) (.tmp 9) O rfl rfl rfl rfl rfl rfl (by kernel_rfl) (by simp only [words_size]) (words_cell _ _) ?_; clear O; intro W O; simp only [List.set_cons_zero, List.set_cons_succ] at O))
  refine bodyPost_ret (v := .tuple #[.agg (words 16 fun _ => 0), .int .i64 1]) (results_cell_tmp rfl _ _ a2 33 _ _ rfl (O.get 1 rfl) Try.underlying33 rfl (by kernel_rfl) _ rfl) rfl ⟨?_, O.keep⟩
  rfl

theorem words_any (A : Option Addr) (n c : Nat) (f : Nat → BitVec 8) (w : World) (hb : Byt w A n f) (hn : n ≤ maxLen) :
    Calls Try.prog 21 #[.slice A n c] w fun e w' => e = .returned (.tuple #[.agg (words 16 (wSt n f)), .int .i64 (wEr n 128)]) ∧ Keeps w w' [] := by
  by_cases hz : n = 128
  · obtain ⟨ad, rfl, hB, hc⟩ := hb (by omega)
    subst hz
    rw [wSt_yes, wEr_yes]
    refine words_good (wV f) 128 c ad w rfl fun k hk W K => ?_
    have h := load64_any ad 128 c (8 * k) f W (by have := K.size; omega) (fun j hj => (K.cellAt (by rw [add_block]; exact hB) (by simp)).trans (hc j hj)) (by omega) hn
    rw [show ((8 * k : Nat) : Int) = 8 * (k : Int) from by omega] at h
    exact h
  · rw [wSt_no n f hz, wEr_no n 128 hz]
    exact words_bad A n c w (by omega)

set_option maxHeartbeats 1000000 in
theorem refwords_good (G : Nat → BitVec 64) (n c : Nat) (ad : Addr) (w : World) (hz1 : (n : Int) = 128) (ld : ∀ k : Nat, k < 16 → ∀ W : World, Keeps w W [] → Calls Try.prog 41 #[.slice (some ad) n c, .int .i64 (8 * (k : Int)), .int .i64 8] W fun e w' => e = .returned (.tuple #[U64 (G k), .int .i64 0]) ∧ W = w') :
    Calls Try.prog 22 #[.slice (some ad) n c] w fun e w' => e = .returned (.tuple #[.agg (words 16 G), .int .i64 0]) ∧ Keeps w w' [] := by
  have O := Own.start w []
  have CL := Lib.hid ld
  clear ld
  go_enter Try.func22, Try.ntmps22
  go_wp2_with (first
    | (refine own_alloc 2 (words 16 fun _ => 0) O rfl rfl rfl (fun _ => by kernel_rfl) ?_; clear O; intro W a2 O; simp only [Act.put, List.setIfInBounds_toArray, List.set_cons_zero, List.set_cons_succ])
    | (refine own_alloc 4 (words 16 fun _ => 0) O rfl rfl rfl (fun _ => by kernel_rfl) ?_; clear O; intro W a4 O; simp only [Act.put, List.setIfInBounds_toArray, List.set_cons_zero, List.set_cons_succ]))
  clear hz1
  go_loopw [5] (fun i wr => ∃ k : Nat, k ≤ 16 ∧ i = .int .i64 k ∧ Own w wr [] [(a4, 33, words 16 (wK G k)), (a2, 33, words 16 fun _ => 0)]) (fun i _ => 16 - (intOf i).toNat)
  case atStart => exact ⟨0, by omega, rfl, O.put 0 rfl (words_congr fun i _ => wK_zero G i)⟩
  case round =>
   obtain ⟨k, hk, rfl, O⟩ := hrel
   by_cases hlt : k < 16
   · have g1 : ((k : Int)) < 16 := by omega
     have m3 : IntKind.i64.wrap (8 * (k : Int)) = 8 * k := IntWalk.i64_in _ (by omega)
     go_wp2_with (first
       | (go_at_call 41; refine (CL.out k hlt _ O.keep).mono ?_; rintro e W ⟨rfl, rfl⟩)
       | (refine own_store 0 k (U64 (G k)) (.tmp 22) (.tmp 20) O rfl rfl rfl rfl rfl rfl (by simp only [words_size]; omega) rfl rfl (by kernel_rfl) (words_set 16 _ k _) ?_; clear O; intro W O; simp only [List.set_cons_zero] at O))
     clear m3
     go_roundw
     case rel => exact ⟨k + 1, by omega, by go_num, O.put 0 rfl (words_congr fun i _ => wK_step G k i)⟩
     case measure => (simp [intOf] <;> omega)
   · obtain rfl : k = 16 := by omega
     go_wp2_with (first
       | (refine own_load 23 0 O rfl rfl rfl rfl rfl Try.underlying33 rfl (by kernel_rfl) ?_; simp only [Act.put, List.setIfInBounds_toArray, List.set_cons_zero, List.set_cons_succ])
       | (refine own_store_row 1 (.tmp 2) (.tmp 23) O rfl rfl rfl rfl rfl rfl (by kernel_rfl) (by simp only [words_size]) (words_cell _ _) ?_; clear O; intro W O; simp only [List.set_cons_zero, List.set_cons_succ] at O))
     refine bodyPost_ret (v := .tuple #[.agg (words 16 (wK G 16)), .int .i64 0]) (results_cell_tmp rfl _ _ a2 33 _ _ rfl (O.get 1 rfl) Try.underlying33 rfl (by kernel_rfl) _ rfl) rfl ⟨?_, O.keep⟩
     rw [words_congr (fun i hi => wK_all G 16 i hi)]

set_option maxHeartbeats 1000000 in
theorem refwords_bad (A : Option Addr) (n c : Nat) (w : World) (hz1 : ¬ (n : Int) = 128) :
    Calls Try.prog 22 #[.slice A n c] w fun e w' => e = .returned (.tuple #[.agg (words 16 fun _ => 0), .int .i64 1]) ∧ Keeps w w' [] := by
  have O := Own.start w []
  go_enter Try.func22, Try.ntmps22
  go_wp2_with (first
    | (refine own_alloc 2 (words 16 fun _ => 0) O rfl rfl rfl (fun _ => by kernel_rfl) ?_; clear O; intro W a2 O; simp only [Act.put, List.setIfInBounds_toArray, List.set_cons_zero, List.set_cons_succ])
    | (refine own_alloc 4 (words 16 fun _ => 0) O rfl rfl rfl (fun _ => by kernel_rfl) ?_; clear O; intro W a4 O; simp only [Act.put, List.setIfInBounds_toArray, List.set_cons_zero, List.set_cons_succ])
    | (refine own_load 9 0 O rfl rfl rfl rfl rfl Try.underlying33 rfl (by kernel_rfl) ?_; simp only [Act.put, List.setIfInBounds_toArray, List.set_cons_zero, List.set_cons_succ])
    | (refine own_store_row 1 (.tmp 2) (.tmp 9) O rfl rfl rfl rfl rfl rfl (by kernel_rfl) (by simp only [words_size]) (words_cell _ _) ?_; clear O; intro W O; simp only [List.set_cons_zero, List.set_cons_succ] at O))
  refine bodyPost_ret (v := .tuple #[.agg (words 16 fun _ => 0), .int .i64 1]) (results_cell_tmp rfl _ _ a2 33 _ _ rfl (O.get 1 rfl) Try.underlying33 rfl (by kernel_rfl) _ rfl) rfl ⟨?_, O.keep⟩
  rfl

theorem refwords_any (A : Option Addr) (n c : Nat) (f : Nat → BitVec 8) (w : World) (hb : Byt w A n f) (hn : n ≤ maxLen) :
    Calls Try.prog 22 #[.slice A n c] w fun e w' => e = .returned (.tuple #[.agg (words 16 (wSt n f)), .int .i64 (wEr n 128)]) ∧ Keeps w w' [] := by
  by_cases hz : n = 128
  · obtain ⟨ad, rfl, hB, hc⟩ := hb (by omega)
    subst hz
    rw [wSt_yes, wEr_yes]
    refine refwords_good (wV f) 128 c ad w rfl fun k hk W K => ?_
    have h := refload_any ad 128 c (8 * k) f W (by have := K.size; omega) (fun j hj => (K.cellAt (by rw [add_block]; exact hB) (by simp)).trans (hc j hj)) (by omega) hn
    rw [show ((8 * k : Nat) : Int) = 8 * (k : Int) from by omega] at h
    exact h
  · rw [wSt_no n f hz, wEr_no n 128 hz]
    exact refwords_bad A n c w (by omega)

def sK (G : Nat → BitVec 64) (k : Nat) : Nat → BitVec 64 := fun i => if i < k then ivV i ^^^ G i else ivV i
def sZ (G : Nat → BitVec 64) (k : Nat) : Nat → BitVec 64 := fun i => if i < k then ivV i ^^^ G i else 0
def sSt (n : Nat) (f : Nat → BitVec 8) : Nat → BitVec 64 := if n = 64 then fun i => ivV i ^^^ wV f i else fun _ => 0
theorem sSt_yes (f : Nat → BitVec 8) : sSt 64 f = fun i => ivV i ^^^ wV f i := by unfold sSt; rw [if_pos rfl]
theorem sSt_no (n : Nat) (f : Nat → BitVec 8) (h : n ≠ 64) : sSt n f = fun _ => 0 := by unfold sSt; rw [if_neg h]
theorem sK_zero (f : Nat → BitVec 64) (i : Nat) : ivV i = sK f 0 i := by unfold sK; rw [if_neg (by omega)]
theorem sZ_zero (f : Nat → BitVec 64) (i : Nat) : (0 : BitVec 64) = sZ f 0 i := by unfold sZ; rw [if_neg (by omega)]
theorem sK_at (f : Nat → BitVec 64) (k : Nat) : sK f k k = ivV k := by unfold sK; rw [if_neg (by omega)]
theorem sK_all (G : Nat → BitVec 64) (n i : Nat) (h : i < n) : sK G n i = ivV i ^^^ G i := by unfold sK; rw [if_pos h]
theorem sZ_all (G : Nat → BitVec 64) (n i : Nat) (h : i < n) : sZ G n i = ivV i ^^^ G i := by unfold sZ; rw [if_pos h]
theorem sK_step (f : Nat → BitVec 64) (k i : Nat) : upd (sK f k) k (sK f k k ^^^ f k) i = sK f (k + 1) i := by
  rw [sK_at]
  unfold upd sK
  by_cases h1 : i = k
  · rw [if_pos h1, if_pos (by omega), h1]
  · rw [if_neg h1]
    by_cases h2 : i < k
    · rw [if_pos h2, if_pos (by omega)]
    · rw [if_neg h2, if_neg (by omega)]
theorem sZ_step (f : Nat → BitVec 64) (k i : Nat) : upd (sZ f k) k (ivV k ^^^ f k) i = sZ f (k + 1) i := by
  unfold upd sZ
  by_cases h1 : i = k
  · rw [if_pos h1, if_pos (by omega), h1]
  · rw [if_neg h1]
    by_cases h2 : i < k
    · rw [if_pos h2, if_pos (by omega)]
    · rw [if_neg h2, if_neg (by omega)]

set_option maxHeartbeats 1000000 in
theorem start_good (G : Nat → BitVec 64) (n c : Nat) (ad : Addr) (w : World) (hz1 : (n : Int) = 64) (ld : ∀ k : Nat, k < 8 → ∀ W : World, Keeps w W [] → Calls Try.prog 40 #[.slice (some ad) n c, .int .i64 (8 * (k : Int))] W fun e w' => e = .returned (.tuple #[U64 (G k), .int .i64 0]) ∧ W = w') :
    Calls Try.prog 23 #[.slice (some ad) n c] w fun e w' => e = .returned (.tuple #[.agg (words 8 fun i => ivV i ^^^ G i), .int .i64 0]) ∧ Keeps w w' [] := by
  have O := Own.start w []
  have CL := Lib.hid ld
  clear ld
  have HR := Lib.hid (show words 8 (sK G 8) = words 8 (fun i => ivV i ^^^ G i) from words_congr fun i hi => sK_all G 8 i hi)
  generalize (words 8 fun i => ivV i ^^^ G i) = R at *
  have HS := Lib.hid (sK_step G)
  have HZ := Lib.hid (sK_zero G)
  generalize sK G = S at *
  go_enter Try.func23, Try.ntmps23
  go_wp2_with (first
    | (refine own_alloc 2 (words 8 fun _ => 0) O rfl rfl rfl (fun _ => by kernel_rfl) ?_; clear O; intro W a2 O; simp only [Act.put, List.setIfInBounds_toArray, List.set_cons_zero, List.set_cons_succ])
    | (go_at_call 12; refine (iv_any _).mono ?_; rintro e W ⟨rfl, K⟩; replace O := O.keeps K; clear K)
    | (refine own_alloc 4 (words 8 fun _ => 0) O rfl rfl rfl (fun _ => by kernel_rfl) ?_; clear O; intro W a4 O; simp only [Act.put, List.setIfInBounds_toArray, List.set_cons_zero, List.set_cons_succ])
    | (refine own_store_row 0 (.tmp 4) (.tmp 12) O rfl rfl rfl rfl rfl rfl (by kernel_rfl) (by simp only [words_size]) (words_cell _ _) ?_; clear O; intro W O; simp only [List.set_cons_zero] at O))
  clear hz1
  go_loopw [13] (fun i wr => ∃ k : Nat, k ≤ 8 ∧ i = .int .i64 k ∧ Own w wr [] [(a4, 23, words 8 (S k)), (a2, 23, words 8 fun _ => 0)]) (fun i _ => 8 - (intOf i).toNat)
  case atStart => exact ⟨0, by omega, rfl, O.put 0 rfl (words_congr fun i _ => HZ.out i)⟩
  case round =>
   obtain ⟨k, hk, rfl, O⟩ := hrel
   by_cases hlt : k < 8
   · have g1 : ((k : Int)) < 8 := by omega
     have m3 : IntKind.i64.wrap (8 * (k : Int)) = 8 * k := IntWalk.i64_in _ (by omega)
     have c4 := (O.get 0 rfl).cell
     go_wp2_with (first
       | (go_at_call 40; refine (CL.out k hlt _ O.keep).mono ?_; rintro e W ⟨rfl, rfl⟩)
       | (refine own_store 0 k (U64 (S k k ^^^ G k)) (.tmp 28) (.tmp 27) O rfl rfl rfl rfl rfl rfl (by simp only [words_size]; omega) rfl rfl (by kernel_rfl) (words_set 8 _ k _) ?_; clear O; intro W O; simp only [List.set_cons_zero] at O))
     clear m3 c4
     go_roundw
     case rel => exact ⟨k + 1, by omega, by go_num, O.put 0 rfl (words_congr fun i _ => HS.out k i)⟩
     case measure => (simp [intOf] <;> omega)
   · obtain rfl : k = 8 := by omega
     go_wp2_with (first
       | (refine own_load 30 0 O rfl rfl rfl rfl rfl Try.underlying23 rfl (by kernel_rfl) ?_; simp only [Act.put, List.setIfInBounds_toArray, List.set_cons_zero, List.set_cons_succ])
       | (refine own_store_row 1 (.tmp 2) (.tmp 30) O rfl rfl rfl rfl rfl rfl (by kernel_rfl) (by simp only [words_size]) (words_cell _ _) ?_; clear O; intro W O; simp only [List.set_cons_zero, List.set_cons_succ] at O))
     refine bodyPost_ret (v := .tuple #[.agg (words 8 (S 8)), .int .i64 0]) (results_cell_tmp rfl _ _ a2 23 _ _ rfl (O.get 1 rfl) Try.underlying23 rfl (by kernel_rfl) _ rfl) rfl ⟨?_, O.keep⟩
     rw [HR.out]

set_option maxHeartbeats 1000000 in
theorem start_bad (A : Option Addr) (n c : Nat) (w : World) (hz1 : ¬ (n : Int) = 64) :
    Calls Try.prog 23 #[.slice A n c] w fun e w' => e = .returned (.tuple #[.agg (words 8 fun _ => 0), .int .i64 1]) ∧ Keeps w w' [] := by
  have O := Own.start w []
  go_enter Try.func23, Try.ntmps23
  go_wp2_with (first
    | (refine own_alloc 2 (words 8 fun _ => 0) O rfl rfl rfl (fun _ => by kernel_rfl) ?_; clear O; intro W a2 O; simp only [Act.put, List.setIfInBounds_toArray, List.set_cons_zero, List.set_cons_succ])
    | (refine wpList_const 11 (.agg (words 8 fun _ => 0)) rfl rfl (fun _ => by kernel_rfl) ?_; simp only [Act.put, List.setIfInBounds_toArray, List.set_cons_zero, List.set_cons_succ])
    | (refine own_store_row 0 (.tmp 2) (.tmp 11) O rfl rfl rfl rfl rfl rfl (by kernel_rfl) (by simp only [words_size]) (words_cell _ _) ?_; clear O; intro W O; simp only [List.set_cons_zero] at O))
  refine bodyPost_ret (v := .tuple #[.agg (words 8 fun _ => 0), .int .i64 1]) (results_cell_tmp rfl _ _ a2 23 _ _ rfl (O.get 0 rfl) Try.underlying23 rfl (by kernel_rfl) _ rfl) rfl ⟨?_, O.keep⟩
  rfl

theorem start_any (A : Option Addr) (n c : Nat) (f : Nat → BitVec 8) (w : World) (hb : Byt w A n f) (hn : n ≤ maxLen) :
    Calls Try.prog 23 #[.slice A n c] w fun e w' => e = .returned (.tuple #[.agg (words 8 (sSt n f)), .int .i64 (wEr n 64)]) ∧ Keeps w w' [] := by
  by_cases hz : n = 64
  · obtain ⟨ad, rfl, hB, hc⟩ := hb (by omega)
    subst hz
    rw [sSt_yes, wEr_yes]
    refine start_good (wV f) 64 c ad w rfl fun k hk W K => ?_
    have h := load64_any ad 64 c (8 * k) f W (by have := K.size; omega) (fun j hj => (K.cellAt (by rw [add_block]; exact hB) (by simp)).trans (hc j hj)) (by omega) hn
    rw [show ((8 * k : Nat) : Int) = 8 * (k : Int) from by omega] at h
    exact h
  · rw [sSt_no n f hz, wEr_no n 64 hz]
    exact start_bad A n c w (by omega)

set_option maxHeartbeats 1000000 in
theorem refstart_good (G : Nat → BitVec 64) (n c : Nat) (ad : Addr) (w : World) (hz1 : (n : Int) = 64) (ld : ∀ k : Nat, k < 8 → ∀ W : World, Keeps w W [] → Calls Try.prog 41 #[.slice (some ad) n c, .int .i64 (8 * (k : Int)), .int .i64 8] W fun e w' => e = .returned (.tuple #[U64 (G k), .int .i64 0]) ∧ W = w') :
    Calls Try.prog 24 #[.slice (some ad) n c] w fun e w' => e = .returned (.tuple #[.agg (words 8 fun i => ivV i ^^^ G i), .int .i64 0]) ∧ Keeps w w' [] := by
  have O := Own.start w []
  have CL := Lib.hid ld
  clear ld
  have HR := Lib.hid (show words 8 (sZ G 8) = words 8 (fun i => ivV i ^^^ G i) from words_congr fun i hi => sZ_all G 8 i hi)
  generalize (words 8 fun i => ivV i ^^^ G i) = R at *
  have HS := Lib.hid (sZ_step G)
  have HZ := Lib.hid (sZ_zero G)
  generalize sZ G = S at *
  go_enter Try.func24, Try.ntmps24
  go_wp2_with (first
    | (refine own_alloc 2 (words 8 fun _ => 0) O rfl rfl rfl (fun _ => by kernel_rfl) ?_; clear O; intro W a2 O; simp only [Act.put, List.setIfInBounds_toArray, List.set_cons_zero, List.set_cons_succ])
    | (refine own_alloc 4 (words 8 fun _ => 0) O rfl rfl rfl (fun _ => by kernel_rfl) ?_; clear O; intro W a4 O; simp only [Act.put, List.setIfInBounds_toArray, List.set_cons_zero, List.set_cons_succ]))
  clear hz1
  go_loopw [5] (fun i wr => ∃ k : Nat, k ≤ 8 ∧ i = .int .i64 k ∧ Own w wr [] [(a4, 23, words 8 (S k)), (a2, 23, words 8 fun _ => 0)]) (fun i _ => 8 - (intOf i).toNat)
  case atStart => exact ⟨0, by omega, rfl, O.put 0 rfl (words_congr fun i _ => HZ.out i)⟩
  case round =>
   obtain ⟨k, hk, rfl, O⟩ := hrel
   by_cases hlt : k < 8
   · have g1 : ((k : Int)) < 8 := by omega
     have m3 : IntKind.i64.wrap (8 * (k : Int)) = 8 * k := IntWalk.i64_in _ (by omega)
     go_wp2_with (first
       | (go_at_call 41; refine (CL.out k hlt _ O.keep).mono ?_; rintro e W ⟨rfl, rfl⟩)
       | (go_at_call 13; refine (refiv_any k hlt _).mono ?_; rintro e W ⟨rfl, K⟩; replace O := O.keeps K; clear K)
       | (refine own_store 0 k (U64 (ivV k ^^^ G k)) (.tmp 28) (.tmp 27) O rfl rfl rfl rfl rfl rfl (by simp only [words_size]; omega) rfl rfl (by kernel_rfl) (words_set 8 _ k _) ?_; clear O; intro W O; simp only [List.set_cons_zero] at O))
     clear m3
     go_roundw
     case rel => exact ⟨k + 1, by omega, by go_num, O.put 0 rfl (words_congr fun i _ => HS.out k i)⟩
     case measure => (simp [intOf] <;> omega)
   · obtain rfl : k = 8 := by omega
     go_wp2_with (first
       | (refine own_load 29 0 O rfl rfl rfl rfl rfl Try.underlying23 rfl (by kernel_rfl) ?_; simp only [Act.put, List.setIfInBounds_toArray, List.set_cons_zero, List.set_cons_succ])
       | (refine own_store_row 1 (.tmp 2) (.tmp 29) O rfl rfl rfl rfl rfl rfl (by kernel_rfl) (by simp only [words_size]) (words_cell _ _) ?_; clear O; intro W O; simp only [List.set_cons_zero, List.set_cons_succ] at O))
     refine bodyPost_ret (v := .tuple #[.agg (words 8 (S 8)), .int .i64 0]) (results_cell_tmp rfl _ _ a2 23 _ _ rfl (O.get 1 rfl) Try.underlying23 rfl (by kernel_rfl) _ rfl) rfl ⟨?_, O.keep⟩
     rw [HR.out]

set_option maxHeartbeats 1000000 in
theorem refstart_bad (A : Option Addr) (n c : Nat) (w : World) (hz1 : ¬ (n : Int) = 64) :
    Calls Try.prog 24 #[.slice A n c] w fun e w' => e = .returned (.tuple #[.agg (words 8 fun _ => 0), .int .i64 1]) ∧ Keeps w w' [] := by
  have O := Own.start w []
  go_enter Try.func24, Try.ntmps24
  go_wp2_with (first
    | (refine own_alloc 2 (words 8 fun _ => 0) O rfl rfl rfl (fun _ => by kernel_rfl) ?_; clear O; intro W a2 O; simp only [Act.put, List.setIfInBounds_toArray, List.set_cons_zero, List.set_cons_succ])
    | (refine own_alloc 4 (words 8 fun _ => 0) O rfl rfl rfl (fun _ => by kernel_rfl) ?_; clear O; intro W a4 O; simp only [Act.put, List.setIfInBounds_toArray, List.set_cons_zero, List.set_cons_succ])
    | (refine own_load 11 0 O rfl rfl rfl rfl rfl Try.underlying23 rfl (by kernel_rfl) ?_; simp only [Act.put, List.setIfInBounds_toArray, List.set_cons_zero, List.set_cons_succ])
    | (refine own_store_row 1 (.tmp 2) (.tmp 11) O rfl rfl rfl rfl rfl rfl (by kernel_rfl) (by simp only [words_size]) (words_cell _ _) ?_; clear O; intro W O; simp only [List.set_cons_zero, List.set_cons_succ] at O))
  refine bodyPost_ret (v := .tuple #[.agg (words 8 fun _ => 0), .int .i64 1]) (results_cell_tmp rfl _ _ a2 23 _ _ rfl (O.get 1 rfl) Try.underlying23 rfl (by kernel_rfl) _ rfl) rfl ⟨?_, O.keep⟩
  rfl

theorem refstart_any (A : Option Addr) (n c : Nat) (f : Nat → BitVec 8) (w : World) (hb : Byt w A n f) (hn : n ≤ maxLen) :
    Calls Try.prog 24 #[.slice A n c] w fun e w' => e = .returned (.tuple #[.agg (words 8 (sSt n f)), .int .i64 (wEr n 64)]) ∧ Keeps w w' [] := by
  by_cases hz : n = 64
  · obtain ⟨ad, rfl, hB, hc⟩ := hb (by omega)
    subst hz
    rw [sSt_yes, wEr_yes]
    refine refstart_good (wV f) 64 c ad w rfl fun k hk W K => ?_
    have h := refload_any ad 64 c (8 * k) f W (by have := K.size; omega) (fun j hj => (K.cellAt (by rw [add_block]; exact hB) (by simp)).trans (hc j hj)) (by omega) hn
    rw [show ((8 * k : Nat) : Int) = 8 * (k : Int) from by omega] at h
    exact h
  · rw [sSt_no n f hz, wEr_no n 64 hz]
    exact refstart_bad A n c w (by omega)
end Go.Proofs.Ytainpnjddhabfaa
