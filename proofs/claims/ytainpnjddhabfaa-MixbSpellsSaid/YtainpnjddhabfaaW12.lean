/-
  Round and Back of mixb and of the reference.
-/
import Derived.Test.YtainpnjddhabfaaW11
namespace Go.Proofs.Ytainpnjddhabfaa
open Go.RowKit

def rOk (r : Int) : Bool := decide (0 ≤ r) && decide (r ≤ 11)
/-- The state behind k steps back of a round of order q. -/
def bckK (M : Nat → BitVec 64) (q : Nat) (V : Nat → BitVec 64) : Nat → Nat → BitVec 64
  | 0 => V
  | k + 1 => backS (bckK M q V k) (pl (7 - k) 0) (pl (7 - k) 1) (pl (7 - k) 2) (pl (7 - k) 3) (M (sig q (2 * (7 - k)))) (M (sig q (2 * (7 - k) + 1)))
def backB (V M : Nat → BitVec 64) (q : Nat) : Nat → BitVec 64 := bckK M q V 8
/-- What Round and Back answer. -/
def rSt (V M : Nat → BitVec 64) (r : Int) : Nat → BitVec 64 := if rOk r then roundB V M (row r) else fun _ => 0
def bSt (V M : Nat → BitVec 64) (r : Int) : Nat → BitVec 64 := if rOk r then backB V M (row r) else fun _ => 0
def rEr (r : Int) : Int := if rOk r then 0 else 1
theorem rOk_good {r : Int} (h : 0 ≤ r ∧ r ≤ 11) : rOk r = true := by simp [rOk, h]
theorem rOk_bad {r : Int} (h : r < 0 ∨ 11 < r) : rOk r = false := by
  unfold rOk
  rcases h with h | h
  · rw [decide_eq_false (by omega)]; rfl
  · rw [decide_eq_false (p := r ≤ 11) (by omega), Bool.and_false]

theorem round_bad0 (V M : Nat → BitVec 64) (r : Int) (h : r < 0) (w : World) :
    Calls Try.prog 28 #[.agg (words 16 V), .agg (words 16 M), .int .i64 r] w fun e w' => e = .returned (.tuple #[.agg (words 16 (rSt V M r)), .int .i64 (rEr r)]) ∧ Keeps w w' [] := by
  have O := Own.start w []
  have HE := Lib.hid (show (rSt V M r, rEr r) = ((fun _ => 0 : Nat → BitVec 64), (1 : Int)) by unfold rSt rEr; rw [rOk_bad (by omega)]; rfl)
  go_enter Try.func28, Try.ntmps28
  go_wp2_with (first
    | (refine own_box 3 (words 16 V) O rfl rfl rfl rfl ?_; clear O; intro W a3 O; simp only [Act.put, List.setIfInBounds_toArray, List.set_cons_zero, List.set_cons_succ])
    | (refine own_box 4 (words 16 M) O rfl rfl rfl rfl ?_; clear O; intro W a4 O; simp only [Act.put, List.setIfInBounds_toArray, List.set_cons_zero, List.set_cons_succ])
    | (refine own_alloc 6 (words 16 fun _ => 0) O rfl rfl rfl (fun _ => by kernel_rfl) ?_; clear O; intro W a6 O; simp only [Act.put, List.setIfInBounds_toArray, List.set_cons_zero, List.set_cons_succ])
    | (refine wpList_const 14 (.agg (words 16 fun _ => 0)) rfl rfl (fun _ => by kernel_rfl) ?_; simp only [Act.put, List.setIfInBounds_toArray, List.set_cons_zero, List.set_cons_succ])
    | (refine own_store_row 0 (.tmp 6) (.tmp 14) O rfl rfl rfl rfl rfl rfl (by kernel_rfl) (by simp only [words_size]) (words_cell _ _) ?_; clear O; intro W O; simp only [List.set_cons_zero, List.set_cons_succ] at O))
  refine bodyPost_ret (v := .tuple #[.agg (words 16 fun _ => 0), .int .i64 1]) (results_cell_tmp rfl _ _ a6 33 _ _ rfl (O.get 0 rfl) Try.underlying33 rfl (by kernel_rfl) _ rfl) rfl ⟨?_, O.keep⟩
  rw [show rSt V M r = fun _ => 0 from congrArg Prod.fst HE.out, show rEr r = 1 from congrArg Prod.snd HE.out]

theorem round_bad1 (V M : Nat → BitVec 64) (r : Int) (h : 11 < r) (w : World) :
    Calls Try.prog 28 #[.agg (words 16 V), .agg (words 16 M), .int .i64 r] w fun e w' => e = .returned (.tuple #[.agg (words 16 (rSt V M r)), .int .i64 (rEr r)]) ∧ Keeps w w' [] := by
  have O := Own.start w []
  have HE := Lib.hid (show (rSt V M r, rEr r) = ((fun _ => 0 : Nat → BitVec 64), (1 : Int)) by unfold rSt rEr; rw [rOk_bad (by omega)]; rfl)
  have h0 : ¬ r < 0 := by omega
  go_enter Try.func28, Try.ntmps28
  go_wp2_with (first
    | (refine own_box 3 (words 16 V) O rfl rfl rfl rfl ?_; clear O; intro W a3 O; simp only [Act.put, List.setIfInBounds_toArray, List.set_cons_zero, List.set_cons_succ])
    | (refine own_box 4 (words 16 M) O rfl rfl rfl rfl ?_; clear O; intro W a4 O; simp only [Act.put, List.setIfInBounds_toArray, List.set_cons_zero, List.set_cons_succ])
    | (refine own_alloc 6 (words 16 fun _ => 0) O rfl rfl rfl (fun _ => by kernel_rfl) ?_; clear O; intro W a6 O; simp only [Act.put, List.setIfInBounds_toArray, List.set_cons_zero, List.set_cons_succ])
    | (refine wpList_const 14 (.agg (words 16 fun _ => 0)) rfl rfl (fun _ => by kernel_rfl) ?_; simp only [Act.put, List.setIfInBounds_toArray, List.set_cons_zero, List.set_cons_succ])
    | (refine own_store_row 0 (.tmp 6) (.tmp 14) O rfl rfl rfl rfl rfl rfl (by kernel_rfl) (by simp only [words_size]) (words_cell _ _) ?_; clear O; intro W O; simp only [List.set_cons_zero, List.set_cons_succ] at O))
  refine bodyPost_ret (v := .tuple #[.agg (words 16 fun _ => 0), .int .i64 1]) (results_cell_tmp rfl _ _ a6 33 _ _ rfl (O.get 0 rfl) Try.underlying33 rfl (by kernel_rfl) _ rfl) rfl ⟨?_, O.keep⟩
  rw [show rSt V M r = fun _ => 0 from congrArg Prod.fst HE.out, show rEr r = 1 from congrArg Prod.snd HE.out]

set_option maxHeartbeats 1000000 in
theorem round_good (V M : Nat → BitVec 64) (r : Int) (h0 : 0 ≤ r) (h1 : r ≤ 11) (w : World) :
    Calls Try.prog 28 #[.agg (words 16 V), .agg (words 16 M), .int .i64 r] w fun e w' => e = .returned (.tuple #[.agg (words 16 (rSt V M r)), .int .i64 (rEr r)]) ∧ Keeps w w' [] := by
  have O := Own.start w []
  have HE := Lib.hid (show (rSt V M r, rEr r) = (roundB V M (row r), (0 : Int)) by unfold rSt rEr; rw [rOk_good ⟨h0, h1⟩]; rfl)
  have h2 : ¬ r < 0 := by omega
  have h3 : ¬ 11 < r := by omega
  go_enter Try.func28, Try.ntmps28
  go_wp2_with (first
    | (refine own_box 3 (words 16 V) O rfl rfl rfl rfl ?_; clear O; intro W a3 O; simp only [Act.put, List.setIfInBounds_toArray, List.set_cons_zero, List.set_cons_succ])
    | (refine own_box 4 (words 16 M) O rfl rfl rfl rfl ?_; clear O; intro W a4 O; simp only [Act.put, List.setIfInBounds_toArray, List.set_cons_zero, List.set_cons_succ])
    | (refine own_alloc 6 (words 16 fun _ => 0) O rfl rfl rfl (fun _ => by kernel_rfl) ?_; clear O; intro W a6 O; simp only [Act.put, List.setIfInBounds_toArray, List.set_cons_zero, List.set_cons_succ])
    | (go_at_call 44; refine (turn_rnd V M a3 a4 r W (O.get 2 rfl) (O.get 1 rfl) (O.apart (i := 1) (j := 2) rfl rfl (by decide))).mono ?_; rintro e W ⟨rfl, K, B⟩; replace O := O.set 2 rfl K B; clear K B; simp only [List.set_cons_zero, List.set_cons_succ] at O)
    | (refine own_load 17 2 O rfl rfl rfl rfl rfl Try.underlying33 rfl (by kernel_rfl) ?_; simp only [Act.put, List.setIfInBounds_toArray, List.set_cons_zero, List.set_cons_succ])
    | (refine own_store_row 0 (.tmp 6) (.tmp 17) O rfl rfl rfl rfl rfl rfl (by kernel_rfl) (by simp only [words_size]) (words_cell _ _) ?_; clear O; intro W O; simp only [List.set_cons_zero, List.set_cons_succ] at O))
  refine bodyPost_ret (v := .tuple #[.agg (words 16 (roundB V M (row r))), .int .i64 0]) (results_cell_tmp rfl _ _ a6 33 _ _ rfl (O.get 0 rfl) Try.underlying33 rfl (by kernel_rfl) _ rfl) rfl ⟨?_, O.keep⟩
  rw [show rSt V M r = roundB V M (row r) from congrArg Prod.fst HE.out, show rEr r = 0 from congrArg Prod.snd HE.out]

theorem round_any (V M : Nat → BitVec 64) (r : Int) (w : World) :
    Calls Try.prog 28 #[.agg (words 16 V), .agg (words 16 M), .int .i64 r] w fun e w' => e = .returned (.tuple #[.agg (words 16 (rSt V M r)), .int .i64 (rEr r)]) ∧ Keeps w w' [] := by
  by_cases h0 : r < 0
  · exact round_bad0 V M r h0 w
  · by_cases h1 : 11 < r
    · exact round_bad1 V M r h1 w
    · exact round_good V M r (by omega) (by omega) w

theorem bback_bad0 (V M : Nat → BitVec 64) (r : Int) (h : r < 0) (w : World) :
    Calls Try.prog 29 #[.agg (words 16 V), .agg (words 16 M), .int .i64 r] w fun e w' => e = .returned (.tuple #[.agg (words 16 (bSt V M r)), .int .i64 (rEr r)]) ∧ Keeps w w' [] := by
  have O := Own.start w []
  have HE := Lib.hid (show (bSt V M r, rEr r) = ((fun _ => 0 : Nat → BitVec 64), (1 : Int)) by unfold bSt rEr; rw [rOk_bad (by omega)]; rfl)
  go_enter Try.func29, Try.ntmps29
  go_wp2_with (first
    | (refine own_box 3 (words 16 V) O rfl rfl rfl rfl ?_; clear O; intro W a3 O; simp only [Act.put, List.setIfInBounds_toArray, List.set_cons_zero, List.set_cons_succ])
    | (refine own_box 4 (words 16 M) O rfl rfl rfl rfl ?_; clear O; intro W a4 O; simp only [Act.put, List.setIfInBounds_toArray, List.set_cons_zero, List.set_cons_succ])
    | (refine own_alloc 6 (words 16 fun _ => 0) O rfl rfl rfl (fun _ => by kernel_rfl) ?_; clear O; intro W a6 O; simp only [Act.put, List.setIfInBounds_toArray, List.set_cons_zero, List.set_cons_succ])
    | (refine wpList_const 17 (.agg (words 16 fun _ => 0)) rfl rfl (fun _ => by kernel_rfl) ?_; simp only [Act.put, List.setIfInBounds_toArray, List.set_cons_zero, List.set_cons_succ])
    | (refine own_store_row 0 (.tmp 6) (.tmp 17) O rfl rfl rfl rfl rfl rfl (by kernel_rfl) (by simp only [words_size]) (words_cell _ _) ?_; clear O; intro W O; simp only [List.set_cons_zero, List.set_cons_succ] at O))
  refine bodyPost_ret (v := .tuple #[.agg (words 16 fun _ => 0), .int .i64 1]) (results_cell_tmp rfl _ _ a6 33 _ _ rfl (O.get 0 rfl) Try.underlying33 rfl (by kernel_rfl) _ rfl) rfl ⟨?_, O.keep⟩
  rw [show bSt V M r = fun _ => 0 from congrArg Prod.fst HE.out, show rEr r = 1 from congrArg Prod.snd HE.out]

theorem bback_bad1 (V M : Nat → BitVec 64) (r : Int) (h : 11 < r) (w : World) :
    Calls Try.prog 29 #[.agg (words 16 V), .agg (words 16 M), .int .i64 r] w fun e w' => e = .returned (.tuple #[.agg (words 16 (bSt V M r)), .int .i64 (rEr r)]) ∧ Keeps w w' [] := by
  have O := Own.start w []
  have HE := Lib.hid (show (bSt V M r, rEr r) = ((fun _ => 0 : Nat → BitVec 64), (1 : Int)) by unfold bSt rEr; rw [rOk_bad (by omega)]; rfl)
  have h0 : ¬ r < 0 := by omega
  go_enter Try.func29, Try.ntmps29
  go_wp2_with (first
    | (refine own_box 3 (words 16 V) O rfl rfl rfl rfl ?_; clear O; intro W a3 O; simp only [Act.put, List.setIfInBounds_toArray, List.set_cons_zero, List.set_cons_succ])
    | (refine own_box 4 (words 16 M) O rfl rfl rfl rfl ?_; clear O; intro W a4 O; simp only [Act.put, List.setIfInBounds_toArray, List.set_cons_zero, List.set_cons_succ])
    | (refine own_alloc 6 (words 16 fun _ => 0) O rfl rfl rfl (fun _ => by kernel_rfl) ?_; clear O; intro W a6 O; simp only [Act.put, List.setIfInBounds_toArray, List.set_cons_zero, List.set_cons_succ])
    | (refine wpList_const 17 (.agg (words 16 fun _ => 0)) rfl rfl (fun _ => by kernel_rfl) ?_; simp only [Act.put, List.setIfInBounds_toArray, List.set_cons_zero, List.set_cons_succ])
    | (refine own_store_row 0 (.tmp 6) (.tmp 17) O rfl rfl rfl rfl rfl rfl (by kernel_rfl) (by simp only [words_size]) (words_cell _ _) ?_; clear O; intro W O; simp only [List.set_cons_zero, List.set_cons_succ] at O))
  refine bodyPost_ret (v := .tuple #[.agg (words 16 fun _ => 0), .int .i64 1]) (results_cell_tmp rfl _ _ a6 33 _ _ rfl (O.get 0 rfl) Try.underlying33 rfl (by kernel_rfl) _ rfl) rfl ⟨?_, O.keep⟩
  rw [show bSt V M r = fun _ => 0 from congrArg Prod.fst HE.out, show rEr r = 1 from congrArg Prod.snd HE.out]

set_option maxHeartbeats 1000000 in
theorem bback_good (V M : Nat → BitVec 64) (r : Int) (h0 : 0 ≤ r) (h1 : r ≤ 11) (w : World) :
    Calls Try.prog 29 #[.agg (words 16 V), .agg (words 16 M), .int .i64 r] w fun e w' => e = .returned (.tuple #[.agg (words 16 (bSt V M r)), .int .i64 (rEr r)]) ∧ Keeps w w' [] := by
  have O := Own.start w []
  have HE := Lib.hid (show (bSt V M r, rEr r) = (backB V M (row r), (0 : Int)) by unfold bSt rEr; rw [rOk_good ⟨h0, h1⟩]; rfl)
  have h2 : ¬ r < 0 := by omega
  have h3 : ¬ 11 < r := by omega
  have hq := row_lt r
  generalize hrow : row r = q at *
  have HQ := Lib.hid hrow
  clear hrow
  go_enter Try.func29, Try.ntmps29
  go_wp2_with (first
    | (refine own_box 3 (words 16 V) O rfl rfl rfl rfl ?_; clear O; intro W a3 O; simp only [Act.put, List.setIfInBounds_toArray, List.set_cons_zero, List.set_cons_succ])
    | (refine own_box 4 (words 16 M) O rfl rfl rfl rfl ?_; clear O; intro W a4 O; simp only [Act.put, List.setIfInBounds_toArray, List.set_cons_zero, List.set_cons_succ])
    | (refine own_alloc 6 (words 16 fun _ => 0) O rfl rfl rfl (fun _ => by kernel_rfl) ?_; clear O; intro W a6 O; simp only [Act.put, List.setIfInBounds_toArray, List.set_cons_zero, List.set_cons_succ])
    | (go_at_call 14; refine (sigma_any _ _).mono ?_; rintro e W ⟨he, K⟩; rw [HQ.out] at he; subst he; replace O := O.keeps K; clear K)
    | (go_at_call 45; refine (places_any _).mono ?_; rintro e W ⟨rfl, K⟩; replace O := O.keeps K; clear K)
    | (refine own_alloc 8 (ints 16 fun _ => 0) O rfl rfl rfl (fun _ => by kernel_rfl) ?_; clear O; intro W a8 O; simp only [Act.put, List.setIfInBounds_toArray, List.set_cons_zero, List.set_cons_succ])
    | (refine own_alloc 9 (ints 32 fun _ => 0) O rfl rfl rfl (fun _ => by kernel_rfl) ?_; clear O; intro W a9 O; simp only [Act.put, List.setIfInBounds_toArray, List.set_cons_zero, List.set_cons_succ])
    | (refine own_store_row 1 (.tmp 8) (.tmp 19) O rfl rfl rfl rfl rfl rfl (by kernel_rfl) (by simp only [ints_size]) (ints_cell _ _) ?_; clear O; intro W O; simp only [List.set_cons_zero, List.set_cons_succ] at O)
    | (refine own_store_row 0 (.tmp 9) (.tmp 20) O rfl rfl rfl rfl rfl rfl (by kernel_rfl) (by simp only [ints_size]) (ints_cell _ _) ?_; clear O; intro W O; simp only [List.set_cons_zero, List.set_cons_succ] at O))
  go_loopw [10] (fun i wr => ∃ j : Nat, j ≤ 8 ∧ i = .int .i64 ((j : Int) - 1) ∧ Own w wr [] [(a9, 80, ints 32 fun i => pl (i / 4) (i % 4)), (a8, 26, ints 16 (sig q)), (a6, 33, words 16 fun _ => 0), (a4, 33, words 16 M), (a3, 33, words 16 (bckK M q V (8 - j)))]) (fun i _ => (intOf i + 1).toNat)
  case atStart => exact ⟨8, by omega, rfl, O⟩
  case round =>
    obtain ⟨j, hj, rfl, O⟩ := hrel
    cases j with
    | zero =>
      have hz : ¬ ((0 : Int) ≤ ((0 : Nat) : Int) - 1) := by omega
      go_wp2_with (first
        | (refine own_load 42 4 O rfl rfl rfl rfl rfl Try.underlying33 rfl (by kernel_rfl) ?_; simp only [Act.put, List.setIfInBounds_toArray, List.set_cons_zero, List.set_cons_succ])
        | (refine own_store_row 2 (.tmp 6) (.tmp 42) O rfl rfl rfl rfl rfl rfl (by kernel_rfl) (by simp only [words_size]) (words_cell _ _) ?_; clear O; intro W O; simp only [List.set_cons_zero, List.set_cons_succ] at O))
      refine bodyPost_ret (v := .tuple #[.agg (words 16 (backB V M q)), .int .i64 0]) (results_cell_tmp rfl _ _ a6 33 _ _ rfl (O.get 2 rfl) Try.underlying33 rfl (by kernel_rfl) _ rfl) rfl ⟨?_, O.keep⟩
      rw [show bSt V M r = backB V M q from congrArg Prod.fst HE.out, show rEr r = 0 from congrArg Prod.snd HE.out]
    | succ k =>
      have e0 : ((k + 1 : Nat) : Int) - 1 = k := by omega
      rw [e0]
      clear e0
      have hlt : k < 8 := by omega
      have g1 : ((k : Int)) < 8 := by omega
      have g2 : (0 : Int) ≤ k := by omega
      have s0 := sig_lt q (2 * k) hq (by omega)
      have s1 := sig_lt q (2 * k + 1) hq (by omega)
      have m1 : IntKind.i64.wrap (2 * (k : Int)) = 2 * k := IntWalk.i64_in _ (by omega)
      have m2 : IntKind.i64.wrap (2 * (k : Int) + 1) = 2 * k + 1 := IntWalk.i64_in _ (by omega)
      have m3 : (0 : Int) ≤ 2 * k := by omega
      have m4 : (2 * (k : Int)).toNat = 2 * k := by omega
      have m5 : (2 * (k : Int) + 1).toNat = 2 * k + 1 := by omega
      have m6 : 2 * (k : Int) < 16 := by omega
      have m9 : 2 * k < 16 := by omega
      have m10 : 2 * k + 1 < 16 := by omega
      have m7 : 2 * (k : Int) + 1 < 16 := by omega
      have m8 : (0 : Int) ≤ 2 * k + 1 := by omega
      have HM := Lib.hid (And.intro m1 (And.intro m2 (And.intro m4 m5)))
      clear m1 m2 m4 m5
      go_wp2
      obtain ⟨m1, m2, m4, m5⟩ := HM.out
      have c8 := (O.get 1 rfl).cell
      have cM := (O.get 3 rfl).cell
      refine wp_quiet_tail_drawn 16 (by kernel_rfl) (by kernel_rfl) ?_
      simp only [List.take, List.drop]
      repeat (first
        | (refine wpQuiet_load_part (part := ints 4 (pl k)) 27 rfl rfl rfl rfl (drawn_blk (O.get 0 rfl)) Try.underlying71 rfl (by kernel_rfl) ?_ ?_; (exact fun j hj => pl_get k j hlt (by simpa [ints_size] using hj)); simp only [Act.put, List.setIfInBounds_toArray, List.set_cons_zero, List.set_cons_succ])
        | go_big_quiet_step (fail))
      refine wpQuiet_nil ?_
      intro _ hw
      obtain ⟨n0, rfl⟩ := hw
      replace O := O.drewN n0
      clear c8 cM m1 m2 m4 m5
      generalize World.drewN _ n0 = W at O ⊢
      go_wp2_with (go_at_call 46; refine (back_ints (pl k) _ _ a3 _ W (O.get 4 rfl) (fun i hi => pl_lt k i hlt hi)).mono ?_; rintro e W ⟨rfl, K, B1⟩; replace O := O.set 4 rfl K B1; clear K B1; simp only [List.set_cons_zero, List.set_cons_succ] at O)
      go_roundw
      case rel =>
        refine ⟨k, by omega, by go_num, ?_⟩
        have e1 : bckK M q V (8 - k) = backS (bckK M q V (8 - (k + 1))) (pl k 0) (pl k 1) (pl k 2) (pl k 3) (M (sig q (2 * k))) (M (sig q (2 * k + 1))) := by
          rw [show 8 - k = (8 - (k + 1)) + 1 from by omega]
          show backS _ _ _ _ _ _ _ = _
          rw [show 7 - (8 - (k + 1)) = k from by omega]
        rw [e1]
        exact O
      case measure => (simp [intOf] <;> omega)

theorem bback_any (V M : Nat → BitVec 64) (r : Int) (w : World) :
    Calls Try.prog 29 #[.agg (words 16 V), .agg (words 16 M), .int .i64 r] w fun e w' => e = .returned (.tuple #[.agg (words 16 (bSt V M r)), .int .i64 (rEr r)]) ∧ Keeps w w' [] := by
  by_cases h0 : r < 0
  · exact bback_bad0 V M r h0 w
  · by_cases h1 : 11 < r
    · exact bback_bad1 V M r h1 w
    · exact bback_good V M r (by omega) (by omega) w
end Go.Proofs.Ytainpnjddhabfaa
