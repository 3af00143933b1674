/-
  F of mixb and of the reference.
-/
import Derived.Test.YtainpnjddhabfaaW13
namespace Go.Proofs.Ytainpnjddhabfaa
open Go.RowKit

/-- The state behind k rounds. -/
def fK (M V : Nat → BitVec 64) : Nat → Nat → BitVec 64
  | 0 => V
  | k + 1 => roundB (fK M V k) M (row (k : Nat))
def mixK (H V : Nat → BitVec 64) (j : Nat) : Nat → BitVec 64 := fun i => if i < j then H i ^^^ (V i ^^^ V (i + 8)) else H i
def fB (H M : Nat → BitVec 64) (lo hi : BitVec 64) (last node : Bool) : Nat → BitVec 64 := mixK H (fK M (initV H lo hi last node) 12) 8
theorem mixK_step (H V : Nat → BitVec 64) (j i : Nat) : upd (mixK H V j) j (mixK H V j j ^^^ (V j ^^^ V (j + 8))) i = mixK H V (j + 1) i := by
  unfold upd mixK
  by_cases h1 : i = j
  · subst h1; simp
  · rw [if_neg h1]
    by_cases h2 : i < j
    · rw [if_pos h2, if_pos (by omega)]
    · rw [if_neg h2, if_neg (by omega)]
theorem mixK_step' (H V : Nat → BitVec 64) (j i : Nat) : upd (mixK H V j) j (mixK H V j j ^^^ V j ^^^ V (j + 8)) i = mixK H V (j + 1) i := by
  rw [BitVec.xor_assoc]; exact mixK_step H V j i
theorem mixK_zero (H V : Nat → BitVec 64) (i : Nat) : H i = mixK H V 0 i := by unfold mixK; rw [if_neg (by omega)]

set_option maxHeartbeats 1000000 in
theorem f_any (H M : Nat → BitVec 64) (lo hi : BitVec 64) (last node : Bool) (w : World) :
    Calls Try.prog 30 #[.agg (words 8 H), .agg (words 16 M), .agg #[U64 lo, U64 hi], .bool last, .bool node] w fun e w' => e = .returned (.agg (words 8 (fB H M lo hi last node))) ∧ Keeps w w' [] := by
  have O := Own.start w []
  have HF : fB H M lo hi last node = mixK H (fK M (initV H lo hi last node) 12) 8 := rfl
  generalize hI : fK M (initV H lo hi last node) = FK at *
  have F0 : FK 0 = initV H lo hi last node := by rw [← hI]; rfl
  have Fsx : ∀ k, FK (k + 1) = roundB (FK k) M (row (k : Nat)) := fun k => by rw [← hI]; rfl
  have H0 := Lib.hid F0
  have HS := Lib.hid Fsx
  have HH := Lib.hid HF
  clear hI F0 Fsx HF
  go_enter Try.func30, Try.ntmps30
  go_wp2_with (first
    | (refine own_box 5 (words 8 H) O rfl rfl rfl rfl ?_; clear O; intro W a5 O; simp only [Act.put, List.setIfInBounds_toArray, List.set_cons_zero, List.set_cons_succ])
    | (refine own_box 6 (words 16 M) O rfl rfl rfl rfl ?_; clear O; intro W a6 O; simp only [Act.put, List.setIfInBounds_toArray, List.set_cons_zero, List.set_cons_succ])
    | (refine own_box 7 (#[U64 lo, U64 hi]) O rfl rfl rfl rfl ?_; clear O; intro W a7 O; simp only [Act.put, List.setIfInBounds_toArray, List.set_cons_zero, List.set_cons_succ])
    | (refine own_alloc 10 (words 8 fun _ => 0) O rfl rfl rfl (fun _ => by kernel_rfl) ?_; clear O; intro W a10 O; simp only [Act.put, List.setIfInBounds_toArray, List.set_cons_zero, List.set_cons_succ])
    | (refine own_load 14 3 O rfl rfl rfl rfl rfl Try.underlying23 rfl (by kernel_rfl) ?_; simp only [Act.put, List.setIfInBounds_toArray, List.set_cons_zero, List.set_cons_succ])
    | (refine own_load 15 1 O rfl rfl rfl rfl rfl Try.underlying35 rfl (by kernel_rfl) ?_; simp only [Act.put, List.setIfInBounds_toArray, List.set_cons_zero, List.set_cons_succ])
    | (go_at_call 17; refine (init_any _ _ _ _ _ _).mono ?_; rintro e W ⟨rfl, K⟩; replace O := O.keeps K; clear K)
    | (refine own_alloc 11 (words 16 fun _ => 0) O rfl rfl rfl (fun _ => by kernel_rfl) ?_; clear O; intro W a11 O; simp only [Act.put, List.setIfInBounds_toArray, List.set_cons_zero, List.set_cons_succ])
    | (refine own_store_row 0 (.tmp 11) (.tmp 18) O rfl rfl rfl rfl rfl rfl (by kernel_rfl) (by simp only [words_size]) (words_cell _ _) ?_; clear O; intro W O; simp only [List.set_cons_zero, List.set_cons_succ] at O))
  rw [← H0.out] at O
  go_loopw [19] (fun i wr => ∃ k : Nat, k ≤ 12 ∧ i = .int .i64 k ∧ Own w wr [] [(a11, 33, words 16 (FK k)), (a10, 23, words 8 fun _ => 0), (a7, 35, #[U64 lo, U64 hi]), (a6, 33, words 16 M), (a5, 23, words 8 H)]) (fun i _ => 12 - (intOf i).toNat)
  case atStart => exact ⟨0, by omega, rfl, O⟩
  case round =>
    obtain ⟨k, hk, rfl, O⟩ := hrel
    by_cases hlt : k < 12
    · have g1 : ((k : Int)) < 12 := by omega
      go_wp2_with (first
        | (go_at_call 44; refine (turn_rnd (FK k) M a11 a6 k _ (O.get 0 rfl) (O.get 3 rfl) (O.apart (i := 3) (j := 0) rfl rfl (by decide))).mono ?_; rintro e W ⟨rfl, K, B⟩; replace O := O.set 0 rfl K B; clear K B; simp only [List.set_cons_zero, List.set_cons_succ] at O))
      go_roundw
      case rel => exact ⟨k + 1, by omega, by go_num, by rw [HS.out]; exact O⟩
      case measure => (simp [intOf] <;> omega)
    · obtain rfl : k = 12 := by omega
      go_wp2
      go_loopw [25] (fun i wr => ∃ j : Nat, j ≤ 8 ∧ i = .int .i64 j ∧ Own w wr [] [(a11, 33, words 16 (FK 12)), (a10, 23, words 8 fun _ => 0), (a7, 35, #[U64 lo, U64 hi]), (a6, 33, words 16 M), (a5, 23, words 8 (mixK H (FK 12) j))]) (fun i _ => 8 - (intOf i).toNat)
      case atStart => exact ⟨0, by omega, rfl, O.put 4 rfl (words_congr fun i _ => mixK_zero H (FK 12) i)⟩
      case round =>
        obtain ⟨j, hj, rfl, O⟩ := hrel
        by_cases hlt : j < 8
        · have g1 : ((j : Int)) < 8 := by omega
          have g2 : j < 16 := by omega
          have g3 : ((j : Int)) < 16 := by omega
          have m1 : IntKind.i64.wrap ((j : Int) + 8) = j + 8 := IntWalk.i64_in _ (by omega)
          have m2 : ((j : Int) + 8).toNat = j + 8 := by omega
          have m3 : (0 : Int) ≤ j + 8 := by omega
          have m4 : (j : Int) + 8 < 16 := by omega
          have m5 : j + 8 < 16 := by omega
          have HM := Lib.hid (And.intro m1 m2)
          clear m1 m2
          go_wp2
          obtain ⟨m1, m2⟩ := HM.out
          have c11 := (O.get 0 rfl).cell
          have c5 := (O.get 4 rfl).cell
          refine wp_quiet_tail_drawn 13 (by kernel_rfl) (by kernel_rfl) ?_
          simp only [List.take, List.drop]
          repeat (go_big_quiet_step (fail))
          refine wpQuiet_nil ?_
          intro _ hw
          obtain ⟨n0, rfl⟩ := hw
          replace O := O.drewN n0
          clear c11 c5 m1 m2
          generalize World.drewN _ n0 = W at O ⊢
          go_wp2_with (refine own_store 4 j (U64 (mixK H (FK 12) j j ^^^ (FK 12 j ^^^ FK 12 (j + 8)))) (.tmp 40) (.tmp 39) O rfl rfl rfl rfl rfl rfl (by simp only [words_size]; omega) rfl rfl (by kernel_rfl) (words_set 8 _ j _) ?_; clear O; intro W O; simp only [List.set_cons_zero, List.set_cons_succ] at O)
          go_roundw
          case rel => exact ⟨j + 1, by omega, by go_num, O.put 4 rfl (words_congr fun i _ => mixK_step H (FK 12) j i)⟩
          case measure => (simp [intOf] <;> omega)
        · obtain rfl : j = 8 := by omega
          go_wp2_with (first
            | (refine own_load 42 4 O rfl rfl rfl rfl rfl Try.underlying23 rfl (by kernel_rfl) ?_; simp only [Act.put, List.setIfInBounds_toArray, List.set_cons_zero, List.set_cons_succ])
            | (refine own_store_row 1 (.tmp 10) (.tmp 42) O rfl rfl rfl rfl rfl rfl (by kernel_rfl) (by simp only [words_size]) (words_cell _ _) ?_; clear O; intro W O; simp only [List.set_cons_zero, List.set_cons_succ] at O))
          refine bodyPost_ret (v := .agg (words 8 (mixK H (FK 12) 8))) (results_cell_row rfl _ _ a10 23 _ (0, 0) _ rfl (O.get 1 rfl) Try.underlying23 rfl (by kernel_rfl)) rfl ⟨?_, O.keep⟩
          rw [HH.out]

set_option maxHeartbeats 1000000 in
theorem reff_any (H M : Nat → BitVec 64) (lo hi : BitVec 64) (last node : Bool) (w : World) :
    Calls Try.prog 31 #[.agg (words 8 H), .agg (words 16 M), U64 lo, U64 hi, .bool last, .bool node] w fun e w' => e = .returned (.agg (words 8 (fB H M lo hi last node))) ∧ Keeps w w' [] := by
  have O := Own.start w []
  have HF : fB H M lo hi last node = mixK H (fK M (initV H lo hi last node) 12) 8 := rfl
  generalize hI : fK M (initV H lo hi last node) = FK at *
  have F0 : FK 0 = initV H lo hi last node := by rw [← hI]; rfl
  have Fsx : ∀ k, k ≤ 11 → rSt (FK k) M (k : Nat) = FK (k + 1) := fun k hk => by
    rw [← hI]
    unfold rSt
    rw [rOk_good (by omega)]
    rfl
  have H0 := Lib.hid F0
  have HS := Lib.hid Fsx
  have HH := Lib.hid HF
  clear hI F0 Fsx HF
  go_enter Try.func31, Try.ntmps31
  go_wp2_with (first
    | (refine own_box 6 (words 8 H) O rfl rfl rfl rfl ?_; clear O; intro W a6 O; simp only [Act.put, List.setIfInBounds_toArray, List.set_cons_zero, List.set_cons_succ])
    | (refine own_box 7 (words 16 M) O rfl rfl rfl rfl ?_; clear O; intro W a7 O; simp only [Act.put, List.setIfInBounds_toArray, List.set_cons_zero, List.set_cons_succ])
    | (refine own_alloc 12 (words 8 fun _ => 0) O rfl rfl rfl (fun _ => by kernel_rfl) ?_; clear O; intro W a12 O; simp only [Act.put, List.setIfInBounds_toArray, List.set_cons_zero, List.set_cons_succ])
    | (refine own_load 16 2 O rfl rfl rfl rfl rfl Try.underlying23 rfl (by kernel_rfl) ?_; simp only [Act.put, List.setIfInBounds_toArray, List.set_cons_zero, List.set_cons_succ])
    | (go_at_call 18; refine (refinit_any _ _ _ _ _ _).mono ?_; rintro e W ⟨rfl, K⟩; replace O := O.keeps K; clear K)
    | (refine own_alloc 13 (words 16 fun _ => 0) O rfl rfl rfl (fun _ => by kernel_rfl) ?_; clear O; intro W a13 O; simp only [Act.put, List.setIfInBounds_toArray, List.set_cons_zero, List.set_cons_succ])
    | (refine own_store_row 0 (.tmp 13) (.tmp 21) O rfl rfl rfl rfl rfl rfl (by kernel_rfl) (by simp only [words_size]) (words_cell _ _) ?_; clear O; intro W O; simp only [List.set_cons_zero, List.set_cons_succ] at O))
  rw [← H0.out] at O
  go_loopw [14] (fun i wr => ∃ k : Nat, k ≤ 12 ∧ i = .int .i64 k ∧ Own w wr [] [(a13, 33, words 16 (FK k)), (a12, 23, words 8 fun _ => 0), (a7, 33, words 16 M), (a6, 23, words 8 H)]) (fun i _ => 12 - (intOf i).toNat)
  case atStart => exact ⟨0, by omega, rfl, O⟩
  case round =>
    obtain ⟨k, hk, rfl, O⟩ := hrel
    by_cases hlt : k < 12
    · have g1 : ((k : Int)) < 12 := by omega
      go_wp2_with (first
        | (refine own_load 27 0 O rfl rfl rfl rfl rfl Try.underlying33 rfl (by kernel_rfl) ?_; simp only [Act.put, List.setIfInBounds_toArray, List.set_cons_zero, List.set_cons_succ])
        | (refine own_load 28 2 O rfl rfl rfl rfl rfl Try.underlying33 rfl (by kernel_rfl) ?_; simp only [Act.put, List.setIfInBounds_toArray, List.set_cons_zero, List.set_cons_succ])
        | (go_at_call 32; refine (refround_any _ _ _ _).mono ?_; rintro e W ⟨rfl, K⟩; replace O := O.keeps K; clear K)
        | (refine own_store_row 0 (.tmp 13) (.tmp 31) O rfl rfl rfl rfl rfl rfl (by kernel_rfl) (by simp only [words_size]) (words_cell _ _) ?_; clear O; intro W O; simp only [List.set_cons_zero, List.set_cons_succ] at O))
      rw [HS.out k (by omega)] at O
      go_roundw
      case rel => exact ⟨k + 1, by omega, by go_num, O⟩
      case measure => (simp [intOf] <;> omega)
    · obtain rfl : k = 12 := by omega
      go_wp2
      go_loopw [15] (fun i wr => ∃ j : Nat, j ≤ 8 ∧ i = .int .i64 j ∧ Own w wr [] [(a13, 33, words 16 (FK 12)), (a12, 23, words 8 fun _ => 0), (a7, 33, words 16 M), (a6, 23, words 8 (mixK H (FK 12) j))]) (fun i _ => 8 - (intOf i).toNat)
      case atStart => exact ⟨0, by omega, rfl, O.put 3 rfl (words_congr fun i _ => mixK_zero H (FK 12) i)⟩
      case round =>
        obtain ⟨j, hj, rfl, O⟩ := hrel
        by_cases hlt : j < 8
        · have g1 : ((j : Int)) < 8 := by omega
          have g2 : j < 16 := by omega
          have g3 : ((j : Int)) < 16 := by omega
          have m1 : IntKind.i64.wrap ((j : Int) + 8) = j + 8 := IntWalk.i64_in _ (by omega)
          have m2 : ((j : Int) + 8).toNat = j + 8 := by omega
          have m3 : (0 : Int) ≤ j + 8 := by omega
          have m4 : (j : Int) + 8 < 16 := by omega
          have m5 : j + 8 < 16 := by omega
          have HM := Lib.hid (And.intro m1 m2)
          clear m1 m2
          go_wp2
          obtain ⟨m1, m2⟩ := HM.out
          have c11 := (O.get 0 rfl).cell
          have c5 := (O.get 3 rfl).cell
          refine wp_quiet_tail_drawn 14 (by kernel_rfl) (by kernel_rfl) ?_
          simp only [List.take, List.drop]
          repeat (go_big_quiet_step (fail))
          refine wpQuiet_nil ?_
          intro _ hw
          obtain ⟨n0, rfl⟩ := hw
          replace O := O.drewN n0
          clear c11 c5 m1 m2
          generalize World.drewN _ n0 = W at O ⊢
          go_wp2_with (refine own_store 3 j (U64 (mixK H (FK 12) j j ^^^ FK 12 j ^^^ FK 12 (j + 8))) (.tmp 50) (.tmp 49) O rfl rfl rfl rfl rfl rfl (by simp only [words_size]; omega) rfl rfl (by kernel_rfl) (words_set 8 _ j _) ?_; clear O; intro W O; simp only [List.set_cons_zero, List.set_cons_succ] at O)
          go_roundw
          case rel => exact ⟨j + 1, by omega, by go_num, O.put 3 rfl (words_congr fun i _ => mixK_step' H (FK 12) j i)⟩
          case measure => (simp [intOf] <;> omega)
        · obtain rfl : j = 8 := by omega
          go_wp2_with (first
            | (refine own_load 51 3 O rfl rfl rfl rfl rfl Try.underlying23 rfl (by kernel_rfl) ?_; simp only [Act.put, List.setIfInBounds_toArray, List.set_cons_zero, List.set_cons_succ])
            | (refine own_store_row 1 (.tmp 12) (.tmp 51) O rfl rfl rfl rfl rfl rfl (by kernel_rfl) (by simp only [words_size]) (words_cell _ _) ?_; clear O; intro W O; simp only [List.set_cons_zero, List.set_cons_succ] at O))
          refine bodyPost_ret (v := .agg (words 8 (mixK H (FK 12) 8))) (results_cell_row rfl _ _ a12 23 _ (0, 0) _ rfl (O.get 1 rfl) Try.underlying23 rfl (by kernel_rfl)) rfl ⟨?_, O.keep⟩
          rw [HH.out]
end Go.Proofs.Ytainpnjddhabfaa
