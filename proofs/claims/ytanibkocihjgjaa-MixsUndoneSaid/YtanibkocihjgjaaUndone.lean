/-
  MixsUndone: without the document: the last of the states leads back to all that F was handed, and F is the end of it; the law returns true for every input.
-/
import Derived.Test.YtanibkocihjgjaaS11
import Derived.Test.YtanibkocihjgjaaHeld
namespace Go.Proofs.Ytanibkocihjgjaa
open Go.ChangeShapes Go.WideShapes Go.ChangeAt Go.RowKit

theorem states_back (H M : Nat → BitVec 32) (n : BitVec 64) (last node : Bool) (k : Nat) (hk : k ≤ 9) : rSt (stF H M n last node k) M (k : Nat) = stF H M n last node (k + 1) ∧ rEr (k : Nat) = 0 := by
  constructor
  · unfold rSt
    rw [rOk_good (by omega)]
    rfl
  · unfold rEr
    rw [rOk_good (by omega)]
    rfl

set_option maxRecDepth 100000 in
set_option maxHeartbeats 4000000 in
theorem undone_walk (H M : Nat → BitVec 32) (n : BitVec 64) (last node : Bool) (w : World) : Calls Try.prog 11 #[.agg (runC H M n last node)] w fun e w' => e = .returned (.bool true) ∧ Keeps w w' [] := by
  have O := Own.start w []
  have C1 := Lib.hid fun w => states_any H M n last node w
  have c2 := fun k (hk : k ≤ 9) w => round_any (stF H M n last node k) M (k : Nat) w
  have C2 := Lib.hid fun k (hk : k ≤ 9) w => (by have h := c2 k hk w; rw [(states_back H M n last node k hk).1, (states_back H M n last node k hk).2] at h; exact h : Calls Try.prog 33 #[.agg (words 16 (stF H M n last node k)), .agg (words 16 M), .int .i64 (k : Nat)] w fun e w' => e = .returned (.tuple #[.agg (words 16 (stF H M n last node (k + 1))), .int .i64 0]) ∧ Keeps w w' [])
  have c3 := fun w => open_any (stF H M n last node 10) M w
  rw [openA_stF] at c3
  have C3 := Lib.hid c3
  have c4 : ∀ w : World, Calls Try.prog 37 #[.agg (words 8 H), U64 n, .bool last, .bool node] w fun e w' => e = .returned (.agg (words 16 (stF H M n last node 0))) ∧ Keeps w w' [] := fun w => begin_any H n last node w
  have C4 := Lib.hid c4
  have c5 : ∀ w : World, Calls Try.prog 41 #[.agg (words 8 H), .agg (words 16 M), U64 n, .bool last, .bool node] w fun e w' => e = .returned (.agg (words 8 (endV H (stF H M n last node 10)))) ∧ Keeps w w' [] := fun w => f_any H M n last node w
  have C5 := Lib.hid c5
  have C6 := Lib.hid fun w => end_any H (stF H M n last node 10) w
  clear c2 c3 c4 c5
  generalize stF H M n last node = F at *
  generalize endV H (F 10) = E at *
  have n1 := eqW_self 8 H
  have n2 := eqW_self 16 (F 0)
  have n3 := eqW_self 8 E
  go_enter Try.func11, Try.ntmps11
  go_wp2_with (first
    | (refine own_box 1 (runC H M n last node) O rfl rfl rfl rfl ?_; clear O; intro W a1 O; simp only [Act.put, List.setIfInBounds_toArray, List.set_cons_zero, List.set_cons_succ]; have q24 : W.cell? ⟨a1, 24, none⟩ = some (U64 n) := ((O.get 0 rfl).cell 24).trans (runC_r H M n last node 0); have q25 : W.cell? ⟨a1, 25, none⟩ = some (.bool last) := ((O.get 0 rfl).cell 25).trans (runC_r H M n last node 1); have q26 : W.cell? ⟨a1, 26, none⟩ = some (.bool node) := ((O.get 0 rfl).cell 26).trans (runC_r H M n last node 2))
    | (refine own_load_part (part := words 8 H) 13 0 O rfl rfl rfl rfl rfl Try.underlying33 rfl (by kernel_rfl) ?_ ?_; (exact fun j hj => runC_H H M n last node j (by simpa [words_size] using hj)); simp only [Act.put, List.setIfInBounds_toArray, List.set_cons_zero, List.set_cons_succ])
    | (refine own_load_part (part := words 16 M) 15 0 O rfl rfl rfl rfl rfl Try.underlying23 rfl (by kernel_rfl) ?_ ?_; (exact fun j hj => runC_M H M n last node j (by simpa [words_size] using hj)); simp only [Act.put, List.setIfInBounds_toArray, List.set_cons_zero, List.set_cons_succ])
    | (go_at_call 30; (with_reducible refine Calls.mono (C1.out _) ?_); rintro e W ⟨K, g1, c1, cur1, rfl, hb1, B1, hn1, hx1, hs1, ht1⟩; replace O := O.fresh K hb1 B1; clear K B1 hb1; clear q24 q25 q26))
  go_loopw [4] (fun i wr => ∃ k : Nat, k ≤ 10 ∧ i = .int .i64 k ∧ Own w wr [] ((g1, 23, cur1) :: (a1, 48, runC H M n last node) :: [])) (fun i _ => 10 - (intOf i).toNat)
  case atStart => exact ⟨0, by omega, rfl, O⟩
  case round =>
    obtain ⟨k, hk, rfl, O⟩ := hrel
    by_cases hlt : k < 10
    · have g1' : ((k : Int)) < 10 := by omega
      have g0' : (0 : Int) ≤ k := by omega
      have g2' : ((k : Int)) < 11 := by omega
      have ak := add_zero_ g1 (k * 16)
      go_wp2
      refine wp_held (S := fun u => Own w u [] ((g1, 23, cur1) :: (a1, 48, runC H M n last node) :: [])) 14 #[false, false, false, false, false, false, false, false, false, false, false, false, false, false] (by kernel_rfl) rfl rfl ?_
      replace O := O.drew
      refine seg_take (fuel := 7) (L' := #[true, true, true, true, true, true, true, false, false, false, false, false, false, false]) (by kernel_rfl) (fun _ _ _ _ _ _ h => h) (by first | exact O | exact O.drop_ 1) [0, 1, 2, 3, 4, 5, 6] [_, _, _, _, _, _, _] _ _ rfl (by kernel_rfl) ?_
      simp only [List.getElem_toArray, List.getElem_cons_zero, List.getElem_cons_succ]
      repeat (first
        | (refine take_load_part (off := k * 16) (part := words 16 (F k)) 34 rfl (by rfl) rfl rfl (fun _ h => Own.get h 0 rfl) Try.underlying23 rfl (by kernel_rfl) ?_ ?_; (exact fun j hj => by rw [words_size] at hj; rw [Nat.mul_comm, ht1 k j (by omega) hj, words_get _ _ _ hj]); simp only [Act.put, List.setIfInBounds_toArray, List.set_cons_zero, List.set_cons_succ])
        | (refine take_load_part (off := 8) (part := words 16 M) 36 rfl (by rfl) rfl rfl (fun _ h => Own.get h 1 rfl) Try.underlying23 rfl (by kernel_rfl) ?_ ?_; (exact fun j hj => runC_M H M n last node j (by simpa [words_size] using hj)); simp only [Act.put, List.setIfInBounds_toArray, List.set_cons_zero, List.set_cons_succ])
        | (refine take_pure (v := ?_) (by rfl) ?_ ?_; rotate_left; (· (intro w hSw; clear hSw; go_simp; try with_reducible rfl)); simp only [Act.put, List.setIfInBounds_toArray, List.set_cons_zero, List.set_cons_succ]))
      refine take_done ?_
      refine seg_two 7 11 #[true, true, true, true, true, true, true, true, false, false, false, false, false, false] #[true, true, true, true, true, true, true, false, false, false, false, true, false, false] rfl rfl (by kernel_rfl) ?_ ?_
      · try simp only [List.getElem_toArray, List.getElem_cons_zero, List.getElem_cons_succ]
        go_wp2_with (go_at_call 33; (with_reducible refine Calls.mono (C2.out k (by omega) _) ?_); rintro e W ⟨rfl, K⟩; replace O := O.keeps K; clear K)
        (first | refine back_intro2 (by first | exact O | exact O.drop_ 1) ?_ | refine back_intro (by first | exact O | exact O.drop_ 1) ?_)
        refine seg_take (fuel := 3) (L' := #[true, true, true, true, true, true, true, true, true, true, true, false, false, false]) (by kernel_rfl) (fun _ _ _ _ _ _ h => h) (by first | exact O | exact O.drop_ 1) [8, 9, 10] [_, _, _] _ _ rfl (by kernel_rfl) ?_
        simp only [List.getElem_toArray, List.getElem_cons_zero, List.getElem_cons_succ]
        repeat (first
          | (refine take_pure (v := ?_) (by rfl) ?_ ?_; rotate_left; (· (intro w hSw; clear hSw; go_simp; try with_reducible rfl)); simp only [Act.put, List.setIfInBounds_toArray, List.set_cons_zero, List.set_cons_succ]))
        refine take_done ?_
        refine seg_sole 11 #[true, true, true, true, true, true, true, true, true, true, true, true, false, false] rfl (by kernel_rfl) ?_
        try simp only [List.getElem_toArray, List.getElem_cons_zero, List.getElem_cons_succ]
        go_wp2_with (refine own_alloc 5 (words 16 fun _ => 0) O rfl rfl rfl (fun _ => by kernel_rfl) ?_; clear O; intro W a5 O; simp only [Act.put, List.setIfInBounds_toArray, List.set_cons_zero, List.set_cons_succ])
        (first | refine back_intro2 (by first | exact O | exact O.drop_ 1) ?_ | refine back_intro (by first | exact O | exact O.drop_ 1) ?_)
        refine seg_sole 12 #[true, true, true, true, true, true, true, true, true, true, true, true, true, false] rfl (by kernel_rfl) ?_
        try simp only [List.getElem_toArray, List.getElem_cons_zero, List.getElem_cons_succ]
        go_wp2_with (refine own_store_row 0 (.tmp 5) (.tmp 39) O rfl rfl rfl rfl rfl rfl (by kernel_rfl) (by simp only [words_size]) (words_cell _ _) ?_; clear O; intro W O; simp only [List.set_cons_zero] at O)
        (first | refine back_intro2 (by first | exact O | exact O.drop_ 1) ?_ | refine back_intro (by first | exact O | exact O.drop_ 1) ?_)
        refine seg_take (fuel := 0) (L' := #[true, true, true, true, true, true, true, true, true, true, true, true, true, true]) (by kernel_rfl) (fun _ _ _ _ _ _ h => h) (by first | exact O | exact O.drop_ 1) [13] [_] _ _ rfl (by kernel_rfl) ?_
        simp only [List.getElem_toArray, List.getElem_cons_zero, List.getElem_cons_succ]
        repeat (first
          | (refine take_pure (v := ?_) (by rfl) ?_ ?_; rotate_left; (· (intro w hSw; clear hSw; go_simp; try with_reducible rfl)); simp only [Act.put, List.setIfInBounds_toArray, List.set_cons_zero, List.set_cons_succ]))
        refine take_done ?_
        refine seg_done (by kernel_rfl) ?_
        clear ak
        have ak := add_zero_ g1 ((k + 1) * 16)
        have m1 : IntKind.i64.wrap ((k : Int) + 1) = k + 1 := IntWalk.i64_in _ (by omega)
        have m2 : ((k : Int) + 1).toNat = k + 1 := by omega
        have m3 : (0 : Int) ≤ k + 1 := by omega
        have m4 : (k : Int) + 1 < 11 := by omega
        have n4 := eqW_self 16 (F (k + 1))
        go_wp2
        refine wp_quiet_drawn (by kernel_rfl) (by kernel_rfl) ?_
        repeat (first
          | (refine wpQuiet_load 44 rfl rfl rfl rfl (drawn_blk (O.get 0 rfl)) Try.underlying23 rfl (by kernel_rfl) ?_; simp only [Act.put, List.setIfInBounds_toArray, List.set_cons_zero, List.set_cons_succ])
          | (refine wpQuiet_load_part (off := (k + 1) * 16) (part := words 16 (F (k + 1))) 49 rfl rfl rfl rfl (drawn_blk (O.get 1 rfl)) Try.underlying23 rfl (by kernel_rfl) ?_ ?_; (exact fun j hj => by rw [words_size] at hj; rw [Nat.mul_comm, ht1 (k + 1) j (by omega) hj, words_get _ _ _ hj]); simp only [Act.put, List.setIfInBounds_toArray, List.set_cons_zero, List.set_cons_succ])
          | go_big_quiet_step (fail))
        refine wpQuiet_nil ?_
        intro _ hw
        obtain ⟨n0, rfl⟩ := hw
        replace O := O.drewN n0
        generalize World.drewN _ n0 = W3 at O ⊢
        clear m1 m2 ak
        go_wp2
        go_roundw
        case rel => exact ⟨k + 1, by omega, by go_num, O.drop_ 1⟩
        case measure => (simp [intOf] <;> omega)
      · try simp only [List.getElem_toArray, List.getElem_cons_zero, List.getElem_cons_succ]
        go_wp2_with (refine own_alloc 5 (words 16 fun _ => 0) O rfl rfl rfl (fun _ => by kernel_rfl) ?_; clear O; intro W a5 O; simp only [Act.put, List.setIfInBounds_toArray, List.set_cons_zero, List.set_cons_succ])
        (first | refine back_intro2 (by first | exact O | exact O.drop_ 1) ?_ | refine back_intro (by first | exact O | exact O.drop_ 1) ?_)
        refine seg_sole 7 #[true, true, true, true, true, true, true, true, false, false, false, true, false, false] rfl (by kernel_rfl) ?_
        try simp only [List.getElem_toArray, List.getElem_cons_zero, List.getElem_cons_succ]
        go_wp2_with (go_at_call 33; (with_reducible refine Calls.mono (C2.out k (by omega) _) ?_); rintro e W ⟨rfl, K⟩; replace O := O.keeps K; clear K)
        (first | refine back_intro2 (by first | exact O | exact O.drop_ 1) ?_ | refine back_intro (by first | exact O | exact O.drop_ 1) ?_)
        refine seg_take (fuel := 2) (L' := #[true, true, true, true, true, true, true, true, true, true, true, true, false, false]) (by kernel_rfl) (fun _ _ _ _ _ _ h => h) (by first | exact O | exact O.drop_ 1) [8, 9, 10] [_, _, _] _ _ rfl (by kernel_rfl) ?_
        simp only [List.getElem_toArray, List.getElem_cons_zero, List.getElem_cons_succ]
        repeat (first
          | (refine take_pure (v := ?_) (by rfl) ?_ ?_; rotate_left; (· (intro w hSw; clear hSw; go_simp; try with_reducible rfl)); simp only [Act.put, List.setIfInBounds_toArray, List.set_cons_zero, List.set_cons_succ]))
        refine take_done ?_
        refine seg_sole 12 #[true, true, true, true, true, true, true, true, true, true, true, true, true, false] rfl (by kernel_rfl) ?_
        try simp only [List.getElem_toArray, List.getElem_cons_zero, List.getElem_cons_succ]
        go_wp2_with (refine own_store_row 0 (.tmp 5) (.tmp 39) O rfl rfl rfl rfl rfl rfl (by kernel_rfl) (by simp only [words_size]) (words_cell _ _) ?_; clear O; intro W O; simp only [List.set_cons_zero] at O)
        (first | refine back_intro2 (by first | exact O | exact O.drop_ 1) ?_ | refine back_intro (by first | exact O | exact O.drop_ 1) ?_)
        refine seg_take (fuel := 0) (L' := #[true, true, true, true, true, true, true, true, true, true, true, true, true, true]) (by kernel_rfl) (fun _ _ _ _ _ _ h => h) (by first | exact O | exact O.drop_ 1) [13] [_] _ _ rfl (by kernel_rfl) ?_
        simp only [List.getElem_toArray, List.getElem_cons_zero, List.getElem_cons_succ]
        repeat (first
          | (refine take_pure (v := ?_) (by rfl) ?_ ?_; rotate_left; (· (intro w hSw; clear hSw; go_simp; try with_reducible rfl)); simp only [Act.put, List.setIfInBounds_toArray, List.set_cons_zero, List.set_cons_succ]))
        refine take_done ?_
        refine seg_done (by kernel_rfl) ?_
        clear ak
        have ak := add_zero_ g1 ((k + 1) * 16)
        have m1 : IntKind.i64.wrap ((k : Int) + 1) = k + 1 := IntWalk.i64_in _ (by omega)
        have m2 : ((k : Int) + 1).toNat = k + 1 := by omega
        have m3 : (0 : Int) ≤ k + 1 := by omega
        have m4 : (k : Int) + 1 < 11 := by omega
        have n4 := eqW_self 16 (F (k + 1))
        go_wp2
        refine wp_quiet_drawn (by kernel_rfl) (by kernel_rfl) ?_
        repeat (first
          | (refine wpQuiet_load 44 rfl rfl rfl rfl (drawn_blk (O.get 0 rfl)) Try.underlying23 rfl (by kernel_rfl) ?_; simp only [Act.put, List.setIfInBounds_toArray, List.set_cons_zero, List.set_cons_succ])
          | (refine wpQuiet_load_part (off := (k + 1) * 16) (part := words 16 (F (k + 1))) 49 rfl rfl rfl rfl (drawn_blk (O.get 1 rfl)) Try.underlying23 rfl (by kernel_rfl) ?_ ?_; (exact fun j hj => by rw [words_size] at hj; rw [Nat.mul_comm, ht1 (k + 1) j (by omega) hj, words_get _ _ _ hj]); simp only [Act.put, List.setIfInBounds_toArray, List.set_cons_zero, List.set_cons_succ])
          | go_big_quiet_step (fail))
        refine wpQuiet_nil ?_
        intro _ hw
        obtain ⟨n0, rfl⟩ := hw
        replace O := O.drewN n0
        generalize World.drewN _ n0 = W3 at O ⊢
        clear m1 m2 ak
        go_wp2
        go_roundw
        case rel => exact ⟨k + 1, by omega, by go_num, O.drop_ 1⟩
        case measure => (simp [intOf] <;> omega)
    · obtain rfl : k = 10 := by omega
      go_wp2
      have ak := add_zero_ g1 160
      have Q24 := Lib.hid (show ∀ u : World, Own w u [] ((g1, 23, cur1) :: (a1, 48, runC H M n last node) :: []) → u.cell? ⟨a1, 24, none⟩ = some (U64 n) from fun u h => ((Own.get h 1 rfl).cell 24).trans (runC_r H M n last node 0))
      have Q25 := Lib.hid (show ∀ u : World, Own w u [] ((g1, 23, cur1) :: (a1, 48, runC H M n last node) :: []) → u.cell? ⟨a1, 25, none⟩ = some (.bool last) from fun u h => ((Own.get h 1 rfl).cell 25).trans (runC_r H M n last node 1))
      have Q26 := Lib.hid (show ∀ u : World, Own w u [] ((g1, 23, cur1) :: (a1, 48, runC H M n last node) :: []) → u.cell? ⟨a1, 26, none⟩ = some (.bool node) from fun u h => ((Own.get h 1 rfl).cell 26).trans (runC_r H M n last node 2))
      refine wp_held (S := fun u => Own w u [] ((g1, 23, cur1) :: (a1, 48, runC H M n last node) :: [])) 18 #[false, false, false, false, false, false, false, false, false, false, false, false, false, false, false, false, false, false] (by kernel_rfl) rfl rfl ?_
      replace O := O.drew
      refine seg_take (fuel := 13) (L' := #[true, true, true, true, true, false, false, false, false, false, false, false, false, false, false, false, false, false]) (by kernel_rfl) (fun _ _ _ _ _ _ h => h) (by first | exact O | exact O.drop_ 1) [0, 1, 2, 3, 4] [_, _, _, _, _] _ _ rfl (by kernel_rfl) ?_
      simp only [List.getElem_toArray, List.getElem_cons_zero, List.getElem_cons_succ]
      repeat (first
        | (refine take_load_part (off := 160) (part := words 16 (F 10)) 55 rfl (by rfl) rfl rfl (fun _ h => Own.get h 0 rfl) Try.underlying23 rfl (by kernel_rfl) ?_ ?_; (exact fun j hj => by rw [words_size] at hj; rw [show 160 + j = 16 * 10 + j from rfl, ht1 10 j (by omega) hj, words_get _ _ _ hj]); simp only [Act.put, List.setIfInBounds_toArray, List.set_cons_zero, List.set_cons_succ])
        | (refine take_load_part (off := 8) (part := words 16 M) 57 rfl (by rfl) rfl rfl (fun _ h => Own.get h 1 rfl) Try.underlying23 rfl (by kernel_rfl) ?_ ?_; (exact fun j hj => runC_M H M n last node j (by simpa [words_size] using hj)); simp only [Act.put, List.setIfInBounds_toArray, List.set_cons_zero, List.set_cons_succ])
        | (refine take_pure (v := ?_) (by rfl) ?_ ?_; rotate_left; (· (intro w hSw; have q24 := Q24.out _ hSw; have q25 := Q25.out _ hSw; have q26 := Q26.out _ hSw; clear hSw; go_simp; try with_reducible rfl)); simp only [Act.put, List.setIfInBounds_toArray, List.set_cons_zero, List.set_cons_succ]))
      refine take_done ?_
      refine seg_two 5 12 #[true, true, true, true, true, true, false, false, false, false, false, false, false, false, false, false, false, false] #[true, true, true, true, true, false, false, false, false, false, false, false, true, false, false, false, false, false] rfl rfl (by kernel_rfl) ?_ ?_
      · try simp only [List.getElem_toArray, List.getElem_cons_zero, List.getElem_cons_succ]
        go_wp2_with (go_at_call 43; (with_reducible refine Calls.mono (C3.out _) ?_); rintro e W ⟨rfl, K⟩; replace O := O.keeps K; clear K)
        (first | refine back_intro2 (by first | exact O | exact O.drop_ 1) ?_ | refine back_intro (by first | exact O | exact O.drop_ 1) ?_)
        refine seg_take (fuel := 6) (L' := #[true, true, true, true, true, true, true, true, true, true, true, true, false, false, false, false, false, false]) (by kernel_rfl) (fun _ _ _ _ _ _ h => h) (by first | exact O | exact O.drop_ 1) [6, 7, 8, 9, 10, 11] [_, _, _, _, _, _] _ _ rfl (by kernel_rfl) ?_
        simp only [List.getElem_toArray, List.getElem_cons_zero, List.getElem_cons_succ]
        repeat (first
          | (refine take_pure (v := ?_) (by rfl) ?_ ?_; rotate_left; (· (intro w hSw; have q24 := Q24.out _ hSw; have q25 := Q25.out _ hSw; have q26 := Q26.out _ hSw; clear hSw; go_simp; try with_reducible rfl)); simp only [Act.put, List.setIfInBounds_toArray, List.set_cons_zero, List.set_cons_succ]))
        refine take_done ?_
        refine seg_sole 12 #[true, true, true, true, true, true, true, true, true, true, true, true, true, false, false, false, false, false] rfl (by kernel_rfl) ?_
        try simp only [List.getElem_toArray, List.getElem_cons_zero, List.getElem_cons_succ]
        go_wp2_with (refine own_alloc 7 (words 8 fun _ => 0) O rfl rfl rfl (fun _ => by kernel_rfl) ?_; clear O; intro W a7 O; simp only [Act.put, List.setIfInBounds_toArray, List.set_cons_zero, List.set_cons_succ])
        (first | refine back_intro2 (by first | exact O | exact O.drop_ 1) ?_ | refine back_intro (by first | exact O | exact O.drop_ 1) ?_)
        refine seg_sole 13 #[true, true, true, true, true, true, true, true, true, true, true, true, true, true, false, false, false, false] rfl (by kernel_rfl) ?_
        try simp only [List.getElem_toArray, List.getElem_cons_zero, List.getElem_cons_succ]
        go_wp2_with (refine own_store_row 0 (.tmp 7) (.tmp 59) O rfl rfl rfl rfl rfl rfl (by kernel_rfl) (by simp only [words_size]) (words_cell _ _) ?_; clear O; intro W O; simp only [List.set_cons_zero] at O)
        (first | refine back_intro2 (by first | exact O | exact O.drop_ 1) ?_ | refine back_intro (by first | exact O | exact O.drop_ 1) ?_)
        refine seg_take (fuel := 0) (L' := #[true, true, true, true, true, true, true, true, true, true, true, true, true, true, true, true, true, true]) (by kernel_rfl) (fun _ _ _ _ _ _ h => h) (by first | exact O | exact O.drop_ 1) [14, 15, 16, 17] [_, _, _, _] _ _ rfl (by kernel_rfl) ?_
        simp only [List.getElem_toArray, List.getElem_cons_zero, List.getElem_cons_succ]
        repeat (first
          | (refine take_pure (v := ?_) (by rfl) ?_ ?_; rotate_left; (· (intro w hSw; have q24 := Q24.out _ hSw; have q25 := Q25.out _ hSw; have q26 := Q26.out _ hSw; clear hSw; go_simp; try with_reducible rfl)); simp only [Act.put, List.setIfInBounds_toArray, List.set_cons_zero, List.set_cons_succ]))
        refine take_done ?_
        refine seg_done (by kernel_rfl) ?_
        clear ak
        have ak := add_zero_ g1 0
        have R24 := Lib.hid (show ∀ u : World, Own w u [] ((a7, 33, words 8 H) :: (g1, 23, cur1) :: (a1, 48, runC H M n last node) :: []) → u.cell? ⟨a1, 24, none⟩ = some (U64 n) from fun u h => ((Own.get h 2 rfl).cell 24).trans (runC_r H M n last node 0))
        have R25 := Lib.hid (show ∀ u : World, Own w u [] ((a7, 33, words 8 H) :: (g1, 23, cur1) :: (a1, 48, runC H M n last node) :: []) → u.cell? ⟨a1, 25, none⟩ = some (.bool last) from fun u h => ((Own.get h 2 rfl).cell 25).trans (runC_r H M n last node 1))
        have R26 := Lib.hid (show ∀ u : World, Own w u [] ((a7, 33, words 8 H) :: (g1, 23, cur1) :: (a1, 48, runC H M n last node) :: []) → u.cell? ⟨a1, 26, none⟩ = some (.bool node) from fun u h => ((Own.get h 2 rfl).cell 26).trans (runC_r H M n last node 2))
        go_wp2
        refine wp_held (S := fun u => Own w u [] ((a7, 33, words 8 H) :: (g1, 23, cur1) :: (a1, 48, runC H M n last node) :: [])) 41 #[false, false, false, false, false, false, false, false, false, false, false, false, false, false, false, false, false, false, false, false, false, false, false, false, false, false, false, false, false, false, false, false, false, false, false, false, false, false, false, false, false] (by kernel_rfl) rfl rfl ?_
        replace O := O.drew
        refine seg_take (fuel := 3) (L' := #[true, true, true, true, true, true, true, true, true, true, true, true, true, true, true, true, true, true, true, true, true, true, true, true, true, true, true, true, true, true, true, true, true, true, true, true, true, true, false, false, false]) (by kernel_rfl) (fun _ _ _ _ _ _ h => h) (by first | exact O | exact O.drop_ 1) [0, 1, 2, 3, 4, 5, 6, 7, 8, 9, 10, 11, 12, 13, 14, 15, 16, 17, 18, 19, 20, 21, 22, 23, 24, 25, 26, 27, 28, 29, 30, 31, 32, 33, 34, 35, 36, 37] [_, _, _, _, _, _, _, _, _, _, _, _, _, _, _, _, _, _, _, _, _, _, _, _, _, _, _, _, _, _, _, _, _, _, _, _, _, _] _ _ rfl (by kernel_rfl) ?_
        simp only [List.getElem_toArray, List.getElem_cons_zero, List.getElem_cons_succ]
        repeat (first
          | (refine take_load 67 rfl (by rfl) rfl rfl (fun _ h => Own.get h 0 rfl) Try.underlying33 rfl (by kernel_rfl) ?_; simp only [Act.put, List.setIfInBounds_toArray, List.set_cons_zero, List.set_cons_succ])
          | (refine take_load_part (off := 0) (part := words 8 H) 69 rfl (by rfl) rfl rfl (fun _ h => Own.get h 2 rfl) Try.underlying33 rfl (by kernel_rfl) ?_ ?_; (exact fun j hj => runC_H H M n last node j (by simpa [words_size] using hj)); simp only [Act.put, List.setIfInBounds_toArray, List.set_cons_zero, List.set_cons_succ])
          | (refine take_load_part (off := 0) (part := words 16 (F 0)) 93 rfl (by rfl) rfl rfl (fun _ h => Own.get h 1 rfl) Try.underlying23 rfl (by kernel_rfl) ?_ ?_; (exact fun j hj => by rw [words_size] at hj; rw [Nat.zero_add, words_get _ _ _ hj]; have h := ht1 0 j (by omega) hj; rwa [Nat.mul_zero, Nat.zero_add] at h); simp only [Act.put, List.setIfInBounds_toArray, List.set_cons_zero, List.set_cons_succ])
          | (refine take_load_part (off := 0) (part := words 8 H) 95 rfl (by rfl) rfl rfl (fun _ h => Own.get h 2 rfl) Try.underlying33 rfl (by kernel_rfl) ?_ ?_; (exact fun j hj => runC_H H M n last node j (by simpa [words_size] using hj)); simp only [Act.put, List.setIfInBounds_toArray, List.set_cons_zero, List.set_cons_succ])
          | (refine take_pure (v := ?_) (by rfl) ?_ ?_; rotate_left; (· (intro w hSw; have q24 := R24.out _ hSw; have q25 := R25.out _ hSw; have q26 := R26.out _ hSw; clear hSw; go_simp; try with_reducible rfl)); simp only [Act.put, List.setIfInBounds_toArray, List.set_cons_zero, List.set_cons_succ]))
        refine take_done ?_
        refine seg_sole 38 #[true, true, true, true, true, true, true, true, true, true, true, true, true, true, true, true, true, true, true, true, true, true, true, true, true, true, true, true, true, true, true, true, true, true, true, true, true, true, true, false, false] rfl (by kernel_rfl) ?_
        try simp only [List.getElem_toArray, List.getElem_cons_zero, List.getElem_cons_succ]
        go_wp2_with (go_at_call 37; (with_reducible refine Calls.mono (C4.out _) ?_); rintro e W ⟨rfl, K⟩; replace O := O.keeps K; clear K)
        (first | refine back_intro2 (by first | exact O | exact O.drop_ 1) ?_ | refine back_intro (by first | exact O | exact O.drop_ 1) ?_)
        refine seg_take (fuel := 0) (L' := #[true, true, true, true, true, true, true, true, true, true, true, true, true, true, true, true, true, true, true, true, true, true, true, true, true, true, true, true, true, true, true, true, true, true, true, true, true, true, true, true, true]) (by kernel_rfl) (fun _ _ _ _ _ _ h => h) (by first | exact O | exact O.drop_ 1) [39, 40] [_, _] _ _ rfl (by kernel_rfl) ?_
        simp only [List.getElem_toArray, List.getElem_cons_zero, List.getElem_cons_succ]
        repeat (first
          | (refine take_pure (v := ?_) (by rfl) ?_ ?_; rotate_left; (· (intro w hSw; have q24 := R24.out _ hSw; have q25 := R25.out _ hSw; have q26 := R26.out _ hSw; clear hSw; go_simp; try with_reducible rfl)); simp only [Act.put, List.setIfInBounds_toArray, List.set_cons_zero, List.set_cons_succ]))
        refine take_done ?_
        refine seg_done (by kernel_rfl) ?_
        clear ak
        have ak := add_zero_ g1 160
        go_wp2
        refine wp_held (S := fun u => Own w u [] ((a7, 33, words 8 H) :: (g1, 23, cur1) :: (a1, 48, runC H M n last node) :: [])) 19 #[false, false, false, false, false, false, false, false, false, false, false, false, false, false, false, false, false, false, false] (by kernel_rfl) rfl rfl ?_
        replace O := O.drew
        refine seg_take (fuel := 4) (L' := #[true, true, true, true, true, true, true, true, true, true, false, true, true, true, true, true, false, false, false]) (by kernel_rfl) (fun _ _ _ _ _ _ h => h) (by first | exact O | exact O.drop_ 1) [0, 1, 2, 3, 4, 5, 6, 7, 8, 9, 11, 12, 13, 14, 15] [_, _, _, _, _, _, _, _, _, _, _, _, _, _, _] _ _ rfl (by kernel_rfl) ?_
        simp only [List.getElem_toArray, List.getElem_cons_zero, List.getElem_cons_succ]
        repeat (first
          | (refine take_load_part (off := 0) (part := words 8 H) 106 rfl (by rfl) rfl rfl (fun _ h => Own.get h 2 rfl) Try.underlying33 rfl (by kernel_rfl) ?_ ?_; (exact fun j hj => runC_H H M n last node j (by simpa [words_size] using hj)); simp only [Act.put, List.setIfInBounds_toArray, List.set_cons_zero, List.set_cons_succ])
          | (refine take_load_part (off := 8) (part := words 16 M) 108 rfl (by rfl) rfl rfl (fun _ h => Own.get h 2 rfl) Try.underlying23 rfl (by kernel_rfl) ?_ ?_; (exact fun j hj => runC_M H M n last node j (by simpa [words_size] using hj)); simp only [Act.put, List.setIfInBounds_toArray, List.set_cons_zero, List.set_cons_succ])
          | (refine take_load_part (off := 0) (part := words 8 H) 117 rfl (by rfl) rfl rfl (fun _ h => Own.get h 2 rfl) Try.underlying33 rfl (by kernel_rfl) ?_ ?_; (exact fun j hj => runC_H H M n last node j (by simpa [words_size] using hj)); simp only [Act.put, List.setIfInBounds_toArray, List.set_cons_zero, List.set_cons_succ])
          | (refine take_load_part (off := 160) (part := words 16 (F 10)) 120 rfl (by rfl) rfl rfl (fun _ h => Own.get h 1 rfl) Try.underlying23 rfl (by kernel_rfl) ?_ ?_; (exact fun j hj => by rw [words_size] at hj; rw [show 160 + j = 16 * 10 + j from rfl, ht1 10 j (by omega) hj, words_get _ _ _ hj]); simp only [Act.put, List.setIfInBounds_toArray, List.set_cons_zero, List.set_cons_succ])
          | (refine take_pure (v := ?_) (by rfl) ?_ ?_; rotate_left; (· (intro w hSw; have q24 := R24.out _ hSw; have q25 := R25.out _ hSw; have q26 := R26.out _ hSw; clear hSw; go_simp; try with_reducible rfl)); simp only [Act.put, List.setIfInBounds_toArray, List.set_cons_zero, List.set_cons_succ]))
        refine take_done ?_
        refine seg_sole 10 #[true, true, true, true, true, true, true, true, true, true, true, true, true, true, true, true, false, false, false] rfl (by kernel_rfl) ?_
        try simp only [List.getElem_toArray, List.getElem_cons_zero, List.getElem_cons_succ]
        go_wp2_with (go_at_call 41; (with_reducible refine Calls.mono (C5.out _) ?_); rintro e W ⟨rfl, K⟩; replace O := O.keeps K; clear K)
        (first | refine back_intro2 (by first | exact O | exact O.drop_ 1) ?_ | refine back_intro (by first | exact O | exact O.drop_ 1) ?_)
        refine seg_sole 16 #[true, true, true, true, true, true, true, true, true, true, true, true, true, true, true, true, true, false, false] rfl (by kernel_rfl) ?_
        try simp only [List.getElem_toArray, List.getElem_cons_zero, List.getElem_cons_succ]
        go_wp2_with (go_at_call 39; (with_reducible refine Calls.mono (C6.out _) ?_); rintro e W ⟨rfl, K⟩; replace O := O.keeps K; clear K)
        (first | refine back_intro2 (by first | exact O | exact O.drop_ 1) ?_ | refine back_intro (by first | exact O | exact O.drop_ 1) ?_)
        refine seg_take (fuel := 0) (L' := #[true, true, true, true, true, true, true, true, true, true, true, true, true, true, true, true, true, true, true]) (by kernel_rfl) (fun _ _ _ _ _ _ h => h) (by first | exact O | exact O.drop_ 1) [17, 18] [_, _] _ _ rfl (by kernel_rfl) ?_
        simp only [List.getElem_toArray, List.getElem_cons_zero, List.getElem_cons_succ]
        repeat (first
          | (refine take_pure (v := ?_) (by rfl) ?_ ?_; rotate_left; (· (intro w hSw; have q24 := R24.out _ hSw; have q25 := R25.out _ hSw; have q26 := R26.out _ hSw; clear hSw; go_simp; try with_reducible rfl)); simp only [Act.put, List.setIfInBounds_toArray, List.set_cons_zero, List.set_cons_succ]))
        refine take_done ?_
        refine seg_done (by kernel_rfl) ?_
        go_wp2
        go_ret
        exact ⟨rfl, O.keep⟩
      · try simp only [List.getElem_toArray, List.getElem_cons_zero, List.getElem_cons_succ]
        go_wp2_with (refine own_alloc 7 (words 8 fun _ => 0) O rfl rfl rfl (fun _ => by kernel_rfl) ?_; clear O; intro W a7 O; simp only [Act.put, List.setIfInBounds_toArray, List.set_cons_zero, List.set_cons_succ])
        (first | refine back_intro2 (by first | exact O | exact O.drop_ 1) ?_ | refine back_intro (by first | exact O | exact O.drop_ 1) ?_)
        refine seg_sole 5 #[true, true, true, true, true, true, false, false, false, false, false, false, true, false, false, false, false, false] rfl (by kernel_rfl) ?_
        try simp only [List.getElem_toArray, List.getElem_cons_zero, List.getElem_cons_succ]
        go_wp2_with (go_at_call 43; (with_reducible refine Calls.mono (C3.out _) ?_); rintro e W ⟨rfl, K⟩; replace O := O.keeps K; clear K)
        (first | refine back_intro2 (by first | exact O | exact O.drop_ 1) ?_ | refine back_intro (by first | exact O | exact O.drop_ 1) ?_)
        refine seg_take (fuel := 5) (L' := #[true, true, true, true, true, true, true, true, true, true, true, true, true, false, false, false, false, false]) (by kernel_rfl) (fun _ _ _ _ _ _ h => h) (by first | exact O | exact O.drop_ 1) [6, 7, 8, 9, 10, 11] [_, _, _, _, _, _] _ _ rfl (by kernel_rfl) ?_
        simp only [List.getElem_toArray, List.getElem_cons_zero, List.getElem_cons_succ]
        repeat (first
          | (refine take_pure (v := ?_) (by rfl) ?_ ?_; rotate_left; (· (intro w hSw; have q24 := Q24.out _ hSw; have q25 := Q25.out _ hSw; have q26 := Q26.out _ hSw; clear hSw; go_simp; try with_reducible rfl)); simp only [Act.put, List.setIfInBounds_toArray, List.set_cons_zero, List.set_cons_succ]))
        refine take_done ?_
        refine seg_sole 13 #[true, true, true, true, true, true, true, true, true, true, true, true, true, true, false, false, false, false] rfl (by kernel_rfl) ?_
        try simp only [List.getElem_toArray, List.getElem_cons_zero, List.getElem_cons_succ]
        go_wp2_with (refine own_store_row 0 (.tmp 7) (.tmp 59) O rfl rfl rfl rfl rfl rfl (by kernel_rfl) (by simp only [words_size]) (words_cell _ _) ?_; clear O; intro W O; simp only [List.set_cons_zero] at O)
        (first | refine back_intro2 (by first | exact O | exact O.drop_ 1) ?_ | refine back_intro (by first | exact O | exact O.drop_ 1) ?_)
        refine seg_take (fuel := 0) (L' := #[true, true, true, true, true, true, true, true, true, true, true, true, true, true, true, true, true, true]) (by kernel_rfl) (fun _ _ _ _ _ _ h => h) (by first | exact O | exact O.drop_ 1) [14, 15, 16, 17] [_, _, _, _] _ _ rfl (by kernel_rfl) ?_
        simp only [List.getElem_toArray, List.getElem_cons_zero, List.getElem_cons_succ]
        repeat (first
          | (refine take_pure (v := ?_) (by rfl) ?_ ?_; rotate_left; (· (intro w hSw; have q24 := Q24.out _ hSw; have q25 := Q25.out _ hSw; have q26 := Q26.out _ hSw; clear hSw; go_simp; try with_reducible rfl)); simp only [Act.put, List.setIfInBounds_toArray, List.set_cons_zero, List.set_cons_succ]))
        refine take_done ?_
        refine seg_done (by kernel_rfl) ?_
        clear ak
        have ak := add_zero_ g1 0
        have R24 := Lib.hid (show ∀ u : World, Own w u [] ((a7, 33, words 8 H) :: (g1, 23, cur1) :: (a1, 48, runC H M n last node) :: []) → u.cell? ⟨a1, 24, none⟩ = some (U64 n) from fun u h => ((Own.get h 2 rfl).cell 24).trans (runC_r H M n last node 0))
        have R25 := Lib.hid (show ∀ u : World, Own w u [] ((a7, 33, words 8 H) :: (g1, 23, cur1) :: (a1, 48, runC H M n last node) :: []) → u.cell? ⟨a1, 25, none⟩ = some (.bool last) from fun u h => ((Own.get h 2 rfl).cell 25).trans (runC_r H M n last node 1))
        have R26 := Lib.hid (show ∀ u : World, Own w u [] ((a7, 33, words 8 H) :: (g1, 23, cur1) :: (a1, 48, runC H M n last node) :: []) → u.cell? ⟨a1, 26, none⟩ = some (.bool node) from fun u h => ((Own.get h 2 rfl).cell 26).trans (runC_r H M n last node 2))
        go_wp2
        refine wp_held (S := fun u => Own w u [] ((a7, 33, words 8 H) :: (g1, 23, cur1) :: (a1, 48, runC H M n last node) :: [])) 41 #[false, false, false, false, false, false, false, false, false, false, false, false, false, false, false, false, false, false, false, false, false, false, false, false, false, false, false, false, false, false, false, false, false, false, false, false, false, false, false, false, false] (by kernel_rfl) rfl rfl ?_
        replace O := O.drew
        refine seg_take (fuel := 3) (L' := #[true, true, true, true, true, true, true, true, true, true, true, true, true, true, true, true, true, true, true, true, true, true, true, true, true, true, true, true, true, true, true, true, true, true, true, true, true, true, false, false, false]) (by kernel_rfl) (fun _ _ _ _ _ _ h => h) (by first | exact O | exact O.drop_ 1) [0, 1, 2, 3, 4, 5, 6, 7, 8, 9, 10, 11, 12, 13, 14, 15, 16, 17, 18, 19, 20, 21, 22, 23, 24, 25, 26, 27, 28, 29, 30, 31, 32, 33, 34, 35, 36, 37] [_, _, _, _, _, _, _, _, _, _, _, _, _, _, _, _, _, _, _, _, _, _, _, _, _, _, _, _, _, _, _, _, _, _, _, _, _, _] _ _ rfl (by kernel_rfl) ?_
        simp only [List.getElem_toArray, List.getElem_cons_zero, List.getElem_cons_succ]
        repeat (first
          | (refine take_load 67 rfl (by rfl) rfl rfl (fun _ h => Own.get h 0 rfl) Try.underlying33 rfl (by kernel_rfl) ?_; simp only [Act.put, List.setIfInBounds_toArray, List.set_cons_zero, List.set_cons_succ])
          | (refine take_load_part (off := 0) (part := words 8 H) 69 rfl (by rfl) rfl rfl (fun _ h => Own.get h 2 rfl) Try.underlying33 rfl (by kernel_rfl) ?_ ?_; (exact fun j hj => runC_H H M n last node j (by simpa [words_size] using hj)); simp only [Act.put, List.setIfInBounds_toArray, List.set_cons_zero, List.set_cons_succ])
          | (refine take_load_part (off := 0) (part := words 16 (F 0)) 93 rfl (by rfl) rfl rfl (fun _ h => Own.get h 1 rfl) Try.underlying23 rfl (by kernel_rfl) ?_ ?_; (exact fun j hj => by rw [words_size] at hj; rw [Nat.zero_add, words_get _ _ _ hj]; have h := ht1 0 j (by omega) hj; rwa [Nat.mul_zero, Nat.zero_add] at h); simp only [Act.put, List.setIfInBounds_toArray, List.set_cons_zero, List.set_cons_succ])
          | (refine take_load_part (off := 0) (part := words 8 H) 95 rfl (by rfl) rfl rfl (fun _ h => Own.get h 2 rfl) Try.underlying33 rfl (by kernel_rfl) ?_ ?_; (exact fun j hj => runC_H H M n last node j (by simpa [words_size] using hj)); simp only [Act.put, List.setIfInBounds_toArray, List.set_cons_zero, List.set_cons_succ])
          | (refine take_pure (v := ?_) (by rfl) ?_ ?_; rotate_left; (· (intro w hSw; have q24 := R24.out _ hSw; have q25 := R25.out _ hSw; have q26 := R26.out _ hSw; clear hSw; go_simp; try with_reducible rfl)); simp only [Act.put, List.setIfInBounds_toArray, List.set_cons_zero, List.set_cons_succ]))
        refine take_done ?_
        refine seg_sole 38 #[true, true, true, true, true, true, true, true, true, true, true, true, true, true, true, true, true, true, true, true, true, true, true, true, true, true, true, true, true, true, true, true, true, true, true, true, true, true, true, false, false] rfl (by kernel_rfl) ?_
        try simp only [List.getElem_toArray, List.getElem_cons_zero, List.getElem_cons_succ]
        go_wp2_with (go_at_call 37; (with_reducible refine Calls.mono (C4.out _) ?_); rintro e W ⟨rfl, K⟩; replace O := O.keeps K; clear K)
        (first | refine back_intro2 (by first | exact O | exact O.drop_ 1) ?_ | refine back_intro (by first | exact O | exact O.drop_ 1) ?_)
        refine seg_take (fuel := 0) (L' := #[true, true, true, true, true, true, true, true, true, true, true, true, true, true, true, true, true, true, true, true, true, true, true, true, true, true, true, true, true, true, true, true, true, true, true, true, true, true, true, true, true]) (by kernel_rfl) (fun _ _ _ _ _ _ h => h) (by first | exact O | exact O.drop_ 1) [39, 40] [_, _] _ _ rfl (by kernel_rfl) ?_
        simp only [List.getElem_toArray, List.getElem_cons_zero, List.getElem_cons_succ]
        repeat (first
          | (refine take_pure (v := ?_) (by rfl) ?_ ?_; rotate_left; (· (intro w hSw; have q24 := R24.out _ hSw; have q25 := R25.out _ hSw; have q26 := R26.out _ hSw; clear hSw; go_simp; try with_reducible rfl)); simp only [Act.put, List.setIfInBounds_toArray, List.set_cons_zero, List.set_cons_succ]))
        refine take_done ?_
        refine seg_done (by kernel_rfl) ?_
        clear ak
        have ak := add_zero_ g1 160
        go_wp2
        refine wp_held (S := fun u => Own w u [] ((a7, 33, words 8 H) :: (g1, 23, cur1) :: (a1, 48, runC H M n last node) :: [])) 19 #[false, false, false, false, false, false, false, false, false, false, false, false, false, false, false, false, false, false, false] (by kernel_rfl) rfl rfl ?_
        replace O := O.drew
        refine seg_take (fuel := 4) (L' := #[true, true, true, true, true, true, true, true, true, true, false, true, true, true, true, true, false, false, false]) (by kernel_rfl) (fun _ _ _ _ _ _ h => h) (by first | exact O | exact O.drop_ 1) [0, 1, 2, 3, 4, 5, 6, 7, 8, 9, 11, 12, 13, 14, 15] [_, _, _, _, _, _, _, _, _, _, _, _, _, _, _] _ _ rfl (by kernel_rfl) ?_
        simp only [List.getElem_toArray, List.getElem_cons_zero, List.getElem_cons_succ]
        repeat (first
          | (refine take_load_part (off := 0) (part := words 8 H) 106 rfl (by rfl) rfl rfl (fun _ h => Own.get h 2 rfl) Try.underlying33 rfl (by kernel_rfl) ?_ ?_; (exact fun j hj => runC_H H M n last node j (by simpa [words_size] using hj)); simp only [Act.put, List.setIfInBounds_toArray, List.set_cons_zero, List.set_cons_succ])
          | (refine take_load_part (off := 8) (part := words 16 M) 108 rfl (by rfl) rfl rfl (fun _ h => Own.get h 2 rfl) Try.underlying23 rfl (by kernel_rfl) ?_ ?_; (exact fun j hj => runC_M H M n last node j (by simpa [words_size] using hj)); simp only [Act.put, List.setIfInBounds_toArray, List.set_cons_zero, List.set_cons_succ])
          | (refine take_load_part (off := 0) (part := words 8 H) 117 rfl (by rfl) rfl rfl (fun _ h => Own.get h 2 rfl) Try.underlying33 rfl (by kernel_rfl) ?_ ?_; (exact fun j hj => runC_H H M n last node j (by simpa [words_size] using hj)); simp only [Act.put, List.setIfInBounds_toArray, List.set_cons_zero, List.set_cons_succ])
          | (refine take_load_part (off := 160) (part := words 16 (F 10)) 120 rfl (by rfl) rfl rfl (fun _ h => Own.get h 1 rfl) Try.underlying23 rfl (by kernel_rfl) ?_ ?_; (exact fun j hj => by rw [words_size] at hj; rw [show 160 + j = 16 * 10 + j from rfl, ht1 10 j (by omega) hj, words_get _ _ _ hj]); simp only [Act.put, List.setIfInBounds_toArray, List.set_cons_zero, List.set_cons_succ])
          | (refine take_pure (v := ?_) (by rfl) ?_ ?_; rotate_left; (· (intro w hSw; have q24 := R24.out _ hSw; have q25 := R25.out _ hSw; have q26 := R26.out _ hSw; clear hSw; go_simp; try with_reducible rfl)); simp only [Act.put, List.setIfInBounds_toArray, List.set_cons_zero, List.set_cons_succ]))
        refine take_done ?_
        refine seg_sole 10 #[true, true, true, true, true, true, true, true, true, true, true, true, true, true, true, true, false, false, false] rfl (by kernel_rfl) ?_
        try simp only [List.getElem_toArray, List.getElem_cons_zero, List.getElem_cons_succ]
        go_wp2_with (go_at_call 41; (with_reducible refine Calls.mono (C5.out _) ?_); rintro e W ⟨rfl, K⟩; replace O := O.keeps K; clear K)
        (first | refine back_intro2 (by first | exact O | exact O.drop_ 1) ?_ | refine back_intro (by first | exact O | exact O.drop_ 1) ?_)
        refine seg_sole 16 #[true, true, true, true, true, true, true, true, true, true, true, true, true, true, true, true, true, false, false] rfl (by kernel_rfl) ?_
        try simp only [List.getElem_toArray, List.getElem_cons_zero, List.getElem_cons_succ]
        go_wp2_with (go_at_call 39; (with_reducible refine Calls.mono (C6.out _) ?_); rintro e W ⟨rfl, K⟩; replace O := O.keeps K; clear K)
        (first | refine back_intro2 (by first | exact O | exact O.drop_ 1) ?_ | refine back_intro (by first | exact O | exact O.drop_ 1) ?_)
        refine seg_take (fuel := 0) (L' := #[true, true, true, true, true, true, true, true, true, true, true, true, true, true, true, true, true, true, true]) (by kernel_rfl) (fun _ _ _ _ _ _ h => h) (by first | exact O | exact O.drop_ 1) [17, 18] [_, _] _ _ rfl (by kernel_rfl) ?_
        simp only [List.getElem_toArray, List.getElem_cons_zero, List.getElem_cons_succ]
        repeat (first
          | (refine take_pure (v := ?_) (by rfl) ?_ ?_; rotate_left; (· (intro w hSw; have q24 := R24.out _ hSw; have q25 := R25.out _ hSw; have q26 := R26.out _ hSw; clear hSw; go_simp; try with_reducible rfl)); simp only [Act.put, List.setIfInBounds_toArray, List.set_cons_zero, List.set_cons_succ]))
        refine take_done ?_
        refine seg_done (by kernel_rfl) ?_
        go_wp2
        go_ret
        exact ⟨rfl, O.keep⟩

set_option maxRecDepth 100000 in
theorem undone_lifted (os : Os) (started : os.Started) (H : Type) (enc : TypeId × Value → H) :
    ReturnsInHanded {} Try.checked os 11 .any (Rows.mixsUndoneSpec.pre6 enc Try.prog Try.f11 Rows.mixsUndoneRow.domain false) (Rows.mixsUndoneSpec.post enc Try.prog Try.f11 false true false false) := by
  refine law_lifted (C := Try.checked) own started (by kernel_rfl) Try.func11 rfl (fun ds h => ?_) rfl Try.underlying4 laid ?_
    (ChangeSpec.witness6 (enc := enc) (C := Try.checked) false ⟨#[], #[.agg #[.int .u32 0, .int .u32 0, .int .u32 0, .int .u32 0, .int .u32 0, .int .u32 0, .int .u32 0, .int .u32 0, .int .u32 0, .int .u32 0, .int .u32 0, .int .u32 0, .int .u32 0, .int .u32 0, .int .u32 0, .int .u32 0, .int .u32 0, .int .u32 0, .int .u32 0, .int .u32 0, .int .u32 0, .int .u32 0, .int .u32 0, .int .u32 0, .int .u64 0, .bool false, .bool false]], []⟩ 8 (by kernel_rfl) (by kernel_rfl) (by kernel_rfl) (by kernel_rfl)) ?_
  · match ds, h with
    | [d], _ => exact ⟨rfl, rfl, rfl⟩
  · intro t ht
    have ht' : t ∈ ([48] : List TypeId) := ht
    simp only [List.mem_cons, List.not_mem_nil, or_false] at ht'
    subst ht'
    exact ⟨by kernel_rfl, of_decide_eq_true (by kernel_rfl)⟩
  · intro W base args ds ps hval hA hlt hfz hsz
    have hA' : DataW.TrodAll enc Try.prog W 0 (fun _ => true) true [48] args.toList ds ps := hA
    clear hA
    obtain ⟨v0, d0, hargs, hds, h0⟩ := trodAll_one hA'
    subst hargs
    obtain ⟨H, M, n, last, node, rfl⟩ := open_run (hval 0 48 v0 rfl rfl)
    exact (undone_walk H M n last node W).mono fun e W' ⟨he, hk⟩ => ⟨he, hk.below⟩

theorem undone_holds : Rows.MixsUndoneSaid :=
  OpenClaim.holds_of_wide 11 Try.f11 rfl rfl rfl rfl rfl rfl rfl ⟨rfl, rfl, rfl, rfl, rfl⟩ rfl rfl rfl rfl rfl (by kernel_rfl) Try.func11 (by kernel_rfl)
    (of_decide_eq_true (by kernel_rfl)) (by unfold Func.isWrapper; rw [if_neg (of_decide_eq_false (by kernel_rfl))]; exact ⟨rfl, rfl⟩)
    (fun os started H enc _ => undone_lifted os started H enc)
end Go.Proofs.Ytanibkocihjgjaa
