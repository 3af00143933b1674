/-
  MixsUnlike: without the document: for one message unlike chains, counts or flags come to unlike states behind all rounds; the law returns true for every input.
-/
import Derived.Test.YtanibkocihjgjaaS11
import Derived.Test.YtanibkocihjgjaaHeld
namespace Go.Proofs.Ytanibkocihjgjaa
open Go.ChangeShapes Go.WideShapes Go.ChangeAt Go.RowKit


set_option maxRecDepth 100000 in
set_option maxHeartbeats 2000000 in
theorem unlike_walk0 (H M : Nat → BitVec 32) (n : BitVec 64) (last node : Bool) (H2 M2 : Nat → BitVec 32) (n2 : BitVec 64) (last2 node2 : Bool) (w : World) (h1 : eqW 8 H H2 = false) :
    Calls Try.prog 6 #[.agg (runC H M n last node), .agg (runC H2 M2 n2 last2 node2)] w fun e w' => e = .returned (.bool true) ∧ Keeps w w' [] := by
  have O := Own.start w []
  have C1 := Lib.hid fun w => states_any H M n last node w
  have C2 := Lib.hid fun w => states_any H2 M n2 last2 node2 w
  have a10 := stF_apart H H2 M n n2 last last2 node node2 10
  have a5 := stF_apart H H2 M n n2 last last2 node node2 5
  rw [begV_apart] at a10 a5
  simp only [h1, Bool.and_true, Bool.and_false, Bool.false_and, Bool.true_and] at a10 a5
  generalize stF H M n last node = F at *
  generalize stF H2 M n2 last2 node2 = G at *
  go_enter Try.func6, Try.ntmps6
  go_wp2_with (first
    | (refine own_box 2 (runC H M n last node) O rfl rfl rfl rfl ?_; clear O; intro W a2 O; simp only [Act.put, List.setIfInBounds_toArray, List.set_cons_zero, List.set_cons_succ])
    | (refine own_box 3 (runC H2 M2 n2 last2 node2) O rfl rfl rfl rfl ?_; clear O; intro W a3 O; simp only [Act.put, List.setIfInBounds_toArray, List.set_cons_zero, List.set_cons_succ]))
  have Q24 := Lib.hid (show ∀ u : World, Own w u [] ((a3, 48, runC H2 M2 n2 last2 node2) :: (a2, 48, runC H M n last node) :: []) → u.cell? ⟨a3, 24, none⟩ = some (U64 n2) from fun u h => ((Own.get h 0 rfl).cell 24).trans (runC_r H2 M2 n2 last2 node2 0))
  have Q25 := Lib.hid (show ∀ u : World, Own w u [] ((a3, 48, runC H2 M2 n2 last2 node2) :: (a2, 48, runC H M n last node) :: []) → u.cell? ⟨a3, 25, none⟩ = some (.bool last2) from fun u h => ((Own.get h 0 rfl).cell 25).trans (runC_r H2 M2 n2 last2 node2 1))
  have Q26 := Lib.hid (show ∀ u : World, Own w u [] ((a3, 48, runC H2 M2 n2 last2 node2) :: (a2, 48, runC H M n last node) :: []) → u.cell? ⟨a3, 26, none⟩ = some (.bool node2) from fun u h => ((Own.get h 0 rfl).cell 26).trans (runC_r H2 M2 n2 last2 node2 2))
  refine wp_held (S := fun u => Own w u [] ((a3, 48, runC H2 M2 n2 last2 node2) :: (a2, 48, runC H M n last node) :: [])) 13 #[false, false, false, false, false, false, false, false, false, false, false, false, false] (by kernel_rfl) rfl rfl ?_
  replace O := O.drew
  refine seg_take (fuel := 5) (L' := #[true, true, true, true, true, true, true, true, false, false, false, false, false]) (by kernel_rfl) (fun _ _ _ _ _ _ h => h) (by first | exact O | exact O.drop_ 1) [0, 1, 2, 3, 4, 5, 6, 7] [_, _, _, _, _, _, _, _] _ _ rfl (by kernel_rfl) ?_
  simp only [List.getElem_toArray, List.getElem_cons_zero, List.getElem_cons_succ]
  repeat (first
    | (refine take_load_part (part := words 8 H2) 13 rfl (by rfl) rfl rfl (fun _ h => Own.get h 0 rfl) Try.underlying33 rfl (by kernel_rfl) ?_ ?_; (exact fun j hj => runC_H H2 M2 n2 last2 node2 j (by simpa [words_size] using hj)); simp only [Act.put, List.setIfInBounds_toArray, List.set_cons_zero, List.set_cons_succ])
    | (refine take_pure (v := ?_) (by rfl) ?_ ?_; rotate_left; (· (intro w hSw; have q24 := Q24.out _ hSw; have q25 := Q25.out _ hSw; have q26 := Q26.out _ hSw; clear hSw; go_simp; try with_reducible rfl)); simp only [Act.put, List.setIfInBounds_toArray, List.set_cons_zero, List.set_cons_succ]))
  refine take_done ?_
  refine seg_sole 8 #[true, true, true, true, true, true, true, true, true, false, false, false, false] rfl (by kernel_rfl) ?_
  try simp only [List.getElem_toArray, List.getElem_cons_zero, List.getElem_cons_succ]
  go_wp2_with (refine own_alloc 5 (words 8 fun _ => 0) O rfl rfl rfl (fun _ => by kernel_rfl) ?_; clear O; intro W a5 O; simp only [Act.put, List.setIfInBounds_toArray, List.set_cons_zero, List.set_cons_succ])
  (first | refine back_intro2 (by first | exact O | exact O.drop_ 1) ?_ | refine back_intro (by first | exact O | exact O.drop_ 1) ?_)
  refine seg_sole 9 #[true, true, true, true, true, true, true, true, true, true, false, false, false] rfl (by kernel_rfl) ?_
  try simp only [List.getElem_toArray, List.getElem_cons_zero, List.getElem_cons_succ]
  go_wp2_with (refine own_store_row 0 (.tmp 5) (.tmp 13) O rfl rfl rfl rfl rfl rfl (by kernel_rfl) (by simp only [words_size]) (words_cell _ _) ?_; clear O; intro W O; simp only [List.set_cons_zero] at O)
  (first | refine back_intro2 (by first | exact O | exact O.drop_ 1) ?_ | refine back_intro (by first | exact O | exact O.drop_ 1) ?_)
  refine seg_take (fuel := 0) (L' := #[true, true, true, true, true, true, true, true, true, true, true, true, true]) (by kernel_rfl) (fun _ _ _ _ _ _ h => h) (by first | exact O | exact O.drop_ 1) [10, 11, 12] [_, _, _] _ _ rfl (by kernel_rfl) ?_
  simp only [List.getElem_toArray, List.getElem_cons_zero, List.getElem_cons_succ]
  repeat (first
    | (refine take_pure (v := ?_) (by rfl) ?_ ?_; rotate_left; (· (intro w hSw; have q24 := Q24.out _ hSw; have q25 := Q25.out _ hSw; have q26 := Q26.out _ hSw; clear hSw; go_simp; try with_reducible rfl)); simp only [Act.put, List.setIfInBounds_toArray, List.set_cons_zero, List.set_cons_succ]))
  refine take_done ?_
  refine seg_done (by kernel_rfl) ?_
  go_wp2_with (first
    | (go_at_call 32; refine (alive_any _).mono ?_; rintro e W ⟨rfl, K⟩; replace O := O.keeps K; clear K; have q24 : W.cell? ⟨a2, 24, none⟩ = some (U64 n) := ((O.get 2 rfl).cell 24).trans (runC_r H M n last node 0); have q25 : W.cell? ⟨a2, 25, none⟩ = some (.bool last) := ((O.get 2 rfl).cell 25).trans (runC_r H M n last node 1); have q26 : W.cell? ⟨a2, 26, none⟩ = some (.bool node) := ((O.get 2 rfl).cell 26).trans (runC_r H M n last node 2))
    | (refine own_load_part (part := words 8 H) 23 2 O rfl rfl rfl rfl rfl Try.underlying33 rfl (by kernel_rfl) ?_ ?_; (exact fun j hj => runC_H H M n last node j (by simpa [words_size] using hj)); simp only [Act.put, List.setIfInBounds_toArray, List.set_cons_zero, List.set_cons_succ])
    | (refine own_load_part (part := words 16 M) 25 2 O rfl rfl rfl rfl rfl Try.underlying23 rfl (by kernel_rfl) ?_ ?_; (exact fun j hj => runC_M H M n last node j (by simpa [words_size] using hj)); simp only [Act.put, List.setIfInBounds_toArray, List.set_cons_zero, List.set_cons_succ])
    | (go_at_call 30; (with_reducible refine Calls.mono (C1.out _) ?_); rintro e W ⟨K, g1, c1, cur1, rfl, hb1, B1, hn1, hx1, hs1, ht1⟩; replace O := O.fresh K hb1 B1; clear K B1 hb1; clear q24 q25 q26)
    | (refine own_load 33 1 O rfl rfl rfl rfl rfl Try.underlying33 rfl (by kernel_rfl) ?_; simp only [Act.put, List.setIfInBounds_toArray, List.set_cons_zero, List.set_cons_succ])
    | (refine own_load_part (part := words 16 M) 35 3 O rfl rfl rfl rfl rfl Try.underlying23 rfl (by kernel_rfl) ?_ ?_; (exact fun j hj => runC_M H M n last node j (by simpa [words_size] using hj)); simp only [Act.put, List.setIfInBounds_toArray, List.set_cons_zero, List.set_cons_succ])
    | (go_at_call 30; (with_reducible refine Calls.mono (C2.out _) ?_); rintro e W ⟨K, g2, c2, cur2, rfl, hb2, B2, hn2, hx2, hs2, ht2⟩; replace O := O.fresh K hb2 B2; clear K B2 hb2; have q24 : W.cell? ⟨a2, 24, none⟩ = some (U64 n) := ((O.get 4 rfl).cell 24).trans (runC_r H M n last node 0); have q25 : W.cell? ⟨a2, 25, none⟩ = some (.bool last) := ((O.get 4 rfl).cell 25).trans (runC_r H M n last node 1); have q26 : W.cell? ⟨a2, 26, none⟩ = some (.bool node) := ((O.get 4 rfl).cell 26).trans (runC_r H M n last node 2))
    | (refine own_load_part (part := words 8 H) 49 4 O rfl rfl rfl rfl rfl Try.underlying33 rfl (by kernel_rfl) ?_ ?_; (exact fun j hj => runC_H H M n last node j (by simpa [words_size] using hj)); simp only [Act.put, List.setIfInBounds_toArray, List.set_cons_zero, List.set_cons_succ])
    | (refine own_load 50 2 O rfl rfl rfl rfl rfl Try.underlying33 rfl (by kernel_rfl) ?_; simp only [Act.put, List.setIfInBounds_toArray, List.set_cons_zero, List.set_cons_succ]))
  clear q24 q25 q26
  have b1 := add_zero_ g1 160
  have b2 := add_zero_ g2 160
  have b3 := add_zero_ g1 80
  have b4 := add_zero_ g2 80
  refine wp_quiet_drawn (by kernel_rfl) (by kernel_rfl) ?_
  repeat (first
    | (refine wpQuiet_load_part (off := 160) (part := words 16 (F 10)) 72 rfl rfl rfl rfl (drawn_blk (O.get 1 rfl)) Try.underlying23 rfl (by kernel_rfl) ?_ ?_; (exact fun j hj => by rw [words_size] at hj; rw [show 160 + j = 16 * 10 + j from rfl, ht1 10 j (by omega) hj, words_get _ _ _ hj]); simp only [Act.put, List.setIfInBounds_toArray, List.set_cons_zero, List.set_cons_succ])
    | (refine wpQuiet_load_part (off := 160) (part := words 16 (G 10)) 75 rfl rfl rfl rfl (drawn_blk (O.get 0 rfl)) Try.underlying23 rfl (by kernel_rfl) ?_ ?_; (exact fun j hj => by rw [words_size] at hj; rw [show 160 + j = 16 * 10 + j from rfl, ht2 10 j (by omega) hj, words_get _ _ _ hj]); simp only [Act.put, List.setIfInBounds_toArray, List.set_cons_zero, List.set_cons_succ])
    | (refine wpQuiet_load_part (off := 80) (part := words 16 (F 5)) 82 rfl rfl rfl rfl (drawn_blk (O.get 1 rfl)) Try.underlying23 rfl (by kernel_rfl) ?_ ?_; (exact fun j hj => by rw [words_size] at hj; rw [show 80 + j = 16 * 5 + j from rfl, ht1 5 j (by omega) hj, words_get _ _ _ hj]); simp only [Act.put, List.setIfInBounds_toArray, List.set_cons_zero, List.set_cons_succ])
    | (refine wpQuiet_load_part (off := 80) (part := words 16 (G 5)) 85 rfl rfl rfl rfl (drawn_blk (O.get 0 rfl)) Try.underlying23 rfl (by kernel_rfl) ?_ ?_; (exact fun j hj => by rw [words_size] at hj; rw [show 80 + j = 16 * 5 + j from rfl, ht2 5 j (by omega) hj, words_get _ _ _ hj]); simp only [Act.put, List.setIfInBounds_toArray, List.set_cons_zero, List.set_cons_succ])
    | go_big_quiet_step (fail))
  refine wpQuiet_nil ?_
  intro _ hw
  obtain ⟨n0, rfl⟩ := hw
  replace O := O.drewN n0
  generalize World.drewN _ n0 = W at O ⊢
  go_wp2
  go_ret
  exact ⟨rfl, O.keep⟩

set_option maxRecDepth 100000 in
set_option maxHeartbeats 2000000 in
theorem unlike_walk1 (H M : Nat → BitVec 32) (n : BitVec 64) (last node : Bool) (H2 M2 : Nat → BitVec 32) (n2 : BitVec 64) (last2 node2 : Bool) (w : World) (h1 : eqW 8 H H2 = true) (h2 : (n == n2) = false) :
    Calls Try.prog 6 #[.agg (runC H M n last node), .agg (runC H2 M2 n2 last2 node2)] w fun e w' => e = .returned (.bool true) ∧ Keeps w w' [] := by
  have O := Own.start w []
  have C1 := Lib.hid fun w => states_any H M n last node w
  have C2 := Lib.hid fun w => states_any H2 M n2 last2 node2 w
  have a10 := stF_apart H H2 M n n2 last last2 node node2 10
  have a5 := stF_apart H H2 M n n2 last last2 node node2 5
  rw [begV_apart] at a10 a5
  simp only [h1, h2, Bool.and_true, Bool.and_false, Bool.false_and, Bool.true_and] at a10 a5
  generalize stF H M n last node = F at *
  generalize stF H2 M n2 last2 node2 = G at *
  go_enter Try.func6, Try.ntmps6
  go_wp2_with (first
    | (refine own_box 2 (runC H M n last node) O rfl rfl rfl rfl ?_; clear O; intro W a2 O; simp only [Act.put, List.setIfInBounds_toArray, List.set_cons_zero, List.set_cons_succ])
    | (refine own_box 3 (runC H2 M2 n2 last2 node2) O rfl rfl rfl rfl ?_; clear O; intro W a3 O; simp only [Act.put, List.setIfInBounds_toArray, List.set_cons_zero, List.set_cons_succ]))
  have Q24 := Lib.hid (show ∀ u : World, Own w u [] ((a3, 48, runC H2 M2 n2 last2 node2) :: (a2, 48, runC H M n last node) :: []) → u.cell? ⟨a3, 24, none⟩ = some (U64 n2) from fun u h => ((Own.get h 0 rfl).cell 24).trans (runC_r H2 M2 n2 last2 node2 0))
  have Q25 := Lib.hid (show ∀ u : World, Own w u [] ((a3, 48, runC H2 M2 n2 last2 node2) :: (a2, 48, runC H M n last node) :: []) → u.cell? ⟨a3, 25, none⟩ = some (.bool last2) from fun u h => ((Own.get h 0 rfl).cell 25).trans (runC_r H2 M2 n2 last2 node2 1))
  have Q26 := Lib.hid (show ∀ u : World, Own w u [] ((a3, 48, runC H2 M2 n2 last2 node2) :: (a2, 48, runC H M n last node) :: []) → u.cell? ⟨a3, 26, none⟩ = some (.bool node2) from fun u h => ((Own.get h 0 rfl).cell 26).trans (runC_r H2 M2 n2 last2 node2 2))
  refine wp_held (S := fun u => Own w u [] ((a3, 48, runC H2 M2 n2 last2 node2) :: (a2, 48, runC H M n last node) :: [])) 13 #[false, false, false, false, false, false, false, false, false, false, false, false, false] (by kernel_rfl) rfl rfl ?_
  replace O := O.drew
  refine seg_take (fuel := 5) (L' := #[true, true, true, true, true, true, true, true, false, false, false, false, false]) (by kernel_rfl) (fun _ _ _ _ _ _ h => h) (by first | exact O | exact O.drop_ 1) [0, 1, 2, 3, 4, 5, 6, 7] [_, _, _, _, _, _, _, _] _ _ rfl (by kernel_rfl) ?_
  simp only [List.getElem_toArray, List.getElem_cons_zero, List.getElem_cons_succ]
  repeat (first
    | (refine take_load_part (part := words 8 H2) 13 rfl (by rfl) rfl rfl (fun _ h => Own.get h 0 rfl) Try.underlying33 rfl (by kernel_rfl) ?_ ?_; (exact fun j hj => runC_H H2 M2 n2 last2 node2 j (by simpa [words_size] using hj)); simp only [Act.put, List.setIfInBounds_toArray, List.set_cons_zero, List.set_cons_succ])
    | (refine take_pure (v := ?_) (by rfl) ?_ ?_; rotate_left; (· (intro w hSw; have q24 := Q24.out _ hSw; have q25 := Q25.out _ hSw; have q26 := Q26.out _ hSw; clear hSw; go_simp; try with_reducible rfl)); simp only [Act.put, List.setIfInBounds_toArray, List.set_cons_zero, List.set_cons_succ]))
  refine take_done ?_
  refine seg_sole 8 #[true, true, true, true, true, true, true, true, true, false, false, false, false] rfl (by kernel_rfl) ?_
  try simp only [List.getElem_toArray, List.getElem_cons_zero, List.getElem_cons_succ]
  go_wp2_with (refine own_alloc 5 (words 8 fun _ => 0) O rfl rfl rfl (fun _ => by kernel_rfl) ?_; clear O; intro W a5 O; simp only [Act.put, List.setIfInBounds_toArray, List.set_cons_zero, List.set_cons_succ])
  (first | refine back_intro2 (by first | exact O | exact O.drop_ 1) ?_ | refine back_intro (by first | exact O | exact O.drop_ 1) ?_)
  refine seg_sole 9 #[true, true, true, true, true, true, true, true, true, true, false, false, false] rfl (by kernel_rfl) ?_
  try simp only [List.getElem_toArray, List.getElem_cons_zero, List.getElem_cons_succ]
  go_wp2_with (refine own_store_row 0 (.tmp 5) (.tmp 13) O rfl rfl rfl rfl rfl rfl (by kernel_rfl) (by simp only [words_size]) (words_cell _ _) ?_; clear O; intro W O; simp only [List.set_cons_zero] at O)
  (first | refine back_intro2 (by first | exact O | exact O.drop_ 1) ?_ | refine back_intro (by first | exact O | exact O.drop_ 1) ?_)
  refine seg_take (fuel := 0) (L' := #[true, true, true, true, true, true, true, true, true, true, true, true, true]) (by kernel_rfl) (fun _ _ _ _ _ _ h => h) (by first | exact O | exact O.drop_ 1) [10, 11, 12] [_, _, _] _ _ rfl (by kernel_rfl) ?_
  simp only [List.getElem_toArray, List.getElem_cons_zero, List.getElem_cons_succ]
  repeat (first
    | (refine take_pure (v := ?_) (by rfl) ?_ ?_; rotate_left; (· (intro w hSw; have q24 := Q24.out _ hSw; have q25 := Q25.out _ hSw; have q26 := Q26.out _ hSw; clear hSw; go_simp; try with_reducible rfl)); simp only [Act.put, List.setIfInBounds_toArray, List.set_cons_zero, List.set_cons_succ]))
  refine take_done ?_
  refine seg_done (by kernel_rfl) ?_
  go_wp2_with (first
    | (go_at_call 32; refine (alive_any _).mono ?_; rintro e W ⟨rfl, K⟩; replace O := O.keeps K; clear K; have q24 : W.cell? ⟨a2, 24, none⟩ = some (U64 n) := ((O.get 2 rfl).cell 24).trans (runC_r H M n last node 0); have q25 : W.cell? ⟨a2, 25, none⟩ = some (.bool last) := ((O.get 2 rfl).cell 25).trans (runC_r H M n last node 1); have q26 : W.cell? ⟨a2, 26, none⟩ = some (.bool node) := ((O.get 2 rfl).cell 26).trans (runC_r H M n last node 2))
    | (refine own_load_part (part := words 8 H) 23 2 O rfl rfl rfl rfl rfl Try.underlying33 rfl (by kernel_rfl) ?_ ?_; (exact fun j hj => runC_H H M n last node j (by simpa [words_size] using hj)); simp only [Act.put, List.setIfInBounds_toArray, List.set_cons_zero, List.set_cons_succ])
    | (refine own_load_part (part := words 16 M) 25 2 O rfl rfl rfl rfl rfl Try.underlying23 rfl (by kernel_rfl) ?_ ?_; (exact fun j hj => runC_M H M n last node j (by simpa [words_size] using hj)); simp only [Act.put, List.setIfInBounds_toArray, List.set_cons_zero, List.set_cons_succ])
    | (go_at_call 30; (with_reducible refine Calls.mono (C1.out _) ?_); rintro e W ⟨K, g1, c1, cur1, rfl, hb1, B1, hn1, hx1, hs1, ht1⟩; replace O := O.fresh K hb1 B1; clear K B1 hb1; clear q24 q25 q26)
    | (refine own_load 33 1 O rfl rfl rfl rfl rfl Try.underlying33 rfl (by kernel_rfl) ?_; simp only [Act.put, List.setIfInBounds_toArray, List.set_cons_zero, List.set_cons_succ])
    | (refine own_load_part (part := words 16 M) 35 3 O rfl rfl rfl rfl rfl Try.underlying23 rfl (by kernel_rfl) ?_ ?_; (exact fun j hj => runC_M H M n last node j (by simpa [words_size] using hj)); simp only [Act.put, List.setIfInBounds_toArray, List.set_cons_zero, List.set_cons_succ])
    | (go_at_call 30; (with_reducible refine Calls.mono (C2.out _) ?_); rintro e W ⟨K, g2, c2, cur2, rfl, hb2, B2, hn2, hx2, hs2, ht2⟩; replace O := O.fresh K hb2 B2; clear K B2 hb2; have q24 : W.cell? ⟨a2, 24, none⟩ = some (U64 n) := ((O.get 4 rfl).cell 24).trans (runC_r H M n last node 0); have q25 : W.cell? ⟨a2, 25, none⟩ = some (.bool last) := ((O.get 4 rfl).cell 25).trans (runC_r H M n last node 1); have q26 : W.cell? ⟨a2, 26, none⟩ = some (.bool node) := ((O.get 4 rfl).cell 26).trans (runC_r H M n last node 2))
    | (refine own_load_part (part := words 8 H) 49 4 O rfl rfl rfl rfl rfl Try.underlying33 rfl (by kernel_rfl) ?_ ?_; (exact fun j hj => runC_H H M n last node j (by simpa [words_size] using hj)); simp only [Act.put, List.setIfInBounds_toArray, List.set_cons_zero, List.set_cons_succ])
    | (refine own_load 50 2 O rfl rfl rfl rfl rfl Try.underlying33 rfl (by kernel_rfl) ?_; simp only [Act.put, List.setIfInBounds_toArray, List.set_cons_zero, List.set_cons_succ]))
  clear q24 q25 q26
  have b1 := add_zero_ g1 160
  have b2 := add_zero_ g2 160
  have b3 := add_zero_ g1 80
  have b4 := add_zero_ g2 80
  refine wp_quiet_drawn (by kernel_rfl) (by kernel_rfl) ?_
  repeat (first
    | (refine wpQuiet_load_part (off := 160) (part := words 16 (F 10)) 72 rfl rfl rfl rfl (drawn_blk (O.get 1 rfl)) Try.underlying23 rfl (by kernel_rfl) ?_ ?_; (exact fun j hj => by rw [words_size] at hj; rw [show 160 + j = 16 * 10 + j from rfl, ht1 10 j (by omega) hj, words_get _ _ _ hj]); simp only [Act.put, List.setIfInBounds_toArray, List.set_cons_zero, List.set_cons_succ])
    | (refine wpQuiet_load_part (off := 160) (part := words 16 (G 10)) 75 rfl rfl rfl rfl (drawn_blk (O.get 0 rfl)) Try.underlying23 rfl (by kernel_rfl) ?_ ?_; (exact fun j hj => by rw [words_size] at hj; rw [show 160 + j = 16 * 10 + j from rfl, ht2 10 j (by omega) hj, words_get _ _ _ hj]); simp only [Act.put, List.setIfInBounds_toArray, List.set_cons_zero, List.set_cons_succ])
    | (refine wpQuiet_load_part (off := 80) (part := words 16 (F 5)) 82 rfl rfl rfl rfl (drawn_blk (O.get 1 rfl)) Try.underlying23 rfl (by kernel_rfl) ?_ ?_; (exact fun j hj => by rw [words_size] at hj; rw [show 80 + j = 16 * 5 + j from rfl, ht1 5 j (by omega) hj, words_get _ _ _ hj]); simp only [Act.put, List.setIfInBounds_toArray, List.set_cons_zero, List.set_cons_succ])
    | (refine wpQuiet_load_part (off := 80) (part := words 16 (G 5)) 85 rfl rfl rfl rfl (drawn_blk (O.get 0 rfl)) Try.underlying23 rfl (by kernel_rfl) ?_ ?_; (exact fun j hj => by rw [words_size] at hj; rw [show 80 + j = 16 * 5 + j from rfl, ht2 5 j (by omega) hj, words_get _ _ _ hj]); simp only [Act.put, List.setIfInBounds_toArray, List.set_cons_zero, List.set_cons_succ])
    | go_big_quiet_step (fail))
  refine wpQuiet_nil ?_
  intro _ hw
  obtain ⟨n0, rfl⟩ := hw
  replace O := O.drewN n0
  generalize World.drewN _ n0 = W at O ⊢
  go_wp2
  go_ret
  exact ⟨rfl, O.keep⟩

set_option maxRecDepth 100000 in
set_option maxHeartbeats 2000000 in
theorem unlike_walk2 (H M : Nat → BitVec 32) (n : BitVec 64) (last node : Bool) (H2 M2 : Nat → BitVec 32) (n2 : BitVec 64) (last2 node2 : Bool) (w : World) (h1 : eqW 8 H H2 = true) (h2 : (n == n2) = true) (h3 : (last == last2) = false) :
    Calls Try.prog 6 #[.agg (runC H M n last node), .agg (runC H2 M2 n2 last2 node2)] w fun e w' => e = .returned (.bool true) ∧ Keeps w w' [] := by
  have O := Own.start w []
  have C1 := Lib.hid fun w => states_any H M n last node w
  have C2 := Lib.hid fun w => states_any H2 M n2 last2 node2 w
  have a10 := stF_apart H H2 M n n2 last last2 node node2 10
  have a5 := stF_apart H H2 M n n2 last last2 node node2 5
  rw [begV_apart] at a10 a5
  simp only [h1, h2, h3, Bool.and_true, Bool.and_false, Bool.false_and, Bool.true_and] at a10 a5
  generalize stF H M n last node = F at *
  generalize stF H2 M n2 last2 node2 = G at *
  go_enter Try.func6, Try.ntmps6
  go_wp2_with (first
    | (refine own_box 2 (runC H M n last node) O rfl rfl rfl rfl ?_; clear O; intro W a2 O; simp only [Act.put, List.setIfInBounds_toArray, List.set_cons_zero, List.set_cons_succ])
    | (refine own_box 3 (runC H2 M2 n2 last2 node2) O rfl rfl rfl rfl ?_; clear O; intro W a3 O; simp only [Act.put, List.setIfInBounds_toArray, List.set_cons_zero, List.set_cons_succ]))
  have Q24 := Lib.hid (show ∀ u : World, Own w u [] ((a3, 48, runC H2 M2 n2 last2 node2) :: (a2, 48, runC H M n last node) :: []) → u.cell? ⟨a3, 24, none⟩ = some (U64 n2) from fun u h => ((Own.get h 0 rfl).cell 24).trans (runC_r H2 M2 n2 last2 node2 0))
  have Q25 := Lib.hid (show ∀ u : World, Own w u [] ((a3, 48, runC H2 M2 n2 last2 node2) :: (a2, 48, runC H M n last node) :: []) → u.cell? ⟨a3, 25, none⟩ = some (.bool last2) from fun u h => ((Own.get h 0 rfl).cell 25).trans (runC_r H2 M2 n2 last2 node2 1))
  have Q26 := Lib.hid (show ∀ u : World, Own w u [] ((a3, 48, runC H2 M2 n2 last2 node2) :: (a2, 48, runC H M n last node) :: []) → u.cell? ⟨a3, 26, none⟩ = some (.bool node2) from fun u h => ((Own.get h 0 rfl).cell 26).trans (runC_r H2 M2 n2 last2 node2 2))
  refine wp_held (S := fun u => Own w u [] ((a3, 48, runC H2 M2 n2 last2 node2) :: (a2, 48, runC H M n last node) :: [])) 13 #[false, false, false, false, false, false, false, false, false, false, false, false, false] (by kernel_rfl) rfl rfl ?_
  replace O := O.drew
  refine seg_take (fuel := 5) (L' := #[true, true, true, true, true, true, true, true, false, false, false, false, false]) (by kernel_rfl) (fun _ _ _ _ _ _ h => h) (by first | exact O | exact O.drop_ 1) [0, 1, 2, 3, 4, 5, 6, 7] [_, _, _, _, _, _, _, _] _ _ rfl (by kernel_rfl) ?_
  simp only [List.getElem_toArray, List.getElem_cons_zero, List.getElem_cons_succ]
  repeat (first
    | (refine take_load_part (part := words 8 H2) 13 rfl (by rfl) rfl rfl (fun _ h => Own.get h 0 rfl) Try.underlying33 rfl (by kernel_rfl) ?_ ?_; (exact fun j hj => runC_H H2 M2 n2 last2 node2 j (by simpa [words_size] using hj)); simp only [Act.put, List.setIfInBounds_toArray, List.set_cons_zero, List.set_cons_succ])
    | (refine take_pure (v := ?_) (by rfl) ?_ ?_; rotate_left; (· (intro w hSw; have q24 := Q24.out _ hSw; have q25 := Q25.out _ hSw; have q26 := Q26.out _ hSw; clear hSw; go_simp; try with_reducible rfl)); simp only [Act.put, List.setIfInBounds_toArray, List.set_cons_zero, List.set_cons_succ]))
  refine take_done ?_
  refine seg_sole 8 #[true, true, true, true, true, true, true, true, true, false, false, false, false] rfl (by kernel_rfl) ?_
  try simp only [List.getElem_toArray, List.getElem_cons_zero, List.getElem_cons_succ]
  go_wp2_with (refine own_alloc 5 (words 8 fun _ => 0) O rfl rfl rfl (fun _ => by kernel_rfl) ?_; clear O; intro W a5 O; simp only [Act.put, List.setIfInBounds_toArray, List.set_cons_zero, List.set_cons_succ])
  (first | refine back_intro2 (by first | exact O | exact O.drop_ 1) ?_ | refine back_intro (by first | exact O | exact O.drop_ 1) ?_)
  refine seg_sole 9 #[true, true, true, true, true, true, true, true, true, true, false, false, false] rfl (by kernel_rfl) ?_
  try simp only [List.getElem_toArray, List.getElem_cons_zero, List.getElem_cons_succ]
  go_wp2_with (refine own_store_row 0 (.tmp 5) (.tmp 13) O rfl rfl rfl rfl rfl rfl (by kernel_rfl) (by simp only [words_size]) (words_cell _ _) ?_; clear O; intro W O; simp only [List.set_cons_zero] at O)
  (first | refine back_intro2 (by first | exact O | exact O.drop_ 1) ?_ | refine back_intro (by first | exact O | exact O.drop_ 1) ?_)
  refine seg_take (fuel := 0) (L' := #[true, true, true, true, true, true, true, true, true, true, true, true, true]) (by kernel_rfl) (fun _ _ _ _ _ _ h => h) (by first | exact O | exact O.drop_ 1) [10, 11, 12] [_, _, _] _ _ rfl (by kernel_rfl) ?_
  simp only [List.getElem_toArray, List.getElem_cons_zero, List.getElem_cons_succ]
  repeat (first
    | (refine take_pure (v := ?_) (by rfl) ?_ ?_; rotate_left; (· (intro w hSw; have q24 := Q24.out _ hSw; have q25 := Q25.out _ hSw; have q26 := Q26.out _ hSw; clear hSw; go_simp; try with_reducible rfl)); simp only [Act.put, List.setIfInBounds_toArray, List.set_cons_zero, List.set_cons_succ]))
  refine take_done ?_
  refine seg_done (by kernel_rfl) ?_
  go_wp2_with (first
    | (go_at_call 32; refine (alive_any _).mono ?_; rintro e W ⟨rfl, K⟩; replace O := O.keeps K; clear K; have q24 : W.cell? ⟨a2, 24, none⟩ = some (U64 n) := ((O.get 2 rfl).cell 24).trans (runC_r H M n last node 0); have q25 : W.cell? ⟨a2, 25, none⟩ = some (.bool last) := ((O.get 2 rfl).cell 25).trans (runC_r H M n last node 1); have q26 : W.cell? ⟨a2, 26, none⟩ = some (.bool node) := ((O.get 2 rfl).cell 26).trans (runC_r H M n last node 2))
    | (refine own_load_part (part := words 8 H) 23 2 O rfl rfl rfl rfl rfl Try.underlying33 rfl (by kernel_rfl) ?_ ?_; (exact fun j hj => runC_H H M n last node j (by simpa [words_size] using hj)); simp only [Act.put, List.setIfInBounds_toArray, List.set_cons_zero, List.set_cons_succ])
    | (refine own_load_part (part := words 16 M) 25 2 O rfl rfl rfl rfl rfl Try.underlying23 rfl (by kernel_rfl) ?_ ?_; (exact fun j hj => runC_M H M n last node j (by simpa [words_size] using hj)); simp only [Act.put, List.setIfInBounds_toArray, List.set_cons_zero, List.set_cons_succ])
    | (go_at_call 30; (with_reducible refine Calls.mono (C1.out _) ?_); rintro e W ⟨K, g1, c1, cur1, rfl, hb1, B1, hn1, hx1, hs1, ht1⟩; replace O := O.fresh K hb1 B1; clear K B1 hb1; clear q24 q25 q26)
    | (refine own_load 33 1 O rfl rfl rfl rfl rfl Try.underlying33 rfl (by kernel_rfl) ?_; simp only [Act.put, List.setIfInBounds_toArray, List.set_cons_zero, List.set_cons_succ])
    | (refine own_load_part (part := words 16 M) 35 3 O rfl rfl rfl rfl rfl Try.underlying23 rfl (by kernel_rfl) ?_ ?_; (exact fun j hj => runC_M H M n last node j (by simpa [words_size] using hj)); simp only [Act.put, List.setIfInBounds_toArray, List.set_cons_zero, List.set_cons_succ])
    | (go_at_call 30; (with_reducible refine Calls.mono (C2.out _) ?_); rintro e W ⟨K, g2, c2, cur2, rfl, hb2, B2, hn2, hx2, hs2, ht2⟩; replace O := O.fresh K hb2 B2; clear K B2 hb2; have q24 : W.cell? ⟨a2, 24, none⟩ = some (U64 n) := ((O.get 4 rfl).cell 24).trans (runC_r H M n last node 0); have q25 : W.cell? ⟨a2, 25, none⟩ = some (.bool last) := ((O.get 4 rfl).cell 25).trans (runC_r H M n last node 1); have q26 : W.cell? ⟨a2, 26, none⟩ = some (.bool node) := ((O.get 4 rfl).cell 26).trans (runC_r H M n last node 2))
    | (refine own_load_part (part := words 8 H) 49 4 O rfl rfl rfl rfl rfl Try.underlying33 rfl (by kernel_rfl) ?_ ?_; (exact fun j hj => runC_H H M n last node j (by simpa [words_size] using hj)); simp only [Act.put, List.setIfInBounds_toArray, List.set_cons_zero, List.set_cons_succ])
    | (refine own_load 50 2 O rfl rfl rfl rfl rfl Try.underlying33 rfl (by kernel_rfl) ?_; simp only [Act.put, List.setIfInBounds_toArray, List.set_cons_zero, List.set_cons_succ]))
  clear q24 q25 q26
  have b1 := add_zero_ g1 160
  have b2 := add_zero_ g2 160
  have b3 := add_zero_ g1 80
  have b4 := add_zero_ g2 80
  refine wp_quiet_drawn (by kernel_rfl) (by kernel_rfl) ?_
  repeat (first
    | (refine wpQuiet_load_part (off := 160) (part := words 16 (F 10)) 72 rfl rfl rfl rfl (drawn_blk (O.get 1 rfl)) Try.underlying23 rfl (by kernel_rfl) ?_ ?_; (exact fun j hj => by rw [words_size] at hj; rw [show 160 + j = 16 * 10 + j from rfl, ht1 10 j (by omega) hj, words_get _ _ _ hj]); simp only [Act.put, List.setIfInBounds_toArray, List.set_cons_zero, List.set_cons_succ])
    | (refine wpQuiet_load_part (off := 160) (part := words 16 (G 10)) 75 rfl rfl rfl rfl (drawn_blk (O.get 0 rfl)) Try.underlying23 rfl (by kernel_rfl) ?_ ?_; (exact fun j hj => by rw [words_size] at hj; rw [show 160 + j = 16 * 10 + j from rfl, ht2 10 j (by omega) hj, words_get _ _ _ hj]); simp only [Act.put, List.setIfInBounds_toArray, List.set_cons_zero, List.set_cons_succ])
    | (refine wpQuiet_load_part (off := 80) (part := words 16 (F 5)) 82 rfl rfl rfl rfl (drawn_blk (O.get 1 rfl)) Try.underlying23 rfl (by kernel_rfl) ?_ ?_; (exact fun j hj => by rw [words_size] at hj; rw [show 80 + j = 16 * 5 + j from rfl, ht1 5 j (by omega) hj, words_get _ _ _ hj]); simp only [Act.put, List.setIfInBounds_toArray, List.set_cons_zero, List.set_cons_succ])
    | (refine wpQuiet_load_part (off := 80) (part := words 16 (G 5)) 85 rfl rfl rfl rfl (drawn_blk (O.get 0 rfl)) Try.underlying23 rfl (by kernel_rfl) ?_ ?_; (exact fun j hj => by rw [words_size] at hj; rw [show 80 + j = 16 * 5 + j from rfl, ht2 5 j (by omega) hj, words_get _ _ _ hj]); simp only [Act.put, List.setIfInBounds_toArray, List.set_cons_zero, List.set_cons_succ])
    | go_big_quiet_step (fail))
  refine wpQuiet_nil ?_
  intro _ hw
  obtain ⟨n0, rfl⟩ := hw
  replace O := O.drewN n0
  generalize World.drewN _ n0 = W at O ⊢
  go_wp2
  go_ret
  exact ⟨rfl, O.keep⟩

set_option maxRecDepth 100000 in
set_option maxHeartbeats 2000000 in
theorem unlike_walk3 (H M : Nat → BitVec 32) (n : BitVec 64) (last node : Bool) (H2 M2 : Nat → BitVec 32) (n2 : BitVec 64) (last2 node2 : Bool) (w : World) (h1 : eqW 8 H H2 = true) (h2 : (n == n2) = true) (h3 : (last == last2) = true) (h4 : (node == node2) = false) :
    Calls Try.prog 6 #[.agg (runC H M n last node), .agg (runC H2 M2 n2 last2 node2)] w fun e w' => e = .returned (.bool true) ∧ Keeps w w' [] := by
  have O := Own.start w []
  have C1 := Lib.hid fun w => states_any H M n last node w
  have C2 := Lib.hid fun w => states_any H2 M n2 last2 node2 w
  have a10 := stF_apart H H2 M n n2 last last2 node node2 10
  have a5 := stF_apart H H2 M n n2 last last2 node node2 5
  rw [begV_apart] at a10 a5
  simp only [h1, h2, h3, h4, Bool.and_true, Bool.and_false, Bool.false_and, Bool.true_and] at a10 a5
  generalize stF H M n last node = F at *
  generalize stF H2 M n2 last2 node2 = G at *
  go_enter Try.func6, Try.ntmps6
  go_wp2_with (first
    | (refine own_box 2 (runC H M n last node) O rfl rfl rfl rfl ?_; clear O; intro W a2 O; simp only [Act.put, List.setIfInBounds_toArray, List.set_cons_zero, List.set_cons_succ])
    | (refine own_box 3 (runC H2 M2 n2 last2 node2) O rfl rfl rfl rfl ?_; clear O; intro W a3 O; simp only [Act.put, List.setIfInBounds_toArray, List.set_cons_zero, List.set_cons_succ]))
  have Q24 := Lib.hid (show ∀ u : World, Own w u [] ((a3, 48, runC H2 M2 n2 last2 node2) :: (a2, 48, runC H M n last node) :: []) → u.cell? ⟨a3, 24, none⟩ = some (U64 n2) from fun u h => ((Own.get h 0 rfl).cell 24).trans (runC_r H2 M2 n2 last2 node2 0))
  have Q25 := Lib.hid (show ∀ u : World, Own w u [] ((a3, 48, runC H2 M2 n2 last2 node2) :: (a2, 48, runC H M n last node) :: []) → u.cell? ⟨a3, 25, none⟩ = some (.bool last2) from fun u h => ((Own.get h 0 rfl).cell 25).trans (runC_r H2 M2 n2 last2 node2 1))
  have Q26 := Lib.hid (show ∀ u : World, Own w u [] ((a3, 48, runC H2 M2 n2 last2 node2) :: (a2, 48, runC H M n last node) :: []) → u.cell? ⟨a3, 26, none⟩ = some (.bool node2) from fun u h => ((Own.get h 0 rfl).cell 26).trans (runC_r H2 M2 n2 last2 node2 2))
  refine wp_held (S := fun u => Own w u [] ((a3, 48, runC H2 M2 n2 last2 node2) :: (a2, 48, runC H M n last node) :: [])) 13 #[false, false, false, false, false, false, false, false, false, false, false, false, false] (by kernel_rfl) rfl rfl ?_
  replace O := O.drew
  refine seg_take (fuel := 5) (L' := #[true, true, true, true, true, true, true, true, false, false, false, false, false]) (by kernel_rfl) (fun _ _ _ _ _ _ h => h) (by first | exact O | exact O.drop_ 1) [0, 1, 2, 3, 4, 5, 6, 7] [_, _, _, _, _, _, _, _] _ _ rfl (by kernel_rfl) ?_
  simp only [List.getElem_toArray, List.getElem_cons_zero, List.getElem_cons_succ]
  repeat (first
    | (refine take_load_part (part := words 8 H2) 13 rfl (by rfl) rfl rfl (fun _ h => Own.get h 0 rfl) Try.underlying33 rfl (by kernel_rfl) ?_ ?_; (exact fun j hj => runC_H H2 M2 n2 last2 node2 j (by simpa [words_size] using hj)); simp only [Act.put, List.setIfInBounds_toArray, List.set_cons_zero, List.set_cons_succ])
    | (refine take_pure (v := ?_) (by rfl) ?_ ?_; rotate_left; (· (intro w hSw; have q24 := Q24.out _ hSw; have q25 := Q25.out _ hSw; have q26 := Q26.out _ hSw; clear hSw; go_simp; try with_reducible rfl)); simp only [Act.put, List.setIfInBounds_toArray, List.set_cons_zero, List.set_cons_succ]))
  refine take_done ?_
  refine seg_sole 8 #[true, true, true, true, true, true, true, true, true, false, false, false, false] rfl (by kernel_rfl) ?_
  try simp only [List.getElem_toArray, List.getElem_cons_zero, List.getElem_cons_succ]
  go_wp2_with (refine own_alloc 5 (words 8 fun _ => 0) O rfl rfl rfl (fun _ => by kernel_rfl) ?_; clear O; intro W a5 O; simp only [Act.put, List.setIfInBounds_toArray, List.set_cons_zero, List.set_cons_succ])
  (first | refine back_intro2 (by first | exact O | exact O.drop_ 1) ?_ | refine back_intro (by first | exact O | exact O.drop_ 1) ?_)
  refine seg_sole 9 #[true, true, true, true, true, true, true, true, true, true, false, false, false] rfl (by kernel_rfl) ?_
  try simp only [List.getElem_toArray, List.getElem_cons_zero, List.getElem_cons_succ]
  go_wp2_with (refine own_store_row 0 (.tmp 5) (.tmp 13) O rfl rfl rfl rfl rfl rfl (by kernel_rfl) (by simp only [words_size]) (words_cell _ _) ?_; clear O; intro W O; simp only [List.set_cons_zero] at O)
  (first | refine back_intro2 (by first | exact O | exact O.drop_ 1) ?_ | refine back_intro (by first | exact O | exact O.drop_ 1) ?_)
  refine seg_take (fuel := 0) (L' := #[true, true, true, true, true, true, true, true, true, true, true, true, true]) (by kernel_rfl) (fun _ _ _ _ _ _ h => h) (by first | exact O | exact O.drop_ 1) [10, 11, 12] [_, _, _] _ _ rfl (by kernel_rfl) ?_
  simp only [List.getElem_toArray, List.getElem_cons_zero, List.getElem_cons_succ]
  repeat (first
    | (refine take_pure (v := ?_) (by rfl) ?_ ?_; rotate_left; (· (intro w hSw; have q24 := Q24.out _ hSw; have q25 := Q25.out _ hSw; have q26 := Q26.out _ hSw; clear hSw; go_simp; try with_reducible rfl)); simp only [Act.put, List.setIfInBounds_toArray, List.set_cons_zero, List.set_cons_succ]))
  refine take_done ?_
  refine seg_done (by kernel_rfl) ?_
  go_wp2_with (first
    | (go_at_call 32; refine (alive_any _).mono ?_; rintro e W ⟨rfl, K⟩; replace O := O.keeps K; clear K; have q24 : W.cell? ⟨a2, 24, none⟩ = some (U64 n) := ((O.get 2 rfl).cell 24).trans (runC_r H M n last node 0); have q25 : W.cell? ⟨a2, 25, none⟩ = some (.bool last) := ((O.get 2 rfl).cell 25).trans (runC_r H M n last node 1); have q26 : W.cell? ⟨a2, 26, none⟩ = some (.bool node) := ((O.get 2 rfl).cell 26).trans (runC_r H M n last node 2))
    | (refine own_load_part (part := words 8 H) 23 2 O rfl rfl rfl rfl rfl Try.underlying33 rfl (by kernel_rfl) ?_ ?_; (exact fun j hj => runC_H H M n last node j (by simpa [words_size] using hj)); simp only [Act.put, List.setIfInBounds_toArray, List.set_cons_zero, List.set_cons_succ])
    | (refine own_load_part (part := words 16 M) 25 2 O rfl rfl rfl rfl rfl Try.underlying23 rfl (by kernel_rfl) ?_ ?_; (exact fun j hj => runC_M H M n last node j (by simpa [words_size] using hj)); simp only [Act.put, List.setIfInBounds_toArray, List.set_cons_zero, List.set_cons_succ])
    | (go_at_call 30; (with_reducible refine Calls.mono (C1.out _) ?_); rintro e W ⟨K, g1, c1, cur1, rfl, hb1, B1, hn1, hx1, hs1, ht1⟩; replace O := O.fresh K hb1 B1; clear K B1 hb1; clear q24 q25 q26)
    | (refine own_load 33 1 O rfl rfl rfl rfl rfl Try.underlying33 rfl (by kernel_rfl) ?_; simp only [Act.put, List.setIfInBounds_toArray, List.set_cons_zero, List.set_cons_succ])
    | (refine own_load_part (part := words 16 M) 35 3 O rfl rfl rfl rfl rfl Try.underlying23 rfl (by kernel_rfl) ?_ ?_; (exact fun j hj => runC_M H M n last node j (by simpa [words_size] using hj)); simp only [Act.put, List.setIfInBounds_toArray, List.set_cons_zero, List.set_cons_succ])
    | (go_at_call 30; (with_reducible refine Calls.mono (C2.out _) ?_); rintro e W ⟨K, g2, c2, cur2, rfl, hb2, B2, hn2, hx2, hs2, ht2⟩; replace O := O.fresh K hb2 B2; clear K B2 hb2; have q24 : W.cell? ⟨a2, 24, none⟩ = some (U64 n) := ((O.get 4 rfl).cell 24).trans (runC_r H M n last node 0); have q25 : W.cell? ⟨a2, 25, none⟩ = some (.bool last) := ((O.get 4 rfl).cell 25).trans (runC_r H M n last node 1); have q26 : W.cell? ⟨a2, 26, none⟩ = some (.bool node) := ((O.get 4 rfl).cell 26).trans (runC_r H M n last node 2))
    | (refine own_load_part (part := words 8 H) 49 4 O rfl rfl rfl rfl rfl Try.underlying33 rfl (by kernel_rfl) ?_ ?_; (exact fun j hj => runC_H H M n last node j (by simpa [words_size] using hj)); simp only [Act.put, List.setIfInBounds_toArray, List.set_cons_zero, List.set_cons_succ])
    | (refine own_load 50 2 O rfl rfl rfl rfl rfl Try.underlying33 rfl (by kernel_rfl) ?_; simp only [Act.put, List.setIfInBounds_toArray, List.set_cons_zero, List.set_cons_succ]))
  clear q24 q25 q26
  have b1 := add_zero_ g1 160
  have b2 := add_zero_ g2 160
  have b3 := add_zero_ g1 80
  have b4 := add_zero_ g2 80
  refine wp_quiet_drawn (by kernel_rfl) (by kernel_rfl) ?_
  repeat (first
    | (refine wpQuiet_load_part (off := 160) (part := words 16 (F 10)) 72 rfl rfl rfl rfl (drawn_blk (O.get 1 rfl)) Try.underlying23 rfl (by kernel_rfl) ?_ ?_; (exact fun j hj => by rw [words_size] at hj; rw [show 160 + j = 16 * 10 + j from rfl, ht1 10 j (by omega) hj, words_get _ _ _ hj]); simp only [Act.put, List.setIfInBounds_toArray, List.set_cons_zero, List.set_cons_succ])
    | (refine wpQuiet_load_part (off := 160) (part := words 16 (G 10)) 75 rfl rfl rfl rfl (drawn_blk (O.get 0 rfl)) Try.underlying23 rfl (by kernel_rfl) ?_ ?_; (exact fun j hj => by rw [words_size] at hj; rw [show 160 + j = 16 * 10 + j from rfl, ht2 10 j (by omega) hj, words_get _ _ _ hj]); simp only [Act.put, List.setIfInBounds_toArray, List.set_cons_zero, List.set_cons_succ])
    | (refine wpQuiet_load_part (off := 80) (part := words 16 (F 5)) 82 rfl rfl rfl rfl (drawn_blk (O.get 1 rfl)) Try.underlying23 rfl (by kernel_rfl) ?_ ?_; (exact fun j hj => by rw [words_size] at hj; rw [show 80 + j = 16 * 5 + j from rfl, ht1 5 j (by omega) hj, words_get _ _ _ hj]); simp only [Act.put, List.setIfInBounds_toArray, List.set_cons_zero, List.set_cons_succ])
    | (refine wpQuiet_load_part (off := 80) (part := words 16 (G 5)) 85 rfl rfl rfl rfl (drawn_blk (O.get 0 rfl)) Try.underlying23 rfl (by kernel_rfl) ?_ ?_; (exact fun j hj => by rw [words_size] at hj; rw [show 80 + j = 16 * 5 + j from rfl, ht2 5 j (by omega) hj, words_get _ _ _ hj]); simp only [Act.put, List.setIfInBounds_toArray, List.set_cons_zero, List.set_cons_succ])
    | go_big_quiet_step (fail))
  refine wpQuiet_nil ?_
  intro _ hw
  obtain ⟨n0, rfl⟩ := hw
  replace O := O.drewN n0
  generalize World.drewN _ n0 = W at O ⊢
  go_wp2
  go_ret
  exact ⟨rfl, O.keep⟩

set_option maxRecDepth 100000 in
set_option maxHeartbeats 2000000 in
theorem unlike_walk4 (H M : Nat → BitVec 32) (n : BitVec 64) (last node : Bool) (H2 M2 : Nat → BitVec 32) (n2 : BitVec 64) (last2 node2 : Bool) (w : World) (h1 : eqW 8 H H2 = true) (h2 : (n == n2) = true) (h3 : (last == last2) = true) (h4 : (node == node2) = true) :
    Calls Try.prog 6 #[.agg (runC H M n last node), .agg (runC H2 M2 n2 last2 node2)] w fun e w' => e = .returned (.bool true) ∧ Keeps w w' [] := by
  have O := Own.start w []
  have C1 := Lib.hid fun w => states_any H M n last node w
  have C2 := Lib.hid fun w => states_any H2 M n2 last2 node2 w
  have a10 := stF_apart H H2 M n n2 last last2 node node2 10
  have a5 := stF_apart H H2 M n n2 last last2 node node2 5
  rw [begV_apart] at a10 a5
  simp only [h1, h2, h3, h4, Bool.and_true, Bool.and_false, Bool.false_and, Bool.true_and] at a10 a5
  generalize stF H M n last node = F at *
  generalize stF H2 M n2 last2 node2 = G at *
  go_enter Try.func6, Try.ntmps6
  go_wp2_with (first
    | (refine own_box 2 (runC H M n last node) O rfl rfl rfl rfl ?_; clear O; intro W a2 O; simp only [Act.put, List.setIfInBounds_toArray, List.set_cons_zero, List.set_cons_succ])
    | (refine own_box 3 (runC H2 M2 n2 last2 node2) O rfl rfl rfl rfl ?_; clear O; intro W a3 O; simp only [Act.put, List.setIfInBounds_toArray, List.set_cons_zero, List.set_cons_succ]))
  have Q24 := Lib.hid (show ∀ u : World, Own w u [] ((a3, 48, runC H2 M2 n2 last2 node2) :: (a2, 48, runC H M n last node) :: []) → u.cell? ⟨a3, 24, none⟩ = some (U64 n2) from fun u h => ((Own.get h 0 rfl).cell 24).trans (runC_r H2 M2 n2 last2 node2 0))
  have Q25 := Lib.hid (show ∀ u : World, Own w u [] ((a3, 48, runC H2 M2 n2 last2 node2) :: (a2, 48, runC H M n last node) :: []) → u.cell? ⟨a3, 25, none⟩ = some (.bool last2) from fun u h => ((Own.get h 0 rfl).cell 25).trans (runC_r H2 M2 n2 last2 node2 1))
  have Q26 := Lib.hid (show ∀ u : World, Own w u [] ((a3, 48, runC H2 M2 n2 last2 node2) :: (a2, 48, runC H M n last node) :: []) → u.cell? ⟨a3, 26, none⟩ = some (.bool node2) from fun u h => ((Own.get h 0 rfl).cell 26).trans (runC_r H2 M2 n2 last2 node2 2))
  refine wp_held (S := fun u => Own w u [] ((a3, 48, runC H2 M2 n2 last2 node2) :: (a2, 48, runC H M n last node) :: [])) 13 #[false, false, false, false, false, false, false, false, false, false, false, false, false] (by kernel_rfl) rfl rfl ?_
  replace O := O.drew
  refine seg_take (fuel := 5) (L' := #[true, true, true, true, true, true, true, true, false, false, false, false, false]) (by kernel_rfl) (fun _ _ _ _ _ _ h => h) (by first | exact O | exact O.drop_ 1) [0, 1, 2, 3, 4, 5, 6, 7] [_, _, _, _, _, _, _, _] _ _ rfl (by kernel_rfl) ?_
  simp only [List.getElem_toArray, List.getElem_cons_zero, List.getElem_cons_succ]
  repeat (first
    | (refine take_load_part (part := words 8 H2) 13 rfl (by rfl) rfl rfl (fun _ h => Own.get h 0 rfl) Try.underlying33 rfl (by kernel_rfl) ?_ ?_; (exact fun j hj => runC_H H2 M2 n2 last2 node2 j (by simpa [words_size] using hj)); simp only [Act.put, List.setIfInBounds_toArray, List.set_cons_zero, List.set_cons_succ])
    | (refine take_pure (v := ?_) (by rfl) ?_ ?_; rotate_left; (· (intro w hSw; have q24 := Q24.out _ hSw; have q25 := Q25.out _ hSw; have q26 := Q26.out _ hSw; clear hSw; go_simp; try with_reducible rfl)); simp only [Act.put, List.setIfInBounds_toArray, List.set_cons_zero, List.set_cons_succ]))
  refine take_done ?_
  refine seg_sole 8 #[true, true, true, true, true, true, true, true, true, false, false, false, false] rfl (by kernel_rfl) ?_
  try simp only [List.getElem_toArray, List.getElem_cons_zero, List.getElem_cons_succ]
  go_wp2_with (refine own_alloc 5 (words 8 fun _ => 0) O rfl rfl rfl (fun _ => by kernel_rfl) ?_; clear O; intro W a5 O; simp only [Act.put, List.setIfInBounds_toArray, List.set_cons_zero, List.set_cons_succ])
  (first | refine back_intro2 (by first | exact O | exact O.drop_ 1) ?_ | refine back_intro (by first | exact O | exact O.drop_ 1) ?_)
  refine seg_sole 9 #[true, true, true, true, true, true, true, true, true, true, false, false, false] rfl (by kernel_rfl) ?_
  try simp only [List.getElem_toArray, List.getElem_cons_zero, List.getElem_cons_succ]
  go_wp2_with (refine own_store_row 0 (.tmp 5) (.tmp 13) O rfl rfl rfl rfl rfl rfl (by kernel_rfl) (by simp only [words_size]) (words_cell _ _) ?_; clear O; intro W O; simp only [List.set_cons_zero] at O)
  (first | refine back_intro2 (by first | exact O | exact O.drop_ 1) ?_ | refine back_intro (by first | exact O | exact O.drop_ 1) ?_)
  refine seg_take (fuel := 0) (L' := #[true, true, true, true, true, true, true, true, true, true, true, true, true]) (by kernel_rfl) (fun _ _ _ _ _ _ h => h) (by first | exact O | exact O.drop_ 1) [10, 11, 12] [_, _, _] _ _ rfl (by kernel_rfl) ?_
  simp only [List.getElem_toArray, List.getElem_cons_zero, List.getElem_cons_succ]
  repeat (first
    | (refine take_pure (v := ?_) (by rfl) ?_ ?_; rotate_left; (· (intro w hSw; have q24 := Q24.out _ hSw; have q25 := Q25.out _ hSw; have q26 := Q26.out _ hSw; clear hSw; go_simp; try with_reducible rfl)); simp only [Act.put, List.setIfInBounds_toArray, List.set_cons_zero, List.set_cons_succ]))
  refine take_done ?_
  refine seg_done (by kernel_rfl) ?_
  go_wp2_with (first
    | (go_at_call 32; refine (alive_any _).mono ?_; rintro e W ⟨rfl, K⟩; replace O := O.keeps K; clear K; have q24 : W.cell? ⟨a2, 24, none⟩ = some (U64 n) := ((O.get 2 rfl).cell 24).trans (runC_r H M n last node 0); have q25 : W.cell? ⟨a2, 25, none⟩ = some (.bool last) := ((O.get 2 rfl).cell 25).trans (runC_r H M n last node 1); have q26 : W.cell? ⟨a2, 26, none⟩ = some (.bool node) := ((O.get 2 rfl).cell 26).trans (runC_r H M n last node 2))
    | (refine own_load_part (part := words 8 H) 23 2 O rfl rfl rfl rfl rfl Try.underlying33 rfl (by kernel_rfl) ?_ ?_; (exact fun j hj => runC_H H M n last node j (by simpa [words_size] using hj)); simp only [Act.put, List.setIfInBounds_toArray, List.set_cons_zero, List.set_cons_succ])
    | (refine own_load_part (part := words 16 M) 25 2 O rfl rfl rfl rfl rfl Try.underlying23 rfl (by kernel_rfl) ?_ ?_; (exact fun j hj => runC_M H M n last node j (by simpa [words_size] using hj)); simp only [Act.put, List.setIfInBounds_toArray, List.set_cons_zero, List.set_cons_succ])
    | (go_at_call 30; (with_reducible refine Calls.mono (C1.out _) ?_); rintro e W ⟨K, g1, c1, cur1, rfl, hb1, B1, hn1, hx1, hs1, ht1⟩; replace O := O.fresh K hb1 B1; clear K B1 hb1; clear q24 q25 q26)
    | (refine own_load 33 1 O rfl rfl rfl rfl rfl Try.underlying33 rfl (by kernel_rfl) ?_; simp only [Act.put, List.setIfInBounds_toArray, List.set_cons_zero, List.set_cons_succ])
    | (refine own_load_part (part := words 16 M) 35 3 O rfl rfl rfl rfl rfl Try.underlying23 rfl (by kernel_rfl) ?_ ?_; (exact fun j hj => runC_M H M n last node j (by simpa [words_size] using hj)); simp only [Act.put, List.setIfInBounds_toArray, List.set_cons_zero, List.set_cons_succ])
    | (go_at_call 30; (with_reducible refine Calls.mono (C2.out _) ?_); rintro e W ⟨K, g2, c2, cur2, rfl, hb2, B2, hn2, hx2, hs2, ht2⟩; replace O := O.fresh K hb2 B2; clear K B2 hb2; have q24 : W.cell? ⟨a2, 24, none⟩ = some (U64 n) := ((O.get 4 rfl).cell 24).trans (runC_r H M n last node 0); have q25 : W.cell? ⟨a2, 25, none⟩ = some (.bool last) := ((O.get 4 rfl).cell 25).trans (runC_r H M n last node 1); have q26 : W.cell? ⟨a2, 26, none⟩ = some (.bool node) := ((O.get 4 rfl).cell 26).trans (runC_r H M n last node 2))
    | (refine own_load_part (part := words 8 H) 49 4 O rfl rfl rfl rfl rfl Try.underlying33 rfl (by kernel_rfl) ?_ ?_; (exact fun j hj => runC_H H M n last node j (by simpa [words_size] using hj)); simp only [Act.put, List.setIfInBounds_toArray, List.set_cons_zero, List.set_cons_succ])
    | (refine own_load 50 2 O rfl rfl rfl rfl rfl Try.underlying33 rfl (by kernel_rfl) ?_; simp only [Act.put, List.setIfInBounds_toArray, List.set_cons_zero, List.set_cons_succ]))
  clear q24 q25 q26
  have b1 := add_zero_ g1 160
  have b2 := add_zero_ g2 160
  have b3 := add_zero_ g1 80
  have b4 := add_zero_ g2 80
  refine wp_quiet_drawn (by kernel_rfl) (by kernel_rfl) ?_
  repeat (first
    | (refine wpQuiet_load_part (off := 160) (part := words 16 (F 10)) 72 rfl rfl rfl rfl (drawn_blk (O.get 1 rfl)) Try.underlying23 rfl (by kernel_rfl) ?_ ?_; (exact fun j hj => by rw [words_size] at hj; rw [show 160 + j = 16 * 10 + j from rfl, ht1 10 j (by omega) hj, words_get _ _ _ hj]); simp only [Act.put, List.setIfInBounds_toArray, List.set_cons_zero, List.set_cons_succ])
    | (refine wpQuiet_load_part (off := 160) (part := words 16 (G 10)) 75 rfl rfl rfl rfl (drawn_blk (O.get 0 rfl)) Try.underlying23 rfl (by kernel_rfl) ?_ ?_; (exact fun j hj => by rw [words_size] at hj; rw [show 160 + j = 16 * 10 + j from rfl, ht2 10 j (by omega) hj, words_get _ _ _ hj]); simp only [Act.put, List.setIfInBounds_toArray, List.set_cons_zero, List.set_cons_succ])
    | (refine wpQuiet_load_part (off := 80) (part := words 16 (F 5)) 82 rfl rfl rfl rfl (drawn_blk (O.get 1 rfl)) Try.underlying23 rfl (by kernel_rfl) ?_ ?_; (exact fun j hj => by rw [words_size] at hj; rw [show 80 + j = 16 * 5 + j from rfl, ht1 5 j (by omega) hj, words_get _ _ _ hj]); simp only [Act.put, List.setIfInBounds_toArray, List.set_cons_zero, List.set_cons_succ])
    | (refine wpQuiet_load_part (off := 80) (part := words 16 (G 5)) 85 rfl rfl rfl rfl (drawn_blk (O.get 0 rfl)) Try.underlying23 rfl (by kernel_rfl) ?_ ?_; (exact fun j hj => by rw [words_size] at hj; rw [show 80 + j = 16 * 5 + j from rfl, ht2 5 j (by omega) hj, words_get _ _ _ hj]); simp only [Act.put, List.setIfInBounds_toArray, List.set_cons_zero, List.set_cons_succ])
    | go_big_quiet_step (fail))
  refine wpQuiet_nil ?_
  intro _ hw
  obtain ⟨n0, rfl⟩ := hw
  replace O := O.drewN n0
  generalize World.drewN _ n0 = W at O ⊢
  go_wp2
  go_ret
  exact ⟨rfl, O.keep⟩

theorem unlike_walk (H M : Nat → BitVec 32) (n : BitVec 64) (last node : Bool) (H2 M2 : Nat → BitVec 32) (n2 : BitVec 64) (last2 node2 : Bool) (w : World) :
    Calls Try.prog 6 #[.agg (runC H M n last node), .agg (runC H2 M2 n2 last2 node2)] w fun e w' => e = .returned (.bool true) ∧ Keeps w w' [] := by
  cases h1 : eqW 8 H H2 with
  | false => exact unlike_walk0 H M n last node H2 M2 n2 last2 node2 w h1
  | true =>
    cases h2 : n == n2 with
    | false => exact unlike_walk1 H M n last node H2 M2 n2 last2 node2 w h1 h2
    | true =>
      cases h3 : last == last2 with
      | false => exact unlike_walk2 H M n last node H2 M2 n2 last2 node2 w h1 h2 h3
      | true =>
        cases h4 : node == node2 with
        | false => exact unlike_walk3 H M n last node H2 M2 n2 last2 node2 w h1 h2 h3 h4
        | true => exact unlike_walk4 H M n last node H2 M2 n2 last2 node2 w h1 h2 h3 h4

set_option maxRecDepth 100000 in
theorem unlike_lifted (os : Os) (started : os.Started) (H : Type) (enc : TypeId × Value → H) :
    ReturnsInHanded {} Try.checked os 6 .any (Rows.mixsUnlikeSpec.pre6 enc Try.prog Try.f6 Rows.mixsUnlikeRow.domain false) (Rows.mixsUnlikeSpec.post enc Try.prog Try.f6 false true false false) := by
  refine law_lifted (C := Try.checked) own started (by kernel_rfl) Try.func6 rfl (fun ds h => ?_) rfl Try.underlying4 laid ?_
    (ChangeSpec.witness6 (enc := enc) (C := Try.checked) false ⟨#[], #[.agg #[.int .u32 0, .int .u32 0, .int .u32 0, .int .u32 0, .int .u32 0, .int .u32 0, .int .u32 0, .int .u32 0, .int .u32 0, .int .u32 0, .int .u32 0, .int .u32 0, .int .u32 0, .int .u32 0, .int .u32 0, .int .u32 0, .int .u32 0, .int .u32 0, .int .u32 0, .int .u32 0, .int .u32 0, .int .u32 0, .int .u32 0, .int .u32 0, .int .u64 0, .bool false, .bool false], .agg #[.int .u32 0, .int .u32 0, .int .u32 0, .int .u32 0, .int .u32 0, .int .u32 0, .int .u32 0, .int .u32 0, .int .u32 0, .int .u32 0, .int .u32 0, .int .u32 0, .int .u32 0, .int .u32 0, .int .u32 0, .int .u32 0, .int .u32 0, .int .u32 0, .int .u32 0, .int .u32 0, .int .u32 0, .int .u32 0, .int .u32 0, .int .u32 0, .int .u64 0, .bool false, .bool false]], []⟩ 8 (by kernel_rfl) (by kernel_rfl) (by kernel_rfl) (by kernel_rfl)) ?_
  · match ds, h with
    | [d0, d1], _ => exact ⟨rfl, rfl, rfl⟩
  · intro t ht
    have ht' : t ∈ ([48, 48] : List TypeId) := ht
    simp only [List.mem_cons, List.not_mem_nil, or_false] at ht'
    rcases ht' with rfl | rfl
    all_goals exact ⟨by kernel_rfl, of_decide_eq_true (by kernel_rfl)⟩
  · intro W base args ds ps hval hA hlt hfz hsz
    have hA' : DataW.TrodAll enc Try.prog W 0 (fun _ => true) true [48, 48] args.toList ds ps := hA
    clear hA
    obtain ⟨v0, v1, d0, d1, p0, p1, hargs, rfl, rfl, h0, h1⟩ := trodAll_two hA'
    obtain rfl : args = #[v0, v1] := by cases args; simp_all
    obtain ⟨H, M, n, last, node, rfl⟩ := open_run (hval 0 48 v0 rfl rfl)
    obtain ⟨H2, M2, n2, last2, node2, rfl⟩ := open_run (hval 1 48 v1 rfl rfl)
    exact (unlike_walk H M n last node H2 M2 n2 last2 node2 W).mono fun e W' ⟨he, hk⟩ => ⟨he, hk.below⟩

theorem unlike_holds : Rows.MixsUnlikeSaid :=
  OpenClaim.holds_of_wide 6 Try.f6 rfl rfl rfl rfl rfl rfl rfl ⟨rfl, rfl, rfl, rfl, rfl⟩ rfl rfl rfl rfl rfl (by kernel_rfl) Try.func6 (by kernel_rfl)
    (of_decide_eq_true (by kernel_rfl)) (by unfold Func.isWrapper; rw [if_neg (of_decide_eq_false (by kernel_rfl))]; exact ⟨rfl, rfl⟩)
    (fun os started H enc _ => unlike_lifted os started H enc)
end Go.Proofs.Ytanibkocihjgjaa
