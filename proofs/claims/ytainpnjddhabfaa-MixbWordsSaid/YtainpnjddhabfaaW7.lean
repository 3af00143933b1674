/-
  The reference's state ahead of the rounds.
-/
import Derived.Test.YtainpnjddhabfaaW6
namespace Go.Proofs.Ytainpnjddhabfaa
open Go.RowKit

def fill (H : Nat → BitVec 64) (k : Nat) : Nat → BitVec 64 := fun i => if i < k then H i else if 8 ≤ i ∧ i < 8 + k then ivV (i - 8) else 0
theorem fill_step (H : Nat → BitVec 64) (k : Nat) (hk : k < 8) (i : Nat) : upd (upd (fill H k) k (H k)) (k + 8) (ivV k) i = fill H (k + 1) i := by
  unfold upd fill
  by_cases h1 : i = k + 8
  · rw [if_pos h1, if_neg (by omega), if_pos (by omega), show i - 8 = k from by omega]
  · rw [if_neg h1]
    by_cases h2 : i = k
    · rw [if_pos h2, if_pos (by omega), h2]
    · rw [if_neg h2]
      by_cases h3 : i < k
      · rw [if_pos h3, if_pos (by omega)]
      · rw [if_neg h3, if_neg (by omega : ¬ i < k + 1)]
        by_cases h4 : 8 ≤ i ∧ i < 8 + k
        · rw [if_pos h4, if_pos (by omega)]
        · rw [if_neg h4, if_neg (by omega)]

set_option maxHeartbeats 2000000 in
theorem refinit_any (H : Nat → BitVec 64) (lo hi : BitVec 64) (last node : Bool) (w : World) :
    Calls Try.prog 18 #[.agg (words 8 H), U64 lo, U64 hi, .bool last, .bool node] w fun e w' => e = .returned (.agg (words 16 (initV H lo hi last node))) ∧ Keeps w w' [] := by
  have O := Own.start w []
  go_enter Try.func18, Try.ntmps18
  go_wp2_with (first
    | (refine own_box 5 (words 8 H) O rfl rfl rfl rfl ?_; clear O; intro W a0 O; simp only [Act.put, List.setIfInBounds_toArray, List.set_cons_zero, List.set_cons_succ])
    | (refine own_alloc 10 (words 16 fun _ => 0) O rfl rfl rfl (fun _ => by kernel_rfl) ?_; clear O; intro W a1 O; simp only [Act.put, List.setIfInBounds_toArray, List.set_cons_zero, List.set_cons_succ])
    | (refine own_alloc 11 (words 16 fun _ => 0) O rfl rfl rfl (fun _ => by kernel_rfl) ?_; clear O; intro W a2 O; simp only [Act.put, List.setIfInBounds_toArray, List.set_cons_zero, List.set_cons_succ]))
  rename_i W0
  go_loopw [12] (fun i wr => ∃ k : Nat, k ≤ 8 ∧ i = .int .i64 k ∧ Own w wr [] [(a2, 33, words 16 (fill H k)), (a1, 33, words 16 fun _ => 0), (a0, 23, words 8 H)]) (fun i _ => 8 - (intOf i).toNat)
  case atStart => exact ⟨0, by omega, rfl, O.put 0 rfl (words_congr fun i hi => by unfold fill; rw [if_neg (by omega), if_neg (by omega)])⟩
  case round =>
    obtain ⟨k, hk, rfl, O⟩ := hrel
    have c0 := (O.get 2 rfl).cell
    by_cases hlt : k < 8
    · have g1 : ((k : Int)) < 8 := by omega
      have z0 : ((k : Int) + 8).toNat = k + 8 := by omega
      go_wp2_with (first
        | (refine own_store 0 k (U64 (H k)) (.tmp 21) (.tmp 20) O rfl rfl rfl rfl rfl rfl (by simp only [words_size]; omega) rfl rfl (by kernel_rfl) (words_set 16 _ k _) ?_; clear O; intro W O; simp only [List.set_cons_zero, List.set_cons_succ] at O)
        | (go_at_call 13; refine (refiv_any k hlt _).mono ?_; rintro e W ⟨rfl, K⟩; replace O := O.keeps K; clear K)
        | (refine own_store 0 (k + 8) (U64 (ivV k)) (.tmp 26) (.tmp 25) O rfl rfl rfl rfl rfl rfl (by simp only [words_size]; omega) rfl rfl (by kernel_rfl) (words_set 16 _ (k + 8) _) ?_; clear O; intro W O; simp only [List.set_cons_zero, List.set_cons_succ] at O))
      go_roundw
      case rel => exact ⟨k + 1, by omega, by go_num, O.put 0 rfl (words_congr fun i _ => fill_step H k hlt i)⟩
      case measure => simp [intOf]; omega
    · obtain rfl : k = 8 := by omega
      clear c0
      have c3 := (O.get 0 rfl).cell
      generalize hV0 : fill H 8 = V0 at O c3
      have HV0 := Lib.hid hV0
      clear hV0
      cases last <;> cases node
      · go_wp2_with (first
          | (refine own_store 0 12 (U64 (V0 12 ^^^ lo)) (.tmp 31) (.tmp 30) O rfl rfl rfl rfl rfl rfl (by simp only [words_size]; omega) rfl rfl (by kernel_rfl) (words_set 16 _ 12 _) ?_; clear O; intro W O; simp only [List.set_cons_zero, List.set_cons_succ] at O; clear c3; generalize hV : upd V0 12 _ = V1 at O; have HV1 := Lib.hid hV; clear hV; have c3 := (O.get 0 rfl).cell)
          | (refine own_store 0 13 (U64 (V1 13 ^^^ hi)) (.tmp 36) (.tmp 35) O rfl rfl rfl rfl rfl rfl (by simp only [words_size]; omega) rfl rfl (by kernel_rfl) (words_set 16 _ 13 _) ?_; clear O; intro W O; simp only [List.set_cons_zero, List.set_cons_succ] at O; clear c3; generalize hV : upd V1 13 _ = V2 at O; have HV2 := Lib.hid hV; clear hV; have c3 := (O.get 0 rfl).cell)
          | (refine own_load 47 0 O rfl rfl rfl rfl rfl Try.underlying33 rfl (by kernel_rfl) ?_; simp only [Act.put, List.setIfInBounds_toArray, List.set_cons_zero, List.set_cons_succ])
          | (refine own_store_row 1 (.tmp 10) (.tmp 47) O rfl rfl rfl rfl rfl rfl (by kernel_rfl) (by simp only [words_size]) (words_cell _ _) ?_; clear O; intro W O; simp only [List.set_cons_zero, List.set_cons_succ] at O))
        refine bodyPost_ret (v := .agg (words 16 V2)) (results_cell_row rfl _ _ a1 33 _ (0, 0) _ rfl (O.get 1 rfl) Try.underlying33 rfl (by kernel_rfl)) rfl ⟨?_, O.keep⟩
        rw [words_congr (V' := initV H lo hi false false) ?_]
        rw [← HV2.out, ← HV1.out, ← HV0.out]
        apply cases16 <;> rfl
      · go_wp2_with (first
          | (refine own_store 0 12 (U64 (V0 12 ^^^ lo)) (.tmp 31) (.tmp 30) O rfl rfl rfl rfl rfl rfl (by simp only [words_size]; omega) rfl rfl (by kernel_rfl) (words_set 16 _ 12 _) ?_; clear O; intro W O; simp only [List.set_cons_zero, List.set_cons_succ] at O; clear c3; generalize hV : upd V0 12 _ = V1 at O; have HV1 := Lib.hid hV; clear hV; have c3 := (O.get 0 rfl).cell)
          | (refine own_store 0 13 (U64 (V1 13 ^^^ hi)) (.tmp 36) (.tmp 35) O rfl rfl rfl rfl rfl rfl (by simp only [words_size]; omega) rfl rfl (by kernel_rfl) (words_set 16 _ 13 _) ?_; clear O; intro W O; simp only [List.set_cons_zero, List.set_cons_succ] at O; clear c3; generalize hV : upd V1 13 _ = V2 at O; have HV2 := Lib.hid hV; clear hV; have c3 := (O.get 0 rfl).cell)
          | (refine own_store 0 15 (U64 (~~~ V2 15)) (.tmp 46) (.tmp 45) O rfl rfl rfl rfl rfl rfl (by simp only [words_size]; omega) rfl rfl (by kernel_rfl) (words_set 16 _ 15 _) ?_; clear O; intro W O; simp only [List.set_cons_zero, List.set_cons_succ] at O; clear c3; generalize hV : upd V2 15 _ = V4 at O; have HV4 := Lib.hid hV; clear hV; have c3 := (O.get 0 rfl).cell)
          | (refine own_load 47 0 O rfl rfl rfl rfl rfl Try.underlying33 rfl (by kernel_rfl) ?_; simp only [Act.put, List.setIfInBounds_toArray, List.set_cons_zero, List.set_cons_succ])
          | (refine own_store_row 1 (.tmp 10) (.tmp 47) O rfl rfl rfl rfl rfl rfl (by kernel_rfl) (by simp only [words_size]) (words_cell _ _) ?_; clear O; intro W O; simp only [List.set_cons_zero, List.set_cons_succ] at O))
        refine bodyPost_ret (v := .agg (words 16 V4)) (results_cell_row rfl _ _ a1 33 _ (0, 0) _ rfl (O.get 1 rfl) Try.underlying33 rfl (by kernel_rfl)) rfl ⟨?_, O.keep⟩
        rw [words_congr (V' := initV H lo hi false true) ?_]
        rw [← HV4.out, ← HV2.out, ← HV1.out, ← HV0.out]
        apply cases16 <;> rfl
      · go_wp2_with (first
          | (refine own_store 0 12 (U64 (V0 12 ^^^ lo)) (.tmp 31) (.tmp 30) O rfl rfl rfl rfl rfl rfl (by simp only [words_size]; omega) rfl rfl (by kernel_rfl) (words_set 16 _ 12 _) ?_; clear O; intro W O; simp only [List.set_cons_zero, List.set_cons_succ] at O; clear c3; generalize hV : upd V0 12 _ = V1 at O; have HV1 := Lib.hid hV; clear hV; have c3 := (O.get 0 rfl).cell)
          | (refine own_store 0 13 (U64 (V1 13 ^^^ hi)) (.tmp 36) (.tmp 35) O rfl rfl rfl rfl rfl rfl (by simp only [words_size]; omega) rfl rfl (by kernel_rfl) (words_set 16 _ 13 _) ?_; clear O; intro W O; simp only [List.set_cons_zero, List.set_cons_succ] at O; clear c3; generalize hV : upd V1 13 _ = V2 at O; have HV2 := Lib.hid hV; clear hV; have c3 := (O.get 0 rfl).cell)
          | (refine own_store 0 14 (U64 (~~~ V2 14)) (.tmp 41) (.tmp 40) O rfl rfl rfl rfl rfl rfl (by simp only [words_size]; omega) rfl rfl (by kernel_rfl) (words_set 16 _ 14 _) ?_; clear O; intro W O; simp only [List.set_cons_zero, List.set_cons_succ] at O; clear c3; generalize hV : upd V2 14 _ = V3 at O; have HV3 := Lib.hid hV; clear hV; have c3 := (O.get 0 rfl).cell)
          | (refine own_load 47 0 O rfl rfl rfl rfl rfl Try.underlying33 rfl (by kernel_rfl) ?_; simp only [Act.put, List.setIfInBounds_toArray, List.set_cons_zero, List.set_cons_succ])
          | (refine own_store_row 1 (.tmp 10) (.tmp 47) O rfl rfl rfl rfl rfl rfl (by kernel_rfl) (by simp only [words_size]) (words_cell _ _) ?_; clear O; intro W O; simp only [List.set_cons_zero, List.set_cons_succ] at O))
        refine bodyPost_ret (v := .agg (words 16 V3)) (results_cell_row rfl _ _ a1 33 _ (0, 0) _ rfl (O.get 1 rfl) Try.underlying33 rfl (by kernel_rfl)) rfl ⟨?_, O.keep⟩
        rw [words_congr (V' := initV H lo hi true false) ?_]
        rw [← HV3.out, ← HV2.out, ← HV1.out, ← HV0.out]
        apply cases16 <;> rfl
      · go_wp2_with (first
          | (refine own_store 0 12 (U64 (V0 12 ^^^ lo)) (.tmp 31) (.tmp 30) O rfl rfl rfl rfl rfl rfl (by simp only [words_size]; omega) rfl rfl (by kernel_rfl) (words_set 16 _ 12 _) ?_; clear O; intro W O; simp only [List.set_cons_zero, List.set_cons_succ] at O; clear c3; generalize hV : upd V0 12 _ = V1 at O; have HV1 := Lib.hid hV; clear hV; have c3 := (O.get 0 rfl).cell)
          | (refine own_store 0 13 (U64 (V1 13 ^^^ hi)) (.tmp 36) (.tmp 35) O rfl rfl rfl rfl rfl rfl (by simp only [words_size]; omega) rfl rfl (by kernel_rfl) (words_set 16 _ 13 _) ?_; clear O; intro W O; simp only [List.set_cons_zero, List.set_cons_succ] at O; clear c3; generalize hV : upd V1 13 _ = V2 at O; have HV2 := Lib.hid hV; clear hV; have c3 := (O.get 0 rfl).cell)
          | (refine own_store 0 14 (U64 (~~~ V2 14)) (.tmp 41) (.tmp 40) O rfl rfl rfl rfl rfl rfl (by simp only [words_size]; omega) rfl rfl (by kernel_rfl) (words_set 16 _ 14 _) ?_; clear O; intro W O; simp only [List.set_cons_zero, List.set_cons_succ] at O; clear c3; generalize hV : upd V2 14 _ = V3 at O; have HV3 := Lib.hid hV; clear hV; have c3 := (O.get 0 rfl).cell)
          | (refine own_store 0 15 (U64 (~~~ V3 15)) (.tmp 46) (.tmp 45) O rfl rfl rfl rfl rfl rfl (by simp only [words_size]; omega) rfl rfl (by kernel_rfl) (words_set 16 _ 15 _) ?_; clear O; intro W O; simp only [List.set_cons_zero, List.set_cons_succ] at O; clear c3; generalize hV : upd V3 15 _ = V4 at O; have HV4 := Lib.hid hV; clear hV; have c3 := (O.get 0 rfl).cell)
          | (refine own_load 47 0 O rfl rfl rfl rfl rfl Try.underlying33 rfl (by kernel_rfl) ?_; simp only [Act.put, List.setIfInBounds_toArray, List.set_cons_zero, List.set_cons_succ])
          | (refine own_store_row 1 (.tmp 10) (.tmp 47) O rfl rfl rfl rfl rfl rfl (by kernel_rfl) (by simp only [words_size]) (words_cell _ _) ?_; clear O; intro W O; simp only [List.set_cons_zero, List.set_cons_succ] at O))
        refine bodyPost_ret (v := .agg (words 16 V4)) (results_cell_row rfl _ _ a1 33 _ (0, 0) _ rfl (O.get 1 rfl) Try.underlying33 rfl (by kernel_rfl)) rfl ⟨?_, O.keep⟩
        rw [words_congr (V' := initV H lo hi true true) ?_]
        rw [← HV4.out, ← HV3.out, ← HV2.out, ← HV1.out, ← HV0.out]
        apply cases16 <;> rfl
end Go.Proofs.Ytainpnjddhabfaa
