/-
  Round and Back of the reference.
-/
import Derived.Test.YtainpnjddhabfaaW12
import Derived.Test.YtainpnjddhabfaaTail2
namespace Go.Proofs.Ytainpnjddhabfaa
open Go.RowKit

theorem refg_ints (f : Nat → Nat) (x y : BitVec 64) (V : Nat → BitVec 64) (w : World) (hf : ∀ i, i < 4 → f i < 16) (n01 : f 0 ≠ f 1) (n02 : f 0 ≠ f 2) (n03 : f 0 ≠ f 3) (n12 : f 1 ≠ f 2) (n13 : f 1 ≠ f 3) (n23 : f 2 ≠ f 3) :
    Calls Try.prog 20 #[.agg (words 16 V), .int .i64 (f 0 : Nat), .int .i64 (f 1 : Nat), .int .i64 (f 2 : Nat), .int .i64 (f 3 : Nat), U64 x, U64 y] w fun e w' => e = .returned (.tuple #[.agg (words 16 (stepB V (f 0) (f 1) (f 2) (f 3) x y)), .int .i64 0]) ∧ Keeps w w' [] :=
  refg_good V (f 0) (f 1) (f 2) (f 3) x y (hf 0 (by omega)) (hf 1 (by omega)) (hf 2 (by omega)) (hf 3 (by omega)) n01 n02 n03 n12 n13 n23 w
theorem pl_ne (k : Nat) (hk : k < 8) : pl k 0 ≠ pl k 1 ∧ pl k 0 ≠ pl k 2 ∧ pl k 0 ≠ pl k 3 ∧ pl k 1 ≠ pl k 2 ∧ pl k 1 ≠ pl k 3 ∧ pl k 2 ≠ pl k 3 := by
  have h : ∀ k : Fin 8, pl k.1 0 ≠ pl k.1 1 ∧ pl k.1 0 ≠ pl k.1 2 ∧ pl k.1 0 ≠ pl k.1 3 ∧ pl k.1 1 ≠ pl k.1 2 ∧ pl k.1 1 ≠ pl k.1 3 ∧ pl k.1 2 ≠ pl k.1 3 := by decide +kernel
  exact h ⟨k, hk⟩
theorem sigref_at (r i : Int) (n : Nat) (hn : i = n) (h : n < 16) (w : World) : Calls Try.prog 15 #[.int .i64 r, .int .i64 i] w fun e w' => e = .returned (.int .i64 (sig (row r) n : Nat)) ∧ w = w' := by
  subst hn
  exact sigref_any r n h w

theorem refround_bad0 (V M : Nat → BitVec 64) (r : Int) (h : r < 0) (w : World) :
    Calls Try.prog 32 #[.agg (words 16 V), .agg (words 16 M), .int .i64 r] w fun e w' => e = .returned (.tuple #[.agg (words 16 (rSt V M r)), .int .i64 (rEr r)]) ∧ Keeps w w' [] := by
  have O := Own.start w []
  have HE := Lib.hid (show (rSt V M r, rEr r) = ((fun _ => 0 : Nat → BitVec 64), (1 : Int)) by unfold rSt rEr; rw [rOk_bad (by omega)]; rfl)
  go_enter Try.func32, Try.ntmps32
  go_wp2_with (first
    | (refine own_box 3 (words 16 V) O rfl rfl rfl rfl ?_; clear O; intro W a3 O; simp only [Act.put, List.setIfInBounds_toArray, List.set_cons_zero, List.set_cons_succ])
    | (refine own_box 4 (words 16 M) O rfl rfl rfl rfl ?_; clear O; intro W a4 O; simp only [Act.put, List.setIfInBounds_toArray, List.set_cons_zero, List.set_cons_succ])
    | (refine own_alloc 6 (words 16 fun _ => 0) O rfl rfl rfl (fun _ => by kernel_rfl) ?_; clear O; intro W a6 O; simp only [Act.put, List.setIfInBounds_toArray, List.set_cons_zero, List.set_cons_succ])
    | (refine wpList_const 16 (.agg (words 16 fun _ => 0)) rfl rfl (fun _ => by kernel_rfl) ?_; simp only [Act.put, List.setIfInBounds_toArray, List.set_cons_zero, List.set_cons_succ])
    | (refine own_store_row 0 (.tmp 6) (.tmp 16) O rfl rfl rfl rfl rfl rfl (by kernel_rfl) (by simp only [words_size]) (words_cell _ _) ?_; clear O; intro W O; simp only [List.set_cons_zero, List.set_cons_succ] at O))
  refine bodyPost_ret (v := .tuple #[.agg (words 16 fun _ => 0), .int .i64 1]) (results_cell_tmp rfl _ _ a6 33 _ _ rfl (O.get 0 rfl) Try.underlying33 rfl (by kernel_rfl) _ rfl) rfl ⟨?_, O.keep⟩
  rw [show rSt V M r = fun _ => 0 from congrArg Prod.fst HE.out, show rEr r = 1 from congrArg Prod.snd HE.out]

theorem refround_bad1 (V M : Nat → BitVec 64) (r : Int) (h : 11 < r) (w : World) :
    Calls Try.prog 32 #[.agg (words 16 V), .agg (words 16 M), .int .i64 r] w fun e w' => e = .returned (.tuple #[.agg (words 16 (rSt V M r)), .int .i64 (rEr r)]) ∧ Keeps w w' [] := by
  have O := Own.start w []
  have HE := Lib.hid (show (rSt V M r, rEr r) = ((fun _ => 0 : Nat → BitVec 64), (1 : Int)) by unfold rSt rEr; rw [rOk_bad (by omega)]; rfl)
  have h0 : ¬ r < 0 := by omega
  go_enter Try.func32, Try.ntmps32
  go_wp2_with (first
    | (refine own_box 3 (words 16 V) O rfl rfl rfl rfl ?_; clear O; intro W a3 O; simp only [Act.put, List.setIfInBounds_toArray, List.set_cons_zero, List.set_cons_succ])
    | (refine own_box 4 (words 16 M) O rfl rfl rfl rfl ?_; clear O; intro W a4 O; simp only [Act.put, List.setIfInBounds_toArray, List.set_cons_zero, List.set_cons_succ])
    | (refine own_alloc 6 (words 16 fun _ => 0) O rfl rfl rfl (fun _ => by kernel_rfl) ?_; clear O; intro W a6 O; simp only [Act.put, List.setIfInBounds_toArray, List.set_cons_zero, List.set_cons_succ])
    | (refine wpList_const 16 (.agg (words 16 fun _ => 0)) rfl rfl (fun _ => by kernel_rfl) ?_; simp only [Act.put, List.setIfInBounds_toArray, List.set_cons_zero, List.set_cons_succ])
    | (refine own_store_row 0 (.tmp 6) (.tmp 16) O rfl rfl rfl rfl rfl rfl (by kernel_rfl) (by simp only [words_size]) (words_cell _ _) ?_; clear O; intro W O; simp only [List.set_cons_zero, List.set_cons_succ] at O))
  refine bodyPost_ret (v := .tuple #[.agg (words 16 fun _ => 0), .int .i64 1]) (results_cell_tmp rfl _ _ a6 33 _ _ rfl (O.get 0 rfl) Try.underlying33 rfl (by kernel_rfl) _ rfl) rfl ⟨?_, O.keep⟩
  rw [show rSt V M r = fun _ => 0 from congrArg Prod.fst HE.out, show rEr r = 1 from congrArg Prod.snd HE.out]

set_option maxHeartbeats 1000000 in
theorem refround_good (V M : Nat → BitVec 64) (r : Int) (h0 : 0 ≤ r) (h1 : r ≤ 11) (w : World) :
    Calls Try.prog 32 #[.agg (words 16 V), .agg (words 16 M), .int .i64 r] w fun e w' => e = .returned (.tuple #[.agg (words 16 (rSt V M r)), .int .i64 (rEr r)]) ∧ Keeps w w' [] := by
  have O := Own.start w []
  have HE := Lib.hid (show (rSt V M r, rEr r) = (roundB V M (row r), (0 : Int)) by unfold rSt rEr; rw [rOk_good ⟨h0, h1⟩]; rfl)
  have h2 : ¬ r < 0 := by omega
  have h3 : ¬ 11 < r := by omega
  have hq := row_lt r
  go_enter Try.func32, Try.ntmps32
  go_wp2_with (first
    | (refine own_box 3 (words 16 V) O rfl rfl rfl rfl ?_; clear O; intro W a3 O; simp only [Act.put, List.setIfInBounds_toArray, List.set_cons_zero, List.set_cons_succ])
    | (refine own_box 4 (words 16 M) O rfl rfl rfl rfl ?_; clear O; intro W a4 O; simp only [Act.put, List.setIfInBounds_toArray, List.set_cons_zero, List.set_cons_succ])
    | (refine own_alloc 6 (words 16 fun _ => 0) O rfl rfl rfl (fun _ => by kernel_rfl) ?_; clear O; intro W a6 O; simp only [Act.put, List.setIfInBounds_toArray, List.set_cons_zero, List.set_cons_succ]))
  go_loopw [8] (fun i wr => ∃ k : Nat, k ≤ 8 ∧ i = .int .i64 k ∧ Own w wr [] [(a6, 33, words 16 fun _ => 0), (a4, 33, words 16 M), (a3, 33, words 16 (rndK M (row r) V k))]) (fun i _ => 8 - (intOf i).toNat)
  case atStart => exact ⟨0, by omega, rfl, O⟩
  case round =>
    obtain ⟨k, hk, rfl, O⟩ := hrel
    by_cases hlt : k < 8
    · have g1 : ((k : Int)) < 8 := by omega
      obtain ⟨p1, p2, p3, p4, p5, p6⟩ := pl_ne k hlt
      have s0 := sig_lt (row r) (2 * k) hq (by omega)
      have s1 := sig_lt (row r) (2 * k + 1) hq (by omega)
      have m1 : IntKind.i64.wrap (2 * (k : Int)) = 2 * k := IntWalk.i64_in _ (by omega)
      have m2 : IntKind.i64.wrap (2 * (k : Int) + 1) = 2 * k + 1 := IntWalk.i64_in _ (by omega)
      have m3 : (0 : Int) ≤ 2 * k := by omega
      have m4 : (2 * (k : Int)).toNat = 2 * k := by omega
      have m5 : (2 * (k : Int) + 1).toNat = 2 * k + 1 := by omega
      have m6 : 2 * (k : Int) < 16 := by omega
      have m9 : 2 * k < 16 := by omega
      have m10 : 2 * k + 1 < 16 := by omega
      have m7 : 2 * (k : Int) + 1 < 16 := by omega
      have m8 : (0 : Int) ≤ 2 * k + 1 := by omega
      have HM := Lib.hid (And.intro m1 (And.intro m2 (And.intro m4 m5)))
      clear m1 m2 m4 m5
      go_wp2_with (first
        | (go_at_call 47; refine (refplaces_any k hlt _).mono ?_; rintro e W ⟨rfl, K⟩; replace O := O.keeps K; clear K)
        | (refine own_alloc 9 (ints 4 fun _ => 0) O rfl rfl rfl (fun _ => by kernel_rfl) ?_; clear O; intro W a9 O; simp only [Act.put, List.setIfInBounds_toArray, List.set_cons_zero, List.set_cons_succ])
        | (refine own_store_row 0 (.tmp 9) (.tmp 22) O rfl rfl rfl rfl rfl rfl (by kernel_rfl) (by simp only [ints_size]) (ints_cell _ _) ?_; clear O; intro W O; simp only [List.set_cons_zero, List.set_cons_succ] at O))
      obtain ⟨m1, m2, m4, m5⟩ := HM.out
      have c9 := Later.cell (O.get 0 rfl)
      have cM := Later.cell (O.get 2 rfl)
      refine wp_quiet_any (C := fun u => ∃ p : Later W, u = p.1) 24 #[true, true, true, true, true, true, true, true, true, true, true, true, true, true, true, true, true, true, true, true, true, true, true, true, false, false, false] (by kernel_rfl) (by kernel_rfl) ⟨⟨W.drew, (Keeps.refl W []).drew⟩, rfl⟩ ?_
      simp only [List.take, List.drop]
      repeat (first
        | (refine wpQuiet_load 24 rfl rfl rfl rfl (Later.blk (O.get 3 rfl)) Try.underlying33 rfl (by kernel_rfl) ?_; simp only [Act.put, List.setIfInBounds_toArray, List.set_cons_zero, List.set_cons_succ])
        | go_big_quiet_step (first | (go_at_call 15; first | exact later_left (sigref_at _ _ (2 * k) (by omega) m9 _) | exact later_left (sigref_at _ _ (2 * k + 1) (by omega) m10 _)) | (go_at_call 20; exact later_of (refg_ints (pl k) _ _ _ _ (fun i hi => pl_lt k i hlt hi) p1 p2 p3 p4 p5 p6))))
      refine wpQuiet_nil ?_
      intro _ hw
      obtain ⟨p, rfl⟩ := hw
      replace O := O.keeps p.2
      clear c9 cM m1 m2 m4 m5
      generalize p.1 = W at O ⊢
      refine wpAny_take (i := 24) (v := .agg (words 16 (rndK M (row r) V (k + 1)))) rfl (by kernel_rfl) (by kernel_rfl) (by kernel_rfl) (fun _ _ _ h => h) (Or.inl ⟨by rfl, fun w => by go_simp; try rfl⟩) ?_
      simp only [Act.put, List.setIfInBounds_toArray, List.set_cons_zero, List.set_cons_succ]
      refine wpAny_take (i := 25) (v := .int .i64 0) rfl (by kernel_rfl) (by kernel_rfl) (by kernel_rfl) (fun _ _ _ h => h) (Or.inl ⟨by rfl, fun w => by go_simp; try rfl⟩) ?_
      simp only [Act.put, List.setIfInBounds_toArray, List.set_cons_zero, List.set_cons_succ]
      refine wpAny_last [_] 26 rfl (by kernel_rfl) ?_
      go_wp2_with (refine own_store_row 3 (.tmp 3) (.tmp 47) O rfl rfl rfl rfl rfl rfl (by kernel_rfl) (by simp only [words_size]) (words_cell _ _) ?_; clear O; intro W O; simp only [List.set_cons_zero, List.set_cons_succ] at O)
      go_roundw
      case rel => exact ⟨k + 1, by omega, by go_num, O.drop_ 1⟩
      case measure => (simp [intOf] <;> omega)
    · obtain rfl : k = 8 := by omega
      go_wp2_with (first
        | (refine own_load 49 2 O rfl rfl rfl rfl rfl Try.underlying33 rfl (by kernel_rfl) ?_; simp only [Act.put, List.setIfInBounds_toArray, List.set_cons_zero, List.set_cons_succ])
        | (refine own_store_row 0 (.tmp 6) (.tmp 49) O rfl rfl rfl rfl rfl rfl (by kernel_rfl) (by simp only [words_size]) (words_cell _ _) ?_; clear O; intro W O; simp only [List.set_cons_zero, List.set_cons_succ] at O))
      refine bodyPost_ret (v := .tuple #[.agg (words 16 (roundB V M (row r))), .int .i64 0]) (results_cell_tmp rfl _ _ a6 33 _ _ rfl (O.get 0 rfl) Try.underlying33 rfl (by kernel_rfl) _ rfl) rfl ⟨?_, O.keep⟩
      rw [show rSt V M r = roundB V M (row r) from congrArg Prod.fst HE.out, show rEr r = 0 from congrArg Prod.snd HE.out]

theorem refround_any (V M : Nat → BitVec 64) (r : Int) (w : World) :
    Calls Try.prog 32 #[.agg (words 16 V), .agg (words 16 M), .int .i64 r] w fun e w' => e = .returned (.tuple #[.agg (words 16 (rSt V M r)), .int .i64 (rEr r)]) ∧ Keeps w w' [] := by
  by_cases h0 : r < 0
  · exact refround_bad0 V M r h0 w
  · by_cases h1 : 11 < r
    · exact refround_bad1 V M r h1 w
    · exact refround_good V M r (by omega) (by omega) w

theorem refbback_bad0 (V M : Nat → BitVec 64) (r : Int) (h : r < 0) (w : World) :
    Calls Try.prog 33 #[.agg (words 16 V), .agg (words 16 M), .int .i64 r] w fun e w' => e = .returned (.tuple #[.agg (words 16 (bSt V M r)), .int .i64 (rEr r)]) ∧ Keeps w w' [] := by
  have O := Own.start w []
  have HE := Lib.hid (show (bSt V M r, rEr r) = ((fun _ => 0 : Nat → BitVec 64), (1 : Int)) by unfold bSt rEr; rw [rOk_bad (by omega)]; rfl)
  go_enter Try.func33, Try.ntmps33
  go_wp2_with (first
    | (refine own_box 3 (words 16 V) O rfl rfl rfl rfl ?_; clear O; intro W a3 O; simp only [Act.put, List.setIfInBounds_toArray, List.set_cons_zero, List.set_cons_succ])
    | (refine own_box 4 (words 16 M) O rfl rfl rfl rfl ?_; clear O; intro W a4 O; simp only [Act.put, List.setIfInBounds_toArray, List.set_cons_zero, List.set_cons_succ])
    | (refine own_alloc 6 (words 16 fun _ => 0) O rfl rfl rfl (fun _ => by kernel_rfl) ?_; clear O; intro W a6 O; simp only [Act.put, List.setIfInBounds_toArray, List.set_cons_zero, List.set_cons_succ])
    | (refine wpList_const 16 (.agg (words 16 fun _ => 0)) rfl rfl (fun _ => by kernel_rfl) ?_; simp only [Act.put, List.setIfInBounds_toArray, List.set_cons_zero, List.set_cons_succ])
    | (refine own_store_row 0 (.tmp 6) (.tmp 16) O rfl rfl rfl rfl rfl rfl (by kernel_rfl) (by simp only [words_size]) (words_cell _ _) ?_; clear O; intro W O; simp only [List.set_cons_zero, List.set_cons_succ] at O))
  refine bodyPost_ret (v := .tuple #[.agg (words 16 fun _ => 0), .int .i64 1]) (results_cell_tmp rfl _ _ a6 33 _ _ rfl (O.get 0 rfl) Try.underlying33 rfl (by kernel_rfl) _ rfl) rfl ⟨?_, O.keep⟩
  rw [show bSt V M r = fun _ => 0 from congrArg Prod.fst HE.out, show rEr r = 1 from congrArg Prod.snd HE.out]

theorem refbback_bad1 (V M : Nat → BitVec 64) (r : Int) (h : 11 < r) (w : World) :
    Calls Try.prog 33 #[.agg (words 16 V), .agg (words 16 M), .int .i64 r] w fun e w' => e = .returned (.tuple #[.agg (words 16 (bSt V M r)), .int .i64 (rEr r)]) ∧ Keeps w w' [] := by
  have O := Own.start w []
  have HE := Lib.hid (show (bSt V M r, rEr r) = ((fun _ => 0 : Nat → BitVec 64), (1 : Int)) by unfold bSt rEr; rw [rOk_bad (by omega)]; rfl)
  have h0 : ¬ r < 0 := by omega
  go_enter Try.func33, Try.ntmps33
  go_wp2_with (first
    | (refine own_box 3 (words 16 V) O rfl rfl rfl rfl ?_; clear O; intro W a3 O; simp only [Act.put, List.setIfInBounds_toArray, List.set_cons_zero, List.set_cons_succ])
    | (refine own_box 4 (words 16 M) O rfl rfl rfl rfl ?_; clear O; intro W a4 O; simp only [Act.put, List.setIfInBounds_toArray, List.set_cons_zero, List.set_cons_succ])
    | (refine own_alloc 6 (words 16 fun _ => 0) O rfl rfl rfl (fun _ => by kernel_rfl) ?_; clear O; intro W a6 O; simp only [Act.put, List.setIfInBounds_toArray, List.set_cons_zero, List.set_cons_succ])
    | (refine wpList_const 16 (.agg (words 16 fun _ => 0)) rfl rfl (fun _ => by kernel_rfl) ?_; simp only [Act.put, List.setIfInBounds_toArray, List.set_cons_zero, List.set_cons_succ])
    | (refine own_store_row 0 (.tmp 6) (.tmp 16) O rfl rfl rfl rfl rfl rfl (by kernel_rfl) (by simp only [words_size]) (words_cell _ _) ?_; clear O; intro W O; simp only [List.set_cons_zero, List.set_cons_succ] at O))
  refine bodyPost_ret (v := .tuple #[.agg (words 16 fun _ => 0), .int .i64 1]) (results_cell_tmp rfl _ _ a6 33 _ _ rfl (O.get 0 rfl) Try.underlying33 rfl (by kernel_rfl) _ rfl) rfl ⟨?_, O.keep⟩
  rw [show bSt V M r = fun _ => 0 from congrArg Prod.fst HE.out, show rEr r = 1 from congrArg Prod.snd HE.out]

set_option maxHeartbeats 1000000 in
theorem refbback_good (V M : Nat → BitVec 64) (r : Int) (h0 : 0 ≤ r) (h1 : r ≤ 11) (w : World) :
    Calls Try.prog 33 #[.agg (words 16 V), .agg (words 16 M), .int .i64 r] w fun e w' => e = .returned (.tuple #[.agg (words 16 (bSt V M r)), .int .i64 (rEr r)]) ∧ Keeps w w' [] := by
  have O := Own.start w []
  have HE := Lib.hid (show (bSt V M r, rEr r) = (backB V M (row r), (0 : Int)) by unfold bSt rEr; rw [rOk_good ⟨h0, h1⟩]; rfl)
  have h2 : ¬ r < 0 := by omega
  have h3 : ¬ 11 < r := by omega
  have hq := row_lt r
  go_enter Try.func33, Try.ntmps33
  go_wp2_with (first
    | (refine own_box 3 (words 16 V) O rfl rfl rfl rfl ?_; clear O; intro W a3 O; simp only [Act.put, List.setIfInBounds_toArray, List.set_cons_zero, List.set_cons_succ])
    | (refine own_box 4 (words 16 M) O rfl rfl rfl rfl ?_; clear O; intro W a4 O; simp only [Act.put, List.setIfInBounds_toArray, List.set_cons_zero, List.set_cons_succ])
    | (refine own_alloc 6 (words 16 fun _ => 0) O rfl rfl rfl (fun _ => by kernel_rfl) ?_; clear O; intro W a6 O; simp only [Act.put, List.setIfInBounds_toArray, List.set_cons_zero, List.set_cons_succ]))
  go_loopw [8] (fun i wr => ∃ j : Nat, j ≤ 8 ∧ i = .int .i64 ((j : Int) - 1) ∧ Own w wr [] [(a6, 33, words 16 fun _ => 0), (a4, 33, words 16 M), (a3, 33, words 16 (bckK M (row r) V (8 - j)))]) (fun i _ => (intOf i + 1).toNat)
  case atStart => exact ⟨8, by omega, rfl, O⟩
  case round =>
    obtain ⟨j, hj, rfl, O⟩ := hrel
    cases j with
    | zero =>
      have hz : ¬ ((0 : Int) ≤ ((0 : Nat) : Int) - 1) := by omega
      go_wp2_with (first
        | (refine own_load 46 2 O rfl rfl rfl rfl rfl Try.underlying33 rfl (by kernel_rfl) ?_; simp only [Act.put, List.setIfInBounds_toArray, List.set_cons_zero, List.set_cons_succ])
        | (refine own_store_row 0 (.tmp 6) (.tmp 46) O rfl rfl rfl rfl rfl rfl (by kernel_rfl) (by simp only [words_size]) (words_cell _ _) ?_; clear O; intro W O; simp only [List.set_cons_zero, List.set_cons_succ] at O))
      refine bodyPost_ret (v := .tuple #[.agg (words 16 (backB V M (row r))), .int .i64 0]) (results_cell_tmp rfl _ _ a6 33 _ _ rfl (O.get 0 rfl) Try.underlying33 rfl (by kernel_rfl) _ rfl) rfl ⟨?_, O.keep⟩
      rw [show bSt V M r = backB V M (row r) from congrArg Prod.fst HE.out, show rEr r = 0 from congrArg Prod.snd HE.out]
    | succ k =>
      have e0 : ((k + 1 : Nat) : Int) - 1 = k := by omega
      rw [e0]
      clear e0
      have hlt : k < 8 := by omega
      have g1 : ((k : Int)) < 8 := by omega
      have g2 : (0 : Int) ≤ k := by omega
      have v0 := pl_lt k 0 hlt (by omega)
      have v1 := pl_lt k 1 hlt (by omega)
      have v2 := pl_lt k 2 hlt (by omega)
      have v3 := pl_lt k 3 hlt (by omega)
      have s0 := sig_lt (row r) (2 * k) hq (by omega)
      have s1 := sig_lt (row r) (2 * k + 1) hq (by omega)
      have m1 : IntKind.i64.wrap (2 * (k : Int)) = 2 * k := IntWalk.i64_in _ (by omega)
      have m2 : IntKind.i64.wrap (2 * (k : Int) + 1) = 2 * k + 1 := IntWalk.i64_in _ (by omega)
      have m3 : (0 : Int) ≤ 2 * k := by omega
      have m4 : (2 * (k : Int)).toNat = 2 * k := by omega
      have m5 : (2 * (k : Int) + 1).toNat = 2 * k + 1 := by omega
      have m6 : 2 * (k : Int) < 16 := by omega
      have m9 : 2 * k < 16 := by omega
      have m10 : 2 * k + 1 < 16 := by omega
      have m7 : 2 * (k : Int) + 1 < 16 := by omega
      have m8 : (0 : Int) ≤ 2 * k + 1 := by omega
      have HM := Lib.hid (And.intro m1 (And.intro m2 (And.intro m4 m5)))
      clear m1 m2 m4 m5
      go_wp2_with (first
        | (go_at_call 47; refine (refplaces_any k hlt _).mono ?_; rintro e W ⟨rfl, K⟩; replace O := O.keeps K; clear K)
        | (refine own_alloc 9 (ints 4 fun _ => 0) O rfl rfl rfl (fun _ => by kernel_rfl) ?_; clear O; intro W a9 O; simp only [Act.put, List.setIfInBounds_toArray, List.set_cons_zero, List.set_cons_succ])
        | (refine own_store_row 0 (.tmp 9) (.tmp 22) O rfl rfl rfl rfl rfl rfl (by kernel_rfl) (by simp only [ints_size]) (ints_cell _ _) ?_; clear O; intro W O; simp only [List.set_cons_zero, List.set_cons_succ] at O))
      obtain ⟨m1, m2, m4, m5⟩ := HM.out
      have c9 := (O.get 0 rfl).cell
      have cM := (O.get 2 rfl).cell
      refine wp_quiet_tail_drawn 22 (by kernel_rfl) (by kernel_rfl) ?_
      simp only [List.take, List.drop]
      repeat (first
        | (refine wpQuiet_load 23 rfl rfl rfl rfl (drawn_blk (O.get 3 rfl)) Try.underlying33 rfl (by kernel_rfl) ?_; simp only [Act.put, List.setIfInBounds_toArray, List.set_cons_zero, List.set_cons_succ])
        | go_big_quiet_step ((go_at_call 15; first | exact quiet_left (sigref_at _ _ (2 * k) (by omega) m9 _) | exact quiet_left (sigref_at _ _ (2 * k + 1) (by omega) m10 _))))
      refine wpQuiet_nil ?_
      intro _ hw
      obtain ⟨n0, rfl⟩ := hw
      replace O := O.drewN n0
      clear c9 cM m1 m2 m4 m5
      generalize World.drewN _ n0 = W at O ⊢
      go_wp2_with (first
        | (go_at_call 48; refine (undo_any _ (pl k 0) (pl k 1) (pl k 2) (pl k 3) _ _ v0 v1 v2 v3 W).mono ?_; rintro e W ⟨rfl, K⟩; replace O := O.keeps K; clear K)
        | (refine own_store_row 3 (.tmp 3) (.tmp 45) O rfl rfl rfl rfl rfl rfl (by kernel_rfl) (by simp only [words_size]) (words_cell _ _) ?_; clear O; intro W O; simp only [List.set_cons_zero, List.set_cons_succ] at O))
      go_roundw
      case rel =>
        refine ⟨k, by omega, by go_num, ?_⟩
        have e1 : bckK M (row r) V (8 - k) = backS (bckK M (row r) V (8 - (k + 1))) (pl k 0) (pl k 1) (pl k 2) (pl k 3) (M (sig (row r) (2 * k))) (M (sig (row r) (2 * k + 1))) := by
          rw [show 8 - k = (8 - (k + 1)) + 1 from by omega]
          show backS _ _ _ _ _ _ _ = _
          rw [show 7 - (8 - (k + 1)) = k from by omega]
        rw [e1]
        replace O := O.drop_ 1
        simp only [List.drop] at O
        rw [show 8 - (k + 1) = 7 - k from by omega]
        exact O
      case measure => (simp [intOf] <;> omega)

theorem refbback_any (V M : Nat → BitVec 64) (r : Int) (w : World) :
    Calls Try.prog 33 #[.agg (words 16 V), .agg (words 16 M), .int .i64 r] w fun e w' => e = .returned (.tuple #[.agg (words 16 (bSt V M r)), .int .i64 (rEr r)]) ∧ Keeps w w' [] := by
  by_cases h0 : r < 0
  · exact refbback_bad0 V M r h0 w
  · by_cases h1 : 11 < r
    · exact refbback_bad1 V M r h1 w
    · exact refbback_good V M r (by omega) (by omega) w
end Go.Proofs.Ytainpnjddhabfaa
