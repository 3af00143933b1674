/-
  The reference's G, at all places.
-/
import Derived.Test.YtainpnjddhabfaaW8
namespace Go.Proofs.Ytainpnjddhabfaa
open Go.RowKit

theorem right_left (x : BitVec 64) (k : Nat) (h0 : 0 < k) (h : k < 64) : x.rotateRight k = x.rotateLeft (64 - k) := by
  rw [BitVec.rotateRight, BitVec.rotateRightAux, BitVec.rotateLeft, BitVec.rotateLeftAux, Nat.mod_eq_of_lt h, Nat.mod_eq_of_lt (by omega), show 64 - (64 - k) = k from by omega, BitVec.or_comm]
theorem turn_32 (x : BitVec 64) (w : World) : Calls Try.prog 39 #[U64 x, .int .i64 32] w fun e w' => e = .returned (U64 (x.rotateLeft 32)) ∧ ∃ m, w' = w.drewN m :=
  (turn_any x 32 w).mono fun _ _ ⟨he, hw⟩ => ⟨by rw [he, show ((32 : Int) % 64).toNat = 32 from by decide, right_left x 32 (by omega) (by omega)], hw⟩
theorem turn_m32 (x : BitVec 64) (w : World) : Calls Try.prog 39 #[U64 x, .int .i64 (-32)] w fun e w' => e = .returned (U64 (x.rotateLeft 32)) ∧ ∃ m, w' = w.drewN m :=
  (turn_any x (-32) w).mono fun _ _ ⟨he, hw⟩ => ⟨by rw [he, show ((-32 : Int) % 64).toNat = 32 from by decide, right_left x 32 (by omega) (by omega)], hw⟩
theorem turn_24 (x : BitVec 64) (w : World) : Calls Try.prog 39 #[U64 x, .int .i64 24] w fun e w' => e = .returned (U64 (x.rotateLeft 40)) ∧ ∃ m, w' = w.drewN m :=
  (turn_any x 24 w).mono fun _ _ ⟨he, hw⟩ => ⟨by rw [he, show ((24 : Int) % 64).toNat = 24 from by decide, right_left x 24 (by omega) (by omega)], hw⟩
theorem turn_m24 (x : BitVec 64) (w : World) : Calls Try.prog 39 #[U64 x, .int .i64 (-24)] w fun e w' => e = .returned (U64 (x.rotateLeft 24)) ∧ ∃ m, w' = w.drewN m :=
  (turn_any x (-24) w).mono fun _ _ ⟨he, hw⟩ => ⟨by rw [he, show ((-24 : Int) % 64).toNat = 40 from by decide, right_left x 40 (by omega) (by omega)], hw⟩
theorem turn_16 (x : BitVec 64) (w : World) : Calls Try.prog 39 #[U64 x, .int .i64 16] w fun e w' => e = .returned (U64 (x.rotateLeft 48)) ∧ ∃ m, w' = w.drewN m :=
  (turn_any x 16 w).mono fun _ _ ⟨he, hw⟩ => ⟨by rw [he, show ((16 : Int) % 64).toNat = 16 from by decide, right_left x 16 (by omega) (by omega)], hw⟩
theorem turn_m16 (x : BitVec 64) (w : World) : Calls Try.prog 39 #[U64 x, .int .i64 (-16)] w fun e w' => e = .returned (U64 (x.rotateLeft 16)) ∧ ∃ m, w' = w.drewN m :=
  (turn_any x (-16) w).mono fun _ _ ⟨he, hw⟩ => ⟨by rw [he, show ((-16 : Int) % 64).toNat = 48 from by decide, right_left x 48 (by omega) (by omega)], hw⟩
theorem turn_63 (x : BitVec 64) (w : World) : Calls Try.prog 39 #[U64 x, .int .i64 63] w fun e w' => e = .returned (U64 (x.rotateLeft 1)) ∧ ∃ m, w' = w.drewN m :=
  (turn_any x 63 w).mono fun _ _ ⟨he, hw⟩ => ⟨by rw [he, show ((63 : Int) % 64).toNat = 63 from by decide, right_left x 63 (by omega) (by omega)], hw⟩
theorem turn_m63 (x : BitVec 64) (w : World) : Calls Try.prog 39 #[U64 x, .int .i64 (-63)] w fun e w' => e = .returned (U64 (x.rotateLeft 63)) ∧ ∃ m, w' = w.drewN m :=
  (turn_any x (-63) w).mono fun _ _ ⟨he, hw⟩ => ⟨by rw [he, show ((-63 : Int) % 64).toNat = 1 from by decide, right_left x 1 (by omega) (by omega)], hw⟩

set_option maxHeartbeats 2000000 in
theorem refg_good (V0 : Nat → BitVec 64) (a b c d : Nat) (x y : BitVec 64) (ha : a < 16) (hb : b < 16) (hc : c < 16) (hd : d < 16) (h1 : a ≠ b) (h2 : a ≠ c) (h3 : a ≠ d) (h4 : b ≠ c) (h5 : b ≠ d) (h6 : c ≠ d) (w : World) :
    Calls Try.prog 20 #[.agg (words 16 V0), .int .i64 a, .int .i64 b, .int .i64 c, .int .i64 d, U64 x, U64 y] w fun e w' => e = .returned (.tuple #[.agg (words 16 (stepB V0 a b c d x y)), .int .i64 0]) ∧ Keeps w w' [] := by
  have O := Own.start w []
  have pa := fun w => place_any (a : Int) w
  have pb := fun w => place_any (b : Int) w
  have pc := fun w => place_any (c : Int) w
  have pd := fun w => place_any (d : Int) w
  rw [(okP_iff (a : Int)).2 (by omega)] at pa
  rw [(okP_iff (b : Int)).2 (by omega)] at pb
  rw [(okP_iff (c : Int)).2 (by omega)] at pc
  rw [(okP_iff (d : Int)).2 (by omega)] at pd
  have PA := Lib.hid pa
  have PB := Lib.hid pb
  have PC := Lib.hid pc
  have PD := Lib.hid pd
  clear pa pb pc pd
  have e1 : ((a : Int) == (b : Int)) = false := by rw [beq_eq_false_iff_ne]; omega
  have e2 : ((a : Int) == (c : Int)) = false := by rw [beq_eq_false_iff_ne]; omega
  have e3 : ((a : Int) == (d : Int)) = false := by rw [beq_eq_false_iff_ne]; omega
  have e4 : ((b : Int) == (c : Int)) = false := by rw [beq_eq_false_iff_ne]; omega
  have e5 : ((b : Int) == (d : Int)) = false := by rw [beq_eq_false_iff_ne]; omega
  have e6 : ((c : Int) == (d : Int)) = false := by rw [beq_eq_false_iff_ne]; omega
  have f1 : (a == b) = false := by rw [beq_eq_false_iff_ne]; omega
  have f2 : (a == c) = false := by rw [beq_eq_false_iff_ne]; omega
  have f3 : (a == d) = false := by rw [beq_eq_false_iff_ne]; omega
  have f4 : (b == c) = false := by rw [beq_eq_false_iff_ne]; omega
  have f5 : (b == d) = false := by rw [beq_eq_false_iff_ne]; omega
  have f6 : (c == d) = false := by rw [beq_eq_false_iff_ne]; omega
  clear h1 h2 h3 h4 h5 h6
  go_enter Try.func20, Try.ntmps20
  go_wp2_with (first
    | (refine own_box 7 (words 16 V0) O rfl rfl rfl rfl ?_; clear O; intro W a0 O; simp only [Act.put, List.setIfInBounds_toArray, List.set_cons_zero, List.set_cons_succ])
    | (refine own_alloc 14 (words 16 fun _ => 0) O rfl rfl rfl (fun _ => by kernel_rfl) ?_; clear O; intro W a1 O; simp only [Act.put, List.setIfInBounds_toArray, List.set_cons_zero, List.set_cons_succ])
    | (go_at_call 38; first | ((with_reducible refine (PA.out _).mono ?_); rintro e W ⟨rfl, rfl⟩) | ((with_reducible refine (PB.out _).mono ?_); rintro e W ⟨rfl, rfl⟩) | ((with_reducible refine (PC.out _).mono ?_); rintro e W ⟨rfl, rfl⟩) | ((with_reducible refine (PD.out _).mono ?_); rintro e W ⟨rfl, rfl⟩)))
  have c0 := (O.get 1 rfl).cell
  -- statement 1
  go_wp2
  refine wp_quiet_tail_drawn 11 (by kernel_rfl) (by kernel_rfl) ?_
  simp only [List.take, List.drop]
  repeat (go_big_quiet_step (fail))
  refine wpQuiet_nil ?_
  intro _ hw
  obtain ⟨n0, rfl⟩ := hw
  refine own_store 1 a (U64 (V0 a + V0 b + x)) (.tmp 75) (.tmp 74) (O.drewN n0) rfl rfl rfl rfl rfl rfl (by simp only [words_size]; omega) rfl rfl (by kernel_rfl) (words_set 16 _ a _) ?_
  clear O c0
  intro W O
  simp only [List.set_cons_zero, List.set_cons_succ] at O
  generalize hV1 : upd V0 a _ = V1 at O
  have HV1 := Lib.hid hV1
  clear hV1
  have c1 := (O.get 1 rfl).cell
  -- statement 2
  go_wp2
  refine wp_quiet_tail_drawn 10 (by kernel_rfl) (by kernel_rfl) ?_
  simp only [List.take, List.drop]
  repeat (go_big_quiet_step (((go_at_call 39; exact Calls.quiet_of (turn_32 _ _)))))
  refine wpQuiet_nil ?_
  intro _ hw
  obtain ⟨n1, rfl⟩ := hw
  refine own_store 1 d (U64 ((V1 d ^^^ V1 a).rotateLeft 32)) (.tmp 85) (.tmp 84) (O.drewN n1) rfl rfl rfl rfl rfl rfl (by simp only [words_size]; omega) rfl rfl (by kernel_rfl) (words_set 16 _ d _) ?_
  clear O c1
  intro W O
  simp only [List.set_cons_zero, List.set_cons_succ] at O
  generalize hV2 : upd V1 d _ = V2 at O
  have HV2 := Lib.hid hV2
  clear hV2
  have c2 := (O.get 1 rfl).cell
  -- statement 3
  go_wp2
  refine wp_quiet_tail_drawn 9 (by kernel_rfl) (by kernel_rfl) ?_
  simp only [List.take, List.drop]
  repeat (go_big_quiet_step (fail))
  refine wpQuiet_nil ?_
  intro _ hw
  obtain ⟨n2, rfl⟩ := hw
  refine own_store 1 c (U64 (V2 c + V2 d)) (.tmp 94) (.tmp 93) (O.drewN n2) rfl rfl rfl rfl rfl rfl (by simp only [words_size]; omega) rfl rfl (by kernel_rfl) (words_set 16 _ c _) ?_
  clear O c2
  intro W O
  simp only [List.set_cons_zero, List.set_cons_succ] at O
  generalize hV3 : upd V2 c _ = V3 at O
  have HV3 := Lib.hid hV3
  clear hV3
  have c3 := (O.get 1 rfl).cell
  -- statement 4
  go_wp2
  refine wp_quiet_tail_drawn 10 (by kernel_rfl) (by kernel_rfl) ?_
  simp only [List.take, List.drop]
  repeat (go_big_quiet_step (((go_at_call 39; exact Calls.quiet_of (turn_24 _ _)))))
  refine wpQuiet_nil ?_
  intro _ hw
  obtain ⟨n3, rfl⟩ := hw
  refine own_store 1 b (U64 ((V3 b ^^^ V3 c).rotateLeft 40)) (.tmp 104) (.tmp 103) (O.drewN n3) rfl rfl rfl rfl rfl rfl (by simp only [words_size]; omega) rfl rfl (by kernel_rfl) (words_set 16 _ b _) ?_
  clear O c3
  intro W O
  simp only [List.set_cons_zero, List.set_cons_succ] at O
  generalize hV4 : upd V3 b _ = V4 at O
  have HV4 := Lib.hid hV4
  clear hV4
  have c4 := (O.get 1 rfl).cell
  -- statement 5
  go_wp2
  refine wp_quiet_tail_drawn 11 (by kernel_rfl) (by kernel_rfl) ?_
  simp only [List.take, List.drop]
  repeat (go_big_quiet_step (fail))
  refine wpQuiet_nil ?_
  intro _ hw
  obtain ⟨n4, rfl⟩ := hw
  refine own_store 1 a (U64 (V4 a + V4 b + y)) (.tmp 115) (.tmp 114) (O.drewN n4) rfl rfl rfl rfl rfl rfl (by simp only [words_size]; omega) rfl rfl (by kernel_rfl) (words_set 16 _ a _) ?_
  clear O c4
  intro W O
  simp only [List.set_cons_zero, List.set_cons_succ] at O
  generalize hV5 : upd V4 a _ = V5 at O
  have HV5 := Lib.hid hV5
  clear hV5
  have c5 := (O.get 1 rfl).cell
  -- statement 6
  go_wp2
  refine wp_quiet_tail_drawn 10 (by kernel_rfl) (by kernel_rfl) ?_
  simp only [List.take, List.drop]
  repeat (go_big_quiet_step (((go_at_call 39; exact Calls.quiet_of (turn_16 _ _)))))
  refine wpQuiet_nil ?_
  intro _ hw
  obtain ⟨n5, rfl⟩ := hw
  refine own_store 1 d (U64 ((V5 d ^^^ V5 a).rotateLeft 48)) (.tmp 125) (.tmp 124) (O.drewN n5) rfl rfl rfl rfl rfl rfl (by simp only [words_size]; omega) rfl rfl (by kernel_rfl) (words_set 16 _ d _) ?_
  clear O c5
  intro W O
  simp only [List.set_cons_zero, List.set_cons_succ] at O
  generalize hV6 : upd V5 d _ = V6 at O
  have HV6 := Lib.hid hV6
  clear hV6
  have c6 := (O.get 1 rfl).cell
  -- statement 7
  go_wp2
  refine wp_quiet_tail_drawn 9 (by kernel_rfl) (by kernel_rfl) ?_
  simp only [List.take, List.drop]
  repeat (go_big_quiet_step (fail))
  refine wpQuiet_nil ?_
  intro _ hw
  obtain ⟨n6, rfl⟩ := hw
  refine own_store 1 c (U64 (V6 c + V6 d)) (.tmp 134) (.tmp 133) (O.drewN n6) rfl rfl rfl rfl rfl rfl (by simp only [words_size]; omega) rfl rfl (by kernel_rfl) (words_set 16 _ c _) ?_
  clear O c6
  intro W O
  simp only [List.set_cons_zero, List.set_cons_succ] at O
  generalize hV7 : upd V6 c _ = V7 at O
  have HV7 := Lib.hid hV7
  clear hV7
  have c7 := (O.get 1 rfl).cell
  -- statement 8
  go_wp2
  refine wp_quiet_tail_drawn 10 (by kernel_rfl) (by kernel_rfl) ?_
  simp only [List.take, List.drop]
  repeat (go_big_quiet_step (((go_at_call 39; exact Calls.quiet_of (turn_63 _ _)))))
  refine wpQuiet_nil ?_
  intro _ hw
  obtain ⟨n7, rfl⟩ := hw
  refine own_store 1 b (U64 ((V7 b ^^^ V7 c).rotateLeft 1)) (.tmp 144) (.tmp 143) (O.drewN n7) rfl rfl rfl rfl rfl rfl (by simp only [words_size]; omega) rfl rfl (by kernel_rfl) (words_set 16 _ b _) ?_
  clear O c7
  intro W O
  simp only [List.set_cons_zero, List.set_cons_succ] at O
  generalize hV8 : upd V7 b _ = V8 at O
  have HV8 := Lib.hid hV8
  clear hV8
  have c8 := (O.get 1 rfl).cell
  clear c8
  go_wp2_with (first
    | (refine own_load 145 1 O rfl rfl rfl rfl rfl Try.underlying33 rfl (by kernel_rfl) ?_; simp only [Act.put, List.setIfInBounds_toArray, List.set_cons_zero, List.set_cons_succ])
    | (refine own_store_row 0 (.tmp 14) (.tmp 145) O rfl rfl rfl rfl rfl rfl (by kernel_rfl) (by simp only [words_size]) (words_cell _ _) ?_; clear O; intro W O; simp only [List.set_cons_zero, List.set_cons_succ] at O))
  refine bodyPost_ret (v := .tuple #[.agg (words 16 V8), .int .i64 0]) (results_cell_tmp rfl _ _ a1 33 _ _ rfl (O.get 0 rfl) Try.underlying33 rfl (by kernel_rfl) _ rfl) rfl ⟨?_, O.keep⟩
  rw [← HV8.out, ← HV7.out, ← HV6.out, ← HV5.out, ← HV4.out, ← HV3.out, ← HV2.out, ← HV1.out]
  simp only [stepB, BitVec.add_assoc]
end Go.Proofs.Ytainpnjddhabfaa
