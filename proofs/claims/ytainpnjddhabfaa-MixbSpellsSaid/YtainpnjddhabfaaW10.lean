/-
  The step undone: mixb.back and the reference's Undo.
-/
import Derived.Test.YtainpnjddhabfaaW9
namespace Go.Proofs.Ytainpnjddhabfaa
open Go.RowKit

/-- Go's way back, statement by statement. -/
def backS (V : Nat → BitVec 64) (a b c d : Nat) (x y : BitVec 64) : Nat → BitVec 64 :=
  let V1 := upd V b ((V b).rotateLeft 63 ^^^ V c)
  let V2 := upd V1 c (V1 c - V1 d)
  let V3 := upd V2 d ((V2 d).rotateLeft 16 ^^^ V2 a)
  let V4 := upd V3 a (V3 a - (V3 b + y))
  let V5 := upd V4 b ((V4 b).rotateLeft 24 ^^^ V4 c)
  let V6 := upd V5 c (V5 c - V5 d)
  let V7 := upd V6 d ((V6 d).rotateLeft 32 ^^^ V6 a)
  upd V7 a (V7 a - (V7 b + x))

theorem rot_p63 (x : BitVec 64) (w : World) :
    Calls Try.prog 49 #[U64 x, .int .i64 63] w fun e w' => e = .returned (U64 (x.rotateLeft 63)) ∧ w = w' := by
  have h1 : bits BinOp.and IntKind.u64 (IntKind.u64.wrap 63) 63 = 63 := by decide
  have h2 : bits BinOp.and IntKind.u64 63 63 = 63 := by decide
  go_enter Try.func49, Try.ntmps49
  go_wp2
  go_ret
  exact ⟨rfl, rfl⟩
theorem rot_p16 (x : BitVec 64) (w : World) :
    Calls Try.prog 49 #[U64 x, .int .i64 16] w fun e w' => e = .returned (U64 (x.rotateLeft 16)) ∧ w = w' := by
  have h1 : bits BinOp.and IntKind.u64 (IntKind.u64.wrap 16) 63 = 16 := by decide
  have h2 : bits BinOp.and IntKind.u64 16 63 = 16 := by decide
  go_enter Try.func49, Try.ntmps49
  go_wp2
  go_ret
  exact ⟨rfl, rfl⟩
theorem rot_p24 (x : BitVec 64) (w : World) :
    Calls Try.prog 49 #[U64 x, .int .i64 24] w fun e w' => e = .returned (U64 (x.rotateLeft 24)) ∧ w = w' := by
  have h1 : bits BinOp.and IntKind.u64 (IntKind.u64.wrap 24) 63 = 24 := by decide
  have h2 : bits BinOp.and IntKind.u64 24 63 = 24 := by decide
  go_enter Try.func49, Try.ntmps49
  go_wp2
  go_ret
  exact ⟨rfl, rfl⟩
theorem rot_p32 (x : BitVec 64) (w : World) :
    Calls Try.prog 49 #[U64 x, .int .i64 32] w fun e w' => e = .returned (U64 (x.rotateLeft 32)) ∧ w = w' := by
  have h1 : bits BinOp.and IntKind.u64 (IntKind.u64.wrap 32) 63 = 32 := by decide
  have h2 : bits BinOp.and IntKind.u64 32 63 = 32 := by decide
  go_enter Try.func49, Try.ntmps49
  go_wp2
  go_ret
  exact ⟨rfl, rfl⟩

set_option maxHeartbeats 1000000 in
theorem back_any {t : TypeId} (a b c d : Nat) (x y : BitVec 64) (B : Nat) (V0 : Nat → BitVec 64) (w : World) (hB : Blk w B t (words 16 V0)) (ha : a < 16) (hb : b < 16) (hc : c < 16) (hd : d < 16) :
    Calls Try.prog 46 #[.pointer (some ⟨B, 0, none⟩), .agg #[.int .i64 a, .int .i64 b, .int .i64 c, .int .i64 d], U64 x, U64 y] w
      fun e w' => e = .returned (.tuple #[]) ∧ Keeps w w' [B] ∧ Blk w' B t (words 16 (backS V0 a b c d x y)) := by
  have hl := hB.lt
  go_enter Try.func46, Try.ntmps46
  go_wp2
  go_quiet (fail)
  generalize hW : World.drewN (World.alloc w _) _ = u0
  have K0 : Keeps w u0 [B] := by rw [← hW]; exact ((Keeps.refl _ _).alloc _).drewN _
  have B0 : Blk u0 B t (words 16 V0) := by rw [← hW]; exact (hB.alloc _).drewN _
  clear hW hB
  have k0 := B0.cell
  have z0 := B0.frozen
  -- statement 1
  go_wp2
  refine wp_quiet_tail_drawn 16 (by kernel_rfl) (by kernel_rfl) ?_
  simp only [List.take, List.drop]
  repeat (go_big_quiet_step (((go_at_call 49; exact quiet_left (rot_p63 _ _)))))
  refine wpQuiet_nil ?_
  intro _ hw
  obtain ⟨n0, rfl⟩ := hw
  refine wpList_store_blk B b t _ (U64 ((V0 b).rotateLeft 63 ^^^ V0 c)) rfl rfl rfl rfl rfl (B0.drewN n0) (by simp only [words_size]; omega) rfl rfl (by kernel_rfl) ?_
  intro u1 kp1 B1
  rw [words_set] at B1
  generalize hV1 : upd V0 b _ = V1 at B1
  have K1 := K0.trans (Keeps.trans ((Keeps.refl _ [B]).drewN n0) kp1 (fun _ h _ => h)) (fun _ h _ => h)
  have HV1 := Lib.hid hV1
  clear hV1 kp1 K0 B0 k0 z0
  have k1 := B1.cell
  have z1 := B1.frozen
  -- statement 2
  go_wp2
  refine wp_quiet_tail_drawn 13 (by kernel_rfl) (by kernel_rfl) ?_
  simp only [List.take, List.drop]
  repeat (go_big_quiet_step (fail))
  refine wpQuiet_nil ?_
  intro _ hw
  obtain ⟨n1, rfl⟩ := hw
  refine wpList_store_blk B c t _ (U64 (V1 c - V1 d)) rfl rfl rfl rfl rfl (B1.drewN n1) (by simp only [words_size]; omega) rfl rfl (by kernel_rfl) ?_
  intro u2 kp2 B2
  rw [words_set] at B2
  generalize hV2 : upd V1 c _ = V2 at B2
  have K2 := K1.trans (Keeps.trans ((Keeps.refl _ [B]).drewN n1) kp2 (fun _ h _ => h)) (fun _ h _ => h)
  have HV2 := Lib.hid hV2
  clear hV2 kp2 K1 B1 k1 z1
  have k2 := B2.cell
  have z2 := B2.frozen
  -- statement 3
  go_wp2
  refine wp_quiet_tail_drawn 16 (by kernel_rfl) (by kernel_rfl) ?_
  simp only [List.take, List.drop]
  repeat (go_big_quiet_step (((go_at_call 49; exact quiet_left (rot_p16 _ _)))))
  refine wpQuiet_nil ?_
  intro _ hw
  obtain ⟨n2, rfl⟩ := hw
  refine wpList_store_blk B d t _ (U64 ((V2 d).rotateLeft 16 ^^^ V2 a)) rfl rfl rfl rfl rfl (B2.drewN n2) (by simp only [words_size]; omega) rfl rfl (by kernel_rfl) ?_
  intro u3 kp3 B3
  rw [words_set] at B3
  generalize hV3 : upd V2 d _ = V3 at B3
  have K3 := K2.trans (Keeps.trans ((Keeps.refl _ [B]).drewN n2) kp3 (fun _ h _ => h)) (fun _ h _ => h)
  have HV3 := Lib.hid hV3
  clear hV3 kp3 K2 B2 k2 z2
  have k3 := B3.cell
  have z3 := B3.frozen
  -- statement 4
  go_wp2
  refine wp_quiet_tail_drawn 15 (by kernel_rfl) (by kernel_rfl) ?_
  simp only [List.take, List.drop]
  repeat (go_big_quiet_step (fail))
  refine wpQuiet_nil ?_
  intro _ hw
  obtain ⟨n3, rfl⟩ := hw
  refine wpList_store_blk B a t _ (U64 (V3 a - (V3 b + y))) rfl rfl rfl rfl rfl (B3.drewN n3) (by simp only [words_size]; omega) rfl rfl (by kernel_rfl) ?_
  intro u4 kp4 B4
  rw [words_set] at B4
  generalize hV4 : upd V3 a _ = V4 at B4
  have K4 := K3.trans (Keeps.trans ((Keeps.refl _ [B]).drewN n3) kp4 (fun _ h _ => h)) (fun _ h _ => h)
  have HV4 := Lib.hid hV4
  clear hV4 kp4 K3 B3 k3 z3
  have k4 := B4.cell
  have z4 := B4.frozen
  -- statement 5
  go_wp2
  refine wp_quiet_tail_drawn 16 (by kernel_rfl) (by kernel_rfl) ?_
  simp only [List.take, List.drop]
  repeat (go_big_quiet_step (((go_at_call 49; exact quiet_left (rot_p24 _ _)))))
  refine wpQuiet_nil ?_
  intro _ hw
  obtain ⟨n4, rfl⟩ := hw
  refine wpList_store_blk B b t _ (U64 ((V4 b).rotateLeft 24 ^^^ V4 c)) rfl rfl rfl rfl rfl (B4.drewN n4) (by simp only [words_size]; omega) rfl rfl (by kernel_rfl) ?_
  intro u5 kp5 B5
  rw [words_set] at B5
  generalize hV5 : upd V4 b _ = V5 at B5
  have K5 := K4.trans (Keeps.trans ((Keeps.refl _ [B]).drewN n4) kp5 (fun _ h _ => h)) (fun _ h _ => h)
  have HV5 := Lib.hid hV5
  clear hV5 kp5 K4 B4 k4 z4
  have k5 := B5.cell
  have z5 := B5.frozen
  -- statement 6
  go_wp2
  refine wp_quiet_tail_drawn 13 (by kernel_rfl) (by kernel_rfl) ?_
  simp only [List.take, List.drop]
  repeat (go_big_quiet_step (fail))
  refine wpQuiet_nil ?_
  intro _ hw
  obtain ⟨n5, rfl⟩ := hw
  refine wpList_store_blk B c t _ (U64 (V5 c - V5 d)) rfl rfl rfl rfl rfl (B5.drewN n5) (by simp only [words_size]; omega) rfl rfl (by kernel_rfl) ?_
  intro u6 kp6 B6
  rw [words_set] at B6
  generalize hV6 : upd V5 c _ = V6 at B6
  have K6 := K5.trans (Keeps.trans ((Keeps.refl _ [B]).drewN n5) kp6 (fun _ h _ => h)) (fun _ h _ => h)
  have HV6 := Lib.hid hV6
  clear hV6 kp6 K5 B5 k5 z5
  have k6 := B6.cell
  have z6 := B6.frozen
  -- statement 7
  go_wp2
  refine wp_quiet_tail_drawn 16 (by kernel_rfl) (by kernel_rfl) ?_
  simp only [List.take, List.drop]
  repeat (go_big_quiet_step (((go_at_call 49; exact quiet_left (rot_p32 _ _)))))
  refine wpQuiet_nil ?_
  intro _ hw
  obtain ⟨n6, rfl⟩ := hw
  refine wpList_store_blk B d t _ (U64 ((V6 d).rotateLeft 32 ^^^ V6 a)) rfl rfl rfl rfl rfl (B6.drewN n6) (by simp only [words_size]; omega) rfl rfl (by kernel_rfl) ?_
  intro u7 kp7 B7
  rw [words_set] at B7
  generalize hV7 : upd V6 d _ = V7 at B7
  have K7 := K6.trans (Keeps.trans ((Keeps.refl _ [B]).drewN n6) kp7 (fun _ h _ => h)) (fun _ h _ => h)
  have HV7 := Lib.hid hV7
  clear hV7 kp7 K6 B6 k6 z6
  have k7 := B7.cell
  have z7 := B7.frozen
  -- statement 8
  go_wp2
  refine wp_quiet_tail_drawn 15 (by kernel_rfl) (by kernel_rfl) ?_
  simp only [List.take, List.drop]
  repeat (go_big_quiet_step (fail))
  refine wpQuiet_nil ?_
  intro _ hw
  obtain ⟨n7, rfl⟩ := hw
  refine wpList_store_blk B a t _ (U64 (V7 a - (V7 b + x))) rfl rfl rfl rfl rfl (B7.drewN n7) (by simp only [words_size]; omega) rfl rfl (by kernel_rfl) ?_
  intro u8 kp8 B8
  rw [words_set] at B8
  generalize hV8 : upd V7 a _ = V8 at B8
  have K8 := K7.trans (Keeps.trans ((Keeps.refl _ [B]).drewN n7) kp8 (fun _ h _ => h)) (fun _ h _ => h)
  have HV8 := Lib.hid hV8
  clear hV8 kp8 K7 B7 k7 z7
  have k8 := B8.cell
  have z8 := B8.frozen
  go_wp2
  go_end0
  refine ⟨rfl, K8, ?_⟩
  rw [← HV8.out, ← HV7.out, ← HV6.out, ← HV5.out, ← HV4.out, ← HV3.out, ← HV2.out, ← HV1.out] at B8
  exact B8

theorem ints4 (f : Nat → Nat) : ints 4 f = #[.int .i64 (f 0 : Nat), .int .i64 (f 1 : Nat), .int .i64 (f 2 : Nat), .int .i64 (f 3 : Nat)] := by kernel_rfl

theorem step_ints {t : TypeId} (f : Nat → Nat) (x y : BitVec 64) (B : Nat) (V0 : Nat → BitVec 64) (w : World) (hB : Blk w B t (words 16 V0)) (hf : ∀ i, i < 4 → f i < 16) :
    Calls Try.prog 37 #[.pointer (some ⟨B, 0, none⟩), .agg (ints 4 f), U64 x, U64 y] w
      fun e w' => e = .returned (.tuple #[]) ∧ Keeps w w' [B] ∧ Blk w' B t (words 16 (stepB V0 (f 0) (f 1) (f 2) (f 3) x y)) := by
  rw [ints4]
  exact step_any (f 0) (f 1) (f 2) (f 3) x y B V0 w hB (hf 0 (by omega)) (hf 1 (by omega)) (hf 2 (by omega)) (hf 3 (by omega))
theorem back_ints {t : TypeId} (f : Nat → Nat) (x y : BitVec 64) (B : Nat) (V0 : Nat → BitVec 64) (w : World) (hB : Blk w B t (words 16 V0)) (hf : ∀ i, i < 4 → f i < 16) :
    Calls Try.prog 46 #[.pointer (some ⟨B, 0, none⟩), .agg (ints 4 f), U64 x, U64 y] w
      fun e w' => e = .returned (.tuple #[]) ∧ Keeps w w' [B] ∧ Blk w' B t (words 16 (backS V0 (f 0) (f 1) (f 2) (f 3) x y)) := by
  rw [ints4]
  exact back_any (f 0) (f 1) (f 2) (f 3) x y B V0 w hB (hf 0 (by omega)) (hf 1 (by omega)) (hf 2 (by omega)) (hf 3 (by omega))

theorem sub_two (x y z : BitVec 64) : x - y - z = x - (y + z) := by
  apply BitVec.eq_of_toNat_eq
  simp only [BitVec.toNat_sub, BitVec.toNat_add]
  omega

set_option maxHeartbeats 2000000 in
theorem undo_any (V0 : Nat → BitVec 64) (a b c d : Nat) (x y : BitVec 64) (ha : a < 16) (hb : b < 16) (hc : c < 16) (hd : d < 16) (w : World) :
    Calls Try.prog 48 #[.agg (words 16 V0), .int .i64 a, .int .i64 b, .int .i64 c, .int .i64 d, U64 x, U64 y] w fun e w' => e = .returned (.agg (words 16 (backS V0 a b c d x y))) ∧ Keeps w w' [] := by
  have O := Own.start w []
  go_enter Try.func48, Try.ntmps48
  go_wp2_with (first
    | (refine own_box 7 (words 16 V0) O rfl rfl rfl rfl ?_; clear O; intro W a0 O; simp only [Act.put, List.setIfInBounds_toArray, List.set_cons_zero, List.set_cons_succ])
    | (refine own_alloc 14 (words 16 fun _ => 0) O rfl rfl rfl (fun _ => by kernel_rfl) ?_; clear O; intro W a1 O; simp only [Act.put, List.setIfInBounds_toArray, List.set_cons_zero, List.set_cons_succ]))
  have c0 := (O.get 1 rfl).cell
  -- statement 1
  go_wp2
  refine wp_quiet_tail_drawn 10 (by kernel_rfl) (by kernel_rfl) ?_
  simp only [List.take, List.drop]
  repeat (go_big_quiet_step (((go_at_call 39; exact Calls.quiet_of (turn_m63 _ _)))))
  refine wpQuiet_nil ?_
  intro _ hw
  obtain ⟨n0, rfl⟩ := hw
  refine own_store 1 b (U64 ((V0 b).rotateLeft 63 ^^^ V0 c)) (.tmp 24) (.tmp 23) (O.drewN n0) rfl rfl rfl rfl rfl rfl (by simp only [words_size]; omega) rfl rfl (by kernel_rfl) (words_set 16 _ b _) ?_
  clear O c0
  intro W O
  simp only [List.set_cons_zero, List.set_cons_succ] at O
  generalize hV1 : upd V0 b _ = V1 at O
  have HV1 := Lib.hid hV1
  clear hV1
  have c1 := (O.get 1 rfl).cell
  -- statement 2
  go_wp2
  refine wp_quiet_tail_drawn 9 (by kernel_rfl) (by kernel_rfl) ?_
  simp only [List.take, List.drop]
  repeat (go_big_quiet_step (fail))
  refine wpQuiet_nil ?_
  intro _ hw
  obtain ⟨n1, rfl⟩ := hw
  refine own_store 1 c (U64 (V1 c - V1 d)) (.tmp 33) (.tmp 32) (O.drewN n1) rfl rfl rfl rfl rfl rfl (by simp only [words_size]; omega) rfl rfl (by kernel_rfl) (words_set 16 _ c _) ?_
  clear O c1
  intro W O
  simp only [List.set_cons_zero, List.set_cons_succ] at O
  generalize hV2 : upd V1 c _ = V2 at O
  have HV2 := Lib.hid hV2
  clear hV2
  have c2 := (O.get 1 rfl).cell
  -- statement 3
  go_wp2
  refine wp_quiet_tail_drawn 10 (by kernel_rfl) (by kernel_rfl) ?_
  simp only [List.take, List.drop]
  repeat (go_big_quiet_step (((go_at_call 39; exact Calls.quiet_of (turn_m16 _ _)))))
  refine wpQuiet_nil ?_
  intro _ hw
  obtain ⟨n2, rfl⟩ := hw
  refine own_store 1 d (U64 ((V2 d).rotateLeft 16 ^^^ V2 a)) (.tmp 43) (.tmp 42) (O.drewN n2) rfl rfl rfl rfl rfl rfl (by simp only [words_size]; omega) rfl rfl (by kernel_rfl) (words_set 16 _ d _) ?_
  clear O c2
  intro W O
  simp only [List.set_cons_zero, List.set_cons_succ] at O
  generalize hV3 : upd V2 d _ = V3 at O
  have HV3 := Lib.hid hV3
  clear hV3
  have c3 := (O.get 1 rfl).cell
  -- statement 4
  go_wp2
  refine wp_quiet_tail_drawn 11 (by kernel_rfl) (by kernel_rfl) ?_
  simp only [List.take, List.drop]
  repeat (go_big_quiet_step (fail))
  refine wpQuiet_nil ?_
  intro _ hw
  obtain ⟨n3, rfl⟩ := hw
  refine own_store 1 a (U64 (V3 a - V3 b - y)) (.tmp 54) (.tmp 53) (O.drewN n3) rfl rfl rfl rfl rfl rfl (by simp only [words_size]; omega) rfl rfl (by kernel_rfl) (words_set 16 _ a _) ?_
  clear O c3
  intro W O
  simp only [List.set_cons_zero, List.set_cons_succ] at O
  generalize hV4 : upd V3 a _ = V4 at O
  have HV4 := Lib.hid hV4
  clear hV4
  have c4 := (O.get 1 rfl).cell
  -- statement 5
  go_wp2
  refine wp_quiet_tail_drawn 10 (by kernel_rfl) (by kernel_rfl) ?_
  simp only [List.take, List.drop]
  repeat (go_big_quiet_step (((go_at_call 39; exact Calls.quiet_of (turn_m24 _ _)))))
  refine wpQuiet_nil ?_
  intro _ hw
  obtain ⟨n4, rfl⟩ := hw
  refine own_store 1 b (U64 ((V4 b).rotateLeft 24 ^^^ V4 c)) (.tmp 64) (.tmp 63) (O.drewN n4) rfl rfl rfl rfl rfl rfl (by simp only [words_size]; omega) rfl rfl (by kernel_rfl) (words_set 16 _ b _) ?_
  clear O c4
  intro W O
  simp only [List.set_cons_zero, List.set_cons_succ] at O
  generalize hV5 : upd V4 b _ = V5 at O
  have HV5 := Lib.hid hV5
  clear hV5
  have c5 := (O.get 1 rfl).cell
  -- statement 6
  go_wp2
  refine wp_quiet_tail_drawn 9 (by kernel_rfl) (by kernel_rfl) ?_
  simp only [List.take, List.drop]
  repeat (go_big_quiet_step (fail))
  refine wpQuiet_nil ?_
  intro _ hw
  obtain ⟨n5, rfl⟩ := hw
  refine own_store 1 c (U64 (V5 c - V5 d)) (.tmp 73) (.tmp 72) (O.drewN n5) rfl rfl rfl rfl rfl rfl (by simp only [words_size]; omega) rfl rfl (by kernel_rfl) (words_set 16 _ c _) ?_
  clear O c5
  intro W O
  simp only [List.set_cons_zero, List.set_cons_succ] at O
  generalize hV6 : upd V5 c _ = V6 at O
  have HV6 := Lib.hid hV6
  clear hV6
  have c6 := (O.get 1 rfl).cell
  -- statement 7
  go_wp2
  refine wp_quiet_tail_drawn 10 (by kernel_rfl) (by kernel_rfl) ?_
  simp only [List.take, List.drop]
  repeat (go_big_quiet_step (((go_at_call 39; exact Calls.quiet_of (turn_m32 _ _)))))
  refine wpQuiet_nil ?_
  intro _ hw
  obtain ⟨n6, rfl⟩ := hw
  refine own_store 1 d (U64 ((V6 d).rotateLeft 32 ^^^ V6 a)) (.tmp 83) (.tmp 82) (O.drewN n6) rfl rfl rfl rfl rfl rfl (by simp only [words_size]; omega) rfl rfl (by kernel_rfl) (words_set 16 _ d _) ?_
  clear O c6
  intro W O
  simp only [List.set_cons_zero, List.set_cons_succ] at O
  generalize hV7 : upd V6 d _ = V7 at O
  have HV7 := Lib.hid hV7
  clear hV7
  have c7 := (O.get 1 rfl).cell
  -- statement 8
  go_wp2
  refine wp_quiet_tail_drawn 11 (by kernel_rfl) (by kernel_rfl) ?_
  simp only [List.take, List.drop]
  repeat (go_big_quiet_step (fail))
  refine wpQuiet_nil ?_
  intro _ hw
  obtain ⟨n7, rfl⟩ := hw
  refine own_store 1 a (U64 (V7 a - V7 b - x)) (.tmp 94) (.tmp 93) (O.drewN n7) rfl rfl rfl rfl rfl rfl (by simp only [words_size]; omega) rfl rfl (by kernel_rfl) (words_set 16 _ a _) ?_
  clear O c7
  intro W O
  simp only [List.set_cons_zero, List.set_cons_succ] at O
  generalize hV8 : upd V7 a _ = V8 at O
  have HV8 := Lib.hid hV8
  clear hV8
  have c8 := (O.get 1 rfl).cell
  clear c8
  go_wp2_with (first
    | (refine own_load 95 1 O rfl rfl rfl rfl rfl Try.underlying33 rfl (by kernel_rfl) ?_; simp only [Act.put, List.setIfInBounds_toArray, List.set_cons_zero, List.set_cons_succ])
    | (refine own_store_row 0 (.tmp 14) (.tmp 95) O rfl rfl rfl rfl rfl rfl (by kernel_rfl) (by simp only [words_size]) (words_cell _ _) ?_; clear O; intro W O; simp only [List.set_cons_zero, List.set_cons_succ] at O))
  refine bodyPost_ret (v := .agg (words 16 V8)) (results_cell_row rfl _ _ a1 33 _ (0, 0) _ rfl (O.get 0 rfl) Try.underlying33 rfl (by kernel_rfl)) rfl ⟨?_, O.keep⟩
  rw [← HV8.out, ← HV7.out, ← HV6.out, ← HV5.out, ← HV4.out, ← HV3.out, ← HV2.out, ← HV1.out]
  simp only [backS, sub_two]
end Go.Proofs.Ytainpnjddhabfaa
