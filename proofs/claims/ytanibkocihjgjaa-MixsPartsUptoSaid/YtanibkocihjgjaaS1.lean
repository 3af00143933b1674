/-
  The rotations, the steps of G and back, by the program.
-/
import Derived.Test.YtanibkocihjgjaaProg
import Derived.Test.YtanibkocihjgjaaOwn
import Derived.Lib.Hide
namespace Go.Proofs.Ytanibkocihjgjaa
open Go.RowKit

theorem rot_m16 (x : BitVec 32) (w : World) : Calls Try.prog 59 #[U32 x, .int .i64 (-16)] w fun e w' => e = .returned (U32 (x.rotateLeft 16)) ∧ w = w' := by
  have h1 : bits BinOp.and IntKind.u64 (IntKind.u64.wrap (-16)) 31 = 16 := by decide
  go_enter Try.func59, Try.ntmps59
  go_wp2
  go_ret
  exact ⟨rfl, rfl⟩
theorem rot_m12 (x : BitVec 32) (w : World) : Calls Try.prog 59 #[U32 x, .int .i64 (-12)] w fun e w' => e = .returned (U32 (x.rotateLeft 20)) ∧ w = w' := by
  have h1 : bits BinOp.and IntKind.u64 (IntKind.u64.wrap (-12)) 31 = 20 := by decide
  go_enter Try.func59, Try.ntmps59
  go_wp2
  go_ret
  exact ⟨rfl, rfl⟩
theorem rot_m8 (x : BitVec 32) (w : World) : Calls Try.prog 59 #[U32 x, .int .i64 (-8)] w fun e w' => e = .returned (U32 (x.rotateLeft 24)) ∧ w = w' := by
  have h1 : bits BinOp.and IntKind.u64 (IntKind.u64.wrap (-8)) 31 = 24 := by decide
  go_enter Try.func59, Try.ntmps59
  go_wp2
  go_ret
  exact ⟨rfl, rfl⟩
theorem rot_m7 (x : BitVec 32) (w : World) : Calls Try.prog 59 #[U32 x, .int .i64 (-7)] w fun e w' => e = .returned (U32 (x.rotateLeft 25)) ∧ w = w' := by
  have h1 : bits BinOp.and IntKind.u64 (IntKind.u64.wrap (-7)) 31 = 25 := by decide
  go_enter Try.func59, Try.ntmps59
  go_wp2
  go_ret
  exact ⟨rfl, rfl⟩
theorem rot_7 (x : BitVec 32) (w : World) : Calls Try.prog 59 #[U32 x, .int .i64 (7)] w fun e w' => e = .returned (U32 (x.rotateLeft 7)) ∧ w = w' := by
  have h1 : bits BinOp.and IntKind.u64 7 31 = 7 := by decide
  go_enter Try.func59, Try.ntmps59
  go_wp2
  go_ret
  exact ⟨rfl, rfl⟩
theorem rot_8 (x : BitVec 32) (w : World) : Calls Try.prog 59 #[U32 x, .int .i64 (8)] w fun e w' => e = .returned (U32 (x.rotateLeft 8)) ∧ w = w' := by
  have h1 : bits BinOp.and IntKind.u64 8 31 = 8 := by decide
  go_enter Try.func59, Try.ntmps59
  go_wp2
  go_ret
  exact ⟨rfl, rfl⟩
theorem rot_12 (x : BitVec 32) (w : World) : Calls Try.prog 59 #[U32 x, .int .i64 (12)] w fun e w' => e = .returned (U32 (x.rotateLeft 12)) ∧ w = w' := by
  have h1 : bits BinOp.and IntKind.u64 12 31 = 12 := by decide
  go_enter Try.func59, Try.ntmps59
  go_wp2
  go_ret
  exact ⟨rfl, rfl⟩
theorem rot_16 (x : BitVec 32) (w : World) : Calls Try.prog 59 #[U32 x, .int .i64 (16)] w fun e w' => e = .returned (U32 (x.rotateLeft 16)) ∧ w = w' := by
  have h1 : bits BinOp.and IntKind.u64 16 31 = 16 := by decide
  go_enter Try.func59, Try.ntmps59
  go_wp2
  go_ret
  exact ⟨rfl, rfl⟩
/-- G, statement by statement. -/
def mixV (V : Nat → BitVec 32) (a b c d : Nat) (x y : BitVec 32) : Nat → BitVec 32 :=
  let V1 := upd V a (V a + (V b + x))
  let V2 := upd V1 d ((V1 d ^^^ V1 a).rotateLeft 16)
  let V3 := upd V2 c (V2 c + V2 d)
  let V4 := upd V3 b ((V3 b ^^^ V3 c).rotateLeft 20)
  let V5 := upd V4 a (V4 a + (V4 b + y))
  let V6 := upd V5 d ((V5 d ^^^ V5 a).rotateLeft 24)
  let V7 := upd V6 c (V6 c + V6 d)
  upd V7 b ((V7 b ^^^ V7 c).rotateLeft 25)
/-- G back, statement by statement. -/
def unmV (V : Nat → BitVec 32) (a b c d : Nat) (x y : BitVec 32) : Nat → BitVec 32 :=
  let V1 := upd V b ((V b).rotateLeft 7 ^^^ V c)
  let V2 := upd V1 c (V1 c - V1 d)
  let V3 := upd V2 d ((V2 d).rotateLeft 8 ^^^ V2 a)
  let V4 := upd V3 a (V3 a - (V3 b + y))
  let V5 := upd V4 b ((V4 b).rotateLeft 12 ^^^ V4 c)
  let V6 := upd V5 c (V5 c - V5 d)
  let V7 := upd V6 d ((V6 d).rotateLeft 16 ^^^ V6 a)
  upd V7 a (V7 a - (V7 b + x))

set_option maxHeartbeats 1000000 in
theorem mix_any {t : TypeId} (a b c d : Nat) (x y : BitVec 32) (B : Nat) (V0 : Nat → BitVec 32) (w : World) (hB : Blk w B t (words 16 V0)) (ha : a < 16) (hb : b < 16) (hc : c < 16) (hd : d < 16) :
    Calls Try.prog 48 #[.pointer (some ⟨B, 0, none⟩), .int .i64 a, .int .i64 b, .int .i64 c, .int .i64 d, U32 x, U32 y] w
      fun e w' => e = .returned (.tuple #[]) ∧ Keeps w w' [B] ∧ Blk w' B t (words 16 (mixV V0 a b c d x y)) := by
  have O := (Own.start w [B]).have_ hB (by simp) (by simp)
  clear hB
  go_enter Try.func48, Try.ntmps48
  have c0 := (O.get 0 rfl).cell
  -- statement 1
  go_wp2
  refine wp_quiet_tail_drawn 15 (by kernel_rfl) (by kernel_rfl) ?_
  simp only [List.take, List.drop]
  repeat (go_big_quiet_step (fail))
  refine wpQuiet_nil ?_
  intro _ hw
  obtain ⟨n0, rfl⟩ := hw
  refine own_store 0 a (U32 (V0 a + (V0 b + x))) (.tmp 28) (.tmp 26) (O.drewN n0) rfl rfl rfl rfl rfl rfl (by simp only [words_size]; omega) rfl rfl (by kernel_rfl) (words_set 16 _ a _) ?_
  clear O c0
  intro W O
  simp only [List.set_cons_zero] at O
  generalize hV1 : upd V0 a _ = V1 at O
  have HV1 := Lib.hid hV1
  clear hV1
  have c1 := (O.get 0 rfl).cell
  -- statement 2
  go_wp2
  refine wp_quiet_tail_drawn 16 (by kernel_rfl) (by kernel_rfl) ?_
  simp only [List.take, List.drop]
  repeat (go_big_quiet_step ((go_at_call 59; exact quiet_left (rot_m16 _ _))))
  refine wpQuiet_nil ?_
  intro _ hw
  obtain ⟨n1, rfl⟩ := hw
  refine own_store 0 d (U32 ((V1 d ^^^ V1 a).rotateLeft 16)) (.tmp 44) (.tmp 42) (O.drewN n1) rfl rfl rfl rfl rfl rfl (by simp only [words_size]; omega) rfl rfl (by kernel_rfl) (words_set 16 _ d _) ?_
  clear O c1
  intro W O
  simp only [List.set_cons_zero] at O
  generalize hV2 : upd V1 d _ = V2 at O
  have HV2 := Lib.hid hV2
  clear hV2
  have c2 := (O.get 0 rfl).cell
  -- statement 3
  go_wp2
  refine wp_quiet_tail_drawn 13 (by kernel_rfl) (by kernel_rfl) ?_
  simp only [List.take, List.drop]
  repeat (go_big_quiet_step (fail))
  refine wpQuiet_nil ?_
  intro _ hw
  obtain ⟨n2, rfl⟩ := hw
  refine own_store 0 c (U32 (V2 c + V2 d)) (.tmp 57) (.tmp 55) (O.drewN n2) rfl rfl rfl rfl rfl rfl (by simp only [words_size]; omega) rfl rfl (by kernel_rfl) (words_set 16 _ c _) ?_
  clear O c2
  intro W O
  simp only [List.set_cons_zero] at O
  generalize hV3 : upd V2 c _ = V3 at O
  have HV3 := Lib.hid hV3
  clear hV3
  have c3 := (O.get 0 rfl).cell
  -- statement 4
  go_wp2
  refine wp_quiet_tail_drawn 16 (by kernel_rfl) (by kernel_rfl) ?_
  simp only [List.take, List.drop]
  repeat (go_big_quiet_step ((go_at_call 59; exact quiet_left (rot_m12 _ _))))
  refine wpQuiet_nil ?_
  intro _ hw
  obtain ⟨n3, rfl⟩ := hw
  refine own_store 0 b (U32 ((V3 b ^^^ V3 c).rotateLeft 20)) (.tmp 73) (.tmp 71) (O.drewN n3) rfl rfl rfl rfl rfl rfl (by simp only [words_size]; omega) rfl rfl (by kernel_rfl) (words_set 16 _ b _) ?_
  clear O c3
  intro W O
  simp only [List.set_cons_zero] at O
  generalize hV4 : upd V3 b _ = V4 at O
  have HV4 := Lib.hid hV4
  clear hV4
  have c4 := (O.get 0 rfl).cell
  -- statement 5
  go_wp2
  refine wp_quiet_tail_drawn 15 (by kernel_rfl) (by kernel_rfl) ?_
  simp only [List.take, List.drop]
  repeat (go_big_quiet_step (fail))
  refine wpQuiet_nil ?_
  intro _ hw
  obtain ⟨n4, rfl⟩ := hw
  refine own_store 0 a (U32 (V4 a + (V4 b + y))) (.tmp 88) (.tmp 86) (O.drewN n4) rfl rfl rfl rfl rfl rfl (by simp only [words_size]; omega) rfl rfl (by kernel_rfl) (words_set 16 _ a _) ?_
  clear O c4
  intro W O
  simp only [List.set_cons_zero] at O
  generalize hV5 : upd V4 a _ = V5 at O
  have HV5 := Lib.hid hV5
  clear hV5
  have c5 := (O.get 0 rfl).cell
  -- statement 6
  go_wp2
  refine wp_quiet_tail_drawn 16 (by kernel_rfl) (by kernel_rfl) ?_
  simp only [List.take, List.drop]
  repeat (go_big_quiet_step ((go_at_call 59; exact quiet_left (rot_m8 _ _))))
  refine wpQuiet_nil ?_
  intro _ hw
  obtain ⟨n5, rfl⟩ := hw
  refine own_store 0 d (U32 ((V5 d ^^^ V5 a).rotateLeft 24)) (.tmp 104) (.tmp 102) (O.drewN n5) rfl rfl rfl rfl rfl rfl (by simp only [words_size]; omega) rfl rfl (by kernel_rfl) (words_set 16 _ d _) ?_
  clear O c5
  intro W O
  simp only [List.set_cons_zero] at O
  generalize hV6 : upd V5 d _ = V6 at O
  have HV6 := Lib.hid hV6
  clear hV6
  have c6 := (O.get 0 rfl).cell
  -- statement 7
  go_wp2
  refine wp_quiet_tail_drawn 13 (by kernel_rfl) (by kernel_rfl) ?_
  simp only [List.take, List.drop]
  repeat (go_big_quiet_step (fail))
  refine wpQuiet_nil ?_
  intro _ hw
  obtain ⟨n6, rfl⟩ := hw
  refine own_store 0 c (U32 (V6 c + V6 d)) (.tmp 117) (.tmp 115) (O.drewN n6) rfl rfl rfl rfl rfl rfl (by simp only [words_size]; omega) rfl rfl (by kernel_rfl) (words_set 16 _ c _) ?_
  clear O c6
  intro W O
  simp only [List.set_cons_zero] at O
  generalize hV7 : upd V6 c _ = V7 at O
  have HV7 := Lib.hid hV7
  clear hV7
  have c7 := (O.get 0 rfl).cell
  -- statement 8
  go_wp2
  refine wp_quiet_tail_drawn 16 (by kernel_rfl) (by kernel_rfl) ?_
  simp only [List.take, List.drop]
  repeat (go_big_quiet_step ((go_at_call 59; exact quiet_left (rot_m7 _ _))))
  refine wpQuiet_nil ?_
  intro _ hw
  obtain ⟨n7, rfl⟩ := hw
  refine own_store 0 b (U32 ((V7 b ^^^ V7 c).rotateLeft 25)) (.tmp 133) (.tmp 131) (O.drewN n7) rfl rfl rfl rfl rfl rfl (by simp only [words_size]; omega) rfl rfl (by kernel_rfl) (words_set 16 _ b _) ?_
  clear O c7
  intro W O
  simp only [List.set_cons_zero] at O
  generalize hV8 : upd V7 b _ = V8 at O
  have HV8 := Lib.hid hV8
  clear hV8
  have c8 := (O.get 0 rfl).cell
  clear c8
  go_wp2
  go_end0
  have B8 := O.get 0 rfl
  rw [← HV8.out, ← HV7.out, ← HV6.out, ← HV5.out, ← HV4.out, ← HV3.out, ← HV2.out, ← HV1.out] at B8
  exact ⟨rfl, O.keep, B8⟩

set_option maxHeartbeats 1000000 in
theorem unm_any {t : TypeId} (a b c d : Nat) (x y : BitVec 32) (B : Nat) (V0 : Nat → BitVec 32) (w : World) (hB : Blk w B t (words 16 V0)) (ha : a < 16) (hb : b < 16) (hc : c < 16) (hd : d < 16) :
    Calls Try.prog 51 #[.pointer (some ⟨B, 0, none⟩), .int .i64 a, .int .i64 b, .int .i64 c, .int .i64 d, U32 x, U32 y] w
      fun e w' => e = .returned (.tuple #[]) ∧ Keeps w w' [B] ∧ Blk w' B t (words 16 (unmV V0 a b c d x y)) := by
  have O := (Own.start w [B]).have_ hB (by simp) (by simp)
  clear hB
  go_enter Try.func51, Try.ntmps51
  have c0 := (O.get 0 rfl).cell
  -- statement 1
  go_wp2
  refine wp_quiet_tail_drawn 16 (by kernel_rfl) (by kernel_rfl) ?_
  simp only [List.take, List.drop]
  repeat (go_big_quiet_step ((go_at_call 59; exact quiet_left (rot_7 _ _))))
  refine wpQuiet_nil ?_
  intro _ hw
  obtain ⟨n0, rfl⟩ := hw
  refine own_store 0 b (U32 ((V0 b).rotateLeft 7 ^^^ V0 c)) (.tmp 29) (.tmp 27) (O.drewN n0) rfl rfl rfl rfl rfl rfl (by simp only [words_size]; omega) rfl rfl (by kernel_rfl) (words_set 16 _ b _) ?_
  clear O c0
  intro W O
  simp only [List.set_cons_zero] at O
  generalize hV1 : upd V0 b _ = V1 at O
  have HV1 := Lib.hid hV1
  clear hV1
  have c1 := (O.get 0 rfl).cell
  -- statement 2
  go_wp2
  refine wp_quiet_tail_drawn 13 (by kernel_rfl) (by kernel_rfl) ?_
  simp only [List.take, List.drop]
  repeat (go_big_quiet_step (fail))
  refine wpQuiet_nil ?_
  intro _ hw
  obtain ⟨n1, rfl⟩ := hw
  refine own_store 0 c (U32 (V1 c - V1 d)) (.tmp 42) (.tmp 40) (O.drewN n1) rfl rfl rfl rfl rfl rfl (by simp only [words_size]; omega) rfl rfl (by kernel_rfl) (words_set 16 _ c _) ?_
  clear O c1
  intro W O
  simp only [List.set_cons_zero] at O
  generalize hV2 : upd V1 c _ = V2 at O
  have HV2 := Lib.hid hV2
  clear hV2
  have c2 := (O.get 0 rfl).cell
  -- statement 3
  go_wp2
  refine wp_quiet_tail_drawn 16 (by kernel_rfl) (by kernel_rfl) ?_
  simp only [List.take, List.drop]
  repeat (go_big_quiet_step ((go_at_call 59; exact quiet_left (rot_8 _ _))))
  refine wpQuiet_nil ?_
  intro _ hw
  obtain ⟨n2, rfl⟩ := hw
  refine own_store 0 d (U32 ((V2 d).rotateLeft 8 ^^^ V2 a)) (.tmp 58) (.tmp 56) (O.drewN n2) rfl rfl rfl rfl rfl rfl (by simp only [words_size]; omega) rfl rfl (by kernel_rfl) (words_set 16 _ d _) ?_
  clear O c2
  intro W O
  simp only [List.set_cons_zero] at O
  generalize hV3 : upd V2 d _ = V3 at O
  have HV3 := Lib.hid hV3
  clear hV3
  have c3 := (O.get 0 rfl).cell
  -- statement 4
  go_wp2
  refine wp_quiet_tail_drawn 15 (by kernel_rfl) (by kernel_rfl) ?_
  simp only [List.take, List.drop]
  repeat (go_big_quiet_step (fail))
  refine wpQuiet_nil ?_
  intro _ hw
  obtain ⟨n3, rfl⟩ := hw
  refine own_store 0 a (U32 (V3 a - (V3 b + y))) (.tmp 73) (.tmp 71) (O.drewN n3) rfl rfl rfl rfl rfl rfl (by simp only [words_size]; omega) rfl rfl (by kernel_rfl) (words_set 16 _ a _) ?_
  clear O c3
  intro W O
  simp only [List.set_cons_zero] at O
  generalize hV4 : upd V3 a _ = V4 at O
  have HV4 := Lib.hid hV4
  clear hV4
  have c4 := (O.get 0 rfl).cell
  -- statement 5
  go_wp2
  refine wp_quiet_tail_drawn 16 (by kernel_rfl) (by kernel_rfl) ?_
  simp only [List.take, List.drop]
  repeat (go_big_quiet_step ((go_at_call 59; exact quiet_left (rot_12 _ _))))
  refine wpQuiet_nil ?_
  intro _ hw
  obtain ⟨n4, rfl⟩ := hw
  refine own_store 0 b (U32 ((V4 b).rotateLeft 12 ^^^ V4 c)) (.tmp 89) (.tmp 87) (O.drewN n4) rfl rfl rfl rfl rfl rfl (by simp only [words_size]; omega) rfl rfl (by kernel_rfl) (words_set 16 _ b _) ?_
  clear O c4
  intro W O
  simp only [List.set_cons_zero] at O
  generalize hV5 : upd V4 b _ = V5 at O
  have HV5 := Lib.hid hV5
  clear hV5
  have c5 := (O.get 0 rfl).cell
  -- statement 6
  go_wp2
  refine wp_quiet_tail_drawn 13 (by kernel_rfl) (by kernel_rfl) ?_
  simp only [List.take, List.drop]
  repeat (go_big_quiet_step (fail))
  refine wpQuiet_nil ?_
  intro _ hw
  obtain ⟨n5, rfl⟩ := hw
  refine own_store 0 c (U32 (V5 c - V5 d)) (.tmp 102) (.tmp 100) (O.drewN n5) rfl rfl rfl rfl rfl rfl (by simp only [words_size]; omega) rfl rfl (by kernel_rfl) (words_set 16 _ c _) ?_
  clear O c5
  intro W O
  simp only [List.set_cons_zero] at O
  generalize hV6 : upd V5 c _ = V6 at O
  have HV6 := Lib.hid hV6
  clear hV6
  have c6 := (O.get 0 rfl).cell
  -- statement 7
  go_wp2
  refine wp_quiet_tail_drawn 16 (by kernel_rfl) (by kernel_rfl) ?_
  simp only [List.take, List.drop]
  repeat (go_big_quiet_step ((go_at_call 59; exact quiet_left (rot_16 _ _))))
  refine wpQuiet_nil ?_
  intro _ hw
  obtain ⟨n6, rfl⟩ := hw
  refine own_store 0 d (U32 ((V6 d).rotateLeft 16 ^^^ V6 a)) (.tmp 118) (.tmp 116) (O.drewN n6) rfl rfl rfl rfl rfl rfl (by simp only [words_size]; omega) rfl rfl (by kernel_rfl) (words_set 16 _ d _) ?_
  clear O c6
  intro W O
  simp only [List.set_cons_zero] at O
  generalize hV7 : upd V6 d _ = V7 at O
  have HV7 := Lib.hid hV7
  clear hV7
  have c7 := (O.get 0 rfl).cell
  -- statement 8
  go_wp2
  refine wp_quiet_tail_drawn 15 (by kernel_rfl) (by kernel_rfl) ?_
  simp only [List.take, List.drop]
  repeat (go_big_quiet_step (fail))
  refine wpQuiet_nil ?_
  intro _ hw
  obtain ⟨n7, rfl⟩ := hw
  refine own_store 0 a (U32 (V7 a - (V7 b + x))) (.tmp 133) (.tmp 131) (O.drewN n7) rfl rfl rfl rfl rfl rfl (by simp only [words_size]; omega) rfl rfl (by kernel_rfl) (words_set 16 _ a _) ?_
  clear O c7
  intro W O
  simp only [List.set_cons_zero] at O
  generalize hV8 : upd V7 a _ = V8 at O
  have HV8 := Lib.hid hV8
  clear hV8
  have c8 := (O.get 0 rfl).cell
  clear c8
  go_wp2
  go_end0
  have B8 := O.get 0 rfl
  rw [← HV8.out, ← HV7.out, ← HV6.out, ← HV5.out, ← HV4.out, ← HV3.out, ← HV2.out, ← HV1.out] at B8
  exact ⟨rfl, O.keep, B8⟩
end Go.Proofs.Ytanibkocihjgjaa
