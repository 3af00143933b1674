import Derived.Test.YtainpnjddhabfaaProg
import Derived.Test.YtainpnjddhabfaaBase
import Derived.Lib.Hide
namespace Go.Proofs.Ytainpnjddhabfaa
open Go.RowKit

theorem rot_m32 (x : BitVec 64) (w : World) :
    Calls Try.prog 49 #[U64 x, .int .i64 (-32)] w fun e w' => e = .returned (U64 (x.rotateLeft 32)) ∧ w = w' := by
  have h1 : bits BinOp.and IntKind.u64 (IntKind.u64.wrap (-32)) 63 = 32 := by decide
  go_enter Try.func49, Try.ntmps49
  go_wp2
  go_ret
  exact ⟨rfl, rfl⟩
theorem rot_m24 (x : BitVec 64) (w : World) :
    Calls Try.prog 49 #[U64 x, .int .i64 (-24)] w fun e w' => e = .returned (U64 (x.rotateLeft 40)) ∧ w = w' := by
  have h1 : bits BinOp.and IntKind.u64 (IntKind.u64.wrap (-24)) 63 = 40 := by decide
  go_enter Try.func49, Try.ntmps49
  go_wp2
  go_ret
  exact ⟨rfl, rfl⟩
theorem rot_m16 (x : BitVec 64) (w : World) :
    Calls Try.prog 49 #[U64 x, .int .i64 (-16)] w fun e w' => e = .returned (U64 (x.rotateLeft 48)) ∧ w = w' := by
  have h1 : bits BinOp.and IntKind.u64 (IntKind.u64.wrap (-16)) 63 = 48 := by decide
  go_enter Try.func49, Try.ntmps49
  go_wp2
  go_ret
  exact ⟨rfl, rfl⟩
theorem rot_m63 (x : BitVec 64) (w : World) :
    Calls Try.prog 49 #[U64 x, .int .i64 (-63)] w fun e w' => e = .returned (U64 (x.rotateLeft 1)) ∧ w = w' := by
  have h1 : bits BinOp.and IntKind.u64 (IntKind.u64.wrap (-63)) 63 = 1 := by decide
  go_enter Try.func49, Try.ntmps49
  go_wp2
  go_ret
  exact ⟨rfl, rfl⟩

/-- Go's G, statement by statement. -/
def stepB (V : Nat → BitVec 64) (a b c d : Nat) (x y : BitVec 64) : Nat → BitVec 64 :=
  let V1 := upd V a (V a + (V b + x))
  let V2 := upd V1 d ((V1 d ^^^ V1 a).rotateLeft 32)
  let V3 := upd V2 c (V2 c + V2 d)
  let V4 := upd V3 b ((V3 b ^^^ V3 c).rotateLeft 40)
  let V5 := upd V4 a (V4 a + (V4 b + y))
  let V6 := upd V5 d ((V5 d ^^^ V5 a).rotateLeft 48)
  let V7 := upd V6 c (V6 c + V6 d)
  upd V7 b ((V7 b ^^^ V7 c).rotateLeft 1)

set_option maxHeartbeats 1000000 in
theorem step_any {t : TypeId} (a b c d : Nat) (x y : BitVec 64) (B : Nat) (V0 : Nat → BitVec 64) (w : World) (hB : Blk w B t (words 16 V0)) (ha : a < 16) (hb : b < 16) (hc : c < 16) (hd : d < 16) :
    Calls Try.prog 37 #[.pointer (some ⟨B, 0, none⟩), .agg #[.int .i64 a, .int .i64 b, .int .i64 c, .int .i64 d], U64 x, U64 y] w
      fun e w' => e = .returned (.tuple #[]) ∧ Keeps w w' [B] ∧ Blk w' B t (words 16 (stepB V0 a b c d x y)) := by
  have hl := hB.lt
  go_enter Try.func37, Try.ntmps37
  go_wp2
  go_quiet (fail)
  generalize hW : World.drewN (World.alloc w _) _ = u0
  have K0 : Keeps w u0 [B] := by rw [← hW]; exact ((Keeps.refl _ _).alloc _).drewN _
  have B0 : Blk u0 B t (words 16 V0) := by rw [← hW]; exact (hB.alloc _).drewN _
  clear hW hB
  have k0 := B0.cell
  have z0 := B0.frozen
  -- statement 1
  go_wp2
  refine wp_quiet_tail_drawn 15 (by kernel_rfl) (by kernel_rfl) ?_
  simp only [List.take, List.drop]
  repeat (go_big_quiet_step (fail))
  refine wpQuiet_nil ?_
  intro _ hw
  obtain ⟨n0, rfl⟩ := hw
  refine wpList_store_blk B a t _ (U64 (V0 a + (V0 b + x))) rfl rfl rfl rfl rfl (B0.drewN n0) (by simp only [words_size]; omega) rfl rfl (by kernel_rfl) ?_
  intro u1 kp1 B1
  rw [words_set] at B1
  generalize hV1 : upd V0 a _ = V1 at B1
  have K1 := K0.trans (Keeps.trans ((Keeps.refl _ [B]).drewN n0) kp1 (fun _ h _ => h)) (fun _ h _ => h)
  have HV1 := Lib.hid hV1
  clear hV1 kp1 K0 B0 k0 z0
  have k1 := B1.cell
  have z1 := B1.frozen
  -- statement 2
  go_wp2
  refine wp_quiet_tail_drawn 16 (by kernel_rfl) (by kernel_rfl) ?_
  simp only [List.take, List.drop]
  repeat (go_big_quiet_step ((go_at_call 49; exact quiet_left (rot_m32 _ _))))
  refine wpQuiet_nil ?_
  intro _ hw
  obtain ⟨n1, rfl⟩ := hw
  refine wpList_store_blk B d t _ (U64 ((V1 d ^^^ V1 a).rotateLeft 32)) rfl rfl rfl rfl rfl (B1.drewN n1) (by simp only [words_size]; omega) rfl rfl (by kernel_rfl) ?_
  intro u2 kp2 B2
  rw [words_set] at B2
  generalize hV2 : upd V1 d _ = V2 at B2
  have K2 := K1.trans (Keeps.trans ((Keeps.refl _ [B]).drewN n1) kp2 (fun _ h _ => h)) (fun _ h _ => h)
  have HV2 := Lib.hid hV2
  clear hV2 kp2 K1 B1 k1 z1
  have k2 := B2.cell
  have z2 := B2.frozen
  -- statement 3
  go_wp2
  refine wp_quiet_tail_drawn 13 (by kernel_rfl) (by kernel_rfl) ?_
  simp only [List.take, List.drop]
  repeat (go_big_quiet_step (fail))
  refine wpQuiet_nil ?_
  intro _ hw
  obtain ⟨n2, rfl⟩ := hw
  refine wpList_store_blk B c t _ (U64 (V2 c + V2 d)) rfl rfl rfl rfl rfl (B2.drewN n2) (by simp only [words_size]; omega) rfl rfl (by kernel_rfl) ?_
  intro u3 kp3 B3
  rw [words_set] at B3
  generalize hV3 : upd V2 c _ = V3 at B3
  have K3 := K2.trans (Keeps.trans ((Keeps.refl _ [B]).drewN n2) kp3 (fun _ h _ => h)) (fun _ h _ => h)
  have HV3 := Lib.hid hV3
  clear hV3 kp3 K2 B2 k2 z2
  have k3 := B3.cell
  have z3 := B3.frozen
  -- statement 4
  go_wp2
  refine wp_quiet_tail_drawn 16 (by kernel_rfl) (by kernel_rfl) ?_
  simp only [List.take, List.drop]
  repeat (go_big_quiet_step ((go_at_call 49; exact quiet_left (rot_m24 _ _))))
  refine wpQuiet_nil ?_
  intro _ hw
  obtain ⟨n3, rfl⟩ := hw
  refine wpList_store_blk B b t _ (U64 ((V3 b ^^^ V3 c).rotateLeft 40)) rfl rfl rfl rfl rfl (B3.drewN n3) (by simp only [words_size]; omega) rfl rfl (by kernel_rfl) ?_
  intro u4 kp4 B4
  rw [words_set] at B4
  generalize hV4 : upd V3 b _ = V4 at B4
  have K4 := K3.trans (Keeps.trans ((Keeps.refl _ [B]).drewN n3) kp4 (fun _ h _ => h)) (fun _ h _ => h)
  have HV4 := Lib.hid hV4
  clear hV4 kp4 K3 B3 k3 z3
  have k4 := B4.cell
  have z4 := B4.frozen
  -- statement 5
  go_wp2
  refine wp_quiet_tail_drawn 15 (by kernel_rfl) (by kernel_rfl) ?_
  simp only [List.take, List.drop]
  repeat (go_big_quiet_step (fail))
  refine wpQuiet_nil ?_
  intro _ hw
  obtain ⟨n4, rfl⟩ := hw
  refine wpList_store_blk B a t _ (U64 (V4 a + (V4 b + y))) rfl rfl rfl rfl rfl (B4.drewN n4) (by simp only [words_size]; omega) rfl rfl (by kernel_rfl) ?_
  intro u5 kp5 B5
  rw [words_set] at B5
  generalize hV5 : upd V4 a _ = V5 at B5
  have K5 := K4.trans (Keeps.trans ((Keeps.refl _ [B]).drewN n4) kp5 (fun _ h _ => h)) (fun _ h _ => h)
  have HV5 := Lib.hid hV5
  clear hV5 kp5 K4 B4 k4 z4
  have k5 := B5.cell
  have z5 := B5.frozen
  -- statement 6
  go_wp2
  refine wp_quiet_tail_drawn 16 (by kernel_rfl) (by kernel_rfl) ?_
  simp only [List.take, List.drop]
  repeat (go_big_quiet_step ((go_at_call 49; exact quiet_left (rot_m16 _ _))))
  refine wpQuiet_nil ?_
  intro _ hw
  obtain ⟨n5, rfl⟩ := hw
  refine wpList_store_blk B d t _ (U64 ((V5 d ^^^ V5 a).rotateLeft 48)) rfl rfl rfl rfl rfl (B5.drewN n5) (by simp only [words_size]; omega) rfl rfl (by kernel_rfl) ?_
  intro u6 kp6 B6
  rw [words_set] at B6
  generalize hV6 : upd V5 d _ = V6 at B6
  have K6 := K5.trans (Keeps.trans ((Keeps.refl _ [B]).drewN n5) kp6 (fun _ h _ => h)) (fun _ h _ => h)
  have HV6 := Lib.hid hV6
  clear hV6 kp6 K5 B5 k5 z5
  have k6 := B6.cell
  have z6 := B6.frozen
  -- statement 7
  go_wp2
  refine wp_quiet_tail_drawn 13 (by kernel_rfl) (by kernel_rfl) ?_
  simp only [List.take, List.drop]
  repeat (go_big_quiet_step (fail))
  refine wpQuiet_nil ?_
  intro _ hw
  obtain ⟨n6, rfl⟩ := hw
  refine wpList_store_blk B c t _ (U64 (V6 c + V6 d)) rfl rfl rfl rfl rfl (B6.drewN n6) (by simp only [words_size]; omega) rfl rfl (by kernel_rfl) ?_
  intro u7 kp7 B7
  rw [words_set] at B7
  generalize hV7 : upd V6 c _ = V7 at B7
  have K7 := K6.trans (Keeps.trans ((Keeps.refl _ [B]).drewN n6) kp7 (fun _ h _ => h)) (fun _ h _ => h)
  have HV7 := Lib.hid hV7
  clear hV7 kp7 K6 B6 k6 z6
  have k7 := B7.cell
  have z7 := B7.frozen
  -- statement 8
  go_wp2
  refine wp_quiet_tail_drawn 16 (by kernel_rfl) (by kernel_rfl) ?_
  simp only [List.take, List.drop]
  repeat (go_big_quiet_step ((go_at_call 49; exact quiet_left (rot_m63 _ _))))
  refine wpQuiet_nil ?_
  intro _ hw
  obtain ⟨n7, rfl⟩ := hw
  refine wpList_store_blk B b t _ (U64 ((V7 b ^^^ V7 c).rotateLeft 1)) rfl rfl rfl rfl rfl (B7.drewN n7) (by simp only [words_size]; omega) rfl rfl (by kernel_rfl) ?_
  intro u8 kp8 B8
  rw [words_set] at B8
  generalize hV8 : upd V7 b _ = V8 at B8
  have K8 := K7.trans (Keeps.trans ((Keeps.refl _ [B]).drewN n7) kp8 (fun _ h _ => h)) (fun _ h _ => h)
  have HV8 := Lib.hid hV8
  clear hV8 kp8 K7 B7 k7 z7
  have k8 := B8.cell
  have z8 := B8.frozen
  go_wp2
  go_end0
  refine ⟨rfl, K8, ?_⟩
  rw [← HV8.out, ← HV7.out, ← HV6.out, ← HV5.out, ← HV4.out, ← HV3.out, ← HV2.out, ← HV1.out] at B8
  exact B8
end Go.Proofs.Ytainpnjddhabfaa
