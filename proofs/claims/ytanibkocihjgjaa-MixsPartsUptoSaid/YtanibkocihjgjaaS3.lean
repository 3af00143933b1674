/-
  G and Ungroup of mixs and of the reference, at all places.
-/
import Derived.Test.YtanibkocihjgjaaS2
namespace Go.Proofs.Ytanibkocihjgjaa
open Go.RowKit

theorem results_cell_tmp {P : Program} {fn : Func} {p q : Tmp} {ty : TypeId} (h : fn.results = #[.cell p ty, .tmp q]) (tmps : Array Value) (w : World) (g : Nat) (t : TypeId) (cs : Array Value) (d : TypeDesc)
    (hp : tmps.getD p undef = .pointer (some ⟨g, 0, none⟩)) (hg : Blk w g t cs)
    (hu : P.underlying ty = some d) (hd : (match d with | .struct _ | .array _ _ => true | _ => false) = true) (hi : (P.info? ty).map (·.size) = some cs.size) (v : Value) (hq : tmps.getD q undef = v) :
    (results fn tmps).run P w = .ok (.tuple #[.agg cs, v]) w := by
  have hp' : tmps[p]?.getD undef = .pointer (some ⟨g, 0, none⟩) := by simpa using hp
  subst hq
  simp [results, h, hp', asAddr, run_loadVar_row w g t ty cs (0, 0) d hg hu hd hi]

theorem bv_sub_sub (a b c : BitVec 32) : a - b - c = a - (b + c) := by
  apply BitVec.eq_of_toNat_eq
  simp only [BitVec.toNat_sub, BitVec.toNat_add]
  have := a.isLt; have := b.isLt; have := c.isLt
  omega

/-- What G and Ungroup answer. -/
def gSt (V : Nat → BitVec 32) (a b c d : Int) (x y : BitVec 32) : Nat → BitVec 32 := if fourB a b c d then mixV V a.toNat b.toNat c.toNat d.toNat x y else fun _ => 0
def uSt (V : Nat → BitVec 32) (a b c d : Int) (x y : BitVec 32) : Nat → BitVec 32 := if fourB a b c d then unmV V a.toNat b.toNat c.toNat d.toNat x y else fun _ => 0
def gEr (a b c d : Int) : Int := if fourB a b c d then 0 else 1
theorem gSt_yes (V : Nat → BitVec 32) {a b c d : Nat} (x y : BitVec 32) (h : fourB a b c d = true) : gSt V a b c d x y = mixV V a b c d x y := by unfold gSt; rw [if_pos h]; rfl
theorem uSt_yes (V : Nat → BitVec 32) {a b c d : Nat} (x y : BitVec 32) (h : fourB a b c d = true) : uSt V a b c d x y = unmV V a b c d x y := by unfold uSt; rw [if_pos h]; rfl
theorem gSt_no (V : Nat → BitVec 32) {a b c d : Int} (x y : BitVec 32) (h : fourB a b c d = false) : gSt V a b c d x y = fun _ => 0 := by unfold gSt; rw [h]; rfl
theorem uSt_no (V : Nat → BitVec 32) {a b c d : Int} (x y : BitVec 32) (h : fourB a b c d = false) : uSt V a b c d x y = fun _ => 0 := by unfold uSt; rw [h]; rfl
theorem gEr_yes {a b c d : Int} (h : fourB a b c d = true) : gEr a b c d = 0 := by unfold gEr; rw [if_pos h]
theorem gEr_no {a b c d : Int} (h : fourB a b c d = false) : gEr a b c d = 1 := by unfold gEr; rw [h]; rfl

set_option maxHeartbeats 2000000 in
theorem g_any (V0 : Nat → BitVec 32) (a b c d : Int) (x y : BitVec 32) (w : World) :
    Calls Try.prog 14 #[.agg (words 16 V0), .int .i64 a, .int .i64 b, .int .i64 c, .int .i64 d, U32 x, U32 y] w fun e w' => e = .returned (.tuple #[.agg (words 16 (gSt V0 a b c d x y)), .int .i64 (gEr a b c d)]) ∧ Keeps w w' [] := by
  have O := Own.start w []
  have hf := fun w => four_any a b c d w
  cases h4 : fourB a b c d with
  | false =>
    rw [gSt_no _ _ _ h4, gEr_no h4]
    rw [h4] at hf
    have HF := Lib.hid hf
    clear hf h4
    go_enter Try.func14, Try.ntmps14
    go_wp2_with (first
      | (refine own_box 7 (words 16 V0) O rfl rfl rfl rfl ?_; clear O; intro W a7 O; simp only [Act.put, List.setIfInBounds_toArray, List.set_cons_zero, List.set_cons_succ])
      | (refine own_alloc 14 (words 16 fun _ => 0) O rfl rfl rfl (fun _ => by kernel_rfl) ?_; clear O; intro W a14 O; simp only [Act.put, List.setIfInBounds_toArray, List.set_cons_zero, List.set_cons_succ])
      | (go_at_call 47; refine (HF.out _).mono ?_; rintro e W ⟨rfl, rfl⟩)
      | (refine wpList_const 22 (.agg (words 16 fun _ => 0)) rfl rfl (fun _ => by kernel_rfl) ?_; simp only [Act.put, List.setIfInBounds_toArray, List.set_cons_zero, List.set_cons_succ])
      | (refine own_store_row 0 (.tmp 14) (.tmp 22) O rfl rfl rfl rfl rfl rfl (by kernel_rfl) (by simp only [words_size]) (words_cell _ _) ?_; clear O; intro W O; simp only [List.set_cons_zero] at O))
    refine bodyPost_ret (v := .tuple #[.agg (words 16 fun _ => 0), .int .i64 1]) (results_cell_tmp rfl _ _ a14 23 _ _ rfl (O.get 0 rfl) Try.underlying23 rfl (by kernel_rfl) _ rfl) rfl ⟨?_, O.keep⟩
    rfl
  | true =>
    obtain ⟨i, j, k, l, rfl, rfl, rfl, rfl, hi, hj, hk, hl, n1, n2, n3, n4, n5, n6⟩ := places_nat h4
    rw [gSt_yes _ _ _ h4, gEr_yes h4]
    rw [h4] at hf
    have HF := Lib.hid hf
    clear hf h4 n1 n2 n3 n4 n5 n6
    go_enter Try.func14, Try.ntmps14
    go_wp2_with (first
      | (refine own_box 7 (words 16 V0) O rfl rfl rfl rfl ?_; clear O; intro W a7 O; simp only [Act.put, List.setIfInBounds_toArray, List.set_cons_zero, List.set_cons_succ])
      | (refine own_alloc 14 (words 16 fun _ => 0) O rfl rfl rfl (fun _ => by kernel_rfl) ?_; clear O; intro W a14 O; simp only [Act.put, List.setIfInBounds_toArray, List.set_cons_zero, List.set_cons_succ])
      | (go_at_call 47; refine (HF.out _).mono ?_; rintro e W ⟨rfl, rfl⟩)
      | (go_at_call 48; refine (mix_any i j k l x y a7 V0 W (O.get 1 rfl) hi hj hk hl).mono ?_; rintro e W ⟨rfl, K, B⟩; replace O := O.set 1 rfl K B; clear K B; simp only [List.set_cons_zero, List.set_cons_succ] at O)
      | (refine own_load 30 1 O rfl rfl rfl rfl rfl Try.underlying23 rfl (by kernel_rfl) ?_; simp only [Act.put, List.setIfInBounds_toArray, List.set_cons_zero, List.set_cons_succ])
      | (refine own_store_row 0 (.tmp 14) (.tmp 30) O rfl rfl rfl rfl rfl rfl (by kernel_rfl) (by simp only [words_size]) (words_cell _ _) ?_; clear O; intro W O; simp only [List.set_cons_zero] at O))
    refine bodyPost_ret (v := .tuple #[.agg (words 16 (mixV V0 i j k l x y)), .int .i64 0]) (results_cell_tmp rfl _ _ a14 23 _ _ rfl (O.get 0 rfl) Try.underlying23 rfl (by kernel_rfl) _ rfl) rfl ⟨?_, O.keep⟩
    rfl

set_option maxHeartbeats 2000000 in
theorem ung_any (V0 : Nat → BitVec 32) (a b c d : Int) (x y : BitVec 32) (w : World) :
    Calls Try.prog 16 #[.agg (words 16 V0), .int .i64 a, .int .i64 b, .int .i64 c, .int .i64 d, U32 x, U32 y] w fun e w' => e = .returned (.tuple #[.agg (words 16 (uSt V0 a b c d x y)), .int .i64 (gEr a b c d)]) ∧ Keeps w w' [] := by
  have O := Own.start w []
  have hf := fun w => four_any a b c d w
  cases h4 : fourB a b c d with
  | false =>
    rw [uSt_no _ _ _ h4, gEr_no h4]
    rw [h4] at hf
    have HF := Lib.hid hf
    clear hf h4
    go_enter Try.func16, Try.ntmps16
    go_wp2_with (first
      | (refine own_box 7 (words 16 V0) O rfl rfl rfl rfl ?_; clear O; intro W a7 O; simp only [Act.put, List.setIfInBounds_toArray, List.set_cons_zero, List.set_cons_succ])
      | (refine own_alloc 14 (words 16 fun _ => 0) O rfl rfl rfl (fun _ => by kernel_rfl) ?_; clear O; intro W a14 O; simp only [Act.put, List.setIfInBounds_toArray, List.set_cons_zero, List.set_cons_succ])
      | (go_at_call 47; refine (HF.out _).mono ?_; rintro e W ⟨rfl, rfl⟩)
      | (refine wpList_const 22 (.agg (words 16 fun _ => 0)) rfl rfl (fun _ => by kernel_rfl) ?_; simp only [Act.put, List.setIfInBounds_toArray, List.set_cons_zero, List.set_cons_succ])
      | (refine own_store_row 0 (.tmp 14) (.tmp 22) O rfl rfl rfl rfl rfl rfl (by kernel_rfl) (by simp only [words_size]) (words_cell _ _) ?_; clear O; intro W O; simp only [List.set_cons_zero] at O))
    refine bodyPost_ret (v := .tuple #[.agg (words 16 fun _ => 0), .int .i64 1]) (results_cell_tmp rfl _ _ a14 23 _ _ rfl (O.get 0 rfl) Try.underlying23 rfl (by kernel_rfl) _ rfl) rfl ⟨?_, O.keep⟩
    rfl
  | true =>
    obtain ⟨i, j, k, l, rfl, rfl, rfl, rfl, hi, hj, hk, hl, n1, n2, n3, n4, n5, n6⟩ := places_nat h4
    rw [uSt_yes _ _ _ h4, gEr_yes h4]
    rw [h4] at hf
    have HF := Lib.hid hf
    clear hf h4 n1 n2 n3 n4 n5 n6
    go_enter Try.func16, Try.ntmps16
    go_wp2_with (first
      | (refine own_box 7 (words 16 V0) O rfl rfl rfl rfl ?_; clear O; intro W a7 O; simp only [Act.put, List.setIfInBounds_toArray, List.set_cons_zero, List.set_cons_succ])
      | (refine own_alloc 14 (words 16 fun _ => 0) O rfl rfl rfl (fun _ => by kernel_rfl) ?_; clear O; intro W a14 O; simp only [Act.put, List.setIfInBounds_toArray, List.set_cons_zero, List.set_cons_succ])
      | (go_at_call 47; refine (HF.out _).mono ?_; rintro e W ⟨rfl, rfl⟩)
      | (go_at_call 51; refine (unm_any i j k l x y a7 V0 W (O.get 1 rfl) hi hj hk hl).mono ?_; rintro e W ⟨rfl, K, B⟩; replace O := O.set 1 rfl K B; clear K B; simp only [List.set_cons_zero, List.set_cons_succ] at O)
      | (refine own_load 30 1 O rfl rfl rfl rfl rfl Try.underlying23 rfl (by kernel_rfl) ?_; simp only [Act.put, List.setIfInBounds_toArray, List.set_cons_zero, List.set_cons_succ])
      | (refine own_store_row 0 (.tmp 14) (.tmp 30) O rfl rfl rfl rfl rfl rfl (by kernel_rfl) (by simp only [words_size]) (words_cell _ _) ?_; clear O; intro W O; simp only [List.set_cons_zero] at O))
    refine bodyPost_ret (v := .tuple #[.agg (words 16 (unmV V0 i j k l x y)), .int .i64 0]) (results_cell_tmp rfl _ _ a14 23 _ _ rfl (O.get 0 rfl) Try.underlying23 rfl (by kernel_rfl) _ rfl) rfl ⟨?_, O.keep⟩
    rfl

set_option maxHeartbeats 2000000 in
theorem refg_any (V0 : Nat → BitVec 32) (a b c d : Int) (x y : BitVec 32) (w : World) :
    Calls Try.prog 15 #[.agg (words 16 V0), .int .i64 a, .int .i64 b, .int .i64 c, .int .i64 d, U32 x, U32 y] w fun e w' => e = .returned (.tuple #[.agg (words 16 (gSt V0 a b c d x y)), .int .i64 (gEr a b c d)]) ∧ Keeps w w' [] := by
  have O := Own.start w []
  have hf := fun w => refplaces_any a b c d w
  cases h4 : fourB a b c d with
  | false =>
    rw [gSt_no _ _ _ h4, gEr_no h4]
    rw [h4] at hf
    have HF := Lib.hid hf
    clear hf h4
    go_enter Try.func15, Try.ntmps15
    go_wp2_with (first
      | (refine own_box 7 (words 16 V0) O rfl rfl rfl rfl ?_; clear O; intro W a7 O; simp only [Act.put, List.setIfInBounds_toArray, List.set_cons_zero, List.set_cons_succ])
      | (refine own_alloc 14 (words 16 fun _ => 0) O rfl rfl rfl (fun _ => by kernel_rfl) ?_; clear O; intro W a14 O; simp only [Act.put, List.setIfInBounds_toArray, List.set_cons_zero, List.set_cons_succ])
      | (go_at_call 49; refine (HF.out _).mono ?_; rintro e W ⟨rfl, K⟩; replace O := O.keeps K; clear K)
      | (refine wpList_const 22 (.agg (words 16 fun _ => 0)) rfl rfl (fun _ => by kernel_rfl) ?_; simp only [Act.put, List.setIfInBounds_toArray, List.set_cons_zero, List.set_cons_succ])
      | (refine own_store_row 0 (.tmp 14) (.tmp 22) O rfl rfl rfl rfl rfl rfl (by kernel_rfl) (by simp only [words_size]) (words_cell _ _) ?_; clear O; intro W O; simp only [List.set_cons_zero] at O))
    refine bodyPost_ret (v := .tuple #[.agg (words 16 fun _ => 0), .int .i64 1]) (results_cell_tmp rfl _ _ a14 23 _ _ rfl (O.get 0 rfl) Try.underlying23 rfl (by kernel_rfl) _ rfl) rfl ⟨?_, O.keep⟩
    rfl
  | true =>
    obtain ⟨a, b, c, d, rfl, rfl, rfl, rfl, ha, hb, hc, hd, n1, n2, n3, n4, n5, n6⟩ := places_nat h4
    rw [gSt_yes _ _ _ h4, gEr_yes h4]
    rw [h4] at hf
    have HF := Lib.hid hf
    clear hf h4 n1 n2 n3 n4 n5 n6
    go_enter Try.func15, Try.ntmps15
    go_wp2_with (first
      | (refine own_box 7 (words 16 V0) O rfl rfl rfl rfl ?_; clear O; intro W a7 O; simp only [Act.put, List.setIfInBounds_toArray, List.set_cons_zero, List.set_cons_succ])
      | (refine own_alloc 14 (words 16 fun _ => 0) O rfl rfl rfl (fun _ => by kernel_rfl) ?_; clear O; intro W a14 O; simp only [Act.put, List.setIfInBounds_toArray, List.set_cons_zero, List.set_cons_succ])
      | (go_at_call 49; refine (HF.out _).mono ?_; rintro e W ⟨rfl, K⟩; replace O := O.keeps K; clear K))
    have c0 := (O.get 1 rfl).cell
    -- statement 1
    go_wp2
    refine wp_quiet_tail_drawn 11 (by kernel_rfl) (by kernel_rfl) ?_
    simp only [List.take, List.drop]
    repeat (go_big_quiet_step (fail))
    refine wpQuiet_nil ?_
    intro _ hw
    obtain ⟨n0, rfl⟩ := hw
    refine own_store 1 a (U32 (V0 a + V0 b + x)) (.tmp 33) (.tmp 32) (O.drewN n0) rfl rfl rfl rfl rfl rfl (by simp only [words_size]; omega) rfl rfl (by kernel_rfl) (words_set 16 _ a _) ?_
    clear O c0
    intro W O
    simp only [List.set_cons_zero, List.set_cons_succ] at O
    generalize hV1 : upd V0 a _ = V1 at O
    have HV1 := Lib.hid hV1
    clear hV1
    have c1 := (O.get 1 rfl).cell
    -- statement 2
    go_wp2
    refine wp_quiet_tail_drawn 10 (by kernel_rfl) (by kernel_rfl) ?_
    simp only [List.take, List.drop]
    repeat (go_big_quiet_step ((go_at_call 50; exact quiet_left (turn_16 _ _))))
    refine wpQuiet_nil ?_
    intro _ hw
    obtain ⟨n1, rfl⟩ := hw
    refine own_store 1 d (U32 ((V1 d ^^^ V1 a).rotateLeft 16)) (.tmp 43) (.tmp 42) (O.drewN n1) rfl rfl rfl rfl rfl rfl (by simp only [words_size]; omega) rfl rfl (by kernel_rfl) (words_set 16 _ d _) ?_
    clear O c1
    intro W O
    simp only [List.set_cons_zero, List.set_cons_succ] at O
    generalize hV2 : upd V1 d _ = V2 at O
    have HV2 := Lib.hid hV2
    clear hV2
    have c2 := (O.get 1 rfl).cell
    -- statement 3
    go_wp2
    refine wp_quiet_tail_drawn 9 (by kernel_rfl) (by kernel_rfl) ?_
    simp only [List.take, List.drop]
    repeat (go_big_quiet_step (fail))
    refine wpQuiet_nil ?_
    intro _ hw
    obtain ⟨n2, rfl⟩ := hw
    refine own_store 1 c (U32 (V2 c + V2 d)) (.tmp 52) (.tmp 51) (O.drewN n2) rfl rfl rfl rfl rfl rfl (by simp only [words_size]; omega) rfl rfl (by kernel_rfl) (words_set 16 _ c _) ?_
    clear O c2
    intro W O
    simp only [List.set_cons_zero, List.set_cons_succ] at O
    generalize hV3 : upd V2 c _ = V3 at O
    have HV3 := Lib.hid hV3
    clear hV3
    have c3 := (O.get 1 rfl).cell
    -- statement 4
    go_wp2
    refine wp_quiet_tail_drawn 10 (by kernel_rfl) (by kernel_rfl) ?_
    simp only [List.take, List.drop]
    repeat (go_big_quiet_step ((go_at_call 50; exact quiet_left (turn_12 _ _))))
    refine wpQuiet_nil ?_
    intro _ hw
    obtain ⟨n3, rfl⟩ := hw
    refine own_store 1 b (U32 ((V3 b ^^^ V3 c).rotateLeft 20)) (.tmp 62) (.tmp 61) (O.drewN n3) rfl rfl rfl rfl rfl rfl (by simp only [words_size]; omega) rfl rfl (by kernel_rfl) (words_set 16 _ b _) ?_
    clear O c3
    intro W O
    simp only [List.set_cons_zero, List.set_cons_succ] at O
    generalize hV4 : upd V3 b _ = V4 at O
    have HV4 := Lib.hid hV4
    clear hV4
    have c4 := (O.get 1 rfl).cell
    -- statement 5
    go_wp2
    refine wp_quiet_tail_drawn 11 (by kernel_rfl) (by kernel_rfl) ?_
    simp only [List.take, List.drop]
    repeat (go_big_quiet_step (fail))
    refine wpQuiet_nil ?_
    intro _ hw
    obtain ⟨n4, rfl⟩ := hw
    refine own_store 1 a (U32 (V4 a + V4 b + y)) (.tmp 73) (.tmp 72) (O.drewN n4) rfl rfl rfl rfl rfl rfl (by simp only [words_size]; omega) rfl rfl (by kernel_rfl) (words_set 16 _ a _) ?_
    clear O c4
    intro W O
    simp only [List.set_cons_zero, List.set_cons_succ] at O
    generalize hV5 : upd V4 a _ = V5 at O
    have HV5 := Lib.hid hV5
    clear hV5
    have c5 := (O.get 1 rfl).cell
    -- statement 6
    go_wp2
    refine wp_quiet_tail_drawn 10 (by kernel_rfl) (by kernel_rfl) ?_
    simp only [List.take, List.drop]
    repeat (go_big_quiet_step ((go_at_call 50; exact quiet_left (turn_8 _ _))))
    refine wpQuiet_nil ?_
    intro _ hw
    obtain ⟨n5, rfl⟩ := hw
    refine own_store 1 d (U32 ((V5 d ^^^ V5 a).rotateLeft 24)) (.tmp 83) (.tmp 82) (O.drewN n5) rfl rfl rfl rfl rfl rfl (by simp only [words_size]; omega) rfl rfl (by kernel_rfl) (words_set 16 _ d _) ?_
    clear O c5
    intro W O
    simp only [List.set_cons_zero, List.set_cons_succ] at O
    generalize hV6 : upd V5 d _ = V6 at O
    have HV6 := Lib.hid hV6
    clear hV6
    have c6 := (O.get 1 rfl).cell
    -- statement 7
    go_wp2
    refine wp_quiet_tail_drawn 9 (by kernel_rfl) (by kernel_rfl) ?_
    simp only [List.take, List.drop]
    repeat (go_big_quiet_step (fail))
    refine wpQuiet_nil ?_
    intro _ hw
    obtain ⟨n6, rfl⟩ := hw
    refine own_store 1 c (U32 (V6 c + V6 d)) (.tmp 92) (.tmp 91) (O.drewN n6) rfl rfl rfl rfl rfl rfl (by simp only [words_size]; omega) rfl rfl (by kernel_rfl) (words_set 16 _ c _) ?_
    clear O c6
    intro W O
    simp only [List.set_cons_zero, List.set_cons_succ] at O
    generalize hV7 : upd V6 c _ = V7 at O
    have HV7 := Lib.hid hV7
    clear hV7
    have c7 := (O.get 1 rfl).cell
    -- statement 8
    go_wp2
    refine wp_quiet_tail_drawn 10 (by kernel_rfl) (by kernel_rfl) ?_
    simp only [List.take, List.drop]
    repeat (go_big_quiet_step ((go_at_call 50; exact quiet_left (turn_7 _ _))))
    refine wpQuiet_nil ?_
    intro _ hw
    obtain ⟨n7, rfl⟩ := hw
    refine own_store 1 b (U32 ((V7 b ^^^ V7 c).rotateLeft 25)) (.tmp 102) (.tmp 101) (O.drewN n7) rfl rfl rfl rfl rfl rfl (by simp only [words_size]; omega) rfl rfl (by kernel_rfl) (words_set 16 _ b _) ?_
    clear O c7
    intro W O
    simp only [List.set_cons_zero, List.set_cons_succ] at O
    generalize hV8 : upd V7 b _ = V8 at O
    have HV8 := Lib.hid hV8
    clear hV8
    have c8 := (O.get 1 rfl).cell
    clear c8
    go_wp2_with (first
      | (refine own_load 103 1 O rfl rfl rfl rfl rfl Try.underlying23 rfl (by kernel_rfl) ?_; simp only [Act.put, List.setIfInBounds_toArray, List.set_cons_zero, List.set_cons_succ])
      | (refine own_store_row 0 (.tmp 14) (.tmp 103) O rfl rfl rfl rfl rfl rfl (by kernel_rfl) (by simp only [words_size]) (words_cell _ _) ?_; clear O; intro W O; simp only [List.set_cons_zero] at O))
    refine bodyPost_ret (v := .tuple #[.agg (words 16 V8), .int .i64 0]) (results_cell_tmp rfl _ _ a14 23 _ _ rfl (O.get 0 rfl) Try.underlying23 rfl (by kernel_rfl) _ rfl) rfl ⟨?_, O.keep⟩
    rw [← HV8.out, ← HV7.out, ← HV6.out, ← HV5.out, ← HV4.out, ← HV3.out, ← HV2.out, ← HV1.out]
    simp only [mixV, BitVec.add_assoc]

set_option maxHeartbeats 2000000 in
theorem refung_any (V0 : Nat → BitVec 32) (a b c d : Int) (x y : BitVec 32) (w : World) :
    Calls Try.prog 17 #[.agg (words 16 V0), .int .i64 a, .int .i64 b, .int .i64 c, .int .i64 d, U32 x, U32 y] w fun e w' => e = .returned (.tuple #[.agg (words 16 (uSt V0 a b c d x y)), .int .i64 (gEr a b c d)]) ∧ Keeps w w' [] := by
  have O := Own.start w []
  have hf := fun w => refplaces_any a b c d w
  cases h4 : fourB a b c d with
  | false =>
    rw [uSt_no _ _ _ h4, gEr_no h4]
    rw [h4] at hf
    have HF := Lib.hid hf
    clear hf h4
    go_enter Try.func17, Try.ntmps17
    go_wp2_with (first
      | (refine own_box 7 (words 16 V0) O rfl rfl rfl rfl ?_; clear O; intro W a7 O; simp only [Act.put, List.setIfInBounds_toArray, List.set_cons_zero, List.set_cons_succ])
      | (refine own_alloc 14 (words 16 fun _ => 0) O rfl rfl rfl (fun _ => by kernel_rfl) ?_; clear O; intro W a14 O; simp only [Act.put, List.setIfInBounds_toArray, List.set_cons_zero, List.set_cons_succ])
      | (go_at_call 49; refine (HF.out _).mono ?_; rintro e W ⟨rfl, K⟩; replace O := O.keeps K; clear K)
      | (refine wpList_const 22 (.agg (words 16 fun _ => 0)) rfl rfl (fun _ => by kernel_rfl) ?_; simp only [Act.put, List.setIfInBounds_toArray, List.set_cons_zero, List.set_cons_succ])
      | (refine own_store_row 0 (.tmp 14) (.tmp 22) O rfl rfl rfl rfl rfl rfl (by kernel_rfl) (by simp only [words_size]) (words_cell _ _) ?_; clear O; intro W O; simp only [List.set_cons_zero] at O))
    refine bodyPost_ret (v := .tuple #[.agg (words 16 fun _ => 0), .int .i64 1]) (results_cell_tmp rfl _ _ a14 23 _ _ rfl (O.get 0 rfl) Try.underlying23 rfl (by kernel_rfl) _ rfl) rfl ⟨?_, O.keep⟩
    rfl
  | true =>
    obtain ⟨a, b, c, d, rfl, rfl, rfl, rfl, ha, hb, hc, hd, n1, n2, n3, n4, n5, n6⟩ := places_nat h4
    rw [uSt_yes _ _ _ h4, gEr_yes h4]
    rw [h4] at hf
    have HF := Lib.hid hf
    clear hf h4 n1 n2 n3 n4 n5 n6
    go_enter Try.func17, Try.ntmps17
    go_wp2_with (first
      | (refine own_box 7 (words 16 V0) O rfl rfl rfl rfl ?_; clear O; intro W a7 O; simp only [Act.put, List.setIfInBounds_toArray, List.set_cons_zero, List.set_cons_succ])
      | (refine own_alloc 14 (words 16 fun _ => 0) O rfl rfl rfl (fun _ => by kernel_rfl) ?_; clear O; intro W a14 O; simp only [Act.put, List.setIfInBounds_toArray, List.set_cons_zero, List.set_cons_succ])
      | (go_at_call 49; refine (HF.out _).mono ?_; rintro e W ⟨rfl, K⟩; replace O := O.keeps K; clear K))
    have c0 := (O.get 1 rfl).cell
    -- statement 1
    go_wp2
    refine wp_quiet_tail_drawn 10 (by kernel_rfl) (by kernel_rfl) ?_
    simp only [List.take, List.drop]
    repeat (go_big_quiet_step ((go_at_call 50; exact quiet_left (turn_25 _ _))))
    refine wpQuiet_nil ?_
    intro _ hw
    obtain ⟨n0, rfl⟩ := hw
    refine own_store 1 b (U32 ((V0 b).rotateLeft 7 ^^^ V0 c)) (.tmp 32) (.tmp 31) (O.drewN n0) rfl rfl rfl rfl rfl rfl (by simp only [words_size]; omega) rfl rfl (by kernel_rfl) (words_set 16 _ b _) ?_
    clear O c0
    intro W O
    simp only [List.set_cons_zero, List.set_cons_succ] at O
    generalize hV1 : upd V0 b _ = V1 at O
    have HV1 := Lib.hid hV1
    clear hV1
    have c1 := (O.get 1 rfl).cell
    -- statement 2
    go_wp2
    refine wp_quiet_tail_drawn 9 (by kernel_rfl) (by kernel_rfl) ?_
    simp only [List.take, List.drop]
    repeat (go_big_quiet_step (fail))
    refine wpQuiet_nil ?_
    intro _ hw
    obtain ⟨n1, rfl⟩ := hw
    refine own_store 1 c (U32 (V1 c - V1 d)) (.tmp 41) (.tmp 40) (O.drewN n1) rfl rfl rfl rfl rfl rfl (by simp only [words_size]; omega) rfl rfl (by kernel_rfl) (words_set 16 _ c _) ?_
    clear O c1
    intro W O
    simp only [List.set_cons_zero, List.set_cons_succ] at O
    generalize hV2 : upd V1 c _ = V2 at O
    have HV2 := Lib.hid hV2
    clear hV2
    have c2 := (O.get 1 rfl).cell
    -- statement 3
    go_wp2
    refine wp_quiet_tail_drawn 10 (by kernel_rfl) (by kernel_rfl) ?_
    simp only [List.take, List.drop]
    repeat (go_big_quiet_step ((go_at_call 50; exact quiet_left (turn_24 _ _))))
    refine wpQuiet_nil ?_
    intro _ hw
    obtain ⟨n2, rfl⟩ := hw
    refine own_store 1 d (U32 ((V2 d).rotateLeft 8 ^^^ V2 a)) (.tmp 51) (.tmp 50) (O.drewN n2) rfl rfl rfl rfl rfl rfl (by simp only [words_size]; omega) rfl rfl (by kernel_rfl) (words_set 16 _ d _) ?_
    clear O c2
    intro W O
    simp only [List.set_cons_zero, List.set_cons_succ] at O
    generalize hV3 : upd V2 d _ = V3 at O
    have HV3 := Lib.hid hV3
    clear hV3
    have c3 := (O.get 1 rfl).cell
    -- statement 4
    go_wp2
    refine wp_quiet_tail_drawn 11 (by kernel_rfl) (by kernel_rfl) ?_
    simp only [List.take, List.drop]
    repeat (go_big_quiet_step (fail))
    refine wpQuiet_nil ?_
    intro _ hw
    obtain ⟨n3, rfl⟩ := hw
    refine own_store 1 a (U32 (V3 a - V3 b - y)) (.tmp 62) (.tmp 61) (O.drewN n3) rfl rfl rfl rfl rfl rfl (by simp only [words_size]; omega) rfl rfl (by kernel_rfl) (words_set 16 _ a _) ?_
    clear O c3
    intro W O
    simp only [List.set_cons_zero, List.set_cons_succ] at O
    generalize hV4 : upd V3 a _ = V4 at O
    have HV4 := Lib.hid hV4
    clear hV4
    have c4 := (O.get 1 rfl).cell
    -- statement 5
    go_wp2
    refine wp_quiet_tail_drawn 10 (by kernel_rfl) (by kernel_rfl) ?_
    simp only [List.take, List.drop]
    repeat (go_big_quiet_step ((go_at_call 50; exact quiet_left (turn_20 _ _))))
    refine wpQuiet_nil ?_
    intro _ hw
    obtain ⟨n4, rfl⟩ := hw
    refine own_store 1 b (U32 ((V4 b).rotateLeft 12 ^^^ V4 c)) (.tmp 72) (.tmp 71) (O.drewN n4) rfl rfl rfl rfl rfl rfl (by simp only [words_size]; omega) rfl rfl (by kernel_rfl) (words_set 16 _ b _) ?_
    clear O c4
    intro W O
    simp only [List.set_cons_zero, List.set_cons_succ] at O
    generalize hV5 : upd V4 b _ = V5 at O
    have HV5 := Lib.hid hV5
    clear hV5
    have c5 := (O.get 1 rfl).cell
    -- statement 6
    go_wp2
    refine wp_quiet_tail_drawn 9 (by kernel_rfl) (by kernel_rfl) ?_
    simp only [List.take, List.drop]
    repeat (go_big_quiet_step (fail))
    refine wpQuiet_nil ?_
    intro _ hw
    obtain ⟨n5, rfl⟩ := hw
    refine own_store 1 c (U32 (V5 c - V5 d)) (.tmp 81) (.tmp 80) (O.drewN n5) rfl rfl rfl rfl rfl rfl (by simp only [words_size]; omega) rfl rfl (by kernel_rfl) (words_set 16 _ c _) ?_
    clear O c5
    intro W O
    simp only [List.set_cons_zero, List.set_cons_succ] at O
    generalize hV6 : upd V5 c _ = V6 at O
    have HV6 := Lib.hid hV6
    clear hV6
    have c6 := (O.get 1 rfl).cell
    -- statement 7
    go_wp2
    refine wp_quiet_tail_drawn 10 (by kernel_rfl) (by kernel_rfl) ?_
    simp only [List.take, List.drop]
    repeat (go_big_quiet_step ((go_at_call 50; exact quiet_left (turn_16 _ _))))
    refine wpQuiet_nil ?_
    intro _ hw
    obtain ⟨n6, rfl⟩ := hw
    refine own_store 1 d (U32 ((V6 d).rotateLeft 16 ^^^ V6 a)) (.tmp 91) (.tmp 90) (O.drewN n6) rfl rfl rfl rfl rfl rfl (by simp only [words_size]; omega) rfl rfl (by kernel_rfl) (words_set 16 _ d _) ?_
    clear O c6
    intro W O
    simp only [List.set_cons_zero, List.set_cons_succ] at O
    generalize hV7 : upd V6 d _ = V7 at O
    have HV7 := Lib.hid hV7
    clear hV7
    have c7 := (O.get 1 rfl).cell
    -- statement 8
    go_wp2
    refine wp_quiet_tail_drawn 11 (by kernel_rfl) (by kernel_rfl) ?_
    simp only [List.take, List.drop]
    repeat (go_big_quiet_step (fail))
    refine wpQuiet_nil ?_
    intro _ hw
    obtain ⟨n7, rfl⟩ := hw
    refine own_store 1 a (U32 (V7 a - V7 b - x)) (.tmp 102) (.tmp 101) (O.drewN n7) rfl rfl rfl rfl rfl rfl (by simp only [words_size]; omega) rfl rfl (by kernel_rfl) (words_set 16 _ a _) ?_
    clear O c7
    intro W O
    simp only [List.set_cons_zero, List.set_cons_succ] at O
    generalize hV8 : upd V7 a _ = V8 at O
    have HV8 := Lib.hid hV8
    clear hV8
    have c8 := (O.get 1 rfl).cell
    clear c8
    go_wp2_with (first
      | (refine own_load 103 1 O rfl rfl rfl rfl rfl Try.underlying23 rfl (by kernel_rfl) ?_; simp only [Act.put, List.setIfInBounds_toArray, List.set_cons_zero, List.set_cons_succ])
      | (refine own_store_row 0 (.tmp 14) (.tmp 103) O rfl rfl rfl rfl rfl rfl (by kernel_rfl) (by simp only [words_size]) (words_cell _ _) ?_; clear O; intro W O; simp only [List.set_cons_zero] at O))
    refine bodyPost_ret (v := .tuple #[.agg (words 16 V8), .int .i64 0]) (results_cell_tmp rfl _ _ a14 23 _ _ rfl (O.get 0 rfl) Try.underlying23 rfl (by kernel_rfl) _ rfl) rfl ⟨?_, O.keep⟩
    rw [← HV8.out, ← HV7.out, ← HV6.out, ← HV5.out, ← HV4.out, ← HV3.out, ← HV2.out, ← HV1.out]
    simp only [unmV, bv_sub_sub]
end Go.Proofs.Ytanibkocihjgjaa
