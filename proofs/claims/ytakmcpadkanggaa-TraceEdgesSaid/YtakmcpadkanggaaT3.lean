/-
  Which instruction may be: sched.right.
-/
import Derived.Test.YtakmcpadkanggaaT2
namespace Go.Proofs.Ytakmcpadkanggaa
open Go.RowKit

@[go_sem] theorem ints_getElem (n : Nat) (f : Nat → Nat) (i : Nat) (h : i < (ints n f).size) : (ints n f)[i] = .int .i64 (f i : Nat) := by simp [ints]
/-- An instruction's cells. -/
def inst (f : Nat → Int) : Array Value := #[.int .i64 (f 0), .int .i64 (f 1), .int .i64 (f 2), .int .i64 (f 3)]
def rightS (S : Sys) (p : Nat) (f : Nat → Int) : Bool :=
  opOk (f 0) && (!((decide (f 0 = 12) || decide (f 0 = 13)) && decide (S.ce = 0)) && (mayS S p (f 1) (kd (f 0).toNat 0) && (mayS S p (f 2) (kd (f 0).toNat 1) && mayS S p (f 3) (kd (f 0).toNat 2))))

set_option maxRecDepth 100000 in
set_option maxHeartbeats 2000000 in
theorem right_low (f : Nat → Int) (h : f 0 < 1) (w : World) (p g : Nat) : Calls Try.prog 53 #[.pointer (some ⟨g, 0, none⟩), .int .i64 p, .agg (inst f)] w fun e w' => e = .returned (.bool false) ∧ Keeps w w' [] := by
  have O := Own.start w []
  obtain ⟨z, HF⟩ : ∃ z, ∀ w, Hid (Calls Try.prog 85 #[.int .i64 (f 0)] w fun e w' => e = .returned (.tuple #[.agg (ints 3 z), .bool false]) ∧ Keeps w w' []) := ⟨_, fun w => Lib.hid (fields_low (f 0) h w)⟩
  clear h
  unfold inst
  generalize f 0 = y0 at *
  generalize f 1 = y1 at *
  generalize f 2 = y2 at *
  generalize f 3 = y3 at *
  go_enter Try.func53, Try.ntmps53
  go_wp2_with (first
    | go_big_skip
    | (refine own_box 5 _ O rfl rfl rfl rfl ?_; clear O; intro W a5 O; simp only [Act.put, List.setIfInBounds_toArray, List.set_cons_zero, List.set_cons_succ]; have c5 := (O.get 0 rfl).cell)
    | (go_at_call 85; refine ((HF _).out).mono ?_; rintro e W ⟨rfl, K⟩; replace O := O.keeps K; clear K c5; have c5 := (O.get 0 rfl).cell)
    | (refine own_alloc 7 (ints 3 fun _ => 0) O rfl rfl rfl (fun _ => by kernel_rfl) ?_; clear O; intro W a7 O; simp only [Act.put, List.setIfInBounds_toArray, List.set_cons_zero, List.set_cons_succ]; clear c5; have c5 := (O.get 1 rfl).cell)
    | (refine own_store_row 0 (.tmp 7) (.tmp 13) O rfl rfl rfl rfl rfl rfl (by kernel_rfl) (by simp only [ints_size]) (ints_cell _ _) ?_; clear O; intro W O; simp only [List.set_cons_zero] at O; clear c5; have c5 := (O.get 1 rfl).cell))
  go_ret
  exact ⟨rfl, O.keep⟩

set_option maxRecDepth 100000 in
set_option maxHeartbeats 2000000 in
theorem right_high (f : Nat → Int) (h : 17 ≤ f 0) (w : World) (p g : Nat) : Calls Try.prog 53 #[.pointer (some ⟨g, 0, none⟩), .int .i64 p, .agg (inst f)] w fun e w' => e = .returned (.bool false) ∧ Keeps w w' [] := by
  have O := Own.start w []
  obtain ⟨z, HF⟩ : ∃ z, ∀ w, Hid (Calls Try.prog 85 #[.int .i64 (f 0)] w fun e w' => e = .returned (.tuple #[.agg (ints 3 z), .bool false]) ∧ Keeps w w' []) := ⟨_, fun w => Lib.hid (fields_high (f 0) h w)⟩
  clear h
  unfold inst
  generalize f 0 = y0 at *
  generalize f 1 = y1 at *
  generalize f 2 = y2 at *
  generalize f 3 = y3 at *
  go_enter Try.func53, Try.ntmps53
  go_wp2_with (first
    | go_big_skip
    | (refine own_box 5 _ O rfl rfl rfl rfl ?_; clear O; intro W a5 O; simp only [Act.put, List.setIfInBounds_toArray, List.set_cons_zero, List.set_cons_succ]; have c5 := (O.get 0 rfl).cell)
    | (go_at_call 85; refine ((HF _).out).mono ?_; rintro e W ⟨rfl, K⟩; replace O := O.keeps K; clear K c5; have c5 := (O.get 0 rfl).cell)
    | (refine own_alloc 7 (ints 3 fun _ => 0) O rfl rfl rfl (fun _ => by kernel_rfl) ?_; clear O; intro W a7 O; simp only [Act.put, List.setIfInBounds_toArray, List.set_cons_zero, List.set_cons_succ]; clear c5; have c5 := (O.get 1 rfl).cell)
    | (refine own_store_row 0 (.tmp 7) (.tmp 13) O rfl rfl rfl rfl rfl rfl (by kernel_rfl) (by simp only [ints_size]) (ints_cell _ _) ?_; clear O; intro W O; simp only [List.set_cons_zero] at O; clear c5; have c5 := (O.get 1 rfl).cell))
  go_ret
  exact ⟨rfl, O.keep⟩

section
variable (f : Nat → Int) (o p g : Nat) (ce : Int) (b1 b2 b3 : Bool) (w : World) (x : Int) (hx : f 0 = x)
    (HF : ∀ u, Hid (Calls Try.prog 85 #[.int .i64 x] u fun e w' => e = .returned (.tuple #[.agg (ints 3 (kd o)), .bool true]) ∧ Keeps u w' []))
    (HM1 : ∀ u, Keeps w u [] → Hid (Calls Try.prog 86 #[.pointer (some ⟨g, 0, none⟩), .int .i64 p, .int .i64 (f 1), .int .i64 (kd o 0 : Nat)] u fun e w' => e = .returned (.bool b1) ∧ u = w'))
    (HM2 : ∀ u, Keeps w u [] → Hid (Calls Try.prog 86 #[.pointer (some ⟨g, 0, none⟩), .int .i64 p, .int .i64 (f 2), .int .i64 (kd o 1 : Nat)] u fun e w' => e = .returned (.bool b2) ∧ u = w'))
    (HM3 : ∀ u, Keeps w u [] → Hid (Calls Try.prog 86 #[.pointer (some ⟨g, 0, none⟩), .int .i64 p, .int .i64 (f 3), .int .i64 (kd o 2 : Nat)] u fun e w' => e = .returned (.bool b3) ∧ u = w'))
    (HC : ∀ u, Keeps w u [] → Hid (u.cell? ⟨g, 4, none⟩ = some (.int .i64 ce)))

set_option maxRecDepth 100000 in
set_option maxHeartbeats 1000000 in
include hx HF HM1 HM2 HM3 HC in
theorem core_12z (e : x = 12) (z : ce = 0) : Calls Try.prog 53 #[.pointer (some ⟨g, 0, none⟩), .int .i64 p, .agg (inst f)] w fun e w' => e = .returned (.bool false) ∧ Keeps w w' [] := by
  have O := Own.start w []
  have _u := And.intro hx (And.intro HF (And.intro HM1 (And.intro HM2 (And.intro HM3 HC))))
  clear _u
  unfold inst
  subst e
  subst z
  generalize f 1 = y1 at *
  generalize f 2 = y2 at *
  generalize f 3 = y3 at *
  rw [hx]
  clear hx
  go_enter Try.func53, Try.ntmps53
  go_wp2_with (first
    | go_big_skip
    | (refine own_box 5 _ O rfl rfl rfl rfl ?_; clear O; intro W a5 O; simp only [Act.put, List.setIfInBounds_toArray, List.set_cons_zero, List.set_cons_succ]; have c5 := (O.get 0 rfl).cell)
    | (go_at_call 85; refine ((HF _).out).mono ?_; rintro e W ⟨rfl, K⟩; replace O := O.keeps K; clear K c5; have c5 := (O.get 0 rfl).cell)
    | (refine own_alloc 7 (ints 3 fun _ => 0) O rfl rfl rfl (fun _ => by kernel_rfl) ?_; clear O; intro W a7 O; simp only [Act.put, List.setIfInBounds_toArray, List.set_cons_zero, List.set_cons_succ]; clear c5; have c5 := (O.get 1 rfl).cell)
    | (refine own_store_row 0 (.tmp 7) (.tmp 13) O rfl rfl rfl rfl rfl rfl (by kernel_rfl) (by simp only [ints_size]) (ints_cell _ _) ?_; clear O; intro W O; simp only [List.set_cons_zero] at O; clear c5; have c5 := (O.get 1 rfl).cell; have c7 := (O.get 0 rfl).cell; have c4 := (HC _ O.keep).out)
    | (go_at_call 86; with_reducible (refine ((HM1 _ O.keep).out).mono ?_); rintro e W ⟨rfl, rfl⟩)
    | (go_at_call 86; with_reducible (refine ((HM2 _ O.keep).out).mono ?_); rintro e W ⟨rfl, rfl⟩)
    | (go_at_call 86; with_reducible (refine ((HM3 _ O.keep).out).mono ?_); rintro e W ⟨rfl, rfl⟩))
  go_ret
  exact ⟨rfl, O.keep⟩

set_option maxRecDepth 100000 in
set_option maxHeartbeats 1000000 in
include hx HF HM1 HM2 HM3 HC in
theorem core_12n0 (e : x = 12) (z : ¬ ce = 0) (q1 : b1 = false) : Calls Try.prog 53 #[.pointer (some ⟨g, 0, none⟩), .int .i64 p, .agg (inst f)] w fun e w' => e = .returned (.bool false) ∧ Keeps w w' [] := by
  have O := Own.start w []
  have _u := And.intro hx (And.intro HF (And.intro HM1 (And.intro HM2 (And.intro HM3 HC))))
  clear _u
  unfold inst
  subst e
  subst q1
  generalize f 1 = y1 at *
  generalize f 2 = y2 at *
  generalize f 3 = y3 at *
  rw [hx]
  clear hx
  go_enter Try.func53, Try.ntmps53
  go_wp2_with (first
    | go_big_skip
    | (refine own_box 5 _ O rfl rfl rfl rfl ?_; clear O; intro W a5 O; simp only [Act.put, List.setIfInBounds_toArray, List.set_cons_zero, List.set_cons_succ]; have c5 := (O.get 0 rfl).cell)
    | (go_at_call 85; refine ((HF _).out).mono ?_; rintro e W ⟨rfl, K⟩; replace O := O.keeps K; clear K c5; have c5 := (O.get 0 rfl).cell)
    | (refine own_alloc 7 (ints 3 fun _ => 0) O rfl rfl rfl (fun _ => by kernel_rfl) ?_; clear O; intro W a7 O; simp only [Act.put, List.setIfInBounds_toArray, List.set_cons_zero, List.set_cons_succ]; clear c5; have c5 := (O.get 1 rfl).cell)
    | (refine own_store_row 0 (.tmp 7) (.tmp 13) O rfl rfl rfl rfl rfl rfl (by kernel_rfl) (by simp only [ints_size]) (ints_cell _ _) ?_; clear O; intro W O; simp only [List.set_cons_zero] at O; clear c5; have c5 := (O.get 1 rfl).cell; have c7 := (O.get 0 rfl).cell; have c4 := (HC _ O.keep).out)
    | (go_at_call 86; with_reducible (refine ((HM1 _ O.keep).out).mono ?_); rintro e W ⟨rfl, rfl⟩)
    | (go_at_call 86; with_reducible (refine ((HM2 _ O.keep).out).mono ?_); rintro e W ⟨rfl, rfl⟩)
    | (go_at_call 86; with_reducible (refine ((HM3 _ O.keep).out).mono ?_); rintro e W ⟨rfl, rfl⟩))
  go_ret
  exact ⟨rfl, O.keep⟩

set_option maxRecDepth 100000 in
set_option maxHeartbeats 1000000 in
include hx HF HM1 HM2 HM3 HC in
theorem core_12n1 (e : x = 12) (z : ¬ ce = 0) (q1 : b1 = true) (q2 : b2 = false) : Calls Try.prog 53 #[.pointer (some ⟨g, 0, none⟩), .int .i64 p, .agg (inst f)] w fun e w' => e = .returned (.bool false) ∧ Keeps w w' [] := by
  have O := Own.start w []
  have _u := And.intro hx (And.intro HF (And.intro HM1 (And.intro HM2 (And.intro HM3 HC))))
  clear _u
  unfold inst
  subst e
  subst q1
  subst q2
  generalize f 1 = y1 at *
  generalize f 2 = y2 at *
  generalize f 3 = y3 at *
  rw [hx]
  clear hx
  go_enter Try.func53, Try.ntmps53
  go_wp2_with (first
    | go_big_skip
    | (refine own_box 5 _ O rfl rfl rfl rfl ?_; clear O; intro W a5 O; simp only [Act.put, List.setIfInBounds_toArray, List.set_cons_zero, List.set_cons_succ]; have c5 := (O.get 0 rfl).cell)
    | (go_at_call 85; refine ((HF _).out).mono ?_; rintro e W ⟨rfl, K⟩; replace O := O.keeps K; clear K c5; have c5 := (O.get 0 rfl).cell)
    | (refine own_alloc 7 (ints 3 fun _ => 0) O rfl rfl rfl (fun _ => by kernel_rfl) ?_; clear O; intro W a7 O; simp only [Act.put, List.setIfInBounds_toArray, List.set_cons_zero, List.set_cons_succ]; clear c5; have c5 := (O.get 1 rfl).cell)
    | (refine own_store_row 0 (.tmp 7) (.tmp 13) O rfl rfl rfl rfl rfl rfl (by kernel_rfl) (by simp only [ints_size]) (ints_cell _ _) ?_; clear O; intro W O; simp only [List.set_cons_zero] at O; clear c5; have c5 := (O.get 1 rfl).cell; have c7 := (O.get 0 rfl).cell; have c4 := (HC _ O.keep).out)
    | (go_at_call 86; with_reducible (refine ((HM1 _ O.keep).out).mono ?_); rintro e W ⟨rfl, rfl⟩)
    | (go_at_call 86; with_reducible (refine ((HM2 _ O.keep).out).mono ?_); rintro e W ⟨rfl, rfl⟩)
    | (go_at_call 86; with_reducible (refine ((HM3 _ O.keep).out).mono ?_); rintro e W ⟨rfl, rfl⟩))
  go_ret
  exact ⟨rfl, O.keep⟩

set_option maxRecDepth 100000 in
set_option maxHeartbeats 1000000 in
include hx HF HM1 HM2 HM3 HC in
theorem core_12n2 (e : x = 12) (z : ¬ ce = 0) (q1 : b1 = true) (q2 : b2 = true) : Calls Try.prog 53 #[.pointer (some ⟨g, 0, none⟩), .int .i64 p, .agg (inst f)] w fun e w' => e = .returned (.bool b3) ∧ Keeps w w' [] := by
  have O := Own.start w []
  have _u := And.intro hx (And.intro HF (And.intro HM1 (And.intro HM2 (And.intro HM3 HC))))
  clear _u
  unfold inst
  subst e
  subst q1
  subst q2
  generalize f 1 = y1 at *
  generalize f 2 = y2 at *
  generalize f 3 = y3 at *
  rw [hx]
  clear hx
  go_enter Try.func53, Try.ntmps53
  go_wp2_with (first
    | go_big_skip
    | (refine own_box 5 _ O rfl rfl rfl rfl ?_; clear O; intro W a5 O; simp only [Act.put, List.setIfInBounds_toArray, List.set_cons_zero, List.set_cons_succ]; have c5 := (O.get 0 rfl).cell)
    | (go_at_call 85; refine ((HF _).out).mono ?_; rintro e W ⟨rfl, K⟩; replace O := O.keeps K; clear K c5; have c5 := (O.get 0 rfl).cell)
    | (refine own_alloc 7 (ints 3 fun _ => 0) O rfl rfl rfl (fun _ => by kernel_rfl) ?_; clear O; intro W a7 O; simp only [Act.put, List.setIfInBounds_toArray, List.set_cons_zero, List.set_cons_succ]; clear c5; have c5 := (O.get 1 rfl).cell)
    | (refine own_store_row 0 (.tmp 7) (.tmp 13) O rfl rfl rfl rfl rfl rfl (by kernel_rfl) (by simp only [ints_size]) (ints_cell _ _) ?_; clear O; intro W O; simp only [List.set_cons_zero] at O; clear c5; have c5 := (O.get 1 rfl).cell; have c7 := (O.get 0 rfl).cell; have c4 := (HC _ O.keep).out)
    | (go_at_call 86; with_reducible (refine ((HM1 _ O.keep).out).mono ?_); rintro e W ⟨rfl, rfl⟩)
    | (go_at_call 86; with_reducible (refine ((HM2 _ O.keep).out).mono ?_); rintro e W ⟨rfl, rfl⟩)
    | (go_at_call 86; with_reducible (refine ((HM3 _ O.keep).out).mono ?_); rintro e W ⟨rfl, rfl⟩))
  go_ret
  exact ⟨rfl, O.keep⟩

set_option maxRecDepth 100000 in
set_option maxHeartbeats 1000000 in
include hx HF HM1 HM2 HM3 HC in
theorem core_13z (e : x = 13) (z : ce = 0) : Calls Try.prog 53 #[.pointer (some ⟨g, 0, none⟩), .int .i64 p, .agg (inst f)] w fun e w' => e = .returned (.bool false) ∧ Keeps w w' [] := by
  have O := Own.start w []
  have _u := And.intro hx (And.intro HF (And.intro HM1 (And.intro HM2 (And.intro HM3 HC))))
  clear _u
  unfold inst
  subst e
  subst z
  generalize f 1 = y1 at *
  generalize f 2 = y2 at *
  generalize f 3 = y3 at *
  rw [hx]
  clear hx
  go_enter Try.func53, Try.ntmps53
  go_wp2_with (first
    | go_big_skip
    | (refine own_box 5 _ O rfl rfl rfl rfl ?_; clear O; intro W a5 O; simp only [Act.put, List.setIfInBounds_toArray, List.set_cons_zero, List.set_cons_succ]; have c5 := (O.get 0 rfl).cell)
    | (go_at_call 85; refine ((HF _).out).mono ?_; rintro e W ⟨rfl, K⟩; replace O := O.keeps K; clear K c5; have c5 := (O.get 0 rfl).cell)
    | (refine own_alloc 7 (ints 3 fun _ => 0) O rfl rfl rfl (fun _ => by kernel_rfl) ?_; clear O; intro W a7 O; simp only [Act.put, List.setIfInBounds_toArray, List.set_cons_zero, List.set_cons_succ]; clear c5; have c5 := (O.get 1 rfl).cell)
    | (refine own_store_row 0 (.tmp 7) (.tmp 13) O rfl rfl rfl rfl rfl rfl (by kernel_rfl) (by simp only [ints_size]) (ints_cell _ _) ?_; clear O; intro W O; simp only [List.set_cons_zero] at O; clear c5; have c5 := (O.get 1 rfl).cell; have c7 := (O.get 0 rfl).cell; have c4 := (HC _ O.keep).out)
    | (go_at_call 86; with_reducible (refine ((HM1 _ O.keep).out).mono ?_); rintro e W ⟨rfl, rfl⟩)
    | (go_at_call 86; with_reducible (refine ((HM2 _ O.keep).out).mono ?_); rintro e W ⟨rfl, rfl⟩)
    | (go_at_call 86; with_reducible (refine ((HM3 _ O.keep).out).mono ?_); rintro e W ⟨rfl, rfl⟩))
  go_ret
  exact ⟨rfl, O.keep⟩

set_option maxRecDepth 100000 in
set_option maxHeartbeats 1000000 in
include hx HF HM1 HM2 HM3 HC in
theorem core_13n0 (e : x = 13) (z : ¬ ce = 0) (q1 : b1 = false) : Calls Try.prog 53 #[.pointer (some ⟨g, 0, none⟩), .int .i64 p, .agg (inst f)] w fun e w' => e = .returned (.bool false) ∧ Keeps w w' [] := by
  have O := Own.start w []
  have _u := And.intro hx (And.intro HF (And.intro HM1 (And.intro HM2 (And.intro HM3 HC))))
  clear _u
  unfold inst
  subst e
  subst q1
  generalize f 1 = y1 at *
  generalize f 2 = y2 at *
  generalize f 3 = y3 at *
  rw [hx]
  clear hx
  go_enter Try.func53, Try.ntmps53
  go_wp2_with (first
    | go_big_skip
    | (refine own_box 5 _ O rfl rfl rfl rfl ?_; clear O; intro W a5 O; simp only [Act.put, List.setIfInBounds_toArray, List.set_cons_zero, List.set_cons_succ]; have c5 := (O.get 0 rfl).cell)
    | (go_at_call 85; refine ((HF _).out).mono ?_; rintro e W ⟨rfl, K⟩; replace O := O.keeps K; clear K c5; have c5 := (O.get 0 rfl).cell)
    | (refine own_alloc 7 (ints 3 fun _ => 0) O rfl rfl rfl (fun _ => by kernel_rfl) ?_; clear O; intro W a7 O; simp only [Act.put, List.setIfInBounds_toArray, List.set_cons_zero, List.set_cons_succ]; clear c5; have c5 := (O.get 1 rfl).cell)
    | (refine own_store_row 0 (.tmp 7) (.tmp 13) O rfl rfl rfl rfl rfl rfl (by kernel_rfl) (by simp only [ints_size]) (ints_cell _ _) ?_; clear O; intro W O; simp only [List.set_cons_zero] at O; clear c5; have c5 := (O.get 1 rfl).cell; have c7 := (O.get 0 rfl).cell; have c4 := (HC _ O.keep).out)
    | (go_at_call 86; with_reducible (refine ((HM1 _ O.keep).out).mono ?_); rintro e W ⟨rfl, rfl⟩)
    | (go_at_call 86; with_reducible (refine ((HM2 _ O.keep).out).mono ?_); rintro e W ⟨rfl, rfl⟩)
    | (go_at_call 86; with_reducible (refine ((HM3 _ O.keep).out).mono ?_); rintro e W ⟨rfl, rfl⟩))
  go_ret
  exact ⟨rfl, O.keep⟩

set_option maxRecDepth 100000 in
set_option maxHeartbeats 1000000 in
include hx HF HM1 HM2 HM3 HC in
theorem core_13n1 (e : x = 13) (z : ¬ ce = 0) (q1 : b1 = true) (q2 : b2 = false) : Calls Try.prog 53 #[.pointer (some ⟨g, 0, none⟩), .int .i64 p, .agg (inst f)] w fun e w' => e = .returned (.bool false) ∧ Keeps w w' [] := by
  have O := Own.start w []
  have _u := And.intro hx (And.intro HF (And.intro HM1 (And.intro HM2 (And.intro HM3 HC))))
  clear _u
  unfold inst
  subst e
  subst q1
  subst q2
  generalize f 1 = y1 at *
  generalize f 2 = y2 at *
  generalize f 3 = y3 at *
  rw [hx]
  clear hx
  go_enter Try.func53, Try.ntmps53
  go_wp2_with (first
    | go_big_skip
    | (refine own_box 5 _ O rfl rfl rfl rfl ?_; clear O; intro W a5 O; simp only [Act.put, List.setIfInBounds_toArray, List.set_cons_zero, List.set_cons_succ]; have c5 := (O.get 0 rfl).cell)
    | (go_at_call 85; refine ((HF _).out).mono ?_; rintro e W ⟨rfl, K⟩; replace O := O.keeps K; clear K c5; have c5 := (O.get 0 rfl).cell)
    | (refine own_alloc 7 (ints 3 fun _ => 0) O rfl rfl rfl (fun _ => by kernel_rfl) ?_; clear O; intro W a7 O; simp only [Act.put, List.setIfInBounds_toArray, List.set_cons_zero, List.set_cons_succ]; clear c5; have c5 := (O.get 1 rfl).cell)
    | (refine own_store_row 0 (.tmp 7) (.tmp 13) O rfl rfl rfl rfl rfl rfl (by kernel_rfl) (by simp only [ints_size]) (ints_cell _ _) ?_; clear O; intro W O; simp only [List.set_cons_zero] at O; clear c5; have c5 := (O.get 1 rfl).cell; have c7 := (O.get 0 rfl).cell; have c4 := (HC _ O.keep).out)
    | (go_at_call 86; with_reducible (refine ((HM1 _ O.keep).out).mono ?_); rintro e W ⟨rfl, rfl⟩)
    | (go_at_call 86; with_reducible (refine ((HM2 _ O.keep).out).mono ?_); rintro e W ⟨rfl, rfl⟩)
    | (go_at_call 86; with_reducible (refine ((HM3 _ O.keep).out).mono ?_); rintro e W ⟨rfl, rfl⟩))
  go_ret
  exact ⟨rfl, O.keep⟩

set_option maxRecDepth 100000 in
set_option maxHeartbeats 1000000 in
include hx HF HM1 HM2 HM3 HC in
theorem core_13n2 (e : x = 13) (z : ¬ ce = 0) (q1 : b1 = true) (q2 : b2 = true) : Calls Try.prog 53 #[.pointer (some ⟨g, 0, none⟩), .int .i64 p, .agg (inst f)] w fun e w' => e = .returned (.bool b3) ∧ Keeps w w' [] := by
  have O := Own.start w []
  have _u := And.intro hx (And.intro HF (And.intro HM1 (And.intro HM2 (And.intro HM3 HC))))
  clear _u
  unfold inst
  subst e
  subst q1
  subst q2
  generalize f 1 = y1 at *
  generalize f 2 = y2 at *
  generalize f 3 = y3 at *
  rw [hx]
  clear hx
  go_enter Try.func53, Try.ntmps53
  go_wp2_with (first
    | go_big_skip
    | (refine own_box 5 _ O rfl rfl rfl rfl ?_; clear O; intro W a5 O; simp only [Act.put, List.setIfInBounds_toArray, List.set_cons_zero, List.set_cons_succ]; have c5 := (O.get 0 rfl).cell)
    | (go_at_call 85; refine ((HF _).out).mono ?_; rintro e W ⟨rfl, K⟩; replace O := O.keeps K; clear K c5; have c5 := (O.get 0 rfl).cell)
    | (refine own_alloc 7 (ints 3 fun _ => 0) O rfl rfl rfl (fun _ => by kernel_rfl) ?_; clear O; intro W a7 O; simp only [Act.put, List.setIfInBounds_toArray, List.set_cons_zero, List.set_cons_succ]; clear c5; have c5 := (O.get 1 rfl).cell)
    | (refine own_store_row 0 (.tmp 7) (.tmp 13) O rfl rfl rfl rfl rfl rfl (by kernel_rfl) (by simp only [ints_size]) (ints_cell _ _) ?_; clear O; intro W O; simp only [List.set_cons_zero] at O; clear c5; have c5 := (O.get 1 rfl).cell; have c7 := (O.get 0 rfl).cell; have c4 := (HC _ O.keep).out)
    | (go_at_call 86; with_reducible (refine ((HM1 _ O.keep).out).mono ?_); rintro e W ⟨rfl, rfl⟩)
    | (go_at_call 86; with_reducible (refine ((HM2 _ O.keep).out).mono ?_); rintro e W ⟨rfl, rfl⟩)
    | (go_at_call 86; with_reducible (refine ((HM3 _ O.keep).out).mono ?_); rintro e W ⟨rfl, rfl⟩))
  go_ret
  exact ⟨rfl, O.keep⟩

set_option maxRecDepth 100000 in
set_option maxHeartbeats 1000000 in
include hx HF HM1 HM2 HM3 HC in
theorem core_on0 (e : ¬ x = 12) (e' : ¬ x = 13) (q1 : b1 = false) : Calls Try.prog 53 #[.pointer (some ⟨g, 0, none⟩), .int .i64 p, .agg (inst f)] w fun e w' => e = .returned (.bool false) ∧ Keeps w w' [] := by
  have O := Own.start w []
  have _u := And.intro hx (And.intro HF (And.intro HM1 (And.intro HM2 (And.intro HM3 HC))))
  clear _u
  unfold inst
  subst q1
  generalize f 1 = y1 at *
  generalize f 2 = y2 at *
  generalize f 3 = y3 at *
  rw [hx]
  clear hx
  go_enter Try.func53, Try.ntmps53
  go_wp2_with (first
    | go_big_skip
    | (refine own_box 5 _ O rfl rfl rfl rfl ?_; clear O; intro W a5 O; simp only [Act.put, List.setIfInBounds_toArray, List.set_cons_zero, List.set_cons_succ]; have c5 := (O.get 0 rfl).cell)
    | (go_at_call 85; refine ((HF _).out).mono ?_; rintro e W ⟨rfl, K⟩; replace O := O.keeps K; clear K c5; have c5 := (O.get 0 rfl).cell)
    | (refine own_alloc 7 (ints 3 fun _ => 0) O rfl rfl rfl (fun _ => by kernel_rfl) ?_; clear O; intro W a7 O; simp only [Act.put, List.setIfInBounds_toArray, List.set_cons_zero, List.set_cons_succ]; clear c5; have c5 := (O.get 1 rfl).cell)
    | (refine own_store_row 0 (.tmp 7) (.tmp 13) O rfl rfl rfl rfl rfl rfl (by kernel_rfl) (by simp only [ints_size]) (ints_cell _ _) ?_; clear O; intro W O; simp only [List.set_cons_zero] at O; clear c5; have c5 := (O.get 1 rfl).cell; have c7 := (O.get 0 rfl).cell; have c4 := (HC _ O.keep).out)
    | (go_at_call 86; with_reducible (refine ((HM1 _ O.keep).out).mono ?_); rintro e W ⟨rfl, rfl⟩)
    | (go_at_call 86; with_reducible (refine ((HM2 _ O.keep).out).mono ?_); rintro e W ⟨rfl, rfl⟩)
    | (go_at_call 86; with_reducible (refine ((HM3 _ O.keep).out).mono ?_); rintro e W ⟨rfl, rfl⟩))
  go_ret
  exact ⟨rfl, O.keep⟩

set_option maxRecDepth 100000 in
set_option maxHeartbeats 1000000 in
include hx HF HM1 HM2 HM3 HC in
theorem core_on1 (e : ¬ x = 12) (e' : ¬ x = 13) (q1 : b1 = true) (q2 : b2 = false) : Calls Try.prog 53 #[.pointer (some ⟨g, 0, none⟩), .int .i64 p, .agg (inst f)] w fun e w' => e = .returned (.bool false) ∧ Keeps w w' [] := by
  have O := Own.start w []
  have _u := And.intro hx (And.intro HF (And.intro HM1 (And.intro HM2 (And.intro HM3 HC))))
  clear _u
  unfold inst
  subst q1
  subst q2
  generalize f 1 = y1 at *
  generalize f 2 = y2 at *
  generalize f 3 = y3 at *
  rw [hx]
  clear hx
  go_enter Try.func53, Try.ntmps53
  go_wp2_with (first
    | go_big_skip
    | (refine own_box 5 _ O rfl rfl rfl rfl ?_; clear O; intro W a5 O; simp only [Act.put, List.setIfInBounds_toArray, List.set_cons_zero, List.set_cons_succ]; have c5 := (O.get 0 rfl).cell)
    | (go_at_call 85; refine ((HF _).out).mono ?_; rintro e W ⟨rfl, K⟩; replace O := O.keeps K; clear K c5; have c5 := (O.get 0 rfl).cell)
    | (refine own_alloc 7 (ints 3 fun _ => 0) O rfl rfl rfl (fun _ => by kernel_rfl) ?_; clear O; intro W a7 O; simp only [Act.put, List.setIfInBounds_toArray, List.set_cons_zero, List.set_cons_succ]; clear c5; have c5 := (O.get 1 rfl).cell)
    | (refine own_store_row 0 (.tmp 7) (.tmp 13) O rfl rfl rfl rfl rfl rfl (by kernel_rfl) (by simp only [ints_size]) (ints_cell _ _) ?_; clear O; intro W O; simp only [List.set_cons_zero] at O; clear c5; have c5 := (O.get 1 rfl).cell; have c7 := (O.get 0 rfl).cell; have c4 := (HC _ O.keep).out)
    | (go_at_call 86; with_reducible (refine ((HM1 _ O.keep).out).mono ?_); rintro e W ⟨rfl, rfl⟩)
    | (go_at_call 86; with_reducible (refine ((HM2 _ O.keep).out).mono ?_); rintro e W ⟨rfl, rfl⟩)
    | (go_at_call 86; with_reducible (refine ((HM3 _ O.keep).out).mono ?_); rintro e W ⟨rfl, rfl⟩))
  go_ret
  exact ⟨rfl, O.keep⟩

set_option maxRecDepth 100000 in
set_option maxHeartbeats 1000000 in
include hx HF HM1 HM2 HM3 HC in
theorem core_on2 (e : ¬ x = 12) (e' : ¬ x = 13) (q1 : b1 = true) (q2 : b2 = true) : Calls Try.prog 53 #[.pointer (some ⟨g, 0, none⟩), .int .i64 p, .agg (inst f)] w fun e w' => e = .returned (.bool b3) ∧ Keeps w w' [] := by
  have O := Own.start w []
  have _u := And.intro hx (And.intro HF (And.intro HM1 (And.intro HM2 (And.intro HM3 HC))))
  clear _u
  unfold inst
  subst q1
  subst q2
  generalize f 1 = y1 at *
  generalize f 2 = y2 at *
  generalize f 3 = y3 at *
  rw [hx]
  clear hx
  go_enter Try.func53, Try.ntmps53
  go_wp2_with (first
    | go_big_skip
    | (refine own_box 5 _ O rfl rfl rfl rfl ?_; clear O; intro W a5 O; simp only [Act.put, List.setIfInBounds_toArray, List.set_cons_zero, List.set_cons_succ]; have c5 := (O.get 0 rfl).cell)
    | (go_at_call 85; refine ((HF _).out).mono ?_; rintro e W ⟨rfl, K⟩; replace O := O.keeps K; clear K c5; have c5 := (O.get 0 rfl).cell)
    | (refine own_alloc 7 (ints 3 fun _ => 0) O rfl rfl rfl (fun _ => by kernel_rfl) ?_; clear O; intro W a7 O; simp only [Act.put, List.setIfInBounds_toArray, List.set_cons_zero, List.set_cons_succ]; clear c5; have c5 := (O.get 1 rfl).cell)
    | (refine own_store_row 0 (.tmp 7) (.tmp 13) O rfl rfl rfl rfl rfl rfl (by kernel_rfl) (by simp only [ints_size]) (ints_cell _ _) ?_; clear O; intro W O; simp only [List.set_cons_zero] at O; clear c5; have c5 := (O.get 1 rfl).cell; have c7 := (O.get 0 rfl).cell; have c4 := (HC _ O.keep).out)
    | (go_at_call 86; with_reducible (refine ((HM1 _ O.keep).out).mono ?_); rintro e W ⟨rfl, rfl⟩)
    | (go_at_call 86; with_reducible (refine ((HM2 _ O.keep).out).mono ?_); rintro e W ⟨rfl, rfl⟩)
    | (go_at_call 86; with_reducible (refine ((HM3 _ O.keep).out).mono ?_); rintro e W ⟨rfl, rfl⟩))
  go_ret
  exact ⟨rfl, O.keep⟩

end
set_option maxHeartbeats 1000000 in
/-- sched.right. -/
theorem right_any {S : Sys} {A : Option Addr} {c : Nat} {R : Option Addr} {d g : Nat} {t : TypeId} {p : Nat} {w : World} (f : Nat → Int) (hB : Blk w g t (sysV S A c R d)) (hS : SysIn w S A c R d) (hp : p < S.np) (hl : S.lp p ≤ 256) :
    Calls Try.prog 53 #[.pointer (some ⟨g, 0, none⟩), .int .i64 p, .agg (inst f)] w fun e w' => e = .returned (.bool (rightS S p f)) ∧ Keeps w w' [] := by
  by_cases h1 : f 0 < 1
  · have := right_low f h1 w p g
    rwa [show rightS S p f = false by simp [rightS, opOk, show ¬ 1 ≤ f 0 from by omega]]
  by_cases h2 : 17 ≤ f 0
  · have := right_high f h2 w p g
    rwa [show rightS S p f = false by simp [rightS, opOk, show ¬ f 0 ≤ 16 from by omega]]
  obtain ⟨o, ho⟩ : ∃ o : Nat, f 0 = (o : Int) := ⟨(f 0).toNat, by omega⟩
  have ho1 : 1 ≤ o := by omega
  have ho2 : o ≤ 16 := by omega
  have HF : ∀ u, Hid (Calls Try.prog 85 #[.int .i64 (o : Int)] u fun e w' => e = .returned (.tuple #[.agg (ints 3 (kd o)), .bool true]) ∧ Keeps u w' []) := fun u => Lib.hid (fields_good o ho1 ho2 u)
  have HM : ∀ j, j < 3 → ∀ u, Keeps w u [] → Hid (Calls Try.prog 86 #[.pointer (some ⟨g, 0, none⟩), .int .i64 p, .int .i64 (f (j + 1)), .int .i64 (kd o j : Nat)] u fun e w' => e = .returned (.bool (mayS S p (f (j + 1)) (kd o j))) ∧ u = w') := fun j hj u k => Lib.hid (may_any S A c R d g p (f (j + 1)) u (hB.keeps k (by simp)) (hS.kept k) hp hl (kd o j) (kd_le o j (by omega) hj))
  have M1 := HM 0 (by omega)
  have M2 := HM 1 (by omega)
  have M3 := HM 2 (by omega)
  have HC : ∀ u, Keeps w u [] → Hid (u.cell? ⟨g, 4, none⟩ = some (.int .i64 S.ce)) := fun u k => Lib.hid ((hB.keeps k (by simp)).cell 4)
  have e0 : rightS S p f = (!((decide (f 0 = 12) || decide (f 0 = 13)) && decide (S.ce = 0)) && (mayS S p (f 1) (kd o 0) && (mayS S p (f 2) (kd o 1) && mayS S p (f 3) (kd o 2)))) := by
    unfold rightS
    rw [show (f 0).toNat = o from by omega, show opOk (f 0) = true by simp [opOk, show 1 ≤ f 0 from by omega, show f 0 ≤ 16 from by omega], Bool.true_and]
  rw [e0]
  clear e0 HM hB hS
  simp only [Nat.zero_add, Nat.reduceAdd] at M1 M2 M3
  generalize mayS S p (f 1) (kd o 0) = b1 at *
  generalize mayS S p (f 2) (kd o 1) = b2 at *
  generalize mayS S p (f 3) (kd o 2) = b3 at *
  have go : ∀ r, (Calls Try.prog 53 #[.pointer (some ⟨g, 0, none⟩), .int .i64 p, .agg (inst f)] w fun e w' => e = .returned (.bool r) ∧ Keeps w w' []) → r = (!((decide (f 0 = 12) || decide (f 0 = 13)) && decide (S.ce = 0)) && (b1 && (b2 && b3))) → Calls Try.prog 53 #[.pointer (some ⟨g, 0, none⟩), .int .i64 p, .agg (inst f)] w fun e w' => e = .returned (.bool (!((decide (f 0 = 12) || decide (f 0 = 13)) && decide (S.ce = 0)) && (b1 && (b2 && b3)))) ∧ Keeps w w' [] := fun r h e => by rw [← e]; exact h
  by_cases e12 : (o : Int) = 12
  · by_cases z : S.ce = 0
    · exact go _ (core_12z f o p g S.ce b1 b2 b3 w o ho HF M1 M2 M3 HC e12 z) (by simp [ho, e12, z])
    · rcases (by cases b1 <;> simp : b1 = false ∨ b1 = true) with h1 | h1
      · exact go _ (core_12n0 f o p g S.ce b1 b2 b3 w o ho HF M1 M2 M3 HC e12 z h1) (by simp [h1])
      · rcases (by cases b2 <;> simp : b2 = false ∨ b2 = true) with h2 | h2
        · exact go _ (core_12n1 f o p g S.ce b1 b2 b3 w o ho HF M1 M2 M3 HC e12 z h1 h2) (by simp [h1, h2])
        · exact go _ (core_12n2 f o p g S.ce b1 b2 b3 w o ho HF M1 M2 M3 HC e12 z h1 h2) (by simp [z, h1, h2])
  by_cases e13 : (o : Int) = 13
  · by_cases z : S.ce = 0
    · exact go _ (core_13z f o p g S.ce b1 b2 b3 w o ho HF M1 M2 M3 HC e13 z) (by simp [ho, e13, z])
    · rcases (by cases b1 <;> simp : b1 = false ∨ b1 = true) with h1 | h1
      · exact go _ (core_13n0 f o p g S.ce b1 b2 b3 w o ho HF M1 M2 M3 HC e13 z h1) (by simp [h1])
      · rcases (by cases b2 <;> simp : b2 = false ∨ b2 = true) with h2 | h2
        · exact go _ (core_13n1 f o p g S.ce b1 b2 b3 w o ho HF M1 M2 M3 HC e13 z h1 h2) (by simp [h1, h2])
        · exact go _ (core_13n2 f o p g S.ce b1 b2 b3 w o ho HF M1 M2 M3 HC e13 z h1 h2) (by simp [z, h1, h2])
  rcases (by cases b1 <;> simp : b1 = false ∨ b1 = true) with h1 | h1
  · exact go _ (core_on0 f o p g S.ce b1 b2 b3 w o ho HF M1 M2 M3 HC e12 e13 h1) (by simp [h1])
  · rcases (by cases b2 <;> simp : b2 = false ∨ b2 = true) with h2 | h2
    · exact go _ (core_on1 f o p g S.ce b1 b2 b3 w o ho HF M1 M2 M3 HC e12 e13 h1 h2) (by simp [h1, h2])
    · exact go _ (core_on2 f o p g S.ce b1 b2 b3 w o ho HF M1 M2 M3 HC e12 e13 h1 h2) (by simp [ho, e12, e13, h1, h2])
end Go.Proofs.Ytakmcpadkanggaa
