/-
  Part 6 of what this claim rests on.
-/
import Derived.Test.YtakmcpadkanggaaOr5
namespace Go.Proofs.Ytakmcpadkanggaa
open Go.ChangeShapes Go.WideShapes Go.RowKit Go.Maps Go.Deep
section
variable {w : World} {S : Sys} {A : Option Addr} {c : Nat} {R : Option Addr} {d n : Nat} {E : Nat → Ev} {B : Option Addr} {cb : Nat}
theorem clk_ok (h : clkE S E n = 0) : (thr S E n).2.2 = 0 ∧ validB S = true ∧ n ≤ 40000 ∧ OkAll S E n := by
  have ht : (thr S E n).2.2 = 0 := by
    unfold clkE at h
    by_cases e : (thr S E n).2.2 = 0
    · exact e
    · rw [if_neg e] at h; exact absurd h e
  exact ⟨ht, thr_zero ht⟩
theorem before_at (h : clkE S E n = 0) {p q : Nat} (hp : p < n) (hq : q < n) : beforeR S E n (p : Int) (q : Int) = (befB E (rmS S) p q, 0) := by
  obtain ⟨ht, hv, hn, hok⟩ := clk_ok h
  have ha : [(p : Int), (q : Int)].all (insB n) = true := by simp [insB]; omega
  unfold beforeR askedR
  rw [if_pos ht, if_pos ha]
  simp
/-- The cells of a grid, in a world behind. -/
theorem grid_row {base r : Nat} {W : World} {v : Value} {nb cp : Nat → Nat} {F : Nat → Int → Int} {ad : Addr} {cv : Nat} (G : GridAt base W v n r nb cp F) (hv : v = .slice (some ad) n cv) {i : Nat} (hi : i < n) : W.cell? (ad.add i) = some (.slice (some ⟨nb i, 0, none⟩) r (cp i)) :=
  (gr_cell G.row hv (gridL_get hi)).2
theorem grid_at {base r : Nat} {W : World} {v : Value} {nb cp : Nat → Nat} {F : Nat → Int → Int} (G : GridAt base W v n r nb cp F) {i k : Nat} (hi : i < n) (hk : k < r) : W.cell? ⟨nb i, k, none⟩ = some (.int .i64 (F i (k : Int))) := by
  obtain ⟨_, _, _, cu, hB, _, hc⟩ := G.cl i hi
  exact (hB.cell k).trans (hc.2 k hk)
set_option maxRecDepth 100000 in
set_option maxHeartbeats 1000000 in
theorem order_a (hS : SysIn w S A c R d) (hE : EvsAt w B n E) (_hcb : n ≤ cb) (hwf : ∀ i, i < n → (Lit.int .i64 (E i).a).wf = true) (i j k : Int) (h0 : ¬ clkE S E n = 0) : Calls Try.prog 14 #[.agg (sysV S A c R d), .slice B n cb, .agg #[.int .i64 i, .int .i64 j, .int .i64 k]] w fun e w' => e = .returned (.bool true) ∧ Keeps w w' [] := by
  have O := Own.start w []
  have HC := Lib.hid (fun u (k : Keeps w u []) => tclocks_any (cb := cb) (hS.kept k) (hE.kept k) hwf)
  unfold ClkPost at HC
  generalize clkE S E n = er at HC h0
  have g0 : (er != 0) = true := by simpa using h0
  clear h0
  clear hS hE hwf
  go_enter Try.func14, Try.ntmps14
  go_wp2_with (first
    | go_big_skip
    | (refine own_box 3 (sysV S A c R d) O rfl rfl rfl rfl ?_; clear O; intro W a3 O; simp only [Act.put, List.setIfInBounds_toArray, List.set_cons_zero, List.set_cons_succ])
    | (refine own_box 5 (#[.int .i64 i, .int .i64 j, .int .i64 k]) O rfl rfl rfl rfl ?_; clear O; intro W a5 O; simp only [Act.put, List.setIfInBounds_toArray, List.set_cons_zero, List.set_cons_succ]; have c5 := (O.get 0 rfl).cell))
  go_quiet (fail)
  clear c5
  generalize hW : World.drewN W _ = W2
  replace O : Own w W2 [] [(a5, 54, #[.int .i64 i, .int .i64 j, .int .i64 k]), (a3, 27, sysV S A c R d)] := by rw [← hW]; exact O.drewN _
  clear hW
  go_wp2_with (first
    | go_big_skip
    | (go_at_call 43; refine alive_any.mono ?_; rintro e W ⟨rfl, K⟩; replace O := O.keeps K; clear K)
    | (refine own_load 30 1 O rfl rfl rfl rfl rfl Try.underlying27 rfl (by kernel_rfl) ?_; simp only [Act.put, List.setIfInBounds_toArray, List.set_cons_zero, List.set_cons_succ])
    | (go_at_call 39; refine (HC.out _ O.keep).mono ?_; rintro e W ⟨⟨v, rfl, hv⟩, K⟩; replace O := O.keeps K; clear K hv))
  go_ret
  exact ⟨rfl, O.keep⟩
set_option maxRecDepth 100000 in
set_option maxHeartbeats 1000000 in
theorem order_b (hS : SysIn w S A c R d) (hE : EvsAt w B n E) (_hcb : n ≤ cb) (hwf : ∀ i, i < n → (Lit.int .i64 (E i).a).wf = true) (i j k : Int) (h0 : clkE S E n = 0)  (h1 : i < 0) : Calls Try.prog 14 #[.agg (sysV S A c R d), .slice B n cb, .agg #[.int .i64 i, .int .i64 j, .int .i64 k]] w fun e w' => e = .returned (.bool true) ∧ Keeps w w' [] := by
  have O := Own.start w []
  have HC := Lib.hid (fun u (k : Keeps w u []) => tclocks_any (cb := cb) (hS.kept k) (hE.kept k) hwf)
  unfold ClkPost at HC
  rw [h0] at HC
  have y0 : decide (i < 0) = true := decide_eq_true h1
  clear h0
  clear hS hE hwf
  go_enter Try.func14, Try.ntmps14
  go_wp2_with (first
    | go_big_skip
    | (refine own_box 3 (sysV S A c R d) O rfl rfl rfl rfl ?_; clear O; intro W a3 O; simp only [Act.put, List.setIfInBounds_toArray, List.set_cons_zero, List.set_cons_succ])
    | (refine own_box 5 (#[.int .i64 i, .int .i64 j, .int .i64 k]) O rfl rfl rfl rfl ?_; clear O; intro W a5 O; simp only [Act.put, List.setIfInBounds_toArray, List.set_cons_zero, List.set_cons_succ]; have c5 := (O.get 0 rfl).cell))
  go_quiet (fail)
  clear c5
  generalize hW : World.drewN W _ = W2
  replace O : Own w W2 [] [(a5, 54, #[.int .i64 i, .int .i64 j, .int .i64 k]), (a3, 27, sysV S A c R d)] := by rw [← hW]; exact O.drewN _
  clear hW
  go_wp2_with (first
    | go_big_skip
    | (go_at_call 43; refine alive_any.mono ?_; rintro e W ⟨rfl, K⟩; replace O := O.keeps K; clear K)
    | (refine own_load 30 1 O rfl rfl rfl rfl rfl Try.underlying27 rfl (by kernel_rfl) ?_; simp only [Act.put, List.setIfInBounds_toArray, List.set_cons_zero, List.set_cons_succ])
    | (go_at_call 39; refine (HC.out _ O.keep).mono ?_; rintro e W ⟨⟨v, rfl, hv⟩, K⟩; replace O := O.keeps K; clear K hv))
  go_ret
  exact ⟨rfl, O.keep⟩
set_option maxRecDepth 100000 in
set_option maxHeartbeats 1000000 in
theorem order_c (hS : SysIn w S A c R d) (hE : EvsAt w B n E) (_hcb : n ≤ cb) (hwf : ∀ i, i < n → (Lit.int .i64 (E i).a).wf = true) (i j k : Int) (h0 : clkE S E n = 0) (h1 : ¬ i < 0) (h2 : j < 0) : Calls Try.prog 14 #[.agg (sysV S A c R d), .slice B n cb, .agg #[.int .i64 i, .int .i64 j, .int .i64 k]] w fun e w' => e = .returned (.bool true) ∧ Keeps w w' [] := by
  have O := Own.start w []
  have HC := Lib.hid (fun u (k : Keeps w u []) => tclocks_any (cb := cb) (hS.kept k) (hE.kept k) hwf)
  unfold ClkPost at HC
  rw [h0] at HC
  have z0 : decide (i < 0) = false := decide_eq_false h1
  have y0 : decide (j < 0) = true := decide_eq_true h2
  clear h0
  clear hS hE hwf
  go_enter Try.func14, Try.ntmps14
  go_wp2_with (first
    | go_big_skip
    | (refine own_box 3 (sysV S A c R d) O rfl rfl rfl rfl ?_; clear O; intro W a3 O; simp only [Act.put, List.setIfInBounds_toArray, List.set_cons_zero, List.set_cons_succ])
    | (refine own_box 5 (#[.int .i64 i, .int .i64 j, .int .i64 k]) O rfl rfl rfl rfl ?_; clear O; intro W a5 O; simp only [Act.put, List.setIfInBounds_toArray, List.set_cons_zero, List.set_cons_succ]; have c5 := (O.get 0 rfl).cell))
  go_quiet (fail)
  clear c5
  generalize hW : World.drewN W _ = W2
  replace O : Own w W2 [] [(a5, 54, #[.int .i64 i, .int .i64 j, .int .i64 k]), (a3, 27, sysV S A c R d)] := by rw [← hW]; exact O.drewN _
  clear hW
  go_wp2_with (first
    | go_big_skip
    | (go_at_call 43; refine alive_any.mono ?_; rintro e W ⟨rfl, K⟩; replace O := O.keeps K; clear K)
    | (refine own_load 30 1 O rfl rfl rfl rfl rfl Try.underlying27 rfl (by kernel_rfl) ?_; simp only [Act.put, List.setIfInBounds_toArray, List.set_cons_zero, List.set_cons_succ])
    | (go_at_call 39; refine (HC.out _ O.keep).mono ?_; rintro e W ⟨⟨v, rfl, hv⟩, K⟩; replace O := O.keeps K; clear K hv))
  go_ret
  exact ⟨rfl, O.keep⟩
set_option maxRecDepth 100000 in
set_option maxHeartbeats 1000000 in
theorem order_d (hS : SysIn w S A c R d) (hE : EvsAt w B n E) (_hcb : n ≤ cb) (hwf : ∀ i, i < n → (Lit.int .i64 (E i).a).wf = true) (i j k : Int) (h0 : clkE S E n = 0) (h1 : ¬ i < 0) (h2 : ¬ j < 0) (h3 : k < 0) : Calls Try.prog 14 #[.agg (sysV S A c R d), .slice B n cb, .agg #[.int .i64 i, .int .i64 j, .int .i64 k]] w fun e w' => e = .returned (.bool true) ∧ Keeps w w' [] := by
  have O := Own.start w []
  have HC := Lib.hid (fun u (k : Keeps w u []) => tclocks_any (cb := cb) (hS.kept k) (hE.kept k) hwf)
  unfold ClkPost at HC
  rw [h0] at HC
  have z0 : decide (i < 0) = false := decide_eq_false h1
  have z1 : decide (j < 0) = false := decide_eq_false h2
  have y0 : decide (k < 0) = true := decide_eq_true h3
  clear h0
  clear hS hE hwf
  go_enter Try.func14, Try.ntmps14
  go_wp2_with (first
    | go_big_skip
    | (refine own_box 3 (sysV S A c R d) O rfl rfl rfl rfl ?_; clear O; intro W a3 O; simp only [Act.put, List.setIfInBounds_toArray, List.set_cons_zero, List.set_cons_succ])
    | (refine own_box 5 (#[.int .i64 i, .int .i64 j, .int .i64 k]) O rfl rfl rfl rfl ?_; clear O; intro W a5 O; simp only [Act.put, List.setIfInBounds_toArray, List.set_cons_zero, List.set_cons_succ]; have c5 := (O.get 0 rfl).cell))
  go_quiet (fail)
  clear c5
  generalize hW : World.drewN W _ = W2
  replace O : Own w W2 [] [(a5, 54, #[.int .i64 i, .int .i64 j, .int .i64 k]), (a3, 27, sysV S A c R d)] := by rw [← hW]; exact O.drewN _
  clear hW
  go_wp2_with (first
    | go_big_skip
    | (go_at_call 43; refine alive_any.mono ?_; rintro e W ⟨rfl, K⟩; replace O := O.keeps K; clear K)
    | (refine own_load 30 1 O rfl rfl rfl rfl rfl Try.underlying27 rfl (by kernel_rfl) ?_; simp only [Act.put, List.setIfInBounds_toArray, List.set_cons_zero, List.set_cons_succ])
    | (go_at_call 39; refine (HC.out _ O.keep).mono ?_; rintro e W ⟨⟨v, rfl, hv⟩, K⟩; replace O := O.keeps K; clear K hv))
  go_ret
  exact ⟨rfl, O.keep⟩
set_option maxRecDepth 100000 in
set_option maxHeartbeats 1000000 in
theorem order_e (hS : SysIn w S A c R d) (hE : EvsAt w B n E) (_hcb : n ≤ cb) (hwf : ∀ i, i < n → (Lit.int .i64 (E i).a).wf = true) (i j k : Int) (h0 : clkE S E n = 0) (h1 : ¬ i < 0) (h2 : ¬ j < 0) (h3 : ¬ k < 0) (h4 : (n : Int) ≤ i) : Calls Try.prog 14 #[.agg (sysV S A c R d), .slice B n cb, .agg #[.int .i64 i, .int .i64 j, .int .i64 k]] w fun e w' => e = .returned (.bool true) ∧ Keeps w w' [] := by
  have O := Own.start w []
  have HC := Lib.hid (fun u (k : Keeps w u []) => tclocks_any (cb := cb) (hS.kept k) (hE.kept k) hwf)
  unfold ClkPost at HC
  rw [h0] at HC
  have z0 : decide (i < 0) = false := decide_eq_false h1
  have z1 : decide (j < 0) = false := decide_eq_false h2
  have z2 : decide (k < 0) = false := decide_eq_false h3
  have y0 : decide ((n : Int) ≤ i) = true := decide_eq_true h4
  clear h0
  clear hS hE hwf
  go_enter Try.func14, Try.ntmps14
  go_wp2_with (first
    | go_big_skip
    | (refine own_box 3 (sysV S A c R d) O rfl rfl rfl rfl ?_; clear O; intro W a3 O; simp only [Act.put, List.setIfInBounds_toArray, List.set_cons_zero, List.set_cons_succ])
    | (refine own_box 5 (#[.int .i64 i, .int .i64 j, .int .i64 k]) O rfl rfl rfl rfl ?_; clear O; intro W a5 O; simp only [Act.put, List.setIfInBounds_toArray, List.set_cons_zero, List.set_cons_succ]; have c5 := (O.get 0 rfl).cell))
  go_quiet (fail)
  clear c5
  generalize hW : World.drewN W _ = W2
  replace O : Own w W2 [] [(a5, 54, #[.int .i64 i, .int .i64 j, .int .i64 k]), (a3, 27, sysV S A c R d)] := by rw [← hW]; exact O.drewN _
  clear hW
  go_wp2_with (first
    | go_big_skip
    | (go_at_call 43; refine alive_any.mono ?_; rintro e W ⟨rfl, K⟩; replace O := O.keeps K; clear K)
    | (refine own_load 30 1 O rfl rfl rfl rfl rfl Try.underlying27 rfl (by kernel_rfl) ?_; simp only [Act.put, List.setIfInBounds_toArray, List.set_cons_zero, List.set_cons_succ])
    | (go_at_call 39; refine (HC.out _ O.keep).mono ?_; rintro e W ⟨⟨v, rfl, hv⟩, K⟩; replace O := O.keeps K; clear K hv))
  go_ret
  exact ⟨rfl, O.keep⟩
set_option maxRecDepth 100000 in
set_option maxHeartbeats 1000000 in
theorem order_f (hS : SysIn w S A c R d) (hE : EvsAt w B n E) (_hcb : n ≤ cb) (hwf : ∀ i, i < n → (Lit.int .i64 (E i).a).wf = true) (i j k : Int) (h0 : clkE S E n = 0) (h1 : ¬ i < 0) (h2 : ¬ j < 0) (h3 : ¬ k < 0) (h4 : ¬ (n : Int) ≤ i) (h5 : (n : Int) ≤ j) : Calls Try.prog 14 #[.agg (sysV S A c R d), .slice B n cb, .agg #[.int .i64 i, .int .i64 j, .int .i64 k]] w fun e w' => e = .returned (.bool true) ∧ Keeps w w' [] := by
  have O := Own.start w []
  have HC := Lib.hid (fun u (k : Keeps w u []) => tclocks_any (cb := cb) (hS.kept k) (hE.kept k) hwf)
  unfold ClkPost at HC
  rw [h0] at HC
  have z0 : decide (i < 0) = false := decide_eq_false h1
  have z1 : decide (j < 0) = false := decide_eq_false h2
  have z2 : decide (k < 0) = false := decide_eq_false h3
  have z3 : decide ((n : Int) ≤ i) = false := decide_eq_false h4
  have y0 : decide ((n : Int) ≤ j) = true := decide_eq_true h5
  clear h0
  clear hS hE hwf
  go_enter Try.func14, Try.ntmps14
  go_wp2_with (first
    | go_big_skip
    | (refine own_box 3 (sysV S A c R d) O rfl rfl rfl rfl ?_; clear O; intro W a3 O; simp only [Act.put, List.setIfInBounds_toArray, List.set_cons_zero, List.set_cons_succ])
    | (refine own_box 5 (#[.int .i64 i, .int .i64 j, .int .i64 k]) O rfl rfl rfl rfl ?_; clear O; intro W a5 O; simp only [Act.put, List.setIfInBounds_toArray, List.set_cons_zero, List.set_cons_succ]; have c5 := (O.get 0 rfl).cell))
  go_quiet (fail)
  clear c5
  generalize hW : World.drewN W _ = W2
  replace O : Own w W2 [] [(a5, 54, #[.int .i64 i, .int .i64 j, .int .i64 k]), (a3, 27, sysV S A c R d)] := by rw [← hW]; exact O.drewN _
  clear hW
  go_wp2_with (first
    | go_big_skip
    | (go_at_call 43; refine alive_any.mono ?_; rintro e W ⟨rfl, K⟩; replace O := O.keeps K; clear K)
    | (refine own_load 30 1 O rfl rfl rfl rfl rfl Try.underlying27 rfl (by kernel_rfl) ?_; simp only [Act.put, List.setIfInBounds_toArray, List.set_cons_zero, List.set_cons_succ])
    | (go_at_call 39; refine (HC.out _ O.keep).mono ?_; rintro e W ⟨⟨v, rfl, hv⟩, K⟩; replace O := O.keeps K; clear K hv))
  go_ret
  exact ⟨rfl, O.keep⟩
set_option maxRecDepth 100000 in
set_option maxHeartbeats 1000000 in
theorem order_g (hS : SysIn w S A c R d) (hE : EvsAt w B n E) (_hcb : n ≤ cb) (hwf : ∀ i, i < n → (Lit.int .i64 (E i).a).wf = true) (i j k : Int) (h0 : clkE S E n = 0) (h1 : ¬ i < 0) (h2 : ¬ j < 0) (h3 : ¬ k < 0) (h4 : ¬ (n : Int) ≤ i) (h5 : ¬ (n : Int) ≤ j) (h6 : (n : Int) ≤ k) : Calls Try.prog 14 #[.agg (sysV S A c R d), .slice B n cb, .agg #[.int .i64 i, .int .i64 j, .int .i64 k]] w fun e w' => e = .returned (.bool true) ∧ Keeps w w' [] := by
  have O := Own.start w []
  have HC := Lib.hid (fun u (k : Keeps w u []) => tclocks_any (cb := cb) (hS.kept k) (hE.kept k) hwf)
  unfold ClkPost at HC
  rw [h0] at HC
  have z0 : decide (i < 0) = false := decide_eq_false h1
  have z1 : decide (j < 0) = false := decide_eq_false h2
  have z2 : decide (k < 0) = false := decide_eq_false h3
  have z3 : decide ((n : Int) ≤ i) = false := decide_eq_false h4
  have z4 : decide ((n : Int) ≤ j) = false := decide_eq_false h5
  have y0 : decide ((n : Int) ≤ k) = true := decide_eq_true h6
  clear h0
  clear hS hE hwf
  go_enter Try.func14, Try.ntmps14
  go_wp2_with (first
    | go_big_skip
    | (refine own_box 3 (sysV S A c R d) O rfl rfl rfl rfl ?_; clear O; intro W a3 O; simp only [Act.put, List.setIfInBounds_toArray, List.set_cons_zero, List.set_cons_succ])
    | (refine own_box 5 (#[.int .i64 i, .int .i64 j, .int .i64 k]) O rfl rfl rfl rfl ?_; clear O; intro W a5 O; simp only [Act.put, List.setIfInBounds_toArray, List.set_cons_zero, List.set_cons_succ]; have c5 := (O.get 0 rfl).cell))
  go_quiet (fail)
  clear c5
  generalize hW : World.drewN W _ = W2
  replace O : Own w W2 [] [(a5, 54, #[.int .i64 i, .int .i64 j, .int .i64 k]), (a3, 27, sysV S A c R d)] := by rw [← hW]; exact O.drewN _
  clear hW
  go_wp2_with (first
    | go_big_skip
    | (go_at_call 43; refine alive_any.mono ?_; rintro e W ⟨rfl, K⟩; replace O := O.keeps K; clear K)
    | (refine own_load 30 1 O rfl rfl rfl rfl rfl Try.underlying27 rfl (by kernel_rfl) ?_; simp only [Act.put, List.setIfInBounds_toArray, List.set_cons_zero, List.set_cons_succ])
    | (go_at_call 39; refine (HC.out _ O.keep).mono ?_; rintro e W ⟨⟨v, rfl, hv⟩, K⟩; replace O := O.keeps K; clear K hv))
  go_ret
  exact ⟨rfl, O.keep⟩
set_option maxRecDepth 100000 in
set_option maxHeartbeats 4000000 in
theorem order_v1 {p s : Nat} (hS : SysIn w S A c R d) (hE : EvsAt w B n E) (hcb : n ≤ cb) (hwf : ∀ i, i < n → (Lit.int .i64 (E i).a).wf = true) (h0 : clkE S E n = 0) (hp : p < n) (hs : s < n) : Calls Try.prog 14 #[.agg (sysV S A c R d), .slice B n cb, .agg #[.int .i64 (p : Int), .int .i64 (p : Int), .int .i64 (s : Int)]] w fun e w' => e = .returned (.bool true) ∧ Keeps w w' [] := by
  have O := Own.start w []
  have HC := Lib.hid (fun u (k : Keeps w u []) => tclocks_any (cb := cb) (hS.kept k) (hE.kept k) hwf)
  unfold ClkPost at HC
  rw [h0] at HC
  have HBF := Lib.hid (fun u (k : Keeps w u []) i j => tbefore_any (cb := cb) (hS.kept k) (hE.kept k) hcb hwf i j)
  obtain ⟨_, _, hn4, hok⟩ := clk_ok h0
  have b1 := before_at h0 hp hp
  have b2 := before_at h0 hp hs
  have b3 := before_at h0 hp hs
  have b4 := before_at h0 hp hp
  rw [bef_self] at b4
  rw [bef_self] at b1
  obtain ⟨b2v, h2⟩ : ∃ x, x = befB E (rmS S) p s := ⟨_, rfl⟩
  rw [← h2] at b2 b3
  clear h2
  have HB1 := Lib.hid (fun u (k : Keeps w u []) => (by have := HBF.out u k (p : Int) (p : Int); rwa [b1] at this : Calls Try.prog 44 #[.agg (sysV S A c R d), .slice B n cb, .int .i64 (p : Int), .int .i64 (p : Int)] u fun e u' => e = .returned (.tuple #[.bool false, .int .i64 0]) ∧ Keeps u u' []))
  have HB2 := Lib.hid (fun u (k : Keeps w u []) => (by have := HBF.out u k (p : Int) (s : Int); rwa [b2] at this : Calls Try.prog 44 #[.agg (sysV S A c R d), .slice B n cb, .int .i64 (p : Int), .int .i64 (s : Int)] u fun e u' => e = .returned (.tuple #[.bool (b2v), .int .i64 0]) ∧ Keeps u u' []))
  have HB3 := Lib.hid (fun u (k : Keeps w u []) => (by have := HBF.out u k (p : Int) (s : Int); rwa [b3] at this : Calls Try.prog 44 #[.agg (sysV S A c R d), .slice B n cb, .int .i64 (p : Int), .int .i64 (s : Int)] u fun e u' => e = .returned (.tuple #[.bool (b2v), .int .i64 0]) ∧ Keeps u u' []))
  have HB4 := Lib.hid (fun u (k : Keeps w u []) => (by have := HBF.out u k (p : Int) (p : Int); rwa [b4] at this : Calls Try.prog 44 #[.agg (sysV S A c R d), .slice B n cb, .int .i64 (p : Int), .int .i64 (p : Int)] u fun e u' => e = .returned (.tuple #[.bool false, .int .i64 0]) ∧ Keeps u u' []))
  clear b1 b2 b3 b4 HBF
  obtain ⟨wp, hwp⟩ : ∃ wp : Nat, (E p).who = (wp : Int) := ⟨(E p).who.toNat, by have := (ok_head (hok p hp)).1; omega⟩
  obtain ⟨wq, hwq⟩ : ∃ wq : Nat, (E p).who = (wq : Int) := ⟨(E p).who.toNat, by have := (ok_head (hok p hp)).1; omega⟩
  have hwr : ∀ i, i < n → (E i).who < (stN E n).r := fun i hi => by
    have h1 := (ok_head (hok i hi)).2.1
    have h2 := stN_r_mono E (show i ≤ n by omega)
    omega
  obtain ⟨r, hr⟩ : ∃ r : Nat, (stN E n).r.toNat = r := ⟨_, rfl⟩
  have hpr : wp < r := by have := hwr p hp; omega
  have hqr : wq < r := by have := hwr p hp; omega
  simp only [hr] at HC
  have HE := Lib.hid hE
  have hcl : clk E (rmS S) (p : Int) (E p).who ≤ clk E (rmS S) (p : Int) (E p).who := Int.le_refl _
  rw [hwp] at hcl
  obtain ⟨xp, hxp⟩ : ∃ xp, xp = clk E (rmS S) (p : Int) (wp : Int) := ⟨_, rfl⟩
  obtain ⟨xq, hxq⟩ : ∃ xq, xq = clk E (rmS S) (p : Int) (wp : Int) := ⟨_, rfl⟩
  rw [← hxp] at hcl
  try rw [← hxq] at hcl
  have HXP := Lib.hid hxp
  have HXQ := Lib.hid hxq
  have HWP := Lib.hid hwp
  have HWQ := Lib.hid hwq
  obtain ⟨ad, rfl, hEc⟩ := HE.out (by omega)
  clear hEc
  have HPN := Lib.hid (show p < n ∧ p < n from ⟨hp, hp⟩)
  have e0 : ((n : Int) != (n : Int)) = false := by simp
  have k1 : (p : Int) < n := by omega
  have k2 : (p : Int) < n := by omega
  have k3 : (0 : Int) ≤ p := by omega
  have k4 : (0 : Int) ≤ p := by omega
  have k5 : (wp : Int) < r := by omega
  have k6 : (0 : Int) ≤ wp := by omega
  have hww : wp = wq := by omega
  subst hww
  have z0 : decide ((p : Int) < 0) = false := decide_eq_false (by omega)
  have zz0 : ¬ (p : Int) < 0 := by omega
  have z1 : decide ((s : Int) < 0) = false := decide_eq_false (by omega)
  have zz1 : ¬ (s : Int) < 0 := by omega
  have z2 : decide ((n : Int) ≤ p) = false := decide_eq_false (by omega)
  have zz2 : ¬ (n : Int) ≤ p := by omega
  have z3 : decide ((n : Int) ≤ s) = false := decide_eq_false (by omega)
  have zz3 : ¬ (n : Int) ≤ s := by omega
  have z4 : decide (n ≤ p) = false := decide_eq_false (by omega)
  have zz4 : ¬ n ≤ p := by omega
  have z5 : decide (n ≤ s) = false := decide_eq_false (by omega)
  have zz5 : ¬ n ≤ s := by omega
  have z6 : decide ((wp : Int) < 0) = false := decide_eq_false (by omega)
  have zz6 : ¬ (wp : Int) < 0 := by omega
  have z7 : decide ((r : Int) ≤ (wp : Int)) = false := decide_eq_false (by omega)
  have zz7 : ¬ (r : Int) ≤ (wp : Int) := by omega
  have z8 : decide ((p : Int) ≤ p) = true := decide_eq_true (by omega)
  have zz8 : (p : Int) ≤ p := by omega
  have e1 : ((p : Int) != (p : Int)) = false := by simp
  have e2 : ((wp : Int) != (wp : Int)) = false := by simp
  clear hS hE hwf hcb h0 hok hwp hwq hwr hr hxp hxq hs hp hcl
  go_enter Try.func14, Try.ntmps14
  go_wp2_with (first
    | go_big_skip
    | (refine own_box 3 (sysV S A c R d) O rfl rfl rfl rfl ?_; clear O; intro W a3 O; simp only [Act.put, List.setIfInBounds_toArray, List.set_cons_zero, List.set_cons_succ])
    | (refine own_box 5 (#[.int .i64 (p : Int), .int .i64 (p : Int), .int .i64 (s : Int)]) O rfl rfl rfl rfl ?_; clear O; intro W a5 O; simp only [Act.put, List.setIfInBounds_toArray, List.set_cons_zero, List.set_cons_succ]; have c5 := (O.get 0 rfl).cell))
  go_quiet (fail)
  clear c5
  generalize hW : World.drewN W _ = W2
  replace O : Own w W2 [] [(a5, 54, #[.int .i64 (p : Int), .int .i64 (p : Int), .int .i64 (s : Int)]), (a3, 27, sysV S A c R d)] := by rw [← hW]; exact O.drewN _
  clear hW
  go_wp2_with (first
    | go_big_skip
    | (go_at_call 43; refine alive_any.mono ?_; rintro e W ⟨rfl, K⟩; replace O := O.keeps K; clear K)
    | (refine own_load 30 1 O rfl rfl rfl rfl rfl Try.underlying27 rfl (by kernel_rfl) ?_; simp only [Act.put, List.setIfInBounds_toArray, List.set_cons_zero, List.set_cons_succ])
    | (refine own_load 68 1 O rfl rfl rfl rfl rfl Try.underlying27 rfl (by kernel_rfl) ?_; simp only [Act.put, List.setIfInBounds_toArray, List.set_cons_zero, List.set_cons_succ])
    | (refine own_load 76 1 O rfl rfl rfl rfl rfl Try.underlying27 rfl (by kernel_rfl) ?_; simp only [Act.put, List.setIfInBounds_toArray, List.set_cons_zero, List.set_cons_succ])
    | (refine own_load 84 1 O rfl rfl rfl rfl rfl Try.underlying27 rfl (by kernel_rfl) ?_; simp only [Act.put, List.setIfInBounds_toArray, List.set_cons_zero, List.set_cons_succ])
    | (refine own_load 92 1 O rfl rfl rfl rfl rfl Try.underlying27 rfl (by kernel_rfl) ?_; simp only [Act.put, List.setIfInBounds_toArray, List.set_cons_zero, List.set_cons_succ])
    | (go_at_call 39; refine (HC.out _ O.keep).mono ?_; rintro e W ⟨⟨v, rfl, hv⟩, K⟩; obtain ⟨nb, cp, G⟩ := (hv.elim (fun h => h.2) (fun h => absurd rfl h.1)); replace O := O.keeps K; clear K hv; obtain ⟨Av, cv, rfl, hnz, _⟩ := gr_shape G.row; obtain ⟨av, rfl⟩ : ∃ av, Av = some av := Option.ne_none_iff_exists'.1 (fun e => by have := (hnz e).1; have := HPN.out; omega); have HG := Lib.hid G; clear G hnz)
    | (go_at_call 44; (with_reducible refine (HB1.out _ O.keep).mono ?_); rintro e W ⟨rfl, K⟩; replace O := O.keeps K; replace HG := Lib.hid (HG.out.new K); clear K)
    | (go_at_call 44; (with_reducible refine (HB2.out _ O.keep).mono ?_); rintro e W ⟨rfl, K⟩; replace O := O.keeps K; replace HG := Lib.hid (HG.out.new K); clear K)
    | (go_at_call 44; (with_reducible refine (HB3.out _ O.keep).mono ?_); rintro e W ⟨rfl, K⟩; replace O := O.keeps K; replace HG := Lib.hid (HG.out.new K); clear K)
    | (go_at_call 44; (with_reducible refine (HB4.out _ O.keep).mono ?_); rintro e W ⟨rfl, K⟩; replace O := O.keeps K; replace HG := Lib.hid (HG.out.new K); clear K))
  clear HB1 HB2 HB3 HB4
  have HGW := Lib.hid (fun q : Later W => HG.out.new q.2)
  have HEW := Lib.hid (fun q : Later W => (HE.out.kept (O.keep.trans q.2 (by simp)) : EvsAt q.1 (some ad) n E))
  have cP : ∀ q : Later W, q.1.cell? (ad.add (p * 5)) = some (.int .i64 (wp : Int)) := fun q => by
    obtain ⟨ad', e, _, hc⟩ := HEW.out q (by have := HPN.out; omega)
    cases e
    have := hc p 0 HPN.out.1 (by omega)
    rw [Nat.add_zero] at this
    rw [this, ← HWP.out]; rfl
  refine wp_quiet_later (by kernel_rfl) (by kernel_rfl) ?_
  repeat (first
    | go_big_quiet_skip
    | go_big_quiet_step (fail))
  refine wpQuiet_nil ?_
  intro _ hw
  obtain ⟨p', rfl⟩ := hw
  replace O := O.keeps p'.2
  replace HG := Lib.hid (HG.out.new p'.2)
  clear cP  HGW HEW
  generalize p'.1 = W3 at O HG ⊢
  have r1 := grid_row HG.out rfl HPN.out.1
  go_wp2_with (first | go_big_skip)
  have HGW := Lib.hid (fun q : Later W3 => HG.out.new q.2)
  clear r1 
  refine wp_quiet_later (by kernel_rfl) (by kernel_rfl) ?_
  repeat (first
    | go_big_quiet_skip
    | go_big_quiet_step (fail))
  refine wpQuiet_nil ?_
  intro _ hw
  obtain ⟨p', rfl⟩ := hw
  replace O := O.keeps p'.2
  clear  HGW HG
  generalize p'.1 = W4 at O ⊢
  go_wp2
  go_ret
  exact ⟨rfl, O.keep⟩
set_option maxRecDepth 100000 in
set_option maxHeartbeats 4000000 in
theorem order_v2a {p q s : Nat} (hS : SysIn w S A c R d) (hE : EvsAt w B n E) (hcb : n ≤ cb) (hwf : ∀ i, i < n → (Lit.int .i64 (E i).a).wf = true) (h0 : clkE S E n = 0) (hp : p < n) (hq : q < n) (hs : s < n) (hpq : ¬ p = q) (hb : befB E (rmS S) p q = false) (hne : decide (clk E (rmS S) (p : Int) (E p).who ≤ clk E (rmS S) (q : Int) (E p).who) = false) (hw : ¬ (E p).who = (E q).who) : Calls Try.prog 14 #[.agg (sysV S A c R d), .slice B n cb, .agg #[.int .i64 (p : Int), .int .i64 (q : Int), .int .i64 (s : Int)]] w fun e w' => e = .returned (.bool true) ∧ Keeps w w' [] := by
  have O := Own.start w []
  have HC := Lib.hid (fun u (k : Keeps w u []) => tclocks_any (cb := cb) (hS.kept k) (hE.kept k) hwf)
  unfold ClkPost at HC
  rw [h0] at HC
  have HBF := Lib.hid (fun u (k : Keeps w u []) i j => tbefore_any (cb := cb) (hS.kept k) (hE.kept k) hcb hwf i j)
  obtain ⟨_, _, hn4, hok⟩ := clk_ok h0
  have b1 := before_at h0 hp hq
  have b2 := before_at h0 hq hs
  have b3 := before_at h0 hp hs
  have b4 := before_at h0 hp hp
  rw [bef_self] at b4
  rw [hb] at b1
  obtain ⟨b2v, h2⟩ : ∃ x, x = befB E (rmS S) q s := ⟨_, rfl⟩
  obtain ⟨b3v, h3⟩ : ∃ x, x = befB E (rmS S) p s := ⟨_, rfl⟩
  rw [← h2] at b2
  rw [← h3] at b3
  clear h2 h3
  have HB1 := Lib.hid (fun u (k : Keeps w u []) => (by have := HBF.out u k (p : Int) (q : Int); rwa [b1] at this : Calls Try.prog 44 #[.agg (sysV S A c R d), .slice B n cb, .int .i64 (p : Int), .int .i64 (q : Int)] u fun e u' => e = .returned (.tuple #[.bool false, .int .i64 0]) ∧ Keeps u u' []))
  have HB2 := Lib.hid (fun u (k : Keeps w u []) => (by have := HBF.out u k (q : Int) (s : Int); rwa [b2] at this : Calls Try.prog 44 #[.agg (sysV S A c R d), .slice B n cb, .int .i64 (q : Int), .int .i64 (s : Int)] u fun e u' => e = .returned (.tuple #[.bool (b2v), .int .i64 0]) ∧ Keeps u u' []))
  have HB3 := Lib.hid (fun u (k : Keeps w u []) => (by have := HBF.out u k (p : Int) (s : Int); rwa [b3] at this : Calls Try.prog 44 #[.agg (sysV S A c R d), .slice B n cb, .int .i64 (p : Int), .int .i64 (s : Int)] u fun e u' => e = .returned (.tuple #[.bool (b3v), .int .i64 0]) ∧ Keeps u u' []))
  have HB4 := Lib.hid (fun u (k : Keeps w u []) => (by have := HBF.out u k (p : Int) (p : Int); rwa [b4] at this : Calls Try.prog 44 #[.agg (sysV S A c R d), .slice B n cb, .int .i64 (p : Int), .int .i64 (p : Int)] u fun e u' => e = .returned (.tuple #[.bool false, .int .i64 0]) ∧ Keeps u u' []))
  clear b1 b2 b3 b4 HBF
  obtain ⟨wp, hwp⟩ : ∃ wp : Nat, (E p).who = (wp : Int) := ⟨(E p).who.toNat, by have := (ok_head (hok p hp)).1; omega⟩
  obtain ⟨wq, hwq⟩ : ∃ wq : Nat, (E q).who = (wq : Int) := ⟨(E q).who.toNat, by have := (ok_head (hok q hq)).1; omega⟩
  have hwr : ∀ i, i < n → (E i).who < (stN E n).r := fun i hi => by
    have h1 := (ok_head (hok i hi)).2.1
    have h2 := stN_r_mono E (show i ≤ n by omega)
    omega
  obtain ⟨r, hr⟩ : ∃ r : Nat, (stN E n).r.toNat = r := ⟨_, rfl⟩
  have hpr : wp < r := by have := hwr p hp; omega
  have hqr : wq < r := by have := hwr q hq; omega
  simp only [hr] at HC
  have HE := Lib.hid hE
  have hcl := of_decide_eq_false hne
  rw [hwp] at hcl
  obtain ⟨xp, hxp⟩ : ∃ xp, xp = clk E (rmS S) (p : Int) (wp : Int) := ⟨_, rfl⟩
  obtain ⟨xq, hxq⟩ : ∃ xq, xq = clk E (rmS S) (q : Int) (wp : Int) := ⟨_, rfl⟩
  rw [← hxp] at hcl
  try rw [← hxq] at hcl
  have HXP := Lib.hid hxp
  have HXQ := Lib.hid hxq
  have HWP := Lib.hid hwp
  have HWQ := Lib.hid hwq
  obtain ⟨ad, rfl, hEc⟩ := HE.out (by omega)
  clear hEc
  have HPN := Lib.hid (show p < n ∧ q < n from ⟨hp, hq⟩)
  have e0 : ((n : Int) != (n : Int)) = false := by simp
  have k1 : (p : Int) < n := by omega
  have k2 : (q : Int) < n := by omega
  have k3 : (0 : Int) ≤ p := by omega
  have k4 : (0 : Int) ≤ q := by omega
  have k5 : (wp : Int) < r := by omega
  have k6 : (0 : Int) ≤ wp := by omega
  have z0 : decide ((p : Int) < 0) = false := decide_eq_false (by omega)
  have zz0 : ¬ (p : Int) < 0 := by omega
  have z1 : decide ((s : Int) < 0) = false := decide_eq_false (by omega)
  have zz1 : ¬ (s : Int) < 0 := by omega
  have z2 : decide ((n : Int) ≤ p) = false := decide_eq_false (by omega)
  have zz2 : ¬ (n : Int) ≤ p := by omega
  have z3 : decide ((n : Int) ≤ s) = false := decide_eq_false (by omega)
  have zz3 : ¬ (n : Int) ≤ s := by omega
  have z4 : decide (n ≤ p) = false := decide_eq_false (by omega)
  have zz4 : ¬ n ≤ p := by omega
  have z5 : decide (n ≤ s) = false := decide_eq_false (by omega)
  have zz5 : ¬ n ≤ s := by omega
  have z6 : decide ((q : Int) < 0) = false := decide_eq_false (by omega)
  have zz6 : ¬ (q : Int) < 0 := by omega
  have z7 : decide ((n : Int) ≤ q) = false := decide_eq_false (by omega)
  have zz7 : ¬ (n : Int) ≤ q := by omega
  have z8 : decide (n ≤ q) = false := decide_eq_false (by omega)
  have zz8 : ¬ n ≤ q := by omega
  have z9 : decide ((wp : Int) < 0) = false := decide_eq_false (by omega)
  have zz9 : ¬ (wp : Int) < 0 := by omega
  have z10 : decide ((r : Int) ≤ (wp : Int)) = false := decide_eq_false (by omega)
  have zz10 : ¬ (r : Int) ≤ (wp : Int) := by omega
  have z11 : decide ((wq : Int) < 0) = false := decide_eq_false (by omega)
  have zz11 : ¬ (wq : Int) < 0 := by omega
  have e1 : ((p : Int) != (q : Int)) = true := by simp; omega
  have e2 : ((wp : Int) != (wq : Int)) = true := by simp; omega
  have e3 : decide (xp ≤ xq) = false := decide_eq_false hcl
  clear hS hE hwf hcb h0 hok hwp hwq hwr hr hxp hxq hs hp hq hcl hpq hb hne hw
  go_enter Try.func14, Try.ntmps14
  go_wp2_with (first
    | go_big_skip
    | (refine own_box 3 (sysV S A c R d) O rfl rfl rfl rfl ?_; clear O; intro W a3 O; simp only [Act.put, List.setIfInBounds_toArray, List.set_cons_zero, List.set_cons_succ])
    | (refine own_box 5 (#[.int .i64 (p : Int), .int .i64 (q : Int), .int .i64 (s : Int)]) O rfl rfl rfl rfl ?_; clear O; intro W a5 O; simp only [Act.put, List.setIfInBounds_toArray, List.set_cons_zero, List.set_cons_succ]; have c5 := (O.get 0 rfl).cell))
  go_quiet (fail)
  clear c5
  generalize hW : World.drewN W _ = W2
  replace O : Own w W2 [] [(a5, 54, #[.int .i64 (p : Int), .int .i64 (q : Int), .int .i64 (s : Int)]), (a3, 27, sysV S A c R d)] := by rw [← hW]; exact O.drewN _
  clear hW
  go_wp2_with (first
    | go_big_skip
    | (go_at_call 43; refine alive_any.mono ?_; rintro e W ⟨rfl, K⟩; replace O := O.keeps K; clear K)
    | (refine own_load 30 1 O rfl rfl rfl rfl rfl Try.underlying27 rfl (by kernel_rfl) ?_; simp only [Act.put, List.setIfInBounds_toArray, List.set_cons_zero, List.set_cons_succ])
    | (refine own_load 68 1 O rfl rfl rfl rfl rfl Try.underlying27 rfl (by kernel_rfl) ?_; simp only [Act.put, List.setIfInBounds_toArray, List.set_cons_zero, List.set_cons_succ])
    | (refine own_load 76 1 O rfl rfl rfl rfl rfl Try.underlying27 rfl (by kernel_rfl) ?_; simp only [Act.put, List.setIfInBounds_toArray, List.set_cons_zero, List.set_cons_succ])
    | (refine own_load 84 1 O rfl rfl rfl rfl rfl Try.underlying27 rfl (by kernel_rfl) ?_; simp only [Act.put, List.setIfInBounds_toArray, List.set_cons_zero, List.set_cons_succ])
    | (refine own_load 92 1 O rfl rfl rfl rfl rfl Try.underlying27 rfl (by kernel_rfl) ?_; simp only [Act.put, List.setIfInBounds_toArray, List.set_cons_zero, List.set_cons_succ])
    | (go_at_call 39; refine (HC.out _ O.keep).mono ?_; rintro e W ⟨⟨v, rfl, hv⟩, K⟩; obtain ⟨nb, cp, G⟩ := (hv.elim (fun h => h.2) (fun h => absurd rfl h.1)); replace O := O.keeps K; clear K hv; obtain ⟨Av, cv, rfl, hnz, _⟩ := gr_shape G.row; obtain ⟨av, rfl⟩ : ∃ av, Av = some av := Option.ne_none_iff_exists'.1 (fun e => by have := (hnz e).1; have := HPN.out; omega); have HG := Lib.hid G; clear G hnz)
    | (go_at_call 44; (with_reducible refine (HB1.out _ O.keep).mono ?_); rintro e W ⟨rfl, K⟩; replace O := O.keeps K; replace HG := Lib.hid (HG.out.new K); clear K)
    | (go_at_call 44; (with_reducible refine (HB2.out _ O.keep).mono ?_); rintro e W ⟨rfl, K⟩; replace O := O.keeps K; replace HG := Lib.hid (HG.out.new K); clear K)
    | (go_at_call 44; (with_reducible refine (HB3.out _ O.keep).mono ?_); rintro e W ⟨rfl, K⟩; replace O := O.keeps K; replace HG := Lib.hid (HG.out.new K); clear K)
    | (go_at_call 44; (with_reducible refine (HB4.out _ O.keep).mono ?_); rintro e W ⟨rfl, K⟩; replace O := O.keeps K; replace HG := Lib.hid (HG.out.new K); clear K))
  clear HB1 HB2 HB3 HB4
  have HGW := Lib.hid (fun q : Later W => HG.out.new q.2)
  have HEW := Lib.hid (fun q : Later W => (HE.out.kept (O.keep.trans q.2 (by simp)) : EvsAt q.1 (some ad) n E))
  have cP : ∀ q : Later W, q.1.cell? (ad.add (p * 5)) = some (.int .i64 (wp : Int)) := fun q => by
    obtain ⟨ad', e, _, hc⟩ := HEW.out q (by have := HPN.out; omega)
    cases e
    have := hc p 0 HPN.out.1 (by omega)
    rw [Nat.add_zero] at this
    rw [this, ← HWP.out]; rfl
  have cQ : ∀ y : Later W, y.1.cell? (ad.add (q * 5)) = some (.int .i64 (wq : Int)) := fun y => by
    obtain ⟨ad', e, _, hc⟩ := HEW.out y (by have := HPN.out; omega)
    cases e
    have := hc q 0 HPN.out.2 (by omega)
    rw [Nat.add_zero] at this
    rw [this, ← HWQ.out]; rfl
  refine wp_quiet_later (by kernel_rfl) (by kernel_rfl) ?_
  repeat (first
    | go_big_quiet_skip
    | go_big_quiet_step (fail))
  refine wpQuiet_nil ?_
  intro _ hw
  obtain ⟨p', rfl⟩ := hw
  replace O := O.keeps p'.2
  replace HG := Lib.hid (HG.out.new p'.2)
  clear cP cQ HGW HEW
  generalize p'.1 = W3 at O HG ⊢
  have r1 := grid_row HG.out rfl HPN.out.1
  have r2 := grid_row HG.out rfl HPN.out.2
  go_wp2_with (first | go_big_skip)
  have HGW := Lib.hid (fun q : Later W3 => HG.out.new q.2)
  clear r1 r2
  have r1 : ∀ y : Later W3, y.1.cell? (av.add p) = some (.slice (some ⟨nb p, 0, none⟩) r (cp p)) := fun y => grid_row (HGW.out y) rfl HPN.out.1
  have r2 : ∀ y : Later W3, y.1.cell? (av.add q) = some (.slice (some ⟨nb q, 0, none⟩) r (cp q)) := fun y => grid_row (HGW.out y) rfl HPN.out.2
  have x1 : ∀ y : Later W3, y.1.cell? ⟨nb p, wp, none⟩ = some (.int .i64 xp) := fun y => by rw [HXP.out]; exact grid_at (HGW.out y) HPN.out.1 (by omega)
  have x2 : ∀ y : Later W3, y.1.cell? ⟨nb q, wp, none⟩ = some (.int .i64 xq) := fun y => by rw [HXQ.out]; exact grid_at (HGW.out y) HPN.out.2 (by omega)
  refine wp_quiet_later (by kernel_rfl) (by kernel_rfl) ?_
  repeat (first
    | go_big_quiet_skip
    | go_big_quiet_step (fail))
  refine wpQuiet_nil ?_
  intro _ hw
  obtain ⟨p', rfl⟩ := hw
  replace O := O.keeps p'.2
  clear r1 r2 x1 x2 HGW HG
  generalize p'.1 = W4 at O ⊢
  go_wp2
  go_ret
  exact ⟨rfl, O.keep⟩
set_option maxRecDepth 100000 in
set_option maxHeartbeats 4000000 in
theorem order_v2b {p q s : Nat} (hS : SysIn w S A c R d) (hE : EvsAt w B n E) (hcb : n ≤ cb) (hwf : ∀ i, i < n → (Lit.int .i64 (E i).a).wf = true) (h0 : clkE S E n = 0) (hp : p < n) (hq : q < n) (hs : s < n) (hpq : ¬ p = q) (hb : befB E (rmS S) p q = false) (hne : decide (clk E (rmS S) (p : Int) (E p).who ≤ clk E (rmS S) (q : Int) (E p).who) = false) (hw : (E p).who = (E q).who) (hlt : q < p) : Calls Try.prog 14 #[.agg (sysV S A c R d), .slice B n cb, .agg #[.int .i64 (p : Int), .int .i64 (q : Int), .int .i64 (s : Int)]] w fun e w' => e = .returned (.bool true) ∧ Keeps w w' [] := by
  have O := Own.start w []
  have HC := Lib.hid (fun u (k : Keeps w u []) => tclocks_any (cb := cb) (hS.kept k) (hE.kept k) hwf)
  unfold ClkPost at HC
  rw [h0] at HC
  have HBF := Lib.hid (fun u (k : Keeps w u []) i j => tbefore_any (cb := cb) (hS.kept k) (hE.kept k) hcb hwf i j)
  obtain ⟨_, _, hn4, hok⟩ := clk_ok h0
  have b1 := before_at h0 hp hq
  have b2 := before_at h0 hq hs
  have b3 := before_at h0 hp hs
  have b4 := before_at h0 hp hp
  rw [bef_self] at b4
  rw [hb] at b1
  obtain ⟨b2v, h2⟩ : ∃ x, x = befB E (rmS S) q s := ⟨_, rfl⟩
  obtain ⟨b3v, h3⟩ : ∃ x, x = befB E (rmS S) p s := ⟨_, rfl⟩
  rw [← h2] at b2
  rw [← h3] at b3
  clear h2 h3
  have HB1 := Lib.hid (fun u (k : Keeps w u []) => (by have := HBF.out u k (p : Int) (q : Int); rwa [b1] at this : Calls Try.prog 44 #[.agg (sysV S A c R d), .slice B n cb, .int .i64 (p : Int), .int .i64 (q : Int)] u fun e u' => e = .returned (.tuple #[.bool false, .int .i64 0]) ∧ Keeps u u' []))
  have HB2 := Lib.hid (fun u (k : Keeps w u []) => (by have := HBF.out u k (q : Int) (s : Int); rwa [b2] at this : Calls Try.prog 44 #[.agg (sysV S A c R d), .slice B n cb, .int .i64 (q : Int), .int .i64 (s : Int)] u fun e u' => e = .returned (.tuple #[.bool (b2v), .int .i64 0]) ∧ Keeps u u' []))
  have HB3 := Lib.hid (fun u (k : Keeps w u []) => (by have := HBF.out u k (p : Int) (s : Int); rwa [b3] at this : Calls Try.prog 44 #[.agg (sysV S A c R d), .slice B n cb, .int .i64 (p : Int), .int .i64 (s : Int)] u fun e u' => e = .returned (.tuple #[.bool (b3v), .int .i64 0]) ∧ Keeps u u' []))
  have HB4 := Lib.hid (fun u (k : Keeps w u []) => (by have := HBF.out u k (p : Int) (p : Int); rwa [b4] at this : Calls Try.prog 44 #[.agg (sysV S A c R d), .slice B n cb, .int .i64 (p : Int), .int .i64 (p : Int)] u fun e u' => e = .returned (.tuple #[.bool false, .int .i64 0]) ∧ Keeps u u' []))
  clear b1 b2 b3 b4 HBF
  obtain ⟨wp, hwp⟩ : ∃ wp : Nat, (E p).who = (wp : Int) := ⟨(E p).who.toNat, by have := (ok_head (hok p hp)).1; omega⟩
  obtain ⟨wq, hwq⟩ : ∃ wq : Nat, (E q).who = (wq : Int) := ⟨(E q).who.toNat, by have := (ok_head (hok q hq)).1; omega⟩
  have hwr : ∀ i, i < n → (E i).who < (stN E n).r := fun i hi => by
    have h1 := (ok_head (hok i hi)).2.1
    have h2 := stN_r_mono E (show i ≤ n by omega)
    omega
  obtain ⟨r, hr⟩ : ∃ r : Nat, (stN E n).r.toNat = r := ⟨_, rfl⟩
  have hpr : wp < r := by have := hwr p hp; omega
  have hqr : wq < r := by have := hwr q hq; omega
  simp only [hr] at HC
  have HE := Lib.hid hE
  have hcl := of_decide_eq_false hne
  rw [hwp] at hcl
  obtain ⟨xp, hxp⟩ : ∃ xp, xp = clk E (rmS S) (p : Int) (wp : Int) := ⟨_, rfl⟩
  obtain ⟨xq, hxq⟩ : ∃ xq, xq = clk E (rmS S) (q : Int) (wp : Int) := ⟨_, rfl⟩
  rw [← hxp] at hcl
  try rw [← hxq] at hcl
  have HXP := Lib.hid hxp
  have HXQ := Lib.hid hxq
  have HWP := Lib.hid hwp
  have HWQ := Lib.hid hwq
  obtain ⟨ad, rfl, hEc⟩ := HE.out (by omega)
  clear hEc
  have HPN := Lib.hid (show p < n ∧ q < n from ⟨hp, hq⟩)
  have e0 : ((n : Int) != (n : Int)) = false := by simp
  have k1 : (p : Int) < n := by omega
  have k2 : (q : Int) < n := by omega
  have k3 : (0 : Int) ≤ p := by omega
  have k4 : (0 : Int) ≤ q := by omega
  have k5 : (wp : Int) < r := by omega
  have k6 : (0 : Int) ≤ wp := by omega
  have hww : wp = wq := by omega
  subst hww
  have z0 : decide ((p : Int) < 0) = false := decide_eq_false (by omega)
  have zz0 : ¬ (p : Int) < 0 := by omega
  have z1 : decide ((s : Int) < 0) = false := decide_eq_false (by omega)
  have zz1 : ¬ (s : Int) < 0 := by omega
  have z2 : decide ((n : Int) ≤ p) = false := decide_eq_false (by omega)
  have zz2 : ¬ (n : Int) ≤ p := by omega
  have z3 : decide ((n : Int) ≤ s) = false := decide_eq_false (by omega)
  have zz3 : ¬ (n : Int) ≤ s := by omega
  have z4 : decide (n ≤ p) = false := decide_eq_false (by omega)
  have zz4 : ¬ n ≤ p := by omega
  have z5 : decide (n ≤ s) = false := decide_eq_false (by omega)
  have zz5 : ¬ n ≤ s := by omega
  have z6 : decide ((q : Int) < 0) = false := decide_eq_false (by omega)
  have zz6 : ¬ (q : Int) < 0 := by omega
  have z7 : decide ((n : Int) ≤ q) = false := decide_eq_false (by omega)
  have zz7 : ¬ (n : Int) ≤ q := by omega
  have z8 : decide (n ≤ q) = false := decide_eq_false (by omega)
  have zz8 : ¬ n ≤ q := by omega
  have z9 : decide ((wp : Int) < 0) = false := decide_eq_false (by omega)
  have zz9 : ¬ (wp : Int) < 0 := by omega
  have z10 : decide ((r : Int) ≤ (wp : Int)) = false := decide_eq_false (by omega)
  have zz10 : ¬ (r : Int) ≤ (wp : Int) := by omega
  have z12 : decide ((q : Int) ≤ p) = true := decide_eq_true (by omega)
  have zz12 : (q : Int) ≤ p := by omega
  have e1 : ((p : Int) != (q : Int)) = true := by simp; omega
  have e2 : ((wp : Int) != (wp : Int)) = false := by simp
  have e3 : decide (xp ≤ xq) = false := decide_eq_false hcl
  clear hS hE hwf hcb h0 hok hwp hwq hwr hr hxp hxq hs hp hq hcl hpq hb hne hw hlt
  go_enter Try.func14, Try.ntmps14
  go_wp2_with (first
    | go_big_skip
    | (refine own_box 3 (sysV S A c R d) O rfl rfl rfl rfl ?_; clear O; intro W a3 O; simp only [Act.put, List.setIfInBounds_toArray, List.set_cons_zero, List.set_cons_succ])
    | (refine own_box 5 (#[.int .i64 (p : Int), .int .i64 (q : Int), .int .i64 (s : Int)]) O rfl rfl rfl rfl ?_; clear O; intro W a5 O; simp only [Act.put, List.setIfInBounds_toArray, List.set_cons_zero, List.set_cons_succ]; have c5 := (O.get 0 rfl).cell))
  go_quiet (fail)
  clear c5
  generalize hW : World.drewN W _ = W2
  replace O : Own w W2 [] [(a5, 54, #[.int .i64 (p : Int), .int .i64 (q : Int), .int .i64 (s : Int)]), (a3, 27, sysV S A c R d)] := by rw [← hW]; exact O.drewN _
  clear hW
  go_wp2_with (first
    | go_big_skip
    | (go_at_call 43; refine alive_any.mono ?_; rintro e W ⟨rfl, K⟩; replace O := O.keeps K; clear K)
    | (refine own_load 30 1 O rfl rfl rfl rfl rfl Try.underlying27 rfl (by kernel_rfl) ?_; simp only [Act.put, List.setIfInBounds_toArray, List.set_cons_zero, List.set_cons_succ])
    | (refine own_load 68 1 O rfl rfl rfl rfl rfl Try.underlying27 rfl (by kernel_rfl) ?_; simp only [Act.put, List.setIfInBounds_toArray, List.set_cons_zero, List.set_cons_succ])
    | (refine own_load 76 1 O rfl rfl rfl rfl rfl Try.underlying27 rfl (by kernel_rfl) ?_; simp only [Act.put, List.setIfInBounds_toArray, List.set_cons_zero, List.set_cons_succ])
    | (refine own_load 84 1 O rfl rfl rfl rfl rfl Try.underlying27 rfl (by kernel_rfl) ?_; simp only [Act.put, List.setIfInBounds_toArray, List.set_cons_zero, List.set_cons_succ])
    | (refine own_load 92 1 O rfl rfl rfl rfl rfl Try.underlying27 rfl (by kernel_rfl) ?_; simp only [Act.put, List.setIfInBounds_toArray, List.set_cons_zero, List.set_cons_succ])
    | (go_at_call 39; refine (HC.out _ O.keep).mono ?_; rintro e W ⟨⟨v, rfl, hv⟩, K⟩; obtain ⟨nb, cp, G⟩ := (hv.elim (fun h => h.2) (fun h => absurd rfl h.1)); replace O := O.keeps K; clear K hv; obtain ⟨Av, cv, rfl, hnz, _⟩ := gr_shape G.row; obtain ⟨av, rfl⟩ : ∃ av, Av = some av := Option.ne_none_iff_exists'.1 (fun e => by have := (hnz e).1; have := HPN.out; omega); have HG := Lib.hid G; clear G hnz)
    | (go_at_call 44; (with_reducible refine (HB1.out _ O.keep).mono ?_); rintro e W ⟨rfl, K⟩; replace O := O.keeps K; replace HG := Lib.hid (HG.out.new K); clear K)
    | (go_at_call 44; (with_reducible refine (HB2.out _ O.keep).mono ?_); rintro e W ⟨rfl, K⟩; replace O := O.keeps K; replace HG := Lib.hid (HG.out.new K); clear K)
    | (go_at_call 44; (with_reducible refine (HB3.out _ O.keep).mono ?_); rintro e W ⟨rfl, K⟩; replace O := O.keeps K; replace HG := Lib.hid (HG.out.new K); clear K)
    | (go_at_call 44; (with_reducible refine (HB4.out _ O.keep).mono ?_); rintro e W ⟨rfl, K⟩; replace O := O.keeps K; replace HG := Lib.hid (HG.out.new K); clear K))
  clear HB1 HB2 HB3 HB4
  have HGW := Lib.hid (fun q : Later W => HG.out.new q.2)
  have HEW := Lib.hid (fun q : Later W => (HE.out.kept (O.keep.trans q.2 (by simp)) : EvsAt q.1 (some ad) n E))
  have cP : ∀ q : Later W, q.1.cell? (ad.add (p * 5)) = some (.int .i64 (wp : Int)) := fun q => by
    obtain ⟨ad', e, _, hc⟩ := HEW.out q (by have := HPN.out; omega)
    cases e
    have := hc p 0 HPN.out.1 (by omega)
    rw [Nat.add_zero] at this
    rw [this, ← HWP.out]; rfl
  have cQ : ∀ y : Later W, y.1.cell? (ad.add (q * 5)) = some (.int .i64 (wp : Int)) := fun y => by
    obtain ⟨ad', e, _, hc⟩ := HEW.out y (by have := HPN.out; omega)
    cases e
    have := hc q 0 HPN.out.2 (by omega)
    rw [Nat.add_zero] at this
    rw [this, ← HWQ.out]; rfl
  refine wp_quiet_later (by kernel_rfl) (by kernel_rfl) ?_
  repeat (first
    | go_big_quiet_skip
    | go_big_quiet_step (fail))
  refine wpQuiet_nil ?_
  intro _ hw
  obtain ⟨p', rfl⟩ := hw
  replace O := O.keeps p'.2
  replace HG := Lib.hid (HG.out.new p'.2)
  clear cP cQ HGW HEW
  generalize p'.1 = W3 at O HG ⊢
  have r1 := grid_row HG.out rfl HPN.out.1
  have r2 := grid_row HG.out rfl HPN.out.2
  go_wp2_with (first | go_big_skip)
  have HGW := Lib.hid (fun q : Later W3 => HG.out.new q.2)
  clear r1 r2
  have r1 : ∀ y : Later W3, y.1.cell? (av.add p) = some (.slice (some ⟨nb p, 0, none⟩) r (cp p)) := fun y => grid_row (HGW.out y) rfl HPN.out.1
  have r2 : ∀ y : Later W3, y.1.cell? (av.add q) = some (.slice (some ⟨nb q, 0, none⟩) r (cp q)) := fun y => grid_row (HGW.out y) rfl HPN.out.2
  have x1 : ∀ y : Later W3, y.1.cell? ⟨nb p, wp, none⟩ = some (.int .i64 xp) := fun y => by rw [HXP.out]; exact grid_at (HGW.out y) HPN.out.1 (by omega)
  have x2 : ∀ y : Later W3, y.1.cell? ⟨nb q, wp, none⟩ = some (.int .i64 xq) := fun y => by rw [HXQ.out]; exact grid_at (HGW.out y) HPN.out.2 (by omega)
  refine wp_quiet_later (by kernel_rfl) (by kernel_rfl) ?_
  repeat (first
    | go_big_quiet_skip
    | go_big_quiet_step (fail))
  refine wpQuiet_nil ?_
  intro _ hw
  obtain ⟨p', rfl⟩ := hw
  replace O := O.keeps p'.2
  clear r1 r2 x1 x2 HGW HG
  generalize p'.1 = W4 at O ⊢
  go_wp2
  go_ret
  exact ⟨rfl, O.keep⟩
end
end Go.Proofs.Ytakmcpadkanggaa
namespace Go.Proofs.Ytakmcpadkanggaa
open Go.ChangeShapes Go.WideShapes Go.RowKit Go.Maps Go.Deep
section
variable {w : World} {S : Sys} {A : Option Addr} {c : Nat} {R : Option Addr} {d n : Nat} {E : Nat → Ev} {B : Option Addr} {cb : Nat}
set_option maxRecDepth 100000 in
set_option maxHeartbeats 4000000 in
theorem order_v3af {p q s : Nat} (hS : SysIn w S A c R d) (hE : EvsAt w B n E) (hcb : n ≤ cb) (hwf : ∀ i, i < n → (Lit.int .i64 (E i).a).wf = true) (h0 : clkE S E n = 0) (hp : p < n) (hq : q < n) (hs : s < n) (hpq : ¬ p = q) (hb : befB E (rmS S) p q = true) (hne : decide (clk E (rmS S) (p : Int) (E p).who ≤ clk E (rmS S) (q : Int) (E p).who) = true) (hw : ¬ (E p).who = (E q).who) (hlt : p < q) (hb2 : befB E (rmS S) q s = false) : Calls Try.prog 14 #[.agg (sysV S A c R d), .slice B n cb, .agg #[.int .i64 (p : Int), .int .i64 (q : Int), .int .i64 (s : Int)]] w fun e w' => e = .returned (.bool true) ∧ Keeps w w' [] := by
  have O := Own.start w []
  have HC := Lib.hid (fun u (k : Keeps w u []) => tclocks_any (cb := cb) (hS.kept k) (hE.kept k) hwf)
  unfold ClkPost at HC
  rw [h0] at HC
  have HBF := Lib.hid (fun u (k : Keeps w u []) i j => tbefore_any (cb := cb) (hS.kept k) (hE.kept k) hcb hwf i j)
  obtain ⟨_, _, hn4, hok⟩ := clk_ok h0
  have b1 := before_at h0 hp hq
  have b2 := before_at h0 hq hs
  have b3 := before_at h0 hp hs
  have b4 := before_at h0 hp hp
  rw [bef_self] at b4
  rw [hb] at b1
  rw [hb2] at b2
  obtain ⟨b3v, h3⟩ : ∃ x, x = befB E (rmS S) p s := ⟨_, rfl⟩
  rw [← h3] at b3
  clear h3
  have HB1 := Lib.hid (fun u (k : Keeps w u []) => (by have := HBF.out u k (p : Int) (q : Int); rwa [b1] at this : Calls Try.prog 44 #[.agg (sysV S A c R d), .slice B n cb, .int .i64 (p : Int), .int .i64 (q : Int)] u fun e u' => e = .returned (.tuple #[.bool true, .int .i64 0]) ∧ Keeps u u' []))
  have HB2 := Lib.hid (fun u (k : Keeps w u []) => (by have := HBF.out u k (q : Int) (s : Int); rwa [b2] at this : Calls Try.prog 44 #[.agg (sysV S A c R d), .slice B n cb, .int .i64 (q : Int), .int .i64 (s : Int)] u fun e u' => e = .returned (.tuple #[.bool (false), .int .i64 0]) ∧ Keeps u u' []))
  have HB3 := Lib.hid (fun u (k : Keeps w u []) => (by have := HBF.out u k (p : Int) (s : Int); rwa [b3] at this : Calls Try.prog 44 #[.agg (sysV S A c R d), .slice B n cb, .int .i64 (p : Int), .int .i64 (s : Int)] u fun e u' => e = .returned (.tuple #[.bool (b3v), .int .i64 0]) ∧ Keeps u u' []))
  have HB4 := Lib.hid (fun u (k : Keeps w u []) => (by have := HBF.out u k (p : Int) (p : Int); rwa [b4] at this : Calls Try.prog 44 #[.agg (sysV S A c R d), .slice B n cb, .int .i64 (p : Int), .int .i64 (p : Int)] u fun e u' => e = .returned (.tuple #[.bool false, .int .i64 0]) ∧ Keeps u u' []))
  clear b1 b2 b3 b4 HBF
  obtain ⟨wp, hwp⟩ : ∃ wp : Nat, (E p).who = (wp : Int) := ⟨(E p).who.toNat, by have := (ok_head (hok p hp)).1; omega⟩
  obtain ⟨wq, hwq⟩ : ∃ wq : Nat, (E q).who = (wq : Int) := ⟨(E q).who.toNat, by have := (ok_head (hok q hq)).1; omega⟩
  have hwr : ∀ i, i < n → (E i).who < (stN E n).r := fun i hi => by
    have h1 := (ok_head (hok i hi)).2.1
    have h2 := stN_r_mono E (show i ≤ n by omega)
    omega
  obtain ⟨r, hr⟩ : ∃ r : Nat, (stN E n).r.toNat = r := ⟨_, rfl⟩
  have hpr : wp < r := by have := hwr p hp; omega
  have hqr : wq < r := by have := hwr q hq; omega
  simp only [hr] at HC
  have HE := Lib.hid hE
  have hcl := of_decide_eq_true hne
  rw [hwp] at hcl
  obtain ⟨xp, hxp⟩ : ∃ xp, xp = clk E (rmS S) (p : Int) (wp : Int) := ⟨_, rfl⟩
  obtain ⟨xq, hxq⟩ : ∃ xq, xq = clk E (rmS S) (q : Int) (wp : Int) := ⟨_, rfl⟩
  rw [← hxp] at hcl
  try rw [← hxq] at hcl
  have HXP := Lib.hid hxp
  have HXQ := Lib.hid hxq
  have HWP := Lib.hid hwp
  have HWQ := Lib.hid hwq
  obtain ⟨ad, rfl, hEc⟩ := HE.out (by omega)
  clear hEc
  have HPN := Lib.hid (show p < n ∧ q < n from ⟨hp, hq⟩)
  have e0 : ((n : Int) != (n : Int)) = false := by simp
  have k1 : (p : Int) < n := by omega
  have k2 : (q : Int) < n := by omega
  have k3 : (0 : Int) ≤ p := by omega
  have k4 : (0 : Int) ≤ q := by omega
  have k5 : (wp : Int) < r := by omega
  have k6 : (0 : Int) ≤ wp := by omega
  have z0 : decide ((p : Int) < 0) = false := decide_eq_false (by omega)
  have zz0 : ¬ (p : Int) < 0 := by omega
  have z1 : decide ((s : Int) < 0) = false := decide_eq_false (by omega)
  have zz1 : ¬ (s : Int) < 0 := by omega
  have z2 : decide ((n : Int) ≤ p) = false := decide_eq_false (by omega)
  have zz2 : ¬ (n : Int) ≤ p := by omega
  have z3 : decide ((n : Int) ≤ s) = false := decide_eq_false (by omega)
  have zz3 : ¬ (n : Int) ≤ s := by omega
  have z4 : decide (n ≤ p) = false := decide_eq_false (by omega)
  have zz4 : ¬ n ≤ p := by omega
  have z5 : decide (n ≤ s) = false := decide_eq_false (by omega)
  have zz5 : ¬ n ≤ s := by omega
  have z6 : decide ((q : Int) < 0) = false := decide_eq_false (by omega)
  have zz6 : ¬ (q : Int) < 0 := by omega
  have z7 : decide ((n : Int) ≤ q) = false := decide_eq_false (by omega)
  have zz7 : ¬ (n : Int) ≤ q := by omega
  have z8 : decide (n ≤ q) = false := decide_eq_false (by omega)
  have zz8 : ¬ n ≤ q := by omega
  have z9 : decide ((wp : Int) < 0) = false := decide_eq_false (by omega)
  have zz9 : ¬ (wp : Int) < 0 := by omega
  have z10 : decide ((r : Int) ≤ (wp : Int)) = false := decide_eq_false (by omega)
  have zz10 : ¬ (r : Int) ≤ (wp : Int) := by omega
  have z11 : decide ((wq : Int) < 0) = false := decide_eq_false (by omega)
  have zz11 : ¬ (wq : Int) < 0 := by omega
  have z12 : decide ((q : Int) ≤ p) = false := decide_eq_false (by omega)
  have zz12 : ¬ (q : Int) ≤ p := by omega
  have e1 : ((p : Int) != (q : Int)) = true := by simp; omega
  have e2 : ((wp : Int) != (wq : Int)) = true := by simp; omega
  have e3 : decide (xp ≤ xq) = true := decide_eq_true hcl
  clear hS hE hwf hcb h0 hok hwp hwq hwr hr hxp hxq hs hp hq hcl hpq hb hne hw hlt hb2
  go_enter Try.func14, Try.ntmps14
  go_wp2_with (first
    | go_big_skip
    | (refine own_box 3 (sysV S A c R d) O rfl rfl rfl rfl ?_; clear O; intro W a3 O; simp only [Act.put, List.setIfInBounds_toArray, List.set_cons_zero, List.set_cons_succ])
    | (refine own_box 5 (#[.int .i64 (p : Int), .int .i64 (q : Int), .int .i64 (s : Int)]) O rfl rfl rfl rfl ?_; clear O; intro W a5 O; simp only [Act.put, List.setIfInBounds_toArray, List.set_cons_zero, List.set_cons_succ]; have c5 := (O.get 0 rfl).cell))
  go_quiet (fail)
  clear c5
  generalize hW : World.drewN W _ = W2
  replace O : Own w W2 [] [(a5, 54, #[.int .i64 (p : Int), .int .i64 (q : Int), .int .i64 (s : Int)]), (a3, 27, sysV S A c R d)] := by rw [← hW]; exact O.drewN _
  clear hW
  go_wp2_with (first
    | go_big_skip
    | (go_at_call 43; refine alive_any.mono ?_; rintro e W ⟨rfl, K⟩; replace O := O.keeps K; clear K)
    | (refine own_load 30 1 O rfl rfl rfl rfl rfl Try.underlying27 rfl (by kernel_rfl) ?_; simp only [Act.put, List.setIfInBounds_toArray, List.set_cons_zero, List.set_cons_succ])
    | (refine own_load 68 1 O rfl rfl rfl rfl rfl Try.underlying27 rfl (by kernel_rfl) ?_; simp only [Act.put, List.setIfInBounds_toArray, List.set_cons_zero, List.set_cons_succ])
    | (refine own_load 76 1 O rfl rfl rfl rfl rfl Try.underlying27 rfl (by kernel_rfl) ?_; simp only [Act.put, List.setIfInBounds_toArray, List.set_cons_zero, List.set_cons_succ])
    | (refine own_load 84 1 O rfl rfl rfl rfl rfl Try.underlying27 rfl (by kernel_rfl) ?_; simp only [Act.put, List.setIfInBounds_toArray, List.set_cons_zero, List.set_cons_succ])
    | (refine own_load 92 1 O rfl rfl rfl rfl rfl Try.underlying27 rfl (by kernel_rfl) ?_; simp only [Act.put, List.setIfInBounds_toArray, List.set_cons_zero, List.set_cons_succ])
    | (go_at_call 39; refine (HC.out _ O.keep).mono ?_; rintro e W ⟨⟨v, rfl, hv⟩, K⟩; obtain ⟨nb, cp, G⟩ := (hv.elim (fun h => h.2) (fun h => absurd rfl h.1)); replace O := O.keeps K; clear K hv; obtain ⟨Av, cv, rfl, hnz, _⟩ := gr_shape G.row; obtain ⟨av, rfl⟩ : ∃ av, Av = some av := Option.ne_none_iff_exists'.1 (fun e => by have := (hnz e).1; have := HPN.out; omega); have HG := Lib.hid G; clear G hnz)
    | (go_at_call 44; (with_reducible refine (HB1.out _ O.keep).mono ?_); rintro e W ⟨rfl, K⟩; replace O := O.keeps K; replace HG := Lib.hid (HG.out.new K); clear K)
    | (go_at_call 44; (with_reducible refine (HB2.out _ O.keep).mono ?_); rintro e W ⟨rfl, K⟩; replace O := O.keeps K; replace HG := Lib.hid (HG.out.new K); clear K)
    | (go_at_call 44; (with_reducible refine (HB3.out _ O.keep).mono ?_); rintro e W ⟨rfl, K⟩; replace O := O.keeps K; replace HG := Lib.hid (HG.out.new K); clear K)
    | (go_at_call 44; (with_reducible refine (HB4.out _ O.keep).mono ?_); rintro e W ⟨rfl, K⟩; replace O := O.keeps K; replace HG := Lib.hid (HG.out.new K); clear K))
  clear HB1 HB2 HB3 HB4
  have HGW := Lib.hid (fun q : Later W => HG.out.new q.2)
  have HEW := Lib.hid (fun q : Later W => (HE.out.kept (O.keep.trans q.2 (by simp)) : EvsAt q.1 (some ad) n E))
  have cP : ∀ q : Later W, q.1.cell? (ad.add (p * 5)) = some (.int .i64 (wp : Int)) := fun q => by
    obtain ⟨ad', e, _, hc⟩ := HEW.out q (by have := HPN.out; omega)
    cases e
    have := hc p 0 HPN.out.1 (by omega)
    rw [Nat.add_zero] at this
    rw [this, ← HWP.out]; rfl
  have cQ : ∀ y : Later W, y.1.cell? (ad.add (q * 5)) = some (.int .i64 (wq : Int)) := fun y => by
    obtain ⟨ad', e, _, hc⟩ := HEW.out y (by have := HPN.out; omega)
    cases e
    have := hc q 0 HPN.out.2 (by omega)
    rw [Nat.add_zero] at this
    rw [this, ← HWQ.out]; rfl
  refine wp_quiet_later (by kernel_rfl) (by kernel_rfl) ?_
  repeat (first
    | go_big_quiet_skip
    | go_big_quiet_step (fail))
  refine wpQuiet_nil ?_
  intro _ hw
  obtain ⟨p', rfl⟩ := hw
  replace O := O.keeps p'.2
  replace HG := Lib.hid (HG.out.new p'.2)
  clear cP cQ HGW HEW
  generalize p'.1 = W3 at O HG ⊢
  have r1 := grid_row HG.out rfl HPN.out.1
  have r2 := grid_row HG.out rfl HPN.out.2
  go_wp2_with (first | go_big_skip)
  have HGW := Lib.hid (fun q : Later W3 => HG.out.new q.2)
  clear r1 r2
  have r1 : ∀ y : Later W3, y.1.cell? (av.add p) = some (.slice (some ⟨nb p, 0, none⟩) r (cp p)) := fun y => grid_row (HGW.out y) rfl HPN.out.1
  have r2 : ∀ y : Later W3, y.1.cell? (av.add q) = some (.slice (some ⟨nb q, 0, none⟩) r (cp q)) := fun y => grid_row (HGW.out y) rfl HPN.out.2
  have x1 : ∀ y : Later W3, y.1.cell? ⟨nb p, wp, none⟩ = some (.int .i64 xp) := fun y => by rw [HXP.out]; exact grid_at (HGW.out y) HPN.out.1 (by omega)
  have x2 : ∀ y : Later W3, y.1.cell? ⟨nb q, wp, none⟩ = some (.int .i64 xq) := fun y => by rw [HXQ.out]; exact grid_at (HGW.out y) HPN.out.2 (by omega)
  refine wp_quiet_later (by kernel_rfl) (by kernel_rfl) ?_
  repeat (first
    | go_big_quiet_skip
    | go_big_quiet_step (fail))
  refine wpQuiet_nil ?_
  intro _ hw
  obtain ⟨p', rfl⟩ := hw
  replace O := O.keeps p'.2
  clear r1 r2 x1 x2 HGW HG
  generalize p'.1 = W4 at O ⊢
  go_wp2
  go_ret
  exact ⟨rfl, O.keep⟩
set_option maxRecDepth 100000 in
set_option maxHeartbeats 4000000 in
theorem order_v3at {p q s : Nat} (hS : SysIn w S A c R d) (hE : EvsAt w B n E) (hcb : n ≤ cb) (hwf : ∀ i, i < n → (Lit.int .i64 (E i).a).wf = true) (h0 : clkE S E n = 0) (hp : p < n) (hq : q < n) (hs : s < n) (hpq : ¬ p = q) (hb : befB E (rmS S) p q = true) (hne : decide (clk E (rmS S) (p : Int) (E p).who ≤ clk E (rmS S) (q : Int) (E p).who) = true) (hw : ¬ (E p).who = (E q).who) (hlt : p < q) (hb2 : befB E (rmS S) q s = true) (hb3 : befB E (rmS S) p s = true) : Calls Try.prog 14 #[.agg (sysV S A c R d), .slice B n cb, .agg #[.int .i64 (p : Int), .int .i64 (q : Int), .int .i64 (s : Int)]] w fun e w' => e = .returned (.bool true) ∧ Keeps w w' [] := by
  have O := Own.start w []
  have HC := Lib.hid (fun u (k : Keeps w u []) => tclocks_any (cb := cb) (hS.kept k) (hE.kept k) hwf)
  unfold ClkPost at HC
  rw [h0] at HC
  have HBF := Lib.hid (fun u (k : Keeps w u []) i j => tbefore_any (cb := cb) (hS.kept k) (hE.kept k) hcb hwf i j)
  obtain ⟨_, _, hn4, hok⟩ := clk_ok h0
  have b1 := before_at h0 hp hq
  have b2 := before_at h0 hq hs
  have b3 := before_at h0 hp hs
  have b4 := before_at h0 hp hp
  rw [bef_self] at b4
  rw [hb] at b1
  rw [hb2] at b2
  rw [hb3] at b3
  have HB1 := Lib.hid (fun u (k : Keeps w u []) => (by have := HBF.out u k (p : Int) (q : Int); rwa [b1] at this : Calls Try.prog 44 #[.agg (sysV S A c R d), .slice B n cb, .int .i64 (p : Int), .int .i64 (q : Int)] u fun e u' => e = .returned (.tuple #[.bool true, .int .i64 0]) ∧ Keeps u u' []))
  have HB2 := Lib.hid (fun u (k : Keeps w u []) => (by have := HBF.out u k (q : Int) (s : Int); rwa [b2] at this : Calls Try.prog 44 #[.agg (sysV S A c R d), .slice B n cb, .int .i64 (q : Int), .int .i64 (s : Int)] u fun e u' => e = .returned (.tuple #[.bool (true), .int .i64 0]) ∧ Keeps u u' []))
  have HB3 := Lib.hid (fun u (k : Keeps w u []) => (by have := HBF.out u k (p : Int) (s : Int); rwa [b3] at this : Calls Try.prog 44 #[.agg (sysV S A c R d), .slice B n cb, .int .i64 (p : Int), .int .i64 (s : Int)] u fun e u' => e = .returned (.tuple #[.bool (true), .int .i64 0]) ∧ Keeps u u' []))
  have HB4 := Lib.hid (fun u (k : Keeps w u []) => (by have := HBF.out u k (p : Int) (p : Int); rwa [b4] at this : Calls Try.prog 44 #[.agg (sysV S A c R d), .slice B n cb, .int .i64 (p : Int), .int .i64 (p : Int)] u fun e u' => e = .returned (.tuple #[.bool false, .int .i64 0]) ∧ Keeps u u' []))
  clear b1 b2 b3 b4 HBF
  obtain ⟨wp, hwp⟩ : ∃ wp : Nat, (E p).who = (wp : Int) := ⟨(E p).who.toNat, by have := (ok_head (hok p hp)).1; omega⟩
  obtain ⟨wq, hwq⟩ : ∃ wq : Nat, (E q).who = (wq : Int) := ⟨(E q).who.toNat, by have := (ok_head (hok q hq)).1; omega⟩
  have hwr : ∀ i, i < n → (E i).who < (stN E n).r := fun i hi => by
    have h1 := (ok_head (hok i hi)).2.1
    have h2 := stN_r_mono E (show i ≤ n by omega)
    omega
  obtain ⟨r, hr⟩ : ∃ r : Nat, (stN E n).r.toNat = r := ⟨_, rfl⟩
  have hpr : wp < r := by have := hwr p hp; omega
  have hqr : wq < r := by have := hwr q hq; omega
  simp only [hr] at HC
  have HE := Lib.hid hE
  have hcl := of_decide_eq_true hne
  rw [hwp] at hcl
  obtain ⟨xp, hxp⟩ : ∃ xp, xp = clk E (rmS S) (p : Int) (wp : Int) := ⟨_, rfl⟩
  obtain ⟨xq, hxq⟩ : ∃ xq, xq = clk E (rmS S) (q : Int) (wp : Int) := ⟨_, rfl⟩
  rw [← hxp] at hcl
  try rw [← hxq] at hcl
  have HXP := Lib.hid hxp
  have HXQ := Lib.hid hxq
  have HWP := Lib.hid hwp
  have HWQ := Lib.hid hwq
  obtain ⟨ad, rfl, hEc⟩ := HE.out (by omega)
  clear hEc
  have HPN := Lib.hid (show p < n ∧ q < n from ⟨hp, hq⟩)
  have e0 : ((n : Int) != (n : Int)) = false := by simp
  have k1 : (p : Int) < n := by omega
  have k2 : (q : Int) < n := by omega
  have k3 : (0 : Int) ≤ p := by omega
  have k4 : (0 : Int) ≤ q := by omega
  have k5 : (wp : Int) < r := by omega
  have k6 : (0 : Int) ≤ wp := by omega
  have z0 : decide ((p : Int) < 0) = false := decide_eq_false (by omega)
  have zz0 : ¬ (p : Int) < 0 := by omega
  have z1 : decide ((s : Int) < 0) = false := decide_eq_false (by omega)
  have zz1 : ¬ (s : Int) < 0 := by omega
  have z2 : decide ((n : Int) ≤ p) = false := decide_eq_false (by omega)
  have zz2 : ¬ (n : Int) ≤ p := by omega
  have z3 : decide ((n : Int) ≤ s) = false := decide_eq_false (by omega)
  have zz3 : ¬ (n : Int) ≤ s := by omega
  have z4 : decide (n ≤ p) = false := decide_eq_false (by omega)
  have zz4 : ¬ n ≤ p := by omega
  have z5 : decide (n ≤ s) = false := decide_eq_false (by omega)
  have zz5 : ¬ n ≤ s := by omega
  have z6 : decide ((q : Int) < 0) = false := decide_eq_false (by omega)
  have zz6 : ¬ (q : Int) < 0 := by omega
  have z7 : decide ((n : Int) ≤ q) = false := decide_eq_false (by omega)
  have zz7 : ¬ (n : Int) ≤ q := by omega
  have z8 : decide (n ≤ q) = false := decide_eq_false (by omega)
  have zz8 : ¬ n ≤ q := by omega
  have z9 : decide ((wp : Int) < 0) = false := decide_eq_false (by omega)
  have zz9 : ¬ (wp : Int) < 0 := by omega
  have z10 : decide ((r : Int) ≤ (wp : Int)) = false := decide_eq_false (by omega)
  have zz10 : ¬ (r : Int) ≤ (wp : Int) := by omega
  have z11 : decide ((wq : Int) < 0) = false := decide_eq_false (by omega)
  have zz11 : ¬ (wq : Int) < 0 := by omega
  have z12 : decide ((q : Int) ≤ p) = false := decide_eq_false (by omega)
  have zz12 : ¬ (q : Int) ≤ p := by omega
  have e1 : ((p : Int) != (q : Int)) = true := by simp; omega
  have e2 : ((wp : Int) != (wq : Int)) = true := by simp; omega
  have e3 : decide (xp ≤ xq) = true := decide_eq_true hcl
  clear hS hE hwf hcb h0 hok hwp hwq hwr hr hxp hxq hs hp hq hcl hpq hb hne hw hlt hb2 hb3
  go_enter Try.func14, Try.ntmps14
  go_wp2_with (first
    | go_big_skip
    | (refine own_box 3 (sysV S A c R d) O rfl rfl rfl rfl ?_; clear O; intro W a3 O; simp only [Act.put, List.setIfInBounds_toArray, List.set_cons_zero, List.set_cons_succ])
    | (refine own_box 5 (#[.int .i64 (p : Int), .int .i64 (q : Int), .int .i64 (s : Int)]) O rfl rfl rfl rfl ?_; clear O; intro W a5 O; simp only [Act.put, List.setIfInBounds_toArray, List.set_cons_zero, List.set_cons_succ]; have c5 := (O.get 0 rfl).cell))
  go_quiet (fail)
  clear c5
  generalize hW : World.drewN W _ = W2
  replace O : Own w W2 [] [(a5, 54, #[.int .i64 (p : Int), .int .i64 (q : Int), .int .i64 (s : Int)]), (a3, 27, sysV S A c R d)] := by rw [← hW]; exact O.drewN _
  clear hW
  go_wp2_with (first
    | go_big_skip
    | (go_at_call 43; refine alive_any.mono ?_; rintro e W ⟨rfl, K⟩; replace O := O.keeps K; clear K)
    | (refine own_load 30 1 O rfl rfl rfl rfl rfl Try.underlying27 rfl (by kernel_rfl) ?_; simp only [Act.put, List.setIfInBounds_toArray, List.set_cons_zero, List.set_cons_succ])
    | (refine own_load 68 1 O rfl rfl rfl rfl rfl Try.underlying27 rfl (by kernel_rfl) ?_; simp only [Act.put, List.setIfInBounds_toArray, List.set_cons_zero, List.set_cons_succ])
    | (refine own_load 76 1 O rfl rfl rfl rfl rfl Try.underlying27 rfl (by kernel_rfl) ?_; simp only [Act.put, List.setIfInBounds_toArray, List.set_cons_zero, List.set_cons_succ])
    | (refine own_load 84 1 O rfl rfl rfl rfl rfl Try.underlying27 rfl (by kernel_rfl) ?_; simp only [Act.put, List.setIfInBounds_toArray, List.set_cons_zero, List.set_cons_succ])
    | (refine own_load 92 1 O rfl rfl rfl rfl rfl Try.underlying27 rfl (by kernel_rfl) ?_; simp only [Act.put, List.setIfInBounds_toArray, List.set_cons_zero, List.set_cons_succ])
    | (go_at_call 39; refine (HC.out _ O.keep).mono ?_; rintro e W ⟨⟨v, rfl, hv⟩, K⟩; obtain ⟨nb, cp, G⟩ := (hv.elim (fun h => h.2) (fun h => absurd rfl h.1)); replace O := O.keeps K; clear K hv; obtain ⟨Av, cv, rfl, hnz, _⟩ := gr_shape G.row; obtain ⟨av, rfl⟩ : ∃ av, Av = some av := Option.ne_none_iff_exists'.1 (fun e => by have := (hnz e).1; have := HPN.out; omega); have HG := Lib.hid G; clear G hnz)
    | (go_at_call 44; (with_reducible refine (HB1.out _ O.keep).mono ?_); rintro e W ⟨rfl, K⟩; replace O := O.keeps K; replace HG := Lib.hid (HG.out.new K); clear K)
    | (go_at_call 44; (with_reducible refine (HB2.out _ O.keep).mono ?_); rintro e W ⟨rfl, K⟩; replace O := O.keeps K; replace HG := Lib.hid (HG.out.new K); clear K)
    | (go_at_call 44; (with_reducible refine (HB3.out _ O.keep).mono ?_); rintro e W ⟨rfl, K⟩; replace O := O.keeps K; replace HG := Lib.hid (HG.out.new K); clear K)
    | (go_at_call 44; (with_reducible refine (HB4.out _ O.keep).mono ?_); rintro e W ⟨rfl, K⟩; replace O := O.keeps K; replace HG := Lib.hid (HG.out.new K); clear K))
  clear HB1 HB2 HB3 HB4
  have HGW := Lib.hid (fun q : Later W => HG.out.new q.2)
  have HEW := Lib.hid (fun q : Later W => (HE.out.kept (O.keep.trans q.2 (by simp)) : EvsAt q.1 (some ad) n E))
  have cP : ∀ q : Later W, q.1.cell? (ad.add (p * 5)) = some (.int .i64 (wp : Int)) := fun q => by
    obtain ⟨ad', e, _, hc⟩ := HEW.out q (by have := HPN.out; omega)
    cases e
    have := hc p 0 HPN.out.1 (by omega)
    rw [Nat.add_zero] at this
    rw [this, ← HWP.out]; rfl
  have cQ : ∀ y : Later W, y.1.cell? (ad.add (q * 5)) = some (.int .i64 (wq : Int)) := fun y => by
    obtain ⟨ad', e, _, hc⟩ := HEW.out y (by have := HPN.out; omega)
    cases e
    have := hc q 0 HPN.out.2 (by omega)
    rw [Nat.add_zero] at this
    rw [this, ← HWQ.out]; rfl
  refine wp_quiet_later (by kernel_rfl) (by kernel_rfl) ?_
  repeat (first
    | go_big_quiet_skip
    | go_big_quiet_step (fail))
  refine wpQuiet_nil ?_
  intro _ hw
  obtain ⟨p', rfl⟩ := hw
  replace O := O.keeps p'.2
  replace HG := Lib.hid (HG.out.new p'.2)
  clear cP cQ HGW HEW
  generalize p'.1 = W3 at O HG ⊢
  have r1 := grid_row HG.out rfl HPN.out.1
  have r2 := grid_row HG.out rfl HPN.out.2
  go_wp2_with (first | go_big_skip)
  have HGW := Lib.hid (fun q : Later W3 => HG.out.new q.2)
  clear r1 r2
  have r1 : ∀ y : Later W3, y.1.cell? (av.add p) = some (.slice (some ⟨nb p, 0, none⟩) r (cp p)) := fun y => grid_row (HGW.out y) rfl HPN.out.1
  have r2 : ∀ y : Later W3, y.1.cell? (av.add q) = some (.slice (some ⟨nb q, 0, none⟩) r (cp q)) := fun y => grid_row (HGW.out y) rfl HPN.out.2
  have x1 : ∀ y : Later W3, y.1.cell? ⟨nb p, wp, none⟩ = some (.int .i64 xp) := fun y => by rw [HXP.out]; exact grid_at (HGW.out y) HPN.out.1 (by omega)
  have x2 : ∀ y : Later W3, y.1.cell? ⟨nb q, wp, none⟩ = some (.int .i64 xq) := fun y => by rw [HXQ.out]; exact grid_at (HGW.out y) HPN.out.2 (by omega)
  refine wp_quiet_later (by kernel_rfl) (by kernel_rfl) ?_
  repeat (first
    | go_big_quiet_skip
    | go_big_quiet_step (fail))
  refine wpQuiet_nil ?_
  intro _ hw
  obtain ⟨p', rfl⟩ := hw
  replace O := O.keeps p'.2
  clear r1 r2 x1 x2 HGW HG
  generalize p'.1 = W4 at O ⊢
  go_wp2
  go_ret
  exact ⟨rfl, O.keep⟩
set_option maxRecDepth 100000 in
set_option maxHeartbeats 4000000 in
theorem order_v3bf {p q s : Nat} (hS : SysIn w S A c R d) (hE : EvsAt w B n E) (hcb : n ≤ cb) (hwf : ∀ i, i < n → (Lit.int .i64 (E i).a).wf = true) (h0 : clkE S E n = 0) (hp : p < n) (hq : q < n) (hs : s < n) (hpq : ¬ p = q) (hb : befB E (rmS S) p q = true) (hne : decide (clk E (rmS S) (p : Int) (E p).who ≤ clk E (rmS S) (q : Int) (E p).who) = true) (hw : (E p).who = (E q).who) (hlt : p < q) (hb2 : befB E (rmS S) q s = false) : Calls Try.prog 14 #[.agg (sysV S A c R d), .slice B n cb, .agg #[.int .i64 (p : Int), .int .i64 (q : Int), .int .i64 (s : Int)]] w fun e w' => e = .returned (.bool true) ∧ Keeps w w' [] := by
  have O := Own.start w []
  have HC := Lib.hid (fun u (k : Keeps w u []) => tclocks_any (cb := cb) (hS.kept k) (hE.kept k) hwf)
  unfold ClkPost at HC
  rw [h0] at HC
  have HBF := Lib.hid (fun u (k : Keeps w u []) i j => tbefore_any (cb := cb) (hS.kept k) (hE.kept k) hcb hwf i j)
  obtain ⟨_, _, hn4, hok⟩ := clk_ok h0
  have b1 := before_at h0 hp hq
  have b2 := before_at h0 hq hs
  have b3 := before_at h0 hp hs
  have b4 := before_at h0 hp hp
  rw [bef_self] at b4
  rw [hb] at b1
  rw [hb2] at b2
  obtain ⟨b3v, h3⟩ : ∃ x, x = befB E (rmS S) p s := ⟨_, rfl⟩
  rw [← h3] at b3
  clear h3
  have HB1 := Lib.hid (fun u (k : Keeps w u []) => (by have := HBF.out u k (p : Int) (q : Int); rwa [b1] at this : Calls Try.prog 44 #[.agg (sysV S A c R d), .slice B n cb, .int .i64 (p : Int), .int .i64 (q : Int)] u fun e u' => e = .returned (.tuple #[.bool true, .int .i64 0]) ∧ Keeps u u' []))
  have HB2 := Lib.hid (fun u (k : Keeps w u []) => (by have := HBF.out u k (q : Int) (s : Int); rwa [b2] at this : Calls Try.prog 44 #[.agg (sysV S A c R d), .slice B n cb, .int .i64 (q : Int), .int .i64 (s : Int)] u fun e u' => e = .returned (.tuple #[.bool (false), .int .i64 0]) ∧ Keeps u u' []))
  have HB3 := Lib.hid (fun u (k : Keeps w u []) => (by have := HBF.out u k (p : Int) (s : Int); rwa [b3] at this : Calls Try.prog 44 #[.agg (sysV S A c R d), .slice B n cb, .int .i64 (p : Int), .int .i64 (s : Int)] u fun e u' => e = .returned (.tuple #[.bool (b3v), .int .i64 0]) ∧ Keeps u u' []))
  have HB4 := Lib.hid (fun u (k : Keeps w u []) => (by have := HBF.out u k (p : Int) (p : Int); rwa [b4] at this : Calls Try.prog 44 #[.agg (sysV S A c R d), .slice B n cb, .int .i64 (p : Int), .int .i64 (p : Int)] u fun e u' => e = .returned (.tuple #[.bool false, .int .i64 0]) ∧ Keeps u u' []))
  clear b1 b2 b3 b4 HBF
  obtain ⟨wp, hwp⟩ : ∃ wp : Nat, (E p).who = (wp : Int) := ⟨(E p).who.toNat, by have := (ok_head (hok p hp)).1; omega⟩
  obtain ⟨wq, hwq⟩ : ∃ wq : Nat, (E q).who = (wq : Int) := ⟨(E q).who.toNat, by have := (ok_head (hok q hq)).1; omega⟩
  have hwr : ∀ i, i < n → (E i).who < (stN E n).r := fun i hi => by
    have h1 := (ok_head (hok i hi)).2.1
    have h2 := stN_r_mono E (show i ≤ n by omega)
    omega
  obtain ⟨r, hr⟩ : ∃ r : Nat, (stN E n).r.toNat = r := ⟨_, rfl⟩
  have hpr : wp < r := by have := hwr p hp; omega
  have hqr : wq < r := by have := hwr q hq; omega
  simp only [hr] at HC
  have HE := Lib.hid hE
  have hcl := of_decide_eq_true hne
  rw [hwp] at hcl
  obtain ⟨xp, hxp⟩ : ∃ xp, xp = clk E (rmS S) (p : Int) (wp : Int) := ⟨_, rfl⟩
  obtain ⟨xq, hxq⟩ : ∃ xq, xq = clk E (rmS S) (q : Int) (wp : Int) := ⟨_, rfl⟩
  rw [← hxp] at hcl
  try rw [← hxq] at hcl
  have HXP := Lib.hid hxp
  have HXQ := Lib.hid hxq
  have HWP := Lib.hid hwp
  have HWQ := Lib.hid hwq
  obtain ⟨ad, rfl, hEc⟩ := HE.out (by omega)
  clear hEc
  have HPN := Lib.hid (show p < n ∧ q < n from ⟨hp, hq⟩)
  have e0 : ((n : Int) != (n : Int)) = false := by simp
  have k1 : (p : Int) < n := by omega
  have k2 : (q : Int) < n := by omega
  have k3 : (0 : Int) ≤ p := by omega
  have k4 : (0 : Int) ≤ q := by omega
  have k5 : (wp : Int) < r := by omega
  have k6 : (0 : Int) ≤ wp := by omega
  have hww : wp = wq := by omega
  subst hww
  have z0 : decide ((p : Int) < 0) = false := decide_eq_false (by omega)
  have zz0 : ¬ (p : Int) < 0 := by omega
  have z1 : decide ((s : Int) < 0) = false := decide_eq_false (by omega)
  have zz1 : ¬ (s : Int) < 0 := by omega
  have z2 : decide ((n : Int) ≤ p) = false := decide_eq_false (by omega)
  have zz2 : ¬ (n : Int) ≤ p := by omega
  have z3 : decide ((n : Int) ≤ s) = false := decide_eq_false (by omega)
  have zz3 : ¬ (n : Int) ≤ s := by omega
  have z4 : decide (n ≤ p) = false := decide_eq_false (by omega)
  have zz4 : ¬ n ≤ p := by omega
  have z5 : decide (n ≤ s) = false := decide_eq_false (by omega)
  have zz5 : ¬ n ≤ s := by omega
  have z6 : decide ((q : Int) < 0) = false := decide_eq_false (by omega)
  have zz6 : ¬ (q : Int) < 0 := by omega
  have z7 : decide ((n : Int) ≤ q) = false := decide_eq_false (by omega)
  have zz7 : ¬ (n : Int) ≤ q := by omega
  have z8 : decide (n ≤ q) = false := decide_eq_false (by omega)
  have zz8 : ¬ n ≤ q := by omega
  have z9 : decide ((wp : Int) < 0) = false := decide_eq_false (by omega)
  have zz9 : ¬ (wp : Int) < 0 := by omega
  have z10 : decide ((r : Int) ≤ (wp : Int)) = false := decide_eq_false (by omega)
  have zz10 : ¬ (r : Int) ≤ (wp : Int) := by omega
  have z12 : decide ((q : Int) ≤ p) = false := decide_eq_false (by omega)
  have zz12 : ¬ (q : Int) ≤ p := by omega
  have e1 : ((p : Int) != (q : Int)) = true := by simp; omega
  have e2 : ((wp : Int) != (wp : Int)) = false := by simp
  have e3 : decide (xp ≤ xq) = true := decide_eq_true hcl
  clear hS hE hwf hcb h0 hok hwp hwq hwr hr hxp hxq hs hp hq hcl hpq hb hne hw hlt hb2
  go_enter Try.func14, Try.ntmps14
  go_wp2_with (first
    | go_big_skip
    | (refine own_box 3 (sysV S A c R d) O rfl rfl rfl rfl ?_; clear O; intro W a3 O; simp only [Act.put, List.setIfInBounds_toArray, List.set_cons_zero, List.set_cons_succ])
    | (refine own_box 5 (#[.int .i64 (p : Int), .int .i64 (q : Int), .int .i64 (s : Int)]) O rfl rfl rfl rfl ?_; clear O; intro W a5 O; simp only [Act.put, List.setIfInBounds_toArray, List.set_cons_zero, List.set_cons_succ]; have c5 := (O.get 0 rfl).cell))
  go_quiet (fail)
  clear c5
  generalize hW : World.drewN W _ = W2
  replace O : Own w W2 [] [(a5, 54, #[.int .i64 (p : Int), .int .i64 (q : Int), .int .i64 (s : Int)]), (a3, 27, sysV S A c R d)] := by rw [← hW]; exact O.drewN _
  clear hW
  go_wp2_with (first
    | go_big_skip
    | (go_at_call 43; refine alive_any.mono ?_; rintro e W ⟨rfl, K⟩; replace O := O.keeps K; clear K)
    | (refine own_load 30 1 O rfl rfl rfl rfl rfl Try.underlying27 rfl (by kernel_rfl) ?_; simp only [Act.put, List.setIfInBounds_toArray, List.set_cons_zero, List.set_cons_succ])
    | (refine own_load 68 1 O rfl rfl rfl rfl rfl Try.underlying27 rfl (by kernel_rfl) ?_; simp only [Act.put, List.setIfInBounds_toArray, List.set_cons_zero, List.set_cons_succ])
    | (refine own_load 76 1 O rfl rfl rfl rfl rfl Try.underlying27 rfl (by kernel_rfl) ?_; simp only [Act.put, List.setIfInBounds_toArray, List.set_cons_zero, List.set_cons_succ])
    | (refine own_load 84 1 O rfl rfl rfl rfl rfl Try.underlying27 rfl (by kernel_rfl) ?_; simp only [Act.put, List.setIfInBounds_toArray, List.set_cons_zero, List.set_cons_succ])
    | (refine own_load 92 1 O rfl rfl rfl rfl rfl Try.underlying27 rfl (by kernel_rfl) ?_; simp only [Act.put, List.setIfInBounds_toArray, List.set_cons_zero, List.set_cons_succ])
    | (go_at_call 39; refine (HC.out _ O.keep).mono ?_; rintro e W ⟨⟨v, rfl, hv⟩, K⟩; obtain ⟨nb, cp, G⟩ := (hv.elim (fun h => h.2) (fun h => absurd rfl h.1)); replace O := O.keeps K; clear K hv; obtain ⟨Av, cv, rfl, hnz, _⟩ := gr_shape G.row; obtain ⟨av, rfl⟩ : ∃ av, Av = some av := Option.ne_none_iff_exists'.1 (fun e => by have := (hnz e).1; have := HPN.out; omega); have HG := Lib.hid G; clear G hnz)
    | (go_at_call 44; (with_reducible refine (HB1.out _ O.keep).mono ?_); rintro e W ⟨rfl, K⟩; replace O := O.keeps K; replace HG := Lib.hid (HG.out.new K); clear K)
    | (go_at_call 44; (with_reducible refine (HB2.out _ O.keep).mono ?_); rintro e W ⟨rfl, K⟩; replace O := O.keeps K; replace HG := Lib.hid (HG.out.new K); clear K)
    | (go_at_call 44; (with_reducible refine (HB3.out _ O.keep).mono ?_); rintro e W ⟨rfl, K⟩; replace O := O.keeps K; replace HG := Lib.hid (HG.out.new K); clear K)
    | (go_at_call 44; (with_reducible refine (HB4.out _ O.keep).mono ?_); rintro e W ⟨rfl, K⟩; replace O := O.keeps K; replace HG := Lib.hid (HG.out.new K); clear K))
  clear HB1 HB2 HB3 HB4
  have HGW := Lib.hid (fun q : Later W => HG.out.new q.2)
  have HEW := Lib.hid (fun q : Later W => (HE.out.kept (O.keep.trans q.2 (by simp)) : EvsAt q.1 (some ad) n E))
  have cP : ∀ q : Later W, q.1.cell? (ad.add (p * 5)) = some (.int .i64 (wp : Int)) := fun q => by
    obtain ⟨ad', e, _, hc⟩ := HEW.out q (by have := HPN.out; omega)
    cases e
    have := hc p 0 HPN.out.1 (by omega)
    rw [Nat.add_zero] at this
    rw [this, ← HWP.out]; rfl
  have cQ : ∀ y : Later W, y.1.cell? (ad.add (q * 5)) = some (.int .i64 (wp : Int)) := fun y => by
    obtain ⟨ad', e, _, hc⟩ := HEW.out y (by have := HPN.out; omega)
    cases e
    have := hc q 0 HPN.out.2 (by omega)
    rw [Nat.add_zero] at this
    rw [this, ← HWQ.out]; rfl
  refine wp_quiet_later (by kernel_rfl) (by kernel_rfl) ?_
  repeat (first
    | go_big_quiet_skip
    | go_big_quiet_step (fail))
  refine wpQuiet_nil ?_
  intro _ hw
  obtain ⟨p', rfl⟩ := hw
  replace O := O.keeps p'.2
  replace HG := Lib.hid (HG.out.new p'.2)
  clear cP cQ HGW HEW
  generalize p'.1 = W3 at O HG ⊢
  have r1 := grid_row HG.out rfl HPN.out.1
  have r2 := grid_row HG.out rfl HPN.out.2
  go_wp2_with (first | go_big_skip)
  have HGW := Lib.hid (fun q : Later W3 => HG.out.new q.2)
  clear r1 r2
  have r1 : ∀ y : Later W3, y.1.cell? (av.add p) = some (.slice (some ⟨nb p, 0, none⟩) r (cp p)) := fun y => grid_row (HGW.out y) rfl HPN.out.1
  have r2 : ∀ y : Later W3, y.1.cell? (av.add q) = some (.slice (some ⟨nb q, 0, none⟩) r (cp q)) := fun y => grid_row (HGW.out y) rfl HPN.out.2
  have x1 : ∀ y : Later W3, y.1.cell? ⟨nb p, wp, none⟩ = some (.int .i64 xp) := fun y => by rw [HXP.out]; exact grid_at (HGW.out y) HPN.out.1 (by omega)
  have x2 : ∀ y : Later W3, y.1.cell? ⟨nb q, wp, none⟩ = some (.int .i64 xq) := fun y => by rw [HXQ.out]; exact grid_at (HGW.out y) HPN.out.2 (by omega)
  refine wp_quiet_later (by kernel_rfl) (by kernel_rfl) ?_
  repeat (first
    | go_big_quiet_skip
    | go_big_quiet_step (fail))
  refine wpQuiet_nil ?_
  intro _ hw
  obtain ⟨p', rfl⟩ := hw
  replace O := O.keeps p'.2
  clear r1 r2 x1 x2 HGW HG
  generalize p'.1 = W4 at O ⊢
  go_wp2
  go_ret
  exact ⟨rfl, O.keep⟩
set_option maxRecDepth 100000 in
set_option maxHeartbeats 4000000 in
theorem order_v3bt {p q s : Nat} (hS : SysIn w S A c R d) (hE : EvsAt w B n E) (hcb : n ≤ cb) (hwf : ∀ i, i < n → (Lit.int .i64 (E i).a).wf = true) (h0 : clkE S E n = 0) (hp : p < n) (hq : q < n) (hs : s < n) (hpq : ¬ p = q) (hb : befB E (rmS S) p q = true) (hne : decide (clk E (rmS S) (p : Int) (E p).who ≤ clk E (rmS S) (q : Int) (E p).who) = true) (hw : (E p).who = (E q).who) (hlt : p < q) (hb2 : befB E (rmS S) q s = true) (hb3 : befB E (rmS S) p s = true) : Calls Try.prog 14 #[.agg (sysV S A c R d), .slice B n cb, .agg #[.int .i64 (p : Int), .int .i64 (q : Int), .int .i64 (s : Int)]] w fun e w' => e = .returned (.bool true) ∧ Keeps w w' [] := by
  have O := Own.start w []
  have HC := Lib.hid (fun u (k : Keeps w u []) => tclocks_any (cb := cb) (hS.kept k) (hE.kept k) hwf)
  unfold ClkPost at HC
  rw [h0] at HC
  have HBF := Lib.hid (fun u (k : Keeps w u []) i j => tbefore_any (cb := cb) (hS.kept k) (hE.kept k) hcb hwf i j)
  obtain ⟨_, _, hn4, hok⟩ := clk_ok h0
  have b1 := before_at h0 hp hq
  have b2 := before_at h0 hq hs
  have b3 := before_at h0 hp hs
  have b4 := before_at h0 hp hp
  rw [bef_self] at b4
  rw [hb] at b1
  rw [hb2] at b2
  rw [hb3] at b3
  have HB1 := Lib.hid (fun u (k : Keeps w u []) => (by have := HBF.out u k (p : Int) (q : Int); rwa [b1] at this : Calls Try.prog 44 #[.agg (sysV S A c R d), .slice B n cb, .int .i64 (p : Int), .int .i64 (q : Int)] u fun e u' => e = .returned (.tuple #[.bool true, .int .i64 0]) ∧ Keeps u u' []))
  have HB2 := Lib.hid (fun u (k : Keeps w u []) => (by have := HBF.out u k (q : Int) (s : Int); rwa [b2] at this : Calls Try.prog 44 #[.agg (sysV S A c R d), .slice B n cb, .int .i64 (q : Int), .int .i64 (s : Int)] u fun e u' => e = .returned (.tuple #[.bool (true), .int .i64 0]) ∧ Keeps u u' []))
  have HB3 := Lib.hid (fun u (k : Keeps w u []) => (by have := HBF.out u k (p : Int) (s : Int); rwa [b3] at this : Calls Try.prog 44 #[.agg (sysV S A c R d), .slice B n cb, .int .i64 (p : Int), .int .i64 (s : Int)] u fun e u' => e = .returned (.tuple #[.bool (true), .int .i64 0]) ∧ Keeps u u' []))
  have HB4 := Lib.hid (fun u (k : Keeps w u []) => (by have := HBF.out u k (p : Int) (p : Int); rwa [b4] at this : Calls Try.prog 44 #[.agg (sysV S A c R d), .slice B n cb, .int .i64 (p : Int), .int .i64 (p : Int)] u fun e u' => e = .returned (.tuple #[.bool false, .int .i64 0]) ∧ Keeps u u' []))
  clear b1 b2 b3 b4 HBF
  obtain ⟨wp, hwp⟩ : ∃ wp : Nat, (E p).who = (wp : Int) := ⟨(E p).who.toNat, by have := (ok_head (hok p hp)).1; omega⟩
  obtain ⟨wq, hwq⟩ : ∃ wq : Nat, (E q).who = (wq : Int) := ⟨(E q).who.toNat, by have := (ok_head (hok q hq)).1; omega⟩
  have hwr : ∀ i, i < n → (E i).who < (stN E n).r := fun i hi => by
    have h1 := (ok_head (hok i hi)).2.1
    have h2 := stN_r_mono E (show i ≤ n by omega)
    omega
  obtain ⟨r, hr⟩ : ∃ r : Nat, (stN E n).r.toNat = r := ⟨_, rfl⟩
  have hpr : wp < r := by have := hwr p hp; omega
  have hqr : wq < r := by have := hwr q hq; omega
  simp only [hr] at HC
  have HE := Lib.hid hE
  have hcl := of_decide_eq_true hne
  rw [hwp] at hcl
  obtain ⟨xp, hxp⟩ : ∃ xp, xp = clk E (rmS S) (p : Int) (wp : Int) := ⟨_, rfl⟩
  obtain ⟨xq, hxq⟩ : ∃ xq, xq = clk E (rmS S) (q : Int) (wp : Int) := ⟨_, rfl⟩
  rw [← hxp] at hcl
  try rw [← hxq] at hcl
  have HXP := Lib.hid hxp
  have HXQ := Lib.hid hxq
  have HWP := Lib.hid hwp
  have HWQ := Lib.hid hwq
  obtain ⟨ad, rfl, hEc⟩ := HE.out (by omega)
  clear hEc
  have HPN := Lib.hid (show p < n ∧ q < n from ⟨hp, hq⟩)
  have e0 : ((n : Int) != (n : Int)) = false := by simp
  have k1 : (p : Int) < n := by omega
  have k2 : (q : Int) < n := by omega
  have k3 : (0 : Int) ≤ p := by omega
  have k4 : (0 : Int) ≤ q := by omega
  have k5 : (wp : Int) < r := by omega
  have k6 : (0 : Int) ≤ wp := by omega
  have hww : wp = wq := by omega
  subst hww
  have z0 : decide ((p : Int) < 0) = false := decide_eq_false (by omega)
  have zz0 : ¬ (p : Int) < 0 := by omega
  have z1 : decide ((s : Int) < 0) = false := decide_eq_false (by omega)
  have zz1 : ¬ (s : Int) < 0 := by omega
  have z2 : decide ((n : Int) ≤ p) = false := decide_eq_false (by omega)
  have zz2 : ¬ (n : Int) ≤ p := by omega
  have z3 : decide ((n : Int) ≤ s) = false := decide_eq_false (by omega)
  have zz3 : ¬ (n : Int) ≤ s := by omega
  have z4 : decide (n ≤ p) = false := decide_eq_false (by omega)
  have zz4 : ¬ n ≤ p := by omega
  have z5 : decide (n ≤ s) = false := decide_eq_false (by omega)
  have zz5 : ¬ n ≤ s := by omega
  have z6 : decide ((q : Int) < 0) = false := decide_eq_false (by omega)
  have zz6 : ¬ (q : Int) < 0 := by omega
  have z7 : decide ((n : Int) ≤ q) = false := decide_eq_false (by omega)
  have zz7 : ¬ (n : Int) ≤ q := by omega
  have z8 : decide (n ≤ q) = false := decide_eq_false (by omega)
  have zz8 : ¬ n ≤ q := by omega
  have z9 : decide ((wp : Int) < 0) = false := decide_eq_false (by omega)
  have zz9 : ¬ (wp : Int) < 0 := by omega
  have z10 : decide ((r : Int) ≤ (wp : Int)) = false := decide_eq_false (by omega)
  have zz10 : ¬ (r : Int) ≤ (wp : Int) := by omega
  have z12 : decide ((q : Int) ≤ p) = false := decide_eq_false (by omega)
  have zz12 : ¬ (q : Int) ≤ p := by omega
  have e1 : ((p : Int) != (q : Int)) = true := by simp; omega
  have e2 : ((wp : Int) != (wp : Int)) = false := by simp
  have e3 : decide (xp ≤ xq) = true := decide_eq_true hcl
  clear hS hE hwf hcb h0 hok hwp hwq hwr hr hxp hxq hs hp hq hcl hpq hb hne hw hlt hb2 hb3
  go_enter Try.func14, Try.ntmps14
  go_wp2_with (first
    | go_big_skip
    | (refine own_box 3 (sysV S A c R d) O rfl rfl rfl rfl ?_; clear O; intro W a3 O; simp only [Act.put, List.setIfInBounds_toArray, List.set_cons_zero, List.set_cons_succ])
    | (refine own_box 5 (#[.int .i64 (p : Int), .int .i64 (q : Int), .int .i64 (s : Int)]) O rfl rfl rfl rfl ?_; clear O; intro W a5 O; simp only [Act.put, List.setIfInBounds_toArray, List.set_cons_zero, List.set_cons_succ]; have c5 := (O.get 0 rfl).cell))
  go_quiet (fail)
  clear c5
  generalize hW : World.drewN W _ = W2
  replace O : Own w W2 [] [(a5, 54, #[.int .i64 (p : Int), .int .i64 (q : Int), .int .i64 (s : Int)]), (a3, 27, sysV S A c R d)] := by rw [← hW]; exact O.drewN _
  clear hW
  go_wp2_with (first
    | go_big_skip
    | (go_at_call 43; refine alive_any.mono ?_; rintro e W ⟨rfl, K⟩; replace O := O.keeps K; clear K)
    | (refine own_load 30 1 O rfl rfl rfl rfl rfl Try.underlying27 rfl (by kernel_rfl) ?_; simp only [Act.put, List.setIfInBounds_toArray, List.set_cons_zero, List.set_cons_succ])
    | (refine own_load 68 1 O rfl rfl rfl rfl rfl Try.underlying27 rfl (by kernel_rfl) ?_; simp only [Act.put, List.setIfInBounds_toArray, List.set_cons_zero, List.set_cons_succ])
    | (refine own_load 76 1 O rfl rfl rfl rfl rfl Try.underlying27 rfl (by kernel_rfl) ?_; simp only [Act.put, List.setIfInBounds_toArray, List.set_cons_zero, List.set_cons_succ])
    | (refine own_load 84 1 O rfl rfl rfl rfl rfl Try.underlying27 rfl (by kernel_rfl) ?_; simp only [Act.put, List.setIfInBounds_toArray, List.set_cons_zero, List.set_cons_succ])
    | (refine own_load 92 1 O rfl rfl rfl rfl rfl Try.underlying27 rfl (by kernel_rfl) ?_; simp only [Act.put, List.setIfInBounds_toArray, List.set_cons_zero, List.set_cons_succ])
    | (go_at_call 39; refine (HC.out _ O.keep).mono ?_; rintro e W ⟨⟨v, rfl, hv⟩, K⟩; obtain ⟨nb, cp, G⟩ := (hv.elim (fun h => h.2) (fun h => absurd rfl h.1)); replace O := O.keeps K; clear K hv; obtain ⟨Av, cv, rfl, hnz, _⟩ := gr_shape G.row; obtain ⟨av, rfl⟩ : ∃ av, Av = some av := Option.ne_none_iff_exists'.1 (fun e => by have := (hnz e).1; have := HPN.out; omega); have HG := Lib.hid G; clear G hnz)
    | (go_at_call 44; (with_reducible refine (HB1.out _ O.keep).mono ?_); rintro e W ⟨rfl, K⟩; replace O := O.keeps K; replace HG := Lib.hid (HG.out.new K); clear K)
    | (go_at_call 44; (with_reducible refine (HB2.out _ O.keep).mono ?_); rintro e W ⟨rfl, K⟩; replace O := O.keeps K; replace HG := Lib.hid (HG.out.new K); clear K)
    | (go_at_call 44; (with_reducible refine (HB3.out _ O.keep).mono ?_); rintro e W ⟨rfl, K⟩; replace O := O.keeps K; replace HG := Lib.hid (HG.out.new K); clear K)
    | (go_at_call 44; (with_reducible refine (HB4.out _ O.keep).mono ?_); rintro e W ⟨rfl, K⟩; replace O := O.keeps K; replace HG := Lib.hid (HG.out.new K); clear K))
  clear HB1 HB2 HB3 HB4
  have HGW := Lib.hid (fun q : Later W => HG.out.new q.2)
  have HEW := Lib.hid (fun q : Later W => (HE.out.kept (O.keep.trans q.2 (by simp)) : EvsAt q.1 (some ad) n E))
  have cP : ∀ q : Later W, q.1.cell? (ad.add (p * 5)) = some (.int .i64 (wp : Int)) := fun q => by
    obtain ⟨ad', e, _, hc⟩ := HEW.out q (by have := HPN.out; omega)
    cases e
    have := hc p 0 HPN.out.1 (by omega)
    rw [Nat.add_zero] at this
    rw [this, ← HWP.out]; rfl
  have cQ : ∀ y : Later W, y.1.cell? (ad.add (q * 5)) = some (.int .i64 (wp : Int)) := fun y => by
    obtain ⟨ad', e, _, hc⟩ := HEW.out y (by have := HPN.out; omega)
    cases e
    have := hc q 0 HPN.out.2 (by omega)
    rw [Nat.add_zero] at this
    rw [this, ← HWQ.out]; rfl
  refine wp_quiet_later (by kernel_rfl) (by kernel_rfl) ?_
  repeat (first
    | go_big_quiet_skip
    | go_big_quiet_step (fail))
  refine wpQuiet_nil ?_
  intro _ hw
  obtain ⟨p', rfl⟩ := hw
  replace O := O.keeps p'.2
  replace HG := Lib.hid (HG.out.new p'.2)
  clear cP cQ HGW HEW
  generalize p'.1 = W3 at O HG ⊢
  have r1 := grid_row HG.out rfl HPN.out.1
  have r2 := grid_row HG.out rfl HPN.out.2
  go_wp2_with (first | go_big_skip)
  have HGW := Lib.hid (fun q : Later W3 => HG.out.new q.2)
  clear r1 r2
  have r1 : ∀ y : Later W3, y.1.cell? (av.add p) = some (.slice (some ⟨nb p, 0, none⟩) r (cp p)) := fun y => grid_row (HGW.out y) rfl HPN.out.1
  have r2 : ∀ y : Later W3, y.1.cell? (av.add q) = some (.slice (some ⟨nb q, 0, none⟩) r (cp q)) := fun y => grid_row (HGW.out y) rfl HPN.out.2
  have x1 : ∀ y : Later W3, y.1.cell? ⟨nb p, wp, none⟩ = some (.int .i64 xp) := fun y => by rw [HXP.out]; exact grid_at (HGW.out y) HPN.out.1 (by omega)
  have x2 : ∀ y : Later W3, y.1.cell? ⟨nb q, wp, none⟩ = some (.int .i64 xq) := fun y => by rw [HXQ.out]; exact grid_at (HGW.out y) HPN.out.2 (by omega)
  refine wp_quiet_later (by kernel_rfl) (by kernel_rfl) ?_
  repeat (first
    | go_big_quiet_skip
    | go_big_quiet_step (fail))
  refine wpQuiet_nil ?_
  intro _ hw
  obtain ⟨p', rfl⟩ := hw
  replace O := O.keeps p'.2
  clear r1 r2 x1 x2 HGW HG
  generalize p'.1 = W4 at O ⊢
  go_wp2
  go_ret
  exact ⟨rfl, O.keep⟩
theorem order_walk (hS : SysIn w S A c R d) (hE : EvsAt w B n E) (hcb : n ≤ cb) (hwf : ∀ i, i < n → (Lit.int .i64 (E i).a).wf = true) (i j k : Int) : Calls Try.prog 14 #[.agg (sysV S A c R d), .slice B n cb, .agg #[.int .i64 i, .int .i64 j, .int .i64 k]] w fun e w' => e = .returned (.bool true) ∧ Keeps w w' [] := by
  by_cases h0 : clkE S E n = 0
  · by_cases h1 : i < 0
    · exact order_b hS hE hcb hwf i j k h0 h1
    by_cases h2 : j < 0
    · exact order_c hS hE hcb hwf i j k h0 h1 h2
    by_cases h3 : k < 0
    · exact order_d hS hE hcb hwf i j k h0 h1 h2 h3
    by_cases h4 : (n : Int) ≤ i
    · exact order_e hS hE hcb hwf i j k h0 h1 h2 h3 h4
    by_cases h5 : (n : Int) ≤ j
    · exact order_f hS hE hcb hwf i j k h0 h1 h2 h3 h4 h5
    by_cases h6 : (n : Int) ≤ k
    · exact order_g hS hE hcb hwf i j k h0 h1 h2 h3 h4 h5 h6
    obtain ⟨p, rfl⟩ : ∃ p : Nat, i = (p : Int) := ⟨i.toNat, by omega⟩
    obtain ⟨q, rfl⟩ : ∃ q : Nat, j = (q : Int) := ⟨j.toNat, by omega⟩
    obtain ⟨s, rfl⟩ : ∃ s : Nat, k = (s : Int) := ⟨k.toNat, by omega⟩
    have hp : p < n := by omega
    have hq : q < n := by omega
    have hs : s < n := by omega
    obtain ⟨_, _, _, hok⟩ := clk_ok h0
    by_cases e : p = q
    · subst e; exact order_v1 hS hE hcb hwf h0 hp hs
    · have hne := bef_ne (rm := rmS S) (j := q) hok hp
      rw [decide_eq_true e, Bool.true_and] at hne
      cases hb : befB E (rmS S) p q with
      | false =>
        rw [hb] at hne
        by_cases hw : (E p).who = (E q).who
        · have hlt : q < p := by
            rcases Nat.lt_trichotomy p q with a | a | a
            · rw [bef_own hok hp hq a hw] at hb; cases hb
            · exact absurd a e
            · exact a
          exact order_v2b hS hE hcb hwf h0 hp hq hs e hb hne.symm hw hlt
        · exact order_v2a hS hE hcb hwf h0 hp hq hs e hb hne.symm hw
      | true =>
        rw [hb] at hne
        have hlt := bef_lt hb
        cases hb2 : befB E (rmS S) q s with
        | false =>
          by_cases hw : (E p).who = (E q).who
          · exact order_v3bf hS hE hcb hwf h0 hp hq hs e hb hne.symm hw hlt hb2
          · exact order_v3af hS hE hcb hwf h0 hp hq hs e hb hne.symm hw hlt hb2
        | true =>
          have hb3 := bef_trans hok hp hq hs hb hb2
          by_cases hw : (E p).who = (E q).who
          · exact order_v3bt hS hE hcb hwf h0 hp hq hs e hb hne.symm hw hlt hb2 hb3
          · exact order_v3at hS hE hcb hwf h0 hp hq hs e hb hne.symm hw hlt hb2 hb3
  · exact order_a hS hE hcb hwf i j k h0
end
end Go.Proofs.Ytakmcpadkanggaa
