/-
  The walk of TraceLocks.
-/
import Derived.Test.YtakmcpadkanggaaT21
import Derived.Test.YtakmcpadkanggaaHeld
namespace Go.Proofs.Ytakmcpadkanggaa
open Go.ChangeShapes Go.WideShapes Go.RowKit Go.Maps Go.Deep

theorem evs_of_row2 {w w0 : World} {v : Value} {n : Nat} {E : Nat → Ev} (h : w.ownsRow w0.heap.size 37 5 v n (evL E n)) : ∃ B c, v = .slice B n c ∧ EvsAt w B n E ∧ n ≤ c ∧ c ≤ maxLen := by
  obtain ⟨B, c, rfl, hE⟩ := evs_of_row h
  refine ⟨B, c, rfl, hE, ?_⟩
  obtain ⟨_, ⟨e, hn⟩ | ⟨g, cap, cur, e, _, hb, hle, hm, hs, ht⟩⟩ := h
  · injection e with _ _ e; subst hn; subst e; exact ⟨Nat.le_refl _, by simp [maxLen]⟩
  · injection e with _ _ e; subst e; exact ⟨hle, hm⟩
theorem heldR_len (S : Sys) (E : Nat → Ev) (n : Nat) (i : Int) : (heldR S E n i).1.length ≤ 64 := by
  unfold heldR
  by_cases h : (thr S E n).2.2 = 0
  · rw [if_pos h]
    have h4 := ((headB_iff S).1 ((validB_iff S).1 (thr_zero h).1).1).2.2.2.2.1
    rw [shB_iff] at h4
    split
    · have := heldN_length E i.toNat S.lk.toNat; simp only; omega
    · simp
  · rw [if_neg h]; simp
theorem guardR_len (S : Sys) (E : Nat → Ev) (n : Nat) (cell : Int) : (guardR S E n cell).1.length ≤ 64 := by
  unfold guardR
  by_cases h : (thr S E n).2.2 = 0
  · rw [if_pos h]
    have h4 := ((headB_iff S).1 ((validB_iff S).1 (thr_zero h).1).1).2.2.2.2.1
    rw [shB_iff] at h4
    split
    · have := guardN_length E cell n S.lk.toNat; simp only; omega
    · simp
  · rw [if_neg h]; simp
section
variable {w : World} {S : Sys} {A : Option Addr} {c : Nat} {R : Option Addr} {d n : Nat} {E : Nat → Ev} {B : Option Addr} {cb : Nat}
set_option maxRecDepth 100000 in
theorem copied_room (hE : EvsAt w B n E) (hB : B = none → n = 0 ∧ cb = 0) (hn : n * 40 ≤ 140737488351232) : Calls Try.prog 27 #[.slice B n cb] w fun e w' => (∃ B' c', e = .returned (.slice B' n c') ∧ EvsAt w' B' n E ∧ n ≤ c' ∧ c' ≤ maxLen) ∧ Keeps w w' [] := by
  obtain ⟨i, hi, hz, hsz, hby⟩ := info37
  rcases B with _ | ad
  · obtain ⟨rfl, rfl⟩ := hB rfl
    go_enter Try.func27, Try.ntmps27
    go_wp2_with (at_builtin; refine wpList_append_own_none rfl (.tmp 4) (.tmp 5) 31 rfl w.heap.size 37 i 5 Try.underlying31 hi (.slice none 0 0) 0 [] rfl (World.ownsRow_nil _ _ _ _) rfl ?_; simp only [Act.put, List.setIfInBounds_toArray, List.set_cons_zero, List.set_cons_succ])
    go_ret
    exact ⟨⟨none, 0, rfl, fun h => by omega, by simp [maxLen]⟩, Keeps.refl _ _⟩
  · have HC := Lib.hid (show ∀ j u, (evL E n)[j]? = some u → w.cell? (ad.add j) = some u from fun j u hu => by
      have hj : j < n * 5 := by
        rcases Nat.lt_or_ge j (n * 5) with h | h
        · exact h
        · rw [List.getElem?_eq_none (by rw [evL_length]; exact h)] at hu; cases hu
      obtain ⟨ad', e, _, hc⟩ := hE (by omega)
      cases e
      have h1 := hc (j / 5) (j % 5) (by omega) (by omega)
      rw [show j / 5 * 5 + j % 5 = j by omega] at h1
      have h2 := evL_get E n (j / 5) (j % 5) (by omega) (by omega)
      rw [show j / 5 * 5 + j % 5 = j by omega] at h2
      rw [h1, ← h2, hu])
    clear hE hB
    go_enter Try.func27, Try.ntmps27
    go_wp2_with (at_builtin; refine wpList_append_own _ rfl (.tmp 4) (.tmp 5) 31 rfl w.heap.size 37 i (.agg (evC ⟨0, 0, 0, 0, false⟩)) 5 40 Try.underlying31 hi hz hsz hby rfl (by decide) (.slice none 0 0) 0 [] rfl (World.ownsRow_nil _ _ _ _) ad n cb (evL E n) rfl (evL_length E n) HC.out (evL_cell E n) (by simp only [maxLen]; omega) (by omega) (Nat.le_refl _) ?_; intro v' u h1 h2 _; simp only [Act.put, List.setIfInBounds_toArray, List.set_cons_zero, List.set_cons_succ])
    simp only [Nat.zero_add, List.nil_append] at h1
    obtain ⟨B', c', rfl, hE', hr, hr'⟩ := evs_of_row2 h1
    go_ret
    exact ⟨⟨B', c', rfl, hE', hr, hr'⟩, ⟨h2.os, h2.tape, h2.output, h2.size, fun b hb _ => h2.block b hb (by simp [Value.ownBlock])⟩⟩

set_option maxRecDepth 100000 in
set_option maxHeartbeats 2000000 in
theorem locks_walk (hS : SysIn w S A c R d) (hE : EvsAt w B n E) (hwf : ∀ i, i < n → (Lit.int .i64 (E i).a).wf = true) (hB : B = none → n = 0 ∧ cb = 0) (hn : n * 40 ≤ 140737488351232) (i j cell : Int) :
    Calls Try.prog 10 #[.agg (sysV S A c R d), .slice B n cb, .agg #[.int .i64 i, .int .i64 j, .int .i64 cell]] w fun e w' => e = .returned (.bool true) ∧ Keeps w w' [] := by
  have O := Own.start w []
  have HC := Lib.hid (fun u (k : Keeps w u []) => copied_room (cb := cb) (hE.kept k) hB hn)
  have HT := Lib.hid (fun u (k : Keeps w u []) B' c' (h : EvsAt u B' n E) (h1 : n ≤ c') (h2 : c' ≤ maxLen) => held_any (hS.kept k) h h1 h2 hwf i)
  have HR := Lib.hid (fun u (k : Keeps w u []) => refheld_any (cb := cb) (hS.kept k) (hE.kept k) i)
  have HG := Lib.hid (fun u (k : Keeps w u []) B' c' (h : EvsAt u B' n E) => guards_any (cb := c') (hS.kept k) h hwf cell)
  have HQ := Lib.hid (fun u (k : Keeps w u []) => refguards_any (cb := cb) (hS.kept k) (hE.kept k) cell)
  have l1 := heldR_len S E n i
  have l2 := guardR_len S E n cell
  clear hS hE hwf hB hn
  generalize heldR S E n i = r1 at *
  generalize guardR S E n cell = r2 at *
  obtain ⟨xs, e1⟩ := r1
  obtain ⟨ys, e2⟩ := r2
  have HL := Lib.hid (And.intro l1 l2)
  clear l1 l2
  go_enter Try.func10, Try.ntmps10
  go_wp2_with (first
    | go_big_skip
    | (refine own_box 3 (sysV S A c R d) O rfl rfl rfl rfl ?_; clear O; intro W a3 O; simp only [Act.put, List.setIfInBounds_toArray, List.set_cons_zero, List.set_cons_succ])
    | (refine own_box 5 (#[.int .i64 i, .int .i64 j, .int .i64 cell]) O rfl rfl rfl rfl ?_; clear O; intro W a5 O; simp only [Act.put, List.setIfInBounds_toArray, List.set_cons_zero, List.set_cons_succ]; have c5 := (O.get 0 rfl).cell))
  go_quiet (fail)
  clear c5
  generalize hW : World.drewN W _ = W2
  replace O : Own w W2 [] [(a5, 54, #[.int .i64 i, .int .i64 j, .int .i64 cell]), (a3, 27, sysV S A c R d)] := by rw [← hW]; exact O.drewN _
  clear hW
  go_wp2_with (fail)
  refine wp_held (S := fun u => Own w u [] [(a5, 54, #[.int .i64 i, .int .i64 j, .int .i64 cell]), (a3, 27, sysV S A c R d)]) 10 #[false, false, false, false, false, false, false, false, false, false] (by kernel_rfl) rfl rfl ?_
  replace O := O.drew
  refine seg_take (fuel := 7) (L' := #[true, true, false, true, false, false, false, false, false, false]) (by kernel_rfl) (fun _ _ _ _ _ _ h => h) (by exact O) [0, 1, 3] [_, _, _] _ _ rfl (by kernel_rfl) ?_
  simp only [List.getElem_toArray, List.getElem_cons_zero, List.getElem_cons_succ]
  repeat (first
    | (refine take_load 18 rfl (by rfl) rfl rfl (fun _ h => Own.get h 1 rfl) Try.underlying27 rfl (by kernel_rfl) ?_; simp only [Act.put, List.setIfInBounds_toArray, List.set_cons_zero, List.set_cons_succ])
    | (refine take_pure (v := ?_) (by rfl) ?_ ?_; rotate_left; (· (intro w hSw; clear hSw; go_simp; try with_reducible rfl)); simp only [Act.put, List.setIfInBounds_toArray, List.set_cons_zero, List.set_cons_succ]))
  refine take_done ?_
  refine seg_sole 2 #[true, true, true, true, false, false, false, false, false, false] rfl (by kernel_rfl) ?_
  try simp only [List.getElem_toArray, List.getElem_cons_zero, List.getElem_cons_succ]
  go_wp2_with (go_at_call 27; refine (HC.out _ O.keep).mono ?_; rintro e W ⟨⟨B1, c1, rfl, q1, q2, q3⟩, K⟩; replace O := O.keeps K; clear K; have HM := Lib.hid q1; have HM2 := Lib.hid (And.intro q2 q3); clear q1 q2 q3)
  (first | refine back_intro2 (by exact O) ?_ | refine back_intro (by exact O) ?_)
  refine seg_sole 4 #[true, true, true, true, true, false, false, false, false, false] rfl (by kernel_rfl) ?_
  try simp only [List.getElem_toArray, List.getElem_cons_zero, List.getElem_cons_succ]
  go_wp2_with (go_at_call 32; refine (HT.out _ O.keep _ _ HM.out HM2.out.1 HM2.out.2).mono ?_; rintro e W ⟨⟨v1, rfl, q1⟩, K⟩; replace O := O.keeps K; clear K; have Hv1 := Lib.hid q1; clear q1)
  (first | refine back_intro2 (by exact O) ?_ | refine back_intro (by exact O) ?_)
  refine seg_take (fuel := 0) (L' := #[true, true, true, true, true, true, true, true, true, true]) (by kernel_rfl) (fun _ _ _ _ _ _ h => h) (by exact O) [5, 6, 7, 8, 9] [_, _, _, _, _] _ _ rfl (by kernel_rfl) ?_
  simp only [List.getElem_toArray, List.getElem_cons_zero, List.getElem_cons_succ]
  repeat (first
    | (refine take_pure (v := ?_) (by rfl) ?_ ?_; rotate_left; (· (intro w hSw; clear hSw; go_simp; try with_reducible rfl)); simp only [Act.put, List.setIfInBounds_toArray, List.set_cons_zero, List.set_cons_succ]))
  refine take_done ?_
  refine seg_done (by kernel_rfl) ?_
  go_wp2_with (first
    | go_big_skip
    | (refine own_load 26 1 O rfl rfl rfl rfl rfl Try.underlying27 rfl (by kernel_rfl) ?_; simp only [Act.put, List.setIfInBounds_toArray, List.set_cons_zero, List.set_cons_succ])
    | (go_at_call 33; refine (HR.out _ O.keep).mono ?_; rintro e W ⟨⟨v2, rfl, q1⟩, K⟩; replace O := O.keeps K; replace Hv1 := Lib.hid (Hv1.out.kept K); clear K; have Hv2 := Lib.hid q1; clear q1)
    | (go_at_call 34; refine (alikes_same _ _ xs (Nat.le_trans HL.out.1 (by decide)) Hv1.out Hv2.out).mono ?_; rintro e W ⟨rfl, K⟩; replace O := O.keeps K; clear K))
  clear Hv1 Hv2 HM HM2
  refine wp_held (S := fun u => Own w u [] [(a5, 54, #[.int .i64 i, .int .i64 j, .int .i64 cell]), (a3, 27, sysV S A c R d)]) 10 #[false, false, false, false, false, false, false, false, false, false] (by kernel_rfl) rfl rfl ?_
  replace O := O.drew
  refine seg_take (fuel := 7) (L' := #[true, true, false, true, false, false, false, false, false, false]) (by kernel_rfl) (fun _ _ _ _ _ _ h => h) (by exact O) [0, 1, 3] [_, _, _] _ _ rfl (by kernel_rfl) ?_
  simp only [List.getElem_toArray, List.getElem_cons_zero, List.getElem_cons_succ]
  repeat (first
    | (refine take_load 42 rfl (by rfl) rfl rfl (fun _ h => Own.get h 1 rfl) Try.underlying27 rfl (by kernel_rfl) ?_; simp only [Act.put, List.setIfInBounds_toArray, List.set_cons_zero, List.set_cons_succ])
    | (refine take_pure (v := ?_) (by rfl) ?_ ?_; rotate_left; (· (intro w hSw; clear hSw; go_simp; try with_reducible rfl)); simp only [Act.put, List.setIfInBounds_toArray, List.set_cons_zero, List.set_cons_succ]))
  refine take_done ?_
  refine seg_sole 2 #[true, true, true, true, false, false, false, false, false, false] rfl (by kernel_rfl) ?_
  try simp only [List.getElem_toArray, List.getElem_cons_zero, List.getElem_cons_succ]
  go_wp2_with (go_at_call 27; refine (HC.out _ O.keep).mono ?_; rintro e W ⟨⟨B1, c1, rfl, q1, q2, q3⟩, K⟩; replace O := O.keeps K; clear K; have HM := Lib.hid q1; have HM2 := Lib.hid (And.intro q2 q3); clear q1 q2 q3)
  (first | refine back_intro2 (by exact O) ?_ | refine back_intro (by exact O) ?_)
  refine seg_sole 4 #[true, true, true, true, true, false, false, false, false, false] rfl (by kernel_rfl) ?_
  try simp only [List.getElem_toArray, List.getElem_cons_zero, List.getElem_cons_succ]
  go_wp2_with (go_at_call 35; refine (HG.out _ O.keep _ _ HM.out).mono ?_; rintro e W ⟨⟨v3, rfl, q1⟩, K⟩; replace O := O.keeps K; clear K; have Hv3 := Lib.hid q1; clear q1)
  (first | refine back_intro2 (by exact O) ?_ | refine back_intro (by exact O) ?_)
  refine seg_take (fuel := 0) (L' := #[true, true, true, true, true, true, true, true, true, true]) (by kernel_rfl) (fun _ _ _ _ _ _ h => h) (by exact O) [5, 6, 7, 8, 9] [_, _, _, _, _] _ _ rfl (by kernel_rfl) ?_
  simp only [List.getElem_toArray, List.getElem_cons_zero, List.getElem_cons_succ]
  repeat (first
    | (refine take_pure (v := ?_) (by rfl) ?_ ?_; rotate_left; (· (intro w hSw; clear hSw; go_simp; try with_reducible rfl)); simp only [Act.put, List.setIfInBounds_toArray, List.set_cons_zero, List.set_cons_succ]))
  refine take_done ?_
  refine seg_done (by kernel_rfl) ?_
  go_wp2_with (first
    | go_big_skip
    | (refine own_load 50 1 O rfl rfl rfl rfl rfl Try.underlying27 rfl (by kernel_rfl) ?_; simp only [Act.put, List.setIfInBounds_toArray, List.set_cons_zero, List.set_cons_succ])
    | (go_at_call 36; refine (HQ.out _ O.keep).mono ?_; rintro e W ⟨⟨v4, rfl, q1⟩, K⟩; replace O := O.keeps K; replace Hv3 := Lib.hid (Hv3.out.kept K); clear K; have Hv4 := Lib.hid q1; clear q1)
    | (go_at_call 34; refine (alikes_same _ _ ys (Nat.le_trans HL.out.2 (by decide)) Hv3.out Hv4.out).mono ?_; rintro e W ⟨rfl, K⟩; replace O := O.keeps K; clear K))
  go_ret
  exact ⟨rfl, O.keep⟩
end
end Go.Proofs.Ytakmcpadkanggaa
