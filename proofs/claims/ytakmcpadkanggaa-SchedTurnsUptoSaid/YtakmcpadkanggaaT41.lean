/-
  The law's small system; a run that the document tells.
-/
import Derived.Test.YtakmcpadkanggaaT40
namespace Go.Proofs.Ytakmcpadkanggaa
open Go.RowKit Go.Maps Go.Deep

section
variable {ops : Array Oper} {rest : List Oper} {o : Oper} {a : Act} {w W : World} {Q : Exit → Act → World → Prop} {Sx : List Nat} {L : List Ent}
set_option maxRecDepth 100000 in
/-- A new row of given cells. -/
theorem own_lit (d T e len : Nat) (size : Nat) (z : Value) (parts : Array (Nat × Operand)) (cells : Array Value) (O : Own w W Sx L) (_hd : o.dst = some d) (hgd : o.guard = none) (ho : o.op = .buildSlice T len parts) (ht : Try.prog.underlying T = some (.slice e))
    (hi : (Try.prog.info? e).map (fun i => (i.zero, i.size)) = some (some z, size)) (h1 : ¬ len * size > 2 ^ 24) (h2 : ¬ len * size = 0)
    (hf : Instr.fill (fun i => some (i * size, size)) ((Array.range (len * size)).map (z.cells[· % z.cells.size]!)) (parts.map fun (i, x) => (i, a.eval x)).toList = some cells)
    (h : ∀ u g, Own w u Sx ((g, e, cells) :: L) → wpList Try.prog ops Q rest (a.put o.dst (.slice (some ⟨g, 0, none⟩) len len)) u) : wpList Try.prog ops Q (o :: rest) a W := by
  obtain ⟨i, hi2, he⟩ := Option.map_eq_some_iff.1 hi
  simp only [Prod.mk.injEq] at he
  obtain ⟨hz, hs⟩ := he
  subst hs
  have k := (Keeps.refl W []).alloc (.cells cells e)
  exact wpList_buildSlice hgd T e len parts ho cells i z ht hi2 hz h1 h2 hf (h _ _ (O.add k (Blk.new _ _ _)))
end
section
variable {w : World}
set_option maxRecDepth 100000 in
theorem small_any : Calls Try.prog 55 #[] w fun e w' => ∃ A R, e = .returned (.agg (sysV smallS A 2 R 1)) ∧ SysIn w' smallS A 2 R 1 ∧ Keeps w w' [] := by
  have O := Own.start w []
  go_enter Try.func55, Try.ntmps55
  go_wp2_with (first
    | (refine own_alloc 0 (#[Value.slice none 0 0, .slice none 0 0, .int .i64 0, .int .i64 0, .int .i64 0]) O rfl rfl rfl (fun _ => by kernel_rfl) ?_; clear O; intro W a0 O; simp only [Act.put, List.setIfInBounds_toArray, List.set_cons_zero])
    | (refine wpList_const 1 (.agg #[Value.int .i64 14, .int .i64 1, .int .i64 0, .int .i64 0]) rfl rfl (fun _ => by kernel_rfl) ?_; simp only [Act.put, List.setIfInBounds_toArray, List.set_cons_zero, List.set_cons_succ])
    | (refine wpList_const 2 (.agg #[Value.int .i64 1, .int .i64 0, .int .i64 7, .int .i64 0]) rfl rfl (fun _ => by kernel_rfl) ?_; simp only [Act.put, List.setIfInBounds_toArray, List.set_cons_zero, List.set_cons_succ])
    | (refine wpList_const 3 (.agg #[Value.int .i64 5, .int .i64 0, .int .i64 0, .int .i64 0]) rfl rfl (fun _ => by kernel_rfl) ?_; simp only [Act.put, List.setIfInBounds_toArray, List.set_cons_zero, List.set_cons_succ])
    | (refine wpList_const 4 (.agg #[Value.int .i64 7, .int .i64 0, .int .i64 0, .int .i64 0]) rfl rfl (fun _ => by kernel_rfl) ?_; simp only [Act.put, List.setIfInBounds_toArray, List.set_cons_zero, List.set_cons_succ])
    | (refine own_lit 5 97 99 4 4 (.agg #[Value.int .i64 0, .int .i64 0, .int .i64 0, .int .i64 0]) _ (#[Value.int .i64 14, .int .i64 1, .int .i64 0, .int .i64 0, .int .i64 1, .int .i64 0, .int .i64 7, .int .i64 0, .int .i64 5, .int .i64 0, .int .i64 0, .int .i64 0, .int .i64 7, .int .i64 0, .int .i64 0, .int .i64 0]) O rfl rfl rfl Try.underlying97 (by kernel_rfl) (by decide) (by decide) (by kernel_rfl) ?_; clear O; intro W g5 O; simp only [Act.put, List.setIfInBounds_toArray, List.set_cons_zero, List.set_cons_succ])
    | (refine wpList_const 6 (.agg #[Value.int .i64 6, .int .i64 0, .int .i64 1, .int .i64 2]) rfl rfl (fun _ => by kernel_rfl) ?_; simp only [Act.put, List.setIfInBounds_toArray, List.set_cons_zero, List.set_cons_succ])
    | (refine wpList_const 7 (.agg #[Value.int .i64 4, .int .i64 0, .int .i64 0, .int .i64 0]) rfl rfl (fun _ => by kernel_rfl) ?_; simp only [Act.put, List.setIfInBounds_toArray, List.set_cons_zero, List.set_cons_succ])
    | (refine own_lit 8 97 99 2 4 (.agg #[Value.int .i64 0, .int .i64 0, .int .i64 0, .int .i64 0]) _ (#[Value.int .i64 6, .int .i64 0, .int .i64 1, .int .i64 2, .int .i64 4, .int .i64 0, .int .i64 0, .int .i64 0]) O rfl rfl rfl Try.underlying97 (by kernel_rfl) (by decide) (by decide) (by kernel_rfl) ?_; clear O; intro W g8 O; simp only [Act.put, List.setIfInBounds_toArray, List.set_cons_zero, List.set_cons_succ])
    | (refine own_lit 9 24 97 2 1 (.slice none 0 0) _ (#[Value.slice (some ⟨g5, 0, none⟩) 4 4, .slice (some ⟨g8, 0, none⟩) 2 2]) O rfl rfl rfl Try.underlying24 (by kernel_rfl) (by decide) (by decide) (by kernel_rfl) ?_; clear O; intro W g9 O; simp only [Act.put, List.setIfInBounds_toArray, List.set_cons_zero, List.set_cons_succ])
    | (refine own_lit 10 25 3 1 1 (.int .i64 0) _ (#[Value.int .i64 1]) O rfl rfl rfl Try.underlying25 (by kernel_rfl) (by decide) (by decide) (by kernel_rfl) ?_; clear O; intro W g10 O; simp only [Act.put, List.setIfInBounds_toArray, List.set_cons_zero, List.set_cons_succ])
    | (refine wpList_const 11 (.agg (sysV smallS (some ⟨g9, 0, none⟩) 2 (some ⟨g10, 0, none⟩) 1)) rfl rfl (fun _ => by kernel_rfl) ?_; simp only [Act.put, List.setIfInBounds_toArray, List.set_cons_zero, List.set_cons_succ])
    | (refine own_store_row 4 (.tmp 0) (.tmp 11) (cs' := sysV smallS (some ⟨g9, 0, none⟩) 2 (some ⟨g10, 0, none⟩) 1) O rfl rfl rfl rfl rfl rfl (by kernel_rfl) (by rfl) (by simp [sysV, Value.oneCell']) ?_; clear O; intro W O; simp only [List.set_cons_zero, List.set_cons_succ] at O)
    | go_big_skip)
  refine bodyPost_ret (v := .agg (sysV smallS (some ⟨g9, 0, none⟩) 2 (some ⟨g10, 0, none⟩) 1)) (results_cell_row rfl _ _ a0 27 _ _ _ rfl (O.get 4 rfl) Try.underlying27 rfl (by kernel_rfl)) rfl ⟨_, _, rfl, ⟨fun _ => ⟨_, rfl, O.lt 1 rfl, fun p hp => ?_⟩, fun _ => ⟨_, rfl, O.lt 0 rfl, fun j hj => ?_⟩, Nat.le_refl _, by simp [maxLen], Nat.le_refl _, by simp [maxLen]⟩, O.keep⟩
  · have hp' : p = 0 ∨ p = 1 := by have h : p < 2 := hp; omega
    rcases hp' with rfl | rfl
    · refine ⟨some ⟨g5, 0, none⟩, 4, (O.get 1 rfl).cell 0, Nat.le_refl _, by simp [maxLen], fun _ => ⟨_, rfl, O.lt 3 rfl, fun i j hi hj => ?_⟩⟩
      rw [Addr.add_mid]
      refine ((O.get 3 rfl).cell _).trans ?_
      have hi' : i = 0 ∨ i = 1 ∨ i = 2 ∨ i = 3 := by have h : i < 4 := hi; omega
      have hj' : j = 0 ∨ j = 1 ∨ j = 2 ∨ j = 3 := by omega
      rcases hi' with rfl | rfl | rfl | rfl <;> rcases hj' with rfl | rfl | rfl | rfl <;> rfl
    · refine ⟨some ⟨g8, 0, none⟩, 2, (O.get 1 rfl).cell 1, Nat.le_refl _, by simp [maxLen], fun _ => ⟨_, rfl, O.lt 2 rfl, fun i j hi hj => ?_⟩⟩
      rw [Addr.add_mid]
      refine ((O.get 2 rfl).cell _).trans ?_
      have hi' : i = 0 ∨ i = 1 := by have h : i < 2 := hi; omega
      have hj' : j = 0 ∨ j = 1 ∨ j = 2 ∨ j = 3 := by omega
      rcases hi' with rfl | rfl <;> rcases hj' with rfl | rfl | rfl | rfl <;> rfl
  · have hj' : j = 0 := by have h : j < 1 := hj; omega
    subst hj'
    exact (O.get 0 rfl).cell 0
/-- The events of a run, where they lie. -/
theorem RunAt.evs {w W : World} {S : Sys} {X : RunP} {evs cells : Value} (h : RunAt w W S X evs cells) : ∃ A c, evs = .slice A X.P.ev.length c ∧ EvsAt W A X.P.ev.length (lE X.P.ev) ∧ X.P.ev.length ≤ c ∧ c ≤ maxLen := by
  have hc := fun g hg j u hu => h.evr.cells (g := g) hg j u hu
  have hl := h.evr.lt
  rcases h.evr.2 with ⟨rfl, h0⟩ | ⟨g, cap, cur, rfl, _, hB, h1, h2, _⟩
  · rw [h0]
    exact ⟨none, 0, rfl, fun h => by omega, Nat.le_refl _, by simp [maxLen]⟩
  · refine ⟨_, cap, rfl, fun hn => ⟨_, rfl, (hl g rfl).2, fun i j hi hj => ?_⟩, h1, h2⟩
    rw [evC_getD _ _ hj]
    refine hc g rfl (i * 5 + j) _ ?_
    have hlt : i * 5 + j < X.P.ev.length * 5 := by omega
    simp only [evL, List.getElem?_map, List.getElem?_range hlt, Option.map_some]
    rw [show (i * 5 + j) / 5 = i by omega, show (i * 5 + j) % 5 = j by omega]
theorem RunAt.kept {w W u : World} {S : Sys} {X : RunP} {evs cells : Value} (h : RunAt w W S X evs cells) (k : Keeps W u []) : RunAt w u S X evs cells := by
  obtain ⟨h1, h2, bc, m, h3, h4, h5, h6⟩ := h
  exact ⟨h1.trans k (by simp), ownsRow_keeps h2 k (by simp), bc, m, h3, h4, h5.keeps k (by simp), h6⟩
theorem runC_cell (fin fault : Int) (evs : Value) (n : Nat) (cells : Value) (h : evs.oneCell' = true) (h' : cells.oneCell' = true) : ∀ v ∈ (runC fin fault evs n cells).toList, v.oneCell' = true := by
  intro v hv
  simp [runC] at hv
  rcases hv with rfl | rfl | rfl | rfl | rfl
  · rfl
  · rfl
  · exact h
  · rfl
  · exact h'
set_option maxRecDepth 100000 in
theorem awake_any : Calls Try.prog 24 #[] w fun e w' => e = .returned (.bool true) ∧ Keeps w w' [] := by
  have O := Own.start w []
  obtain ⟨r1, r2, r3, r4⟩ := small_run
  have hvs : validB smallS = true := by decide +kernel
  have HP := Lib.hid (fun u A R (h : SysIn u smallS A 2 R 1) => show Calls Try.prog 25 #[.agg (sysV smallS A 2 R 1), .slice none 0 0] u fun e W => ∃ Ae c cells, e = .returned (.tuple #[.agg (runC 1 0 (.slice Ae 7 c) 2 cells), .int .i64 0]) ∧ Keeps u W [] ∧ cells.oneCell' = true from
    (play_good (picks := []) h hvs ⟨none, 0, rfl, fun h => by simp at h⟩).mono fun e W ⟨evs, cells, he, hr⟩ => by
      obtain ⟨Ae, c, e1, _, _, _⟩ := hr.evs
      obtain ⟨bc, m, e2, _⟩ := hr.cell
      refine ⟨Ae, c, cells, ?_, hr.keep, by rw [e2]; rfl⟩
      rw [he, e1, r1, r2, r3, r4])
  clear r1 r2 r3 r4 hvs
  go_enter Try.func24, Try.ntmps24
  go_wp2_with (first
    | (go_at_call 55; refine (small_any).mono ?_; rintro e W ⟨A, R, rfl, HS, K⟩; have HS1 := Lib.hid HS; replace O := O.keeps K; clear K HS)
    | (go_at_call 25; refine (HP.out _ _ _ HS1.out).mono ?_; rintro e W ⟨Ae, ce, cells, rfl, K, h1⟩; have HC := Lib.hid h1; replace O := O.keeps K; clear K h1)
    | (refine own_alloc 1 (#[Value.int .i64 0, .int .i64 0, .slice none 0 0, .int .i64 0, .slice none 0 0]) O rfl rfl rfl (fun _ => by kernel_rfl) ?_; clear O; intro W a1 O; simp only [Act.put, List.setIfInBounds_toArray, List.set_cons_zero, List.set_cons_succ])
    | (refine own_store_row 0 (.tmp 1) (.tmp 6) (cs' := runC 1 0 (.slice Ae 7 ce) 2 cells) O rfl rfl rfl rfl rfl rfl (by kernel_rfl) (by rfl) (runC_cell _ _ _ _ _ rfl HC.out) ?_; clear O; intro W O; simp only [List.set_cons_zero] at O; have c1 : W.cell? ⟨a1, 0, none⟩ = some (.int .i64 1) := (O.get 0 rfl).cell 0; have c2 : W.cell? ⟨a1, 2, none⟩ = some (.slice Ae 7 ce) := (O.get 0 rfl).cell 2; have c3 : W.cell? ⟨a1, 3, none⟩ = some (.int .i64 2) := (O.get 0 rfl).cell 3)
    | go_big_skip)
  go_ret
  exact ⟨rfl, O.keep⟩
end
end Go.Proofs.Ytakmcpadkanggaa
