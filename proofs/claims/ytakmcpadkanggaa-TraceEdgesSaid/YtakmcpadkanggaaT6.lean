/-
  The document's answer: which instruction may be (quernref13.right).
-/
import Derived.Test.YtakmcpadkanggaaT5
namespace Go.Proofs.Ytakmcpadkanggaa
open Go.RowKit

/-- Cells of a row of three integers. -/
def row3 (f : Nat → Int) : Array Value := #[.int .i64 (f 0), .int .i64 (f 1), .int .i64 (f 2)]
theorem row3_get (f : Nat → Int) (k : Nat) (h : k < 3) : (row3 f)[k]? = some (.int .i64 (f k)) := by
  match k, h with
  | 0, _ => rfl
  | 1, _ => rfl
  | 2, _ => rfl
theorem row3_cell (f : Nat → Int) : ∀ v ∈ (row3 f).toList, v.oneCell' = true := by
  intro v hv
  simp only [row3, List.mem_cons, List.not_mem_nil, or_false] at hv
  rcases hv with rfl | rfl | rfl <;> rfl
theorem ix_1_0 (w : World) : (Instr.index 9 (.string (strA 1)) (.int .i64 0)).run Try.prog w = .ok (.int .u8 114) w := by kernel_rfl
theorem ix_1_1 (w : World) : (Instr.index 9 (.string (strA 1)) (.int .i64 1)).run Try.prog w = .ok (.int .u8 120) w := by kernel_rfl
theorem ix_1_2 (w : World) : (Instr.index 9 (.string (strA 1)) (.int .i64 2)).run Try.prog w = .ok (.int .u8 110) w := by kernel_rfl
theorem ix_2_0 (w : World) : (Instr.index 9 (.string (strA 2)) (.int .i64 0)).run Try.prog w = .ok (.int .u8 114) w := by kernel_rfl
theorem ix_2_1 (w : World) : (Instr.index 9 (.string (strA 2)) (.int .i64 1)).run Try.prog w = .ok (.int .u8 114) w := by kernel_rfl
theorem ix_2_2 (w : World) : (Instr.index 9 (.string (strA 2)) (.int .i64 2)).run Try.prog w = .ok (.int .u8 110) w := by kernel_rfl
theorem ix_3_0 (w : World) : (Instr.index 9 (.string (strA 3)) (.int .i64 0)).run Try.prog w = .ok (.int .u8 114) w := by kernel_rfl
theorem ix_3_1 (w : World) : (Instr.index 9 (.string (strA 3)) (.int .i64 1)).run Try.prog w = .ok (.int .u8 114) w := by kernel_rfl
theorem ix_3_2 (w : World) : (Instr.index 9 (.string (strA 3)) (.int .i64 2)).run Try.prog w = .ok (.int .u8 112) w := by kernel_rfl
theorem ix_4_0 (w : World) : (Instr.index 9 (.string (strA 4)) (.int .i64 0)).run Try.prog w = .ok (.int .u8 110) w := by kernel_rfl
theorem ix_4_1 (w : World) : (Instr.index 9 (.string (strA 4)) (.int .i64 1)).run Try.prog w = .ok (.int .u8 110) w := by kernel_rfl
theorem ix_4_2 (w : World) : (Instr.index 9 (.string (strA 4)) (.int .i64 2)).run Try.prog w = .ok (.int .u8 112) w := by kernel_rfl
theorem ix_5_0 (w : World) : (Instr.index 9 (.string (strA 5)) (.int .i64 0)).run Try.prog w = .ok (.int .u8 99) w := by kernel_rfl
theorem ix_5_1 (w : World) : (Instr.index 9 (.string (strA 5)) (.int .i64 1)).run Try.prog w = .ok (.int .u8 114) w := by kernel_rfl
theorem ix_5_2 (w : World) : (Instr.index 9 (.string (strA 5)) (.int .i64 2)).run Try.prog w = .ok (.int .u8 110) w := by kernel_rfl
theorem ix_6_0 (w : World) : (Instr.index 9 (.string (strA 6)) (.int .i64 0)).run Try.prog w = .ok (.int .u8 99) w := by kernel_rfl
theorem ix_6_1 (w : World) : (Instr.index 9 (.string (strA 6)) (.int .i64 1)).run Try.prog w = .ok (.int .u8 114) w := by kernel_rfl
theorem ix_6_2 (w : World) : (Instr.index 9 (.string (strA 6)) (.int .i64 2)).run Try.prog w = .ok (.int .u8 112) w := by kernel_rfl
theorem ix_7_0 (w : World) : (Instr.index 9 (.string (strA 7)) (.int .i64 0)).run Try.prog w = .ok (.int .u8 99) w := by kernel_rfl
theorem ix_7_1 (w : World) : (Instr.index 9 (.string (strA 7)) (.int .i64 1)).run Try.prog w = .ok (.int .u8 110) w := by kernel_rfl
theorem ix_7_2 (w : World) : (Instr.index 9 (.string (strA 7)) (.int .i64 2)).run Try.prog w = .ok (.int .u8 110) w := by kernel_rfl
theorem ix_8_0 (w : World) : (Instr.index 9 (.string (strA 8)) (.int .i64 0)).run Try.prog w = .ok (.int .u8 108) w := by kernel_rfl
theorem ix_8_1 (w : World) : (Instr.index 9 (.string (strA 8)) (.int .i64 1)).run Try.prog w = .ok (.int .u8 110) w := by kernel_rfl
theorem ix_8_2 (w : World) : (Instr.index 9 (.string (strA 8)) (.int .i64 2)).run Try.prog w = .ok (.int .u8 110) w := by kernel_rfl
theorem ix_9_0 (w : World) : (Instr.index 9 (.string (strA 9)) (.int .i64 0)).run Try.prog w = .ok (.int .u8 108) w := by kernel_rfl
theorem ix_9_1 (w : World) : (Instr.index 9 (.string (strA 9)) (.int .i64 1)).run Try.prog w = .ok (.int .u8 110) w := by kernel_rfl
theorem ix_9_2 (w : World) : (Instr.index 9 (.string (strA 9)) (.int .i64 2)).run Try.prog w = .ok (.int .u8 110) w := by kernel_rfl
theorem ix_10_0 (w : World) : (Instr.index 9 (.string (strA 10)) (.int .i64 0)).run Try.prog w = .ok (.int .u8 103) w := by kernel_rfl
theorem ix_10_1 (w : World) : (Instr.index 9 (.string (strA 10)) (.int .i64 1)).run Try.prog w = .ok (.int .u8 120) w := by kernel_rfl
theorem ix_10_2 (w : World) : (Instr.index 9 (.string (strA 10)) (.int .i64 2)).run Try.prog w = .ok (.int .u8 110) w := by kernel_rfl
theorem ix_11_0 (w : World) : (Instr.index 9 (.string (strA 11)) (.int .i64 0)).run Try.prog w = .ok (.int .u8 103) w := by kernel_rfl
theorem ix_11_1 (w : World) : (Instr.index 9 (.string (strA 11)) (.int .i64 1)).run Try.prog w = .ok (.int .u8 110) w := by kernel_rfl
theorem ix_11_2 (w : World) : (Instr.index 9 (.string (strA 11)) (.int .i64 2)).run Try.prog w = .ok (.int .u8 110) w := by kernel_rfl
theorem ix_12_0 (w : World) : (Instr.index 9 (.string (strA 12)) (.int .i64 0)).run Try.prog w = .ok (.int .u8 114) w := by kernel_rfl
theorem ix_12_1 (w : World) : (Instr.index 9 (.string (strA 12)) (.int .i64 1)).run Try.prog w = .ok (.int .u8 114) w := by kernel_rfl
theorem ix_12_2 (w : World) : (Instr.index 9 (.string (strA 12)) (.int .i64 2)).run Try.prog w = .ok (.int .u8 110) w := by kernel_rfl
theorem ix_13_0 (w : World) : (Instr.index 9 (.string (strA 13)) (.int .i64 0)).run Try.prog w = .ok (.int .u8 114) w := by kernel_rfl
theorem ix_13_1 (w : World) : (Instr.index 9 (.string (strA 13)) (.int .i64 1)).run Try.prog w = .ok (.int .u8 114) w := by kernel_rfl
theorem ix_13_2 (w : World) : (Instr.index 9 (.string (strA 13)) (.int .i64 2)).run Try.prog w = .ok (.int .u8 110) w := by kernel_rfl
theorem ix_14_0 (w : World) : (Instr.index 9 (.string (strA 14)) (.int .i64 0)).run Try.prog w = .ok (.int .u8 115) w := by kernel_rfl
theorem ix_14_1 (w : World) : (Instr.index 9 (.string (strA 14)) (.int .i64 1)).run Try.prog w = .ok (.int .u8 110) w := by kernel_rfl
theorem ix_14_2 (w : World) : (Instr.index 9 (.string (strA 14)) (.int .i64 2)).run Try.prog w = .ok (.int .u8 110) w := by kernel_rfl
theorem ix_15_0 (w : World) : (Instr.index 9 (.string (strA 15)) (.int .i64 0)).run Try.prog w = .ok (.int .u8 120) w := by kernel_rfl
theorem ix_15_1 (w : World) : (Instr.index 9 (.string (strA 15)) (.int .i64 1)).run Try.prog w = .ok (.int .u8 114) w := by kernel_rfl
theorem ix_15_2 (w : World) : (Instr.index 9 (.string (strA 15)) (.int .i64 2)).run Try.prog w = .ok (.int .u8 110) w := by kernel_rfl
theorem ix_16_0 (w : World) : (Instr.index 9 (.string (strA 16)) (.int .i64 0)).run Try.prog w = .ok (.int .u8 110) w := by kernel_rfl
theorem ix_16_1 (w : World) : (Instr.index 9 (.string (strA 16)) (.int .i64 1)).run Try.prog w = .ok (.int .u8 110) w := by kernel_rfl
theorem ix_16_2 (w : World) : (Instr.index 9 (.string (strA 16)) (.int .i64 2)).run Try.prog w = .ok (.int .u8 110) w := by kernel_rfl
theorem ix_any (o k : Nat) (h1 : 1 ≤ o) (h2 : o ≤ 16) (hk : k < 3) (w : World) : (Instr.index 9 (.string (strA o)) (.int .i64 (k : Int))).run Try.prog w = .ok (.int .u8 (ltr (kd o k))) w := by
  match o, h1, h2, k, hk with
  | 1, _, _, 0, _ => exact ix_1_0 w
  | 1, _, _, 1, _ => exact ix_1_1 w
  | 1, _, _, 2, _ => exact ix_1_2 w
  | 2, _, _, 0, _ => exact ix_2_0 w
  | 2, _, _, 1, _ => exact ix_2_1 w
  | 2, _, _, 2, _ => exact ix_2_2 w
  | 3, _, _, 0, _ => exact ix_3_0 w
  | 3, _, _, 1, _ => exact ix_3_1 w
  | 3, _, _, 2, _ => exact ix_3_2 w
  | 4, _, _, 0, _ => exact ix_4_0 w
  | 4, _, _, 1, _ => exact ix_4_1 w
  | 4, _, _, 2, _ => exact ix_4_2 w
  | 5, _, _, 0, _ => exact ix_5_0 w
  | 5, _, _, 1, _ => exact ix_5_1 w
  | 5, _, _, 2, _ => exact ix_5_2 w
  | 6, _, _, 0, _ => exact ix_6_0 w
  | 6, _, _, 1, _ => exact ix_6_1 w
  | 6, _, _, 2, _ => exact ix_6_2 w
  | 7, _, _, 0, _ => exact ix_7_0 w
  | 7, _, _, 1, _ => exact ix_7_1 w
  | 7, _, _, 2, _ => exact ix_7_2 w
  | 8, _, _, 0, _ => exact ix_8_0 w
  | 8, _, _, 1, _ => exact ix_8_1 w
  | 8, _, _, 2, _ => exact ix_8_2 w
  | 9, _, _, 0, _ => exact ix_9_0 w
  | 9, _, _, 1, _ => exact ix_9_1 w
  | 9, _, _, 2, _ => exact ix_9_2 w
  | 10, _, _, 0, _ => exact ix_10_0 w
  | 10, _, _, 1, _ => exact ix_10_1 w
  | 10, _, _, 2, _ => exact ix_10_2 w
  | 11, _, _, 0, _ => exact ix_11_0 w
  | 11, _, _, 1, _ => exact ix_11_1 w
  | 11, _, _, 2, _ => exact ix_11_2 w
  | 12, _, _, 0, _ => exact ix_12_0 w
  | 12, _, _, 1, _ => exact ix_12_1 w
  | 12, _, _, 2, _ => exact ix_12_2 w
  | 13, _, _, 0, _ => exact ix_13_0 w
  | 13, _, _, 1, _ => exact ix_13_1 w
  | 13, _, _, 2, _ => exact ix_13_2 w
  | 14, _, _, 0, _ => exact ix_14_0 w
  | 14, _, _, 1, _ => exact ix_14_1 w
  | 14, _, _, 2, _ => exact ix_14_2 w
  | 15, _, _, 0, _ => exact ix_15_0 w
  | 15, _, _, 1, _ => exact ix_15_1 w
  | 15, _, _, 2, _ => exact ix_15_2 w
  | 16, _, _, 0, _ => exact ix_16_0 w
  | 16, _, _, 1, _ => exact ix_16_1 w
  | 16, _, _, 2, _ => exact ix_16_2 w
  | 0, h, _, _, _ => omega
  | n + 17, _, h, _, _ => exact absurd h (by omega)
  | _, _, _, n + 3, h => exact absurd h (by omega)
theorem str_ne (o : Nat) (h1 : 1 ≤ o) (h2 : o ≤ 16) : (strA o).toList.isEmpty = false := by
  have h : ∀ o : Fin 17, 1 ≤ o.1 → (strA o.1).data.toList.isEmpty = false := by decide +kernel
  rw [ByteArray.toList_eq]
  exact h ⟨o, by omega⟩ h1
theorem Later.keep {w : World} (p : Later w) : Keeps w p.1 [] := p.2
theorem ltr_x (k : Nat) (h : k ≤ 7) : ltr k = 120 ↔ k = 3 := by
  have h' : ∀ k : Fin 8, ltr k.1 = 120 ↔ k.1 = 3 := by decide +kernel
  exact h' ⟨k, by omega⟩

set_option maxRecDepth 100000 in
theorem refright_low (f : Nat → Int) (h : f 0 < 1) (S : Sys) (A : Option Addr) (c : Nat) (R : Option Addr) (d : Nat) (w : World) (p : Nat) : Calls Try.prog 54 #[.agg (sysV S A c R d), .int .i64 p, .agg (inst f)] w fun e w' => e = .returned (.bool false) ∧ Keeps w w' [] := by
  have O := Own.start w []
  have HF := fun w => Lib.hid (reffields_low (f 0) h w)
  clear h
  unfold inst sysV
  generalize f 0 = y0 at *
  go_enter Try.func54, Try.ntmps54
  go_wp2_with (first
    | go_big_skip
    | (refine own_box 3 _ O rfl rfl rfl rfl ?_; clear O; intro W a3 O; simp only [Act.put, List.setIfInBounds_toArray, List.set_cons_zero, List.set_cons_succ])
    | (refine own_box 5 _ O rfl rfl rfl rfl ?_; clear O; intro W a5 O; simp only [Act.put, List.setIfInBounds_toArray, List.set_cons_zero, List.set_cons_succ]; have c5 := (O.get 0 rfl).cell)
    | (go_at_call 87; refine ((HF _).out).mono ?_; rintro e W ⟨rfl, K⟩; replace O := O.keeps K; clear K c5; have c5 := (O.get 0 rfl).cell))
  go_ret
  exact ⟨rfl, O.keep⟩

set_option maxRecDepth 100000 in
theorem refright_high (f : Nat → Int) (h : 17 ≤ f 0) (S : Sys) (A : Option Addr) (c : Nat) (R : Option Addr) (d : Nat) (w : World) (p : Nat) : Calls Try.prog 54 #[.agg (sysV S A c R d), .int .i64 p, .agg (inst f)] w fun e w' => e = .returned (.bool false) ∧ Keeps w w' [] := by
  have O := Own.start w []
  have HF := fun w => Lib.hid (reffields_high (f 0) h w)
  clear h
  unfold inst sysV
  generalize f 0 = y0 at *
  go_enter Try.func54, Try.ntmps54
  go_wp2_with (first
    | go_big_skip
    | (refine own_box 3 _ O rfl rfl rfl rfl ?_; clear O; intro W a3 O; simp only [Act.put, List.setIfInBounds_toArray, List.set_cons_zero, List.set_cons_succ])
    | (refine own_box 5 _ O rfl rfl rfl rfl ?_; clear O; intro W a5 O; simp only [Act.put, List.setIfInBounds_toArray, List.set_cons_zero, List.set_cons_succ]; have c5 := (O.get 0 rfl).cell)
    | (go_at_call 87; refine ((HF _).out).mono ?_; rintro e W ⟨rfl, K⟩; replace O := O.keeps K; clear K c5; have c5 := (O.get 0 rfl).cell))
  go_ret
  exact ⟨rfl, O.keep⟩

set_option maxRecDepth 100000 in
set_option maxHeartbeats 800000 in
theorem refright_good (f : Nat → Int) (o : Nat) (h1 : 1 ≤ o) (h2 : o ≤ 16) (ho : f 0 = (o : Int)) (S : Sys) (A : Option Addr) (c : Nat) (R : Option Addr) (d : Nat) (w : World) (p : Nat) (hS : SysIn w S A c R d) (hp : p < S.np) (hl : S.lp p ≤ 256) (hce : 0 ≤ S.ce) :
    Calls Try.prog 54 #[.agg (sysV S A c R d), .int .i64 p, .agg (inst f)] w fun e w' => e = .returned (.bool (rightS S p f)) ∧ Keeps w w' [] := by
  have O := Own.start w []
  have HF : ∀ u, Hid (Calls Try.prog 87 #[.int .i64 (f 0)] u fun e w' => e = .returned (.string (strA o)) ∧ Keeps u w' []) := fun u => Lib.hid (by rw [ho]; exact reffields_any o h1 h2 u)
  have hne := str_ne o h1 h2
  have HX := Lib.hid (fun k hk => ix_any o k h1 h2 hk)
  have HB := Lib.hid (fun k hk h3 u (K : Keeps w u []) => bound_any S A c R d p u (hS.kept K) hp hl (kd o k) (kd_le o k (by omega) hk) h3)
  have HE := Lib.hid (show ∀ j, j < 3 → mayS S p (f (j + 1)) (kd o j) = false → rightS S p f = false from fun j hj hm => by
    unfold rightS
    rw [show (f 0).toNat = o from by omega]
    match j, hj with
    | 0, _ => simp at hm; simp [hm]
    | 1, _ => simp at hm; simp [hm]
    | 2, _ => simp at hm; simp [hm])
  have HY := Lib.hid (show (∀ j, j < 3 → mayS S p (f (j + 1)) (kd o j) = true) → rightS S p f = !((decide (f 0 = 12) || decide (f 0 = 13)) && decide (S.ce = 0)) from fun hm => by
    unfold rightS
    rw [show (f 0).toNat = o from by omega, show opOk (f 0) = true by simp [opOk, show 1 ≤ f 0 from by omega, show f 0 ≤ 16 from by omega]]
    have m0 := hm 0 (by omega)
    have m1 := hm 1 (by omega)
    have m2 := hm 2 (by omega)
    simp only [Nat.zero_add, Nat.reduceAdd] at m0 m1 m2
    simp [m0, m1, m2])
  have HO := Lib.hid ho
  have HK := Lib.hid (fun k hk => kd_le o k (by omega) hk)
  clear hS hp hl ho h1 h2
  generalize strA o = so at *
  go_enter Try.func54, Try.ntmps54
  go_wp2_with (first
    | go_big_skip
    | (refine own_box 3 (sysV S A c R d) O rfl rfl rfl rfl ?_; clear O; intro W a3 O; simp only [Act.put, List.setIfInBounds_toArray, List.set_cons_zero, List.set_cons_succ])
    | (refine own_box 5 (inst f) O rfl rfl rfl rfl ?_; clear O; intro W a5 O; simp only [Act.put, List.setIfInBounds_toArray, List.set_cons_zero, List.set_cons_succ]; have c5 : ∀ i, W.cell? ⟨a5, i, none⟩ = #[Value.int .i64 (f 0), .int .i64 (f 1), .int .i64 (f 2), .int .i64 (f 3)][i]? := (O.get 0 rfl).cell)
    | (go_at_call 87; refine ((HF _).out).mono ?_; rintro e W ⟨rfl, K⟩; replace O := O.keeps K; clear K c5; have c5 : ∀ i, W.cell? ⟨a5, i, none⟩ = #[Value.int .i64 (f 0), .int .i64 (f 1), .int .i64 (f 2), .int .i64 (f 3)][i]? := (O.get 0 rfl).cell)
    | (refine own_alloc 8 (row3 fun _ => 0) O rfl rfl rfl (fun _ => by kernel_rfl) ?_; clear O; intro W a8 O; simp only [Act.put, List.setIfInBounds_toArray, List.set_cons_zero, List.set_cons_succ]; clear c5)
    | (refine own_store_row 0 (.tmp 8) (.tmp 21) (cs' := row3 fun i => f (i + 1)) O rfl rfl rfl rfl rfl rfl (by kernel_rfl) (by rfl) (row3_cell _) ?_; clear O; intro W O; simp only [List.set_cons_zero] at O))
  clear hne
  go_loopw [9] (fun i wr => ∃ k : Nat, k ≤ 3 ∧ i = .int .i64 k ∧ Own w wr [] [(a8, 149, row3 fun i => f (i + 1)), (a5, 99, inst f), (a3, 27, sysV S A c R d)] ∧ ∀ j, j < k → mayS S p (f (j + 1)) (kd o j) = true) (fun i _ => 3 - (intOf i).toNat)
  case atStart => exact ⟨0, by omega, rfl, O, fun j hj => by omega⟩
  case round =>
    obtain ⟨k, hk, rfl, O, hm⟩ := hrel
    have HM := Lib.hid hm
    clear hm
    by_cases hlt : k < 3
    · have g1 : ((k : Int)) < 3 := by omega
      have g0 : (0 : Int) ≤ k := by omega
      have ak := add_zero_ a8 k
      have ix := fun w => HX.out k hlt w
      have c8 : ∀ p : Later wr, p.1.cell? ⟨a8, k, none⟩ = some (.int .i64 (f (k + 1))) := fun p => (Later.cell (O.get 0 rfl) p k).trans (row3_get _ k hlt)
      by_cases h3 : kd o k = 3
      · have hlet : ltr (kd o k) = 120 := (ltr_x _ (HK.out k hlt)).2 h3
        rw [hlet] at ix
        have HM2 := Lib.hid (show ∀ j, j < k + 1 → mayS S p (f (j + 1)) (kd o j) = true from fun j hj => if h : j = k then (by rw [h, h3]; rfl) else HM.out j (by omega))
        clear hlet h3
        go_wp2
        refine wp_quiet_later (by kernel_rfl) (by kernel_rfl) ?_
        repeat (first
          | go_big_quiet_skip
          | (refine wpQuiet_load 39 rfl rfl rfl rfl (Later.blk (O.get 2 rfl)) Try.underlying27 rfl (by kernel_rfl) ?_; simp only [Act.put, List.setIfInBounds_toArray, List.set_cons_zero, List.set_cons_succ])
          | go_big_quiet_step ((go_at_call 88; exact later_of (HB.out k hlt h3 _ (O.keep.trans (Later.keep _) (by simp))))))
        refine wpQuiet_nil ?_
        intro _ hw
        obtain ⟨p, rfl⟩ := hw
        replace O := O.keeps p.2
        clear c8 ix
        generalize p.1 = W3 at O ⊢
        go_wp2
        go_roundw
        case rel => exact ⟨k + 1, by omega, by go_num, O, HM2.out⟩
        case measure => (simp [intOf] <;> omega)
      · have hlet : ¬ ltr (kd o k) = 120 := fun h => h3 ((ltr_x _ (HK.out k hlt)).1 h)
        have hnl : (ltr (kd o k) != 120) = true := by simpa using hlet
        have hms : mayS S p (f (k + 1)) (kd o k) = (decide (0 ≤ f (k + 1)) && decide (f (k + 1) < bnd S p (kd o k))) := by simp [mayS, h3]
        have HMS := Lib.hid hms
        clear hms
        by_cases hx0 : f (k + 1) < 0
        · have HF := Lib.hid (HE.out k hlt (by rw [HMS.out, decide_eq_false (by omega), Bool.false_and]))
          go_wp2
          refine wp_quiet_later (by kernel_rfl) (by kernel_rfl) ?_
          repeat (first
            | go_big_quiet_skip
            | (refine wpQuiet_load 39 rfl rfl rfl rfl (Later.blk (O.get 2 rfl)) Try.underlying27 rfl (by kernel_rfl) ?_; simp only [Act.put, List.setIfInBounds_toArray, List.set_cons_zero, List.set_cons_succ])
            | go_big_quiet_step ((go_at_call 88; exact later_of (HB.out k hlt h3 _ (O.keep.trans (Later.keep _) (by simp))))))
          refine wpQuiet_nil ?_
          intro _ hw
          obtain ⟨p, rfl⟩ := hw
          replace O := O.keeps p.2
          clear c8 ix
          generalize p.1 = W3 at O ⊢
          go_wp2
          go_ret
          exact ⟨by rw [HF.out]; rfl, O.keep⟩
        · have q0 : decide (f (k + 1) < 0) = false := decide_eq_false hx0
          by_cases hx1 : bnd S p (kd o k) ≤ f (k + 1)
          · have q1 : decide (bnd S p (kd o k) ≤ f (k + 1)) = true := decide_eq_true hx1
            have HF := Lib.hid (HE.out k hlt (by rw [HMS.out, decide_eq_false (show ¬ f (k + 1) < bnd S p (kd o k) by omega), Bool.and_false]))
            go_wp2
            refine wp_quiet_later (by kernel_rfl) (by kernel_rfl) ?_
            repeat (first
              | go_big_quiet_skip
              | (refine wpQuiet_load 39 rfl rfl rfl rfl (Later.blk (O.get 2 rfl)) Try.underlying27 rfl (by kernel_rfl) ?_; simp only [Act.put, List.setIfInBounds_toArray, List.set_cons_zero, List.set_cons_succ])
              | go_big_quiet_step ((go_at_call 88; exact later_of (HB.out k hlt h3 _ (O.keep.trans (Later.keep _) (by simp))))))
            refine wpQuiet_nil ?_
            intro _ hw
            obtain ⟨p, rfl⟩ := hw
            replace O := O.keeps p.2
            clear c8 ix
            generalize p.1 = W3 at O ⊢
            go_wp2
            go_ret
            exact ⟨by rw [HF.out]; rfl, O.keep⟩
          · have q1 : decide (bnd S p (kd o k) ≤ f (k + 1)) = false := decide_eq_false hx1
            have HM2 := Lib.hid (show ∀ j, j < k + 1 → mayS S p (f (j + 1)) (kd o j) = true from fun j hj => if h : j = k then (by rw [h, HMS.out, decide_eq_true (by omega), decide_eq_true (by omega)]; rfl) else HM.out j (by omega))
            go_wp2
            refine wp_quiet_later (by kernel_rfl) (by kernel_rfl) ?_
            repeat (first
              | go_big_quiet_skip
              | (refine wpQuiet_load 39 rfl rfl rfl rfl (Later.blk (O.get 2 rfl)) Try.underlying27 rfl (by kernel_rfl) ?_; simp only [Act.put, List.setIfInBounds_toArray, List.set_cons_zero, List.set_cons_succ])
              | go_big_quiet_step ((go_at_call 88; exact later_of (HB.out k hlt h3 _ (O.keep.trans (Later.keep _) (by simp))))))
            refine wpQuiet_nil ?_
            intro _ hw
            obtain ⟨p, rfl⟩ := hw
            replace O := O.keeps p.2
            clear c8 ix
            generalize p.1 = W3 at O ⊢
            go_wp2
            go_roundw
            case rel => exact ⟨k + 1, by omega, by go_num, O, HM2.out⟩
            case measure => (simp [intOf] <;> omega)
    · obtain rfl : k = 3 := by omega
      have HR := HY.out HM.out
      have c5 : wr.cell? ⟨a5, 0, none⟩ = some (.int .i64 (f 0)) := (O.get 1 rfl).cell 0
      have c3 : wr.cell? ⟨a3, 4, none⟩ = some (.int .i64 S.ce) := (O.get 2 rfl).cell 4
      have fin : ∀ b, b = rightS S p f → (Ending.returned (.bool b) = .returned (.bool (rightS S p f)) ∧ Keeps w wr []) := fun b h => ⟨by rw [h], O.keep⟩
      by_cases z : S.ce = 0
      · have z0 : ¬ 0 < S.ce := by omega
        by_cases e12 : f 0 = 12
        · have HG := Lib.hid (fin false (by rw [HR, e12, z]; rfl))
          rw [e12] at c5
          clear HR fin
          go_wp2
          go_ret
          exact HG.out
        · by_cases e13 : f 0 = 13
          · have HG := Lib.hid (fin false (by rw [HR, e13, z]; rfl))
            rw [e13] at c5
            clear HR fin
            go_wp2
            go_ret
            exact HG.out
          · have HG := Lib.hid (fin true (by rw [HR]; simp [e12, e13]))
            clear HR fin
            go_wp2_with (first | go_big_skip)
            go_ret
            exact HG.out
      · have z0 : 0 < S.ce := by omega
        have HG := Lib.hid (fin true (by rw [HR]; simp [z]))
        clear HR fin z hce
        by_cases e12 : f 0 = 12
        · rw [e12] at c5
          go_wp2
          go_ret
          exact HG.out
        · by_cases e13 : f 0 = 13
          · rw [e13] at c5
            go_wp2
            go_ret
            exact HG.out
          · go_wp2_with (first | go_big_skip)
            go_ret
            exact HG.out
/-- quernref13.right, of systems whose number of cells is none below nought. -/
theorem refright_any (f : Nat → Int) (S : Sys) (A : Option Addr) (c : Nat) (R : Option Addr) (d : Nat) (w : World) (p : Nat) (hS : SysIn w S A c R d) (hp : p < S.np) (hl : S.lp p ≤ 256) (hce : 0 ≤ S.ce) :
    Calls Try.prog 54 #[.agg (sysV S A c R d), .int .i64 p, .agg (inst f)] w fun e w' => e = .returned (.bool (rightS S p f)) ∧ Keeps w w' [] := by
  by_cases h1 : f 0 < 1
  · have := refright_low f h1 S A c R d w p
    rwa [show rightS S p f = false by simp [rightS, opOk, show ¬ 1 ≤ f 0 from by omega]]
  by_cases h2 : 17 ≤ f 0
  · have := refright_high f h2 S A c R d w p
    rwa [show rightS S p f = false by simp [rightS, opOk, show ¬ f 0 ≤ 16 from by omega]]
  obtain ⟨o, ho⟩ : ∃ o : Nat, f 0 = (o : Int) := ⟨(f 0).toNat, by omega⟩
  exact refright_good f o (by omega) (by omega) ho S A c R d w p hS hp hl hce
end Go.Proofs.Ytakmcpadkanggaa
