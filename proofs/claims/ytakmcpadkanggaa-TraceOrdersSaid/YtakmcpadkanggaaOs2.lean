/-
  Part 2 of what this claim rests on.
-/
import Derived.Maps.OwnOps
import Derived.Maps.OwnSet
import Derived.Maps.Views
import Derived.Deep.OwnRows
import Derived.Laws.AppendOwnNone
import Derived.Laws.StructEq
import Derived.SizedLaws
import Derived.Great.BuildSlice
import Derived.Test.YtakmcpadkanggaaOs1
namespace Go.Proofs.Ytakmcpadkanggaa
open Go.RowKit
/-- Cells of a row of three integers. -/
def row3 (f : Nat → Int) : Array Value := #[.int .i64 (f 0), .int .i64 (f 1), .int .i64 (f 2)]
theorem row3_get (f : Nat → Int) (k : Nat) (h : k < 3) : (row3 f)[k]? = some (.int .i64 (f k)) := by
  match k, h with
  | 0, _ => rfl
  | 1, _ => rfl
  | 2, _ => rfl
theorem row3_cell (f : Nat → Int) : ∀ v ∈ (row3 f).toList, v.oneCell' = true := by
  intro v hv
  simp only [row3, List.mem_cons, List.not_mem_nil, or_false] at hv
  rcases hv with rfl | rfl | rfl <;> rfl
theorem ix_1_0 (w : World) : (Instr.index 9 (.string (strA 1)) (.int .i64 0)).run Try.prog w = .ok (.int .u8 114) w := by kernel_rfl
theorem ix_1_1 (w : World) : (Instr.index 9 (.string (strA 1)) (.int .i64 1)).run Try.prog w = .ok (.int .u8 120) w := by kernel_rfl
theorem ix_1_2 (w : World) : (Instr.index 9 (.string (strA 1)) (.int .i64 2)).run Try.prog w = .ok (.int .u8 110) w := by kernel_rfl
theorem ix_2_0 (w : World) : (Instr.index 9 (.string (strA 2)) (.int .i64 0)).run Try.prog w = .ok (.int .u8 114) w := by kernel_rfl
theorem ix_2_1 (w : World) : (Instr.index 9 (.string (strA 2)) (.int .i64 1)).run Try.prog w = .ok (.int .u8 114) w := by kernel_rfl
theorem ix_2_2 (w : World) : (Instr.index 9 (.string (strA 2)) (.int .i64 2)).run Try.prog w = .ok (.int .u8 110) w := by kernel_rfl
theorem ix_3_0 (w : World) : (Instr.index 9 (.string (strA 3)) (.int .i64 0)).run Try.prog w = .ok (.int .u8 114) w := by kernel_rfl
theorem ix_3_1 (w : World) : (Instr.index 9 (.string (strA 3)) (.int .i64 1)).run Try.prog w = .ok (.int .u8 114) w := by kernel_rfl
theorem ix_3_2 (w : World) : (Instr.index 9 (.string (strA 3)) (.int .i64 2)).run Try.prog w = .ok (.int .u8 112) w := by kernel_rfl
theorem ix_4_0 (w : World) : (Instr.index 9 (.string (strA 4)) (.int .i64 0)).run Try.prog w = .ok (.int .u8 110) w := by kernel_rfl
theorem ix_4_1 (w : World) : (Instr.index 9 (.string (strA 4)) (.int .i64 1)).run Try.prog w = .ok (.int .u8 110) w := by kernel_rfl
theorem ix_4_2 (w : World) : (Instr.index 9 (.string (strA 4)) (.int .i64 2)).run Try.prog w = .ok (.int .u8 112) w := by kernel_rfl
theorem ix_5_0 (w : World) : (Instr.index 9 (.string (strA 5)) (.int .i64 0)).run Try.prog w = .ok (.int .u8 99) w := by kernel_rfl
theorem ix_5_1 (w : World) : (Instr.index 9 (.string (strA 5)) (.int .i64 1)).run Try.prog w = .ok (.int .u8 114) w := by kernel_rfl
theorem ix_5_2 (w : World) : (Instr.index 9 (.string (strA 5)) (.int .i64 2)).run Try.prog w = .ok (.int .u8 110) w := by kernel_rfl
theorem ix_6_0 (w : World) : (Instr.index 9 (.string (strA 6)) (.int .i64 0)).run Try.prog w = .ok (.int .u8 99) w := by kernel_rfl
theorem ix_6_1 (w : World) : (Instr.index 9 (.string (strA 6)) (.int .i64 1)).run Try.prog w = .ok (.int .u8 114) w := by kernel_rfl
theorem ix_6_2 (w : World) : (Instr.index 9 (.string (strA 6)) (.int .i64 2)).run Try.prog w = .ok (.int .u8 112) w := by kernel_rfl
theorem ix_7_0 (w : World) : (Instr.index 9 (.string (strA 7)) (.int .i64 0)).run Try.prog w = .ok (.int .u8 99) w := by kernel_rfl
theorem ix_7_1 (w : World) : (Instr.index 9 (.string (strA 7)) (.int .i64 1)).run Try.prog w = .ok (.int .u8 110) w := by kernel_rfl
theorem ix_7_2 (w : World) : (Instr.index 9 (.string (strA 7)) (.int .i64 2)).run Try.prog w = .ok (.int .u8 110) w := by kernel_rfl
theorem ix_8_0 (w : World) : (Instr.index 9 (.string (strA 8)) (.int .i64 0)).run Try.prog w = .ok (.int .u8 108) w := by kernel_rfl
theorem ix_8_1 (w : World) : (Instr.index 9 (.string (strA 8)) (.int .i64 1)).run Try.prog w = .ok (.int .u8 110) w := by kernel_rfl
theorem ix_8_2 (w : World) : (Instr.index 9 (.string (strA 8)) (.int .i64 2)).run Try.prog w = .ok (.int .u8 110) w := by kernel_rfl
theorem ix_9_0 (w : World) : (Instr.index 9 (.string (strA 9)) (.int .i64 0)).run Try.prog w = .ok (.int .u8 108) w := by kernel_rfl
theorem ix_9_1 (w : World) : (Instr.index 9 (.string (strA 9)) (.int .i64 1)).run Try.prog w = .ok (.int .u8 110) w := by kernel_rfl
theorem ix_9_2 (w : World) : (Instr.index 9 (.string (strA 9)) (.int .i64 2)).run Try.prog w = .ok (.int .u8 110) w := by kernel_rfl
theorem ix_10_0 (w : World) : (Instr.index 9 (.string (strA 10)) (.int .i64 0)).run Try.prog w = .ok (.int .u8 103) w := by kernel_rfl
theorem ix_10_1 (w : World) : (Instr.index 9 (.string (strA 10)) (.int .i64 1)).run Try.prog w = .ok (.int .u8 120) w := by kernel_rfl
theorem ix_10_2 (w : World) : (Instr.index 9 (.string (strA 10)) (.int .i64 2)).run Try.prog w = .ok (.int .u8 110) w := by kernel_rfl
theorem ix_11_0 (w : World) : (Instr.index 9 (.string (strA 11)) (.int .i64 0)).run Try.prog w = .ok (.int .u8 103) w := by kernel_rfl
theorem ix_11_1 (w : World) : (Instr.index 9 (.string (strA 11)) (.int .i64 1)).run Try.prog w = .ok (.int .u8 110) w := by kernel_rfl
theorem ix_11_2 (w : World) : (Instr.index 9 (.string (strA 11)) (.int .i64 2)).run Try.prog w = .ok (.int .u8 110) w := by kernel_rfl
theorem ix_12_0 (w : World) : (Instr.index 9 (.string (strA 12)) (.int .i64 0)).run Try.prog w = .ok (.int .u8 114) w := by kernel_rfl
theorem ix_12_1 (w : World) : (Instr.index 9 (.string (strA 12)) (.int .i64 1)).run Try.prog w = .ok (.int .u8 114) w := by kernel_rfl
theorem ix_12_2 (w : World) : (Instr.index 9 (.string (strA 12)) (.int .i64 2)).run Try.prog w = .ok (.int .u8 110) w := by kernel_rfl
theorem ix_13_0 (w : World) : (Instr.index 9 (.string (strA 13)) (.int .i64 0)).run Try.prog w = .ok (.int .u8 114) w := by kernel_rfl
theorem ix_13_1 (w : World) : (Instr.index 9 (.string (strA 13)) (.int .i64 1)).run Try.prog w = .ok (.int .u8 114) w := by kernel_rfl
theorem ix_13_2 (w : World) : (Instr.index 9 (.string (strA 13)) (.int .i64 2)).run Try.prog w = .ok (.int .u8 110) w := by kernel_rfl
theorem ix_14_0 (w : World) : (Instr.index 9 (.string (strA 14)) (.int .i64 0)).run Try.prog w = .ok (.int .u8 115) w := by kernel_rfl
theorem ix_14_1 (w : World) : (Instr.index 9 (.string (strA 14)) (.int .i64 1)).run Try.prog w = .ok (.int .u8 110) w := by kernel_rfl
theorem ix_14_2 (w : World) : (Instr.index 9 (.string (strA 14)) (.int .i64 2)).run Try.prog w = .ok (.int .u8 110) w := by kernel_rfl
theorem ix_15_0 (w : World) : (Instr.index 9 (.string (strA 15)) (.int .i64 0)).run Try.prog w = .ok (.int .u8 120) w := by kernel_rfl
theorem ix_15_1 (w : World) : (Instr.index 9 (.string (strA 15)) (.int .i64 1)).run Try.prog w = .ok (.int .u8 114) w := by kernel_rfl
theorem ix_15_2 (w : World) : (Instr.index 9 (.string (strA 15)) (.int .i64 2)).run Try.prog w = .ok (.int .u8 110) w := by kernel_rfl
theorem ix_16_0 (w : World) : (Instr.index 9 (.string (strA 16)) (.int .i64 0)).run Try.prog w = .ok (.int .u8 110) w := by kernel_rfl
theorem ix_16_1 (w : World) : (Instr.index 9 (.string (strA 16)) (.int .i64 1)).run Try.prog w = .ok (.int .u8 110) w := by kernel_rfl
theorem ix_16_2 (w : World) : (Instr.index 9 (.string (strA 16)) (.int .i64 2)).run Try.prog w = .ok (.int .u8 110) w := by kernel_rfl
theorem ix_any (o k : Nat) (h1 : 1 ≤ o) (h2 : o ≤ 16) (hk : k < 3) (w : World) : (Instr.index 9 (.string (strA o)) (.int .i64 (k : Int))).run Try.prog w = .ok (.int .u8 (ltr (kd o k))) w := by
  match o, h1, h2, k, hk with
  | 1, _, _, 0, _ => exact ix_1_0 w
  | 1, _, _, 1, _ => exact ix_1_1 w
  | 1, _, _, 2, _ => exact ix_1_2 w
  | 2, _, _, 0, _ => exact ix_2_0 w
  | 2, _, _, 1, _ => exact ix_2_1 w
  | 2, _, _, 2, _ => exact ix_2_2 w
  | 3, _, _, 0, _ => exact ix_3_0 w
  | 3, _, _, 1, _ => exact ix_3_1 w
  | 3, _, _, 2, _ => exact ix_3_2 w
  | 4, _, _, 0, _ => exact ix_4_0 w
  | 4, _, _, 1, _ => exact ix_4_1 w
  | 4, _, _, 2, _ => exact ix_4_2 w
  | 5, _, _, 0, _ => exact ix_5_0 w
  | 5, _, _, 1, _ => exact ix_5_1 w
  | 5, _, _, 2, _ => exact ix_5_2 w
  | 6, _, _, 0, _ => exact ix_6_0 w
  | 6, _, _, 1, _ => exact ix_6_1 w
  | 6, _, _, 2, _ => exact ix_6_2 w
  | 7, _, _, 0, _ => exact ix_7_0 w
  | 7, _, _, 1, _ => exact ix_7_1 w
  | 7, _, _, 2, _ => exact ix_7_2 w
  | 8, _, _, 0, _ => exact ix_8_0 w
  | 8, _, _, 1, _ => exact ix_8_1 w
  | 8, _, _, 2, _ => exact ix_8_2 w
  | 9, _, _, 0, _ => exact ix_9_0 w
  | 9, _, _, 1, _ => exact ix_9_1 w
  | 9, _, _, 2, _ => exact ix_9_2 w
  | 10, _, _, 0, _ => exact ix_10_0 w
  | 10, _, _, 1, _ => exact ix_10_1 w
  | 10, _, _, 2, _ => exact ix_10_2 w
  | 11, _, _, 0, _ => exact ix_11_0 w
  | 11, _, _, 1, _ => exact ix_11_1 w
  | 11, _, _, 2, _ => exact ix_11_2 w
  | 12, _, _, 0, _ => exact ix_12_0 w
  | 12, _, _, 1, _ => exact ix_12_1 w
  | 12, _, _, 2, _ => exact ix_12_2 w
  | 13, _, _, 0, _ => exact ix_13_0 w
  | 13, _, _, 1, _ => exact ix_13_1 w
  | 13, _, _, 2, _ => exact ix_13_2 w
  | 14, _, _, 0, _ => exact ix_14_0 w
  | 14, _, _, 1, _ => exact ix_14_1 w
  | 14, _, _, 2, _ => exact ix_14_2 w
  | 15, _, _, 0, _ => exact ix_15_0 w
  | 15, _, _, 1, _ => exact ix_15_1 w
  | 15, _, _, 2, _ => exact ix_15_2 w
  | 16, _, _, 0, _ => exact ix_16_0 w
  | 16, _, _, 1, _ => exact ix_16_1 w
  | 16, _, _, 2, _ => exact ix_16_2 w
  | 0, h, _, _, _ => omega
  | n + 17, _, h, _, _ => exact absurd h (by omega)
  | _, _, _, n + 3, h => exact absurd h (by omega)
theorem str_ne (o : Nat) (h1 : 1 ≤ o) (h2 : o ≤ 16) : (strA o).toList.isEmpty = false := by
  have h : ∀ o : Fin 17, 1 ≤ o.1 → (strA o.1).data.toList.isEmpty = false := by decide +kernel
  rw [ByteArray.toList_eq]
  exact h ⟨o, by omega⟩ h1
theorem Later.keep {w : World} (p : Later w) : Keeps w p.1 [] := p.2
theorem ltr_x (k : Nat) (h : k ≤ 7) : ltr k = 120 ↔ k = 3 := by
  have h' : ∀ k : Fin 8, ltr k.1 = 120 ↔ k.1 = 3 := by decide +kernel
  exact h' ⟨k, by omega⟩
set_option maxRecDepth 100000 in
theorem refright_low (f : Nat → Int) (h : f 0 < 1) (S : Sys) (A : Option Addr) (c : Nat) (R : Option Addr) (d : Nat) (w : World) (p : Nat) : Calls Try.prog 54 #[.agg (sysV S A c R d), .int .i64 p, .agg (inst f)] w fun e w' => e = .returned (.bool false) ∧ Keeps w w' [] := by
  have O := Own.start w []
  have HF := fun w => Lib.hid (reffields_low (f 0) h w)
  clear h
  unfold inst sysV
  generalize f 0 = y0 at *
  go_enter Try.func54, Try.ntmps54
  go_wp2_with (first
    | go_big_skip
    | (refine own_box 3 _ O rfl rfl rfl rfl ?_; clear O; intro W a3 O; simp only [Act.put, List.setIfInBounds_toArray, List.set_cons_zero, List.set_cons_succ])
    | (refine own_box 5 _ O rfl rfl rfl rfl ?_; clear O; intro W a5 O; simp only [Act.put, List.setIfInBounds_toArray, List.set_cons_zero, List.set_cons_succ]; have c5 := (O.get 0 rfl).cell)
    | (go_at_call 87; refine ((HF _).out).mono ?_; rintro e W ⟨rfl, K⟩; replace O := O.keeps K; clear K c5; have c5 := (O.get 0 rfl).cell))
  go_ret
  exact ⟨rfl, O.keep⟩
set_option maxRecDepth 100000 in
theorem refright_high (f : Nat → Int) (h : 17 ≤ f 0) (S : Sys) (A : Option Addr) (c : Nat) (R : Option Addr) (d : Nat) (w : World) (p : Nat) : Calls Try.prog 54 #[.agg (sysV S A c R d), .int .i64 p, .agg (inst f)] w fun e w' => e = .returned (.bool false) ∧ Keeps w w' [] := by
  have O := Own.start w []
  have HF := fun w => Lib.hid (reffields_high (f 0) h w)
  clear h
  unfold inst sysV
  generalize f 0 = y0 at *
  go_enter Try.func54, Try.ntmps54
  go_wp2_with (first
    | go_big_skip
    | (refine own_box 3 _ O rfl rfl rfl rfl ?_; clear O; intro W a3 O; simp only [Act.put, List.setIfInBounds_toArray, List.set_cons_zero, List.set_cons_succ])
    | (refine own_box 5 _ O rfl rfl rfl rfl ?_; clear O; intro W a5 O; simp only [Act.put, List.setIfInBounds_toArray, List.set_cons_zero, List.set_cons_succ]; have c5 := (O.get 0 rfl).cell)
    | (go_at_call 87; refine ((HF _).out).mono ?_; rintro e W ⟨rfl, K⟩; replace O := O.keeps K; clear K c5; have c5 := (O.get 0 rfl).cell))
  go_ret
  exact ⟨rfl, O.keep⟩
set_option maxRecDepth 100000 in
set_option maxHeartbeats 800000 in
theorem refright_good (f : Nat → Int) (o : Nat) (h1 : 1 ≤ o) (h2 : o ≤ 16) (ho : f 0 = (o : Int)) (S : Sys) (A : Option Addr) (c : Nat) (R : Option Addr) (d : Nat) (w : World) (p : Nat) (hS : SysIn w S A c R d) (hp : p < S.np) (hl : S.lp p ≤ 256) (hce : 0 ≤ S.ce) :
    Calls Try.prog 54 #[.agg (sysV S A c R d), .int .i64 p, .agg (inst f)] w fun e w' => e = .returned (.bool (rightS S p f)) ∧ Keeps w w' [] := by
  have O := Own.start w []
  have HF : ∀ u, Hid (Calls Try.prog 87 #[.int .i64 (f 0)] u fun e w' => e = .returned (.string (strA o)) ∧ Keeps u w' []) := fun u => Lib.hid (by rw [ho]; exact reffields_any o h1 h2 u)
  have hne := str_ne o h1 h2
  have HX := Lib.hid (fun k hk => ix_any o k h1 h2 hk)
  have HB := Lib.hid (fun k hk h3 u (K : Keeps w u []) => bound_any S A c R d p u (hS.kept K) hp hl (kd o k) (kd_le o k (by omega) hk) h3)
  have HE := Lib.hid (show ∀ j, j < 3 → mayS S p (f (j + 1)) (kd o j) = false → rightS S p f = false from fun j hj hm => by
    unfold rightS
    rw [show (f 0).toNat = o from by omega]
    match j, hj with
    | 0, _ => simp at hm; simp [hm]
    | 1, _ => simp at hm; simp [hm]
    | 2, _ => simp at hm; simp [hm])
  have HY := Lib.hid (show (∀ j, j < 3 → mayS S p (f (j + 1)) (kd o j) = true) → rightS S p f = !((decide (f 0 = 12) || decide (f 0 = 13)) && decide (S.ce = 0)) from fun hm => by
    unfold rightS
    rw [show (f 0).toNat = o from by omega, show opOk (f 0) = true by simp [opOk, show 1 ≤ f 0 from by omega, show f 0 ≤ 16 from by omega]]
    have m0 := hm 0 (by omega)
    have m1 := hm 1 (by omega)
    have m2 := hm 2 (by omega)
    simp only [Nat.zero_add, Nat.reduceAdd] at m0 m1 m2
    simp [m0, m1, m2])
  have HO := Lib.hid ho
  have HK := Lib.hid (fun k hk => kd_le o k (by omega) hk)
  clear hS hp hl ho h1 h2
  generalize strA o = so at *
  go_enter Try.func54, Try.ntmps54
  go_wp2_with (first
    | go_big_skip
    | (refine own_box 3 (sysV S A c R d) O rfl rfl rfl rfl ?_; clear O; intro W a3 O; simp only [Act.put, List.setIfInBounds_toArray, List.set_cons_zero, List.set_cons_succ])
    | (refine own_box 5 (inst f) O rfl rfl rfl rfl ?_; clear O; intro W a5 O; simp only [Act.put, List.setIfInBounds_toArray, List.set_cons_zero, List.set_cons_succ]; have c5 : ∀ i, W.cell? ⟨a5, i, none⟩ = #[Value.int .i64 (f 0), .int .i64 (f 1), .int .i64 (f 2), .int .i64 (f 3)][i]? := (O.get 0 rfl).cell)
    | (go_at_call 87; refine ((HF _).out).mono ?_; rintro e W ⟨rfl, K⟩; replace O := O.keeps K; clear K c5; have c5 : ∀ i, W.cell? ⟨a5, i, none⟩ = #[Value.int .i64 (f 0), .int .i64 (f 1), .int .i64 (f 2), .int .i64 (f 3)][i]? := (O.get 0 rfl).cell)
    | (refine own_alloc 8 (row3 fun _ => 0) O rfl rfl rfl (fun _ => by kernel_rfl) ?_; clear O; intro W a8 O; simp only [Act.put, List.setIfInBounds_toArray, List.set_cons_zero, List.set_cons_succ]; clear c5)
    | (refine own_store_row 0 (.tmp 8) (.tmp 21) (cs' := row3 fun i => f (i + 1)) O rfl rfl rfl rfl rfl rfl (by kernel_rfl) (by rfl) (row3_cell _) ?_; clear O; intro W O; simp only [List.set_cons_zero] at O))
  clear hne
  go_loopw [9] (fun i wr => ∃ k : Nat, k ≤ 3 ∧ i = .int .i64 k ∧ Own w wr [] [(a8, 149, row3 fun i => f (i + 1)), (a5, 99, inst f), (a3, 27, sysV S A c R d)] ∧ ∀ j, j < k → mayS S p (f (j + 1)) (kd o j) = true) (fun i _ => 3 - (intOf i).toNat)
  case atStart => exact ⟨0, by omega, rfl, O, fun j hj => by omega⟩
  case round =>
    obtain ⟨k, hk, rfl, O, hm⟩ := hrel
    have HM := Lib.hid hm
    clear hm
    by_cases hlt : k < 3
    · have g1 : ((k : Int)) < 3 := by omega
      have g0 : (0 : Int) ≤ k := by omega
      have ak := add_zero_ a8 k
      have ix := fun w => HX.out k hlt w
      have c8 : ∀ p : Later wr, p.1.cell? ⟨a8, k, none⟩ = some (.int .i64 (f (k + 1))) := fun p => (Later.cell (O.get 0 rfl) p k).trans (row3_get _ k hlt)
      by_cases h3 : kd o k = 3
      · have hlet : ltr (kd o k) = 120 := (ltr_x _ (HK.out k hlt)).2 h3
        rw [hlet] at ix
        have HM2 := Lib.hid (show ∀ j, j < k + 1 → mayS S p (f (j + 1)) (kd o j) = true from fun j hj => if h : j = k then (by rw [h, h3]; rfl) else HM.out j (by omega))
        clear hlet h3
        go_wp2
        refine wp_quiet_later (by kernel_rfl) (by kernel_rfl) ?_
        repeat (first
          | go_big_quiet_skip
          | (refine wpQuiet_load 39 rfl rfl rfl rfl (Later.blk (O.get 2 rfl)) Try.underlying27 rfl (by kernel_rfl) ?_; simp only [Act.put, List.setIfInBounds_toArray, List.set_cons_zero, List.set_cons_succ])
          | go_big_quiet_step ((go_at_call 88; exact later_of (HB.out k hlt h3 _ (O.keep.trans (Later.keep _) (by simp))))))
        refine wpQuiet_nil ?_
        intro _ hw
        obtain ⟨p, rfl⟩ := hw
        replace O := O.keeps p.2
        clear c8 ix
        generalize p.1 = W3 at O ⊢
        go_wp2
        go_roundw
        case rel => exact ⟨k + 1, by omega, by go_num, O, HM2.out⟩
        case measure => (simp [intOf] <;> omega)
      · have hlet : ¬ ltr (kd o k) = 120 := fun h => h3 ((ltr_x _ (HK.out k hlt)).1 h)
        have hnl : (ltr (kd o k) != 120) = true := by simpa using hlet
        have hms : mayS S p (f (k + 1)) (kd o k) = (decide (0 ≤ f (k + 1)) && decide (f (k + 1) < bnd S p (kd o k))) := by simp [mayS, h3]
        have HMS := Lib.hid hms
        clear hms
        by_cases hx0 : f (k + 1) < 0
        · have HF := Lib.hid (HE.out k hlt (by rw [HMS.out, decide_eq_false (by omega), Bool.false_and]))
          go_wp2
          refine wp_quiet_later (by kernel_rfl) (by kernel_rfl) ?_
          repeat (first
            | go_big_quiet_skip
            | (refine wpQuiet_load 39 rfl rfl rfl rfl (Later.blk (O.get 2 rfl)) Try.underlying27 rfl (by kernel_rfl) ?_; simp only [Act.put, List.setIfInBounds_toArray, List.set_cons_zero, List.set_cons_succ])
            | go_big_quiet_step ((go_at_call 88; exact later_of (HB.out k hlt h3 _ (O.keep.trans (Later.keep _) (by simp))))))
          refine wpQuiet_nil ?_
          intro _ hw
          obtain ⟨p, rfl⟩ := hw
          replace O := O.keeps p.2
          clear c8 ix
          generalize p.1 = W3 at O ⊢
          go_wp2
          go_ret
          exact ⟨by rw [HF.out]; rfl, O.keep⟩
        · have q0 : decide (f (k + 1) < 0) = false := decide_eq_false hx0
          by_cases hx1 : bnd S p (kd o k) ≤ f (k + 1)
          · have q1 : decide (bnd S p (kd o k) ≤ f (k + 1)) = true := decide_eq_true hx1
            have HF := Lib.hid (HE.out k hlt (by rw [HMS.out, decide_eq_false (show ¬ f (k + 1) < bnd S p (kd o k) by omega), Bool.and_false]))
            go_wp2
            refine wp_quiet_later (by kernel_rfl) (by kernel_rfl) ?_
            repeat (first
              | go_big_quiet_skip
              | (refine wpQuiet_load 39 rfl rfl rfl rfl (Later.blk (O.get 2 rfl)) Try.underlying27 rfl (by kernel_rfl) ?_; simp only [Act.put, List.setIfInBounds_toArray, List.set_cons_zero, List.set_cons_succ])
              | go_big_quiet_step ((go_at_call 88; exact later_of (HB.out k hlt h3 _ (O.keep.trans (Later.keep _) (by simp))))))
            refine wpQuiet_nil ?_
            intro _ hw
            obtain ⟨p, rfl⟩ := hw
            replace O := O.keeps p.2
            clear c8 ix
            generalize p.1 = W3 at O ⊢
            go_wp2
            go_ret
            exact ⟨by rw [HF.out]; rfl, O.keep⟩
          · have q1 : decide (bnd S p (kd o k) ≤ f (k + 1)) = false := decide_eq_false hx1
            have HM2 := Lib.hid (show ∀ j, j < k + 1 → mayS S p (f (j + 1)) (kd o j) = true from fun j hj => if h : j = k then (by rw [h, HMS.out, decide_eq_true (by omega), decide_eq_true (by omega)]; rfl) else HM.out j (by omega))
            go_wp2
            refine wp_quiet_later (by kernel_rfl) (by kernel_rfl) ?_
            repeat (first
              | go_big_quiet_skip
              | (refine wpQuiet_load 39 rfl rfl rfl rfl (Later.blk (O.get 2 rfl)) Try.underlying27 rfl (by kernel_rfl) ?_; simp only [Act.put, List.setIfInBounds_toArray, List.set_cons_zero, List.set_cons_succ])
              | go_big_quiet_step ((go_at_call 88; exact later_of (HB.out k hlt h3 _ (O.keep.trans (Later.keep _) (by simp))))))
            refine wpQuiet_nil ?_
            intro _ hw
            obtain ⟨p, rfl⟩ := hw
            replace O := O.keeps p.2
            clear c8 ix
            generalize p.1 = W3 at O ⊢
            go_wp2
            go_roundw
            case rel => exact ⟨k + 1, by omega, by go_num, O, HM2.out⟩
            case measure => (simp [intOf] <;> omega)
    · obtain rfl : k = 3 := by omega
      have HR := HY.out HM.out
      have c5 : wr.cell? ⟨a5, 0, none⟩ = some (.int .i64 (f 0)) := (O.get 1 rfl).cell 0
      have c3 : wr.cell? ⟨a3, 4, none⟩ = some (.int .i64 S.ce) := (O.get 2 rfl).cell 4
      have fin : ∀ b, b = rightS S p f → (Ending.returned (.bool b) = .returned (.bool (rightS S p f)) ∧ Keeps w wr []) := fun b h => ⟨by rw [h], O.keep⟩
      by_cases z : S.ce = 0
      · have z0 : ¬ 0 < S.ce := by omega
        by_cases e12 : f 0 = 12
        · have HG := Lib.hid (fin false (by rw [HR, e12, z]; rfl))
          rw [e12] at c5
          clear HR fin
          go_wp2
          go_ret
          exact HG.out
        · by_cases e13 : f 0 = 13
          · have HG := Lib.hid (fin false (by rw [HR, e13, z]; rfl))
            rw [e13] at c5
            clear HR fin
            go_wp2
            go_ret
            exact HG.out
          · have HG := Lib.hid (fin true (by rw [HR]; simp [e12, e13]))
            clear HR fin
            go_wp2_with (first | go_big_skip)
            go_ret
            exact HG.out
      · have z0 : 0 < S.ce := by omega
        have HG := Lib.hid (fin true (by rw [HR]; simp [z]))
        clear HR fin z hce
        by_cases e12 : f 0 = 12
        · rw [e12] at c5
          go_wp2
          go_ret
          exact HG.out
        · by_cases e13 : f 0 = 13
          · rw [e13] at c5
            go_wp2
            go_ret
            exact HG.out
          · go_wp2_with (first | go_big_skip)
            go_ret
            exact HG.out
/-- quernref13.right, of systems whose number of cells is none below nought. -/
theorem refright_any (f : Nat → Int) (S : Sys) (A : Option Addr) (c : Nat) (R : Option Addr) (d : Nat) (w : World) (p : Nat) (hS : SysIn w S A c R d) (hp : p < S.np) (hl : S.lp p ≤ 256) (hce : 0 ≤ S.ce) :
    Calls Try.prog 54 #[.agg (sysV S A c R d), .int .i64 p, .agg (inst f)] w fun e w' => e = .returned (.bool (rightS S p f)) ∧ Keeps w w' [] := by
  by_cases h1 : f 0 < 1
  · have := refright_low f h1 S A c R d w p
    rwa [show rightS S p f = false by simp [rightS, opOk, show ¬ 1 ≤ f 0 from by omega]]
  by_cases h2 : 17 ≤ f 0
  · have := refright_high f h2 S A c R d w p
    rwa [show rightS S p f = false by simp [rightS, opOk, show ¬ f 0 ≤ 16 from by omega]]
  obtain ⟨o, ho⟩ : ∃ o : Nat, f 0 = (o : Int) := ⟨(f 0).toNat, by omega⟩
  exact refright_good f o (by omega) (by omega) ho S A c R d w p hS hp hl hce
end Go.Proofs.Ytakmcpadkanggaa
namespace Go.Proofs.Ytakmcpadkanggaa
open Go.RowKit
/-- A row of cells at any address, loaded in every world of a class that has them. -/
theorem wpQuiet_load_at {P : Program} {ops : Array Oper} {C : World → Prop} {Q : Act → Prop} {a : Act} {o : Oper} {rest : List Oper} {ty : TypeId} {ad : Addr} {cs : Array Value} {x : Operand} {d : TypeDesc} (n : Nat) (_hd : o.dst = some n)
    (hw : Region.wanted o (yielded ops a.tmps) = true) (ho : o.op = .load ty x) (hx : a.eval x = .pointer (some ad)) (hc : ∀ w, C w → ∀ j, j < cs.size → w.cell? (ad.add j) = cs[j]?)
    (hu : P.underlying ty = some d) (hd : d.isRow = true) (hi : (P.info? ty).map (·.size) = some cs.size)
    (h : wpQuiet P ops C Q rest (a.put o.dst (.agg cs))) : wpQuiet P ops C Q (o :: rest) a :=
  wpQuiet_at n (.agg cs) _hd hw (fun w hC => by
    have hl : (loadCells ad cs.size).run P w = .ok cs w := by
      have := run_loadCells_list (P := P) w ad cs.toList (fun j v hv => by
        have hj : j < cs.size := by
          rcases Nat.lt_or_ge j cs.size with h1 | h1
          · exact h1
          · rw [List.getElem?_eq_none (by simpa using h1)] at hv; cases hv
        rw [hc w hC j hj, ← hv, Array.getElem?_toList])
      simpa using this
    have hr : (loadVar ty ad).run P w = .ok (.agg cs) w := by
      cases hq : P.info? ty with
      | none => simp [hq] at hi
      | some i =>
        have hs : i.size = cs.size := by simpa [hq] using hi
        have hagg : (isAgg ty).run P w = .ok true w := by
          unfold isAgg
          rw [Sem.run_bind, run_underlying hu w]
          cases d <;> simp_all
        simp [loadVar, Sem.run_bind, hagg, sizeOf, typeInfo, hq, hs, hl]
    unfold execOp
    simp only [ho, hx, Instr.loadAt, Instr.sureAddr, Sem.run_bind, Sem.run_pure, Result.andThen_ok, hr]) h
section
variable {S : Sys} {A : Option Addr} {c : Nat} {R : Option Addr} {d : Nat} {w : World}
set_option maxRecDepth 100000 in
theorem rhead_0  (g0 : (S.np : Int) < 1) : Calls Try.prog 23 #[.agg (sysV S A c R d)] w fun e w' => e = .returned (.bool false) ∧ Keeps w w' [] := by
  have O := Own.start w []
  unfold sysV
  go_enter Try.func23, Try.ntmps23
  go_wp2_with (first
    | go_big_skip
    | (refine own_box 1 _ O rfl rfl rfl rfl ?_; clear O; intro W a1 O; simp only [Act.put, List.setIfInBounds_toArray, List.set_cons_zero, List.set_cons_succ]; have c1 := (O.get 0 rfl).cell))
  go_ret
  exact ⟨rfl, O.keep⟩
set_option maxRecDepth 100000 in
theorem rhead_1 (g0 : ¬ (S.np : Int) < 1) (g1 : 64 < (S.np : Int)) : Calls Try.prog 23 #[.agg (sysV S A c R d)] w fun e w' => e = .returned (.bool false) ∧ Keeps w w' [] := by
  have O := Own.start w []
  unfold sysV
  go_enter Try.func23, Try.ntmps23
  go_wp2_with (first
    | go_big_skip
    | (refine own_box 1 _ O rfl rfl rfl rfl ?_; clear O; intro W a1 O; simp only [Act.put, List.setIfInBounds_toArray, List.set_cons_zero, List.set_cons_succ]; have c1 := (O.get 0 rfl).cell))
  go_ret
  exact ⟨rfl, O.keep⟩
set_option maxRecDepth 100000 in
theorem rhead_2 (g0 : ¬ (S.np : Int) < 1) (g1 : ¬ 64 < (S.np : Int)) (g2 : 64 < (S.nr : Int)) : Calls Try.prog 23 #[.agg (sysV S A c R d)] w fun e w' => e = .returned (.bool false) ∧ Keeps w w' [] := by
  have O := Own.start w []
  unfold sysV
  go_enter Try.func23, Try.ntmps23
  go_wp2_with (first
    | go_big_skip
    | (refine own_box 1 _ O rfl rfl rfl rfl ?_; clear O; intro W a1 O; simp only [Act.put, List.setIfInBounds_toArray, List.set_cons_zero, List.set_cons_succ]; have c1 := (O.get 0 rfl).cell))
  go_ret
  exact ⟨rfl, O.keep⟩
set_option maxRecDepth 100000 in
theorem rhead_3 (g0 : ¬ (S.np : Int) < 1) (g1 : ¬ 64 < (S.np : Int)) (g2 : ¬ 64 < (S.nr : Int)) (g3 : S.gr < 0) : Calls Try.prog 23 #[.agg (sysV S A c R d)] w fun e w' => e = .returned (.bool false) ∧ Keeps w w' [] := by
  have O := Own.start w []
  unfold sysV
  go_enter Try.func23, Try.ntmps23
  go_wp2_with (first
    | go_big_skip
    | (refine own_box 1 _ O rfl rfl rfl rfl ?_; clear O; intro W a1 O; simp only [Act.put, List.setIfInBounds_toArray, List.set_cons_zero, List.set_cons_succ]; have c1 := (O.get 0 rfl).cell))
  go_ret
  exact ⟨rfl, O.keep⟩
set_option maxRecDepth 100000 in
theorem rhead_4 (g0 : ¬ (S.np : Int) < 1) (g1 : ¬ 64 < (S.np : Int)) (g2 : ¬ 64 < (S.nr : Int)) (g3 : ¬ S.gr < 0) (g4 : 64 < S.gr) : Calls Try.prog 23 #[.agg (sysV S A c R d)] w fun e w' => e = .returned (.bool false) ∧ Keeps w w' [] := by
  have O := Own.start w []
  unfold sysV
  go_enter Try.func23, Try.ntmps23
  go_wp2_with (first
    | go_big_skip
    | (refine own_box 1 _ O rfl rfl rfl rfl ?_; clear O; intro W a1 O; simp only [Act.put, List.setIfInBounds_toArray, List.set_cons_zero, List.set_cons_succ]; have c1 := (O.get 0 rfl).cell))
  go_ret
  exact ⟨rfl, O.keep⟩
set_option maxRecDepth 100000 in
theorem rhead_5 (g0 : ¬ (S.np : Int) < 1) (g1 : ¬ 64 < (S.np : Int)) (g2 : ¬ 64 < (S.nr : Int)) (g3 : ¬ S.gr < 0) (g4 : ¬ 64 < S.gr) (g5 : S.lk < 0) : Calls Try.prog 23 #[.agg (sysV S A c R d)] w fun e w' => e = .returned (.bool false) ∧ Keeps w w' [] := by
  have O := Own.start w []
  unfold sysV
  go_enter Try.func23, Try.ntmps23
  go_wp2_with (first
    | go_big_skip
    | (refine own_box 1 _ O rfl rfl rfl rfl ?_; clear O; intro W a1 O; simp only [Act.put, List.setIfInBounds_toArray, List.set_cons_zero, List.set_cons_succ]; have c1 := (O.get 0 rfl).cell))
  go_ret
  exact ⟨rfl, O.keep⟩
set_option maxRecDepth 100000 in
theorem rhead_6 (g0 : ¬ (S.np : Int) < 1) (g1 : ¬ 64 < (S.np : Int)) (g2 : ¬ 64 < (S.nr : Int)) (g3 : ¬ S.gr < 0) (g4 : ¬ 64 < S.gr) (g5 : ¬ S.lk < 0) (g6 : 64 < S.lk) : Calls Try.prog 23 #[.agg (sysV S A c R d)] w fun e w' => e = .returned (.bool false) ∧ Keeps w w' [] := by
  have O := Own.start w []
  unfold sysV
  go_enter Try.func23, Try.ntmps23
  go_wp2_with (first
    | go_big_skip
    | (refine own_box 1 _ O rfl rfl rfl rfl ?_; clear O; intro W a1 O; simp only [Act.put, List.setIfInBounds_toArray, List.set_cons_zero, List.set_cons_succ]; have c1 := (O.get 0 rfl).cell))
  go_ret
  exact ⟨rfl, O.keep⟩
set_option maxRecDepth 100000 in
theorem rhead_7 (g0 : ¬ (S.np : Int) < 1) (g1 : ¬ 64 < (S.np : Int)) (g2 : ¬ 64 < (S.nr : Int)) (g3 : ¬ S.gr < 0) (g4 : ¬ 64 < S.gr) (g5 : ¬ S.lk < 0) (g6 : ¬ 64 < S.lk) (g7 : S.ce < 0) : Calls Try.prog 23 #[.agg (sysV S A c R d)] w fun e w' => e = .returned (.bool false) ∧ Keeps w w' [] := by
  have O := Own.start w []
  unfold sysV
  go_enter Try.func23, Try.ntmps23
  go_wp2_with (first
    | go_big_skip
    | (refine own_box 1 _ O rfl rfl rfl rfl ?_; clear O; intro W a1 O; simp only [Act.put, List.setIfInBounds_toArray, List.set_cons_zero, List.set_cons_succ]; have c1 := (O.get 0 rfl).cell))
  go_ret
  exact ⟨rfl, O.keep⟩
set_option maxRecDepth 100000 in
theorem rhead_8 (g0 : ¬ (S.np : Int) < 1) (g1 : ¬ 64 < (S.np : Int)) (g2 : ¬ 64 < (S.nr : Int)) (g3 : ¬ S.gr < 0) (g4 : ¬ 64 < S.gr) (g5 : ¬ S.lk < 0) (g6 : ¬ 64 < S.lk) (g7 : ¬ S.ce < 0) (g8 : 64 < S.ce) : Calls Try.prog 23 #[.agg (sysV S A c R d)] w fun e w' => e = .returned (.bool false) ∧ Keeps w w' [] := by
  have O := Own.start w []
  unfold sysV
  go_enter Try.func23, Try.ntmps23
  go_wp2_with (first
    | go_big_skip
    | (refine own_box 1 _ O rfl rfl rfl rfl ?_; clear O; intro W a1 O; simp only [Act.put, List.setIfInBounds_toArray, List.set_cons_zero, List.set_cons_succ]; have c1 := (O.get 0 rfl).cell))
  go_ret
  exact ⟨rfl, O.keep⟩
set_option maxRecDepth 100000 in
set_option maxHeartbeats 4000000 in
theorem rbody (hh : headB S = true) (hS : SysIn w S A c R d) : Calls Try.prog 23 #[.agg (sysV S A c R d)] w fun e w' => e = .returned (.bool (validB S)) ∧ Keeps w w' [] := by
  have O := Own.start w []
  obtain ⟨h0, h1, h2, h3, h4, h5⟩ := (headB_iff S).1 hh
  simp only [shB, Bool.and_eq_true, decide_eq_true_eq] at h3 h4 h5
  have HR := Lib.hid (fun (p : Nat) (hp : p < S.np) (hl : S.lp p ≤ 256) (i : Nat) (u : World) (k : Keeps w u []) => refright_any (S.q p i) S A c R d u p (hS.kept k) hp hl h5.1)
  have HP := Lib.hid hS.progs
  have HI := Lib.hid hS.rooms
  have HH := Lib.hid hh
  clear hS hh
  have g0 : ¬ (S.np : Int) < 1 := by omega
  have g1 : ¬ 64 < (S.np : Int) := by omega
  have g2 : ¬ 64 < (S.nr : Int) := by omega
  have g3 : ¬ S.gr < 0 := by omega
  have g4 : ¬ 64 < S.gr := by omega
  have g5 : ¬ S.lk < 0 := by omega
  have g6 : ¬ 64 < S.lk := by omega
  have g7 : ¬ S.ce < 0 := by omega
  have g8 : ¬ 64 < S.ce := by omega
  clear h0 h3 h4 h5
  unfold sysV at HR ⊢
  go_enter Try.func23, Try.ntmps23
  go_wp2_with (first
    | go_big_skip
    | (refine own_box 1 _ O rfl rfl rfl rfl ?_; clear O; intro W a1 O; simp only [Act.put, List.setIfInBounds_toArray, List.set_cons_zero, List.set_cons_succ]; have c1 := (O.get 0 rfl).cell))
  clear c1 g0 g1 g2 g3 g4 g5 g6 g7 g8
  go_loopw [3] (fun i wr => ∃ k : Nat, k ≤ S.nr ∧ i = .int .i64 k ∧ Own w wr [] [(a1, 27, #[.slice A S.np c, .slice R S.nr d, .int .i64 S.gr, .int .i64 S.lk, .int .i64 S.ce])] ∧ ∀ j, j < k → roomB (S.rm j) = true) (fun i _ => S.nr - (intOf i).toNat)
  case atStart => exact ⟨0, by omega, rfl, O, fun j hj => by omega⟩
  case round =>
    obtain ⟨k, hk, rfl, O, hm⟩ := hrel
    have HM := Lib.hid hm
    clear hm
    have c1 := (O.get 0 rfl).cell
    by_cases hlt : k < S.nr
    · have g2 : ((k : Int)) < S.nr := by omega
      have g3 : (0 : Int) ≤ k := by omega
      obtain ⟨ad, rfl, hb, hc⟩ := HI.out (by omega)
      have ck : wr.cell? (ad.add k) = some (.int .i64 (S.rm k)) := (O.keep.cellAt (by rw [add_block]; exact hb) (by simp)).trans (hc k hlt)
      clear hc hb
      generalize hx : S.rm k = x at ck
      by_cases hr1 : x < 1
      · have HF := Lib.hid (validB_room k hlt (by rw [hx]; simp [roomB]; omega))
        clear hx
        go_wp2
        go_ret
        exact ⟨by rw [HF.out]; rfl, O.keep⟩
      · by_cases hr2 : 1024 < x
        · have HF := Lib.hid (validB_room k hlt (by rw [hx]; simp [roomB]; omega))
          clear hx
          go_wp2
          go_ret
          exact ⟨by rw [HF.out]; rfl, O.keep⟩
        · have HM2 := Lib.hid (show ∀ j, j < k + 1 → roomB (S.rm j) = true from fun j hj => if h : j = k then (by rw [h, hx]; simp [roomB]; omega) else HM.out j (by omega))
          clear hx
          go_wp2
          clear ck hr1 hr2
          go_roundw
          case rel => exact ⟨k + 1, by omega, by go_num, O, HM2.out⟩
          case measure => (simp [intOf] <;> omega)
    · obtain rfl : k = S.nr := by omega
      go_wp2
      clear c1
      go_loopw [4] (fun i wr => ∃ p : Nat, p ≤ S.np ∧ i = .int .i64 p ∧ Own w wr [] [(a1, 27, #[.slice A S.np c, .slice R S.nr d, .int .i64 S.gr, .int .i64 S.lk, .int .i64 S.ce])] ∧ ∀ j, j < p → progB S j = true) (fun i _ => S.np - (intOf i).toNat)
      case atStart => exact ⟨0, by omega, rfl, O, fun j hj => by omega⟩
      case round =>
        obtain ⟨p, hp, rfl, O, hm⟩ := hrel
        have HN := Lib.hid hm
        clear hm
        have c1 := (O.get 0 rfl).cell
        by_cases hlt : p < S.np
        · have g2 : ((p : Int)) < S.np := by omega
          have g3 : (0 : Int) ≤ p := by omega
          obtain ⟨ad, rfl, hb, hc⟩ := HP.out (by omega)
          obtain ⟨B, cb, hcell, hle, hmax, hI⟩ := hc p hlt
          have HCP := Lib.hid (show ∀ u, Keeps w u [] → u.cell? (ad.add p) = some (.slice B (S.lp p) cb) from fun u ku => (ku.cellAt (by rw [add_block]; exact hb) (by simp)).trans hcell)
          have cp := HCP.out _ O.keep
          have HI2 := Lib.hid hI
          clear hc hb hcell hI
          by_cases hl : 256 < S.lp p
          · have HF := Lib.hid (validB_long p hlt hl)
            have g4 : 256 < (S.lp p : Int) := by omega
            go_wp2
            go_ret
            exact ⟨by rw [HF.out]; rfl, O.keep⟩
          · have g4 : ¬ 256 < (S.lp p : Int) := by omega
            have HR2 := Lib.hid (HR.out p hlt (by omega))
            generalize hn : S.lp p = n at cp g4 HCP
            have HNn := Lib.hid hn
            go_wp2
            clear cp c1
            go_loopw [5] (fun i wr => ∃ j : Nat, j ≤ n ∧ i = .int .i64 j ∧ Own w wr [] [(a1, 27, #[.slice (some ad) S.np c, .slice R S.nr d, .int .i64 S.gr, .int .i64 S.lk, .int .i64 S.ce])] ∧ ∀ i, i < j → rightS S p (S.q p i) = true) (fun i _ => n - (intOf i).toNat)
            case atStart => exact ⟨0, by omega, rfl, O, fun j hj => by omega⟩
            case round =>
              obtain ⟨j, hj, rfl, O, hm⟩ := hrel
              have HQ := Lib.hid hm
              clear hm
              by_cases hjn : j < n
              · have g5 : ((j : Int)) < n := by omega
                have g6 : (0 : Int) ≤ j := by omega
                obtain ⟨be, rfl, hb, hc⟩ := HI2.out (by omega)
                have HC := Lib.hid (show ∀ u, Keeps w u [] → ∀ i, i < (inst (S.q p j)).size → u.cell? ((be.add (j * 4)).add i) = (inst (S.q p j))[i]? from fun u ku i hi => by
                  have hi' : i < 4 := hi
                  rw [Addr.add_add, ku.cellAt (by rw [add_block]; exact hb) (by simp), hc j i (by omega) hi']
                  match i, hi' with
                  | 0, _ => rfl
                  | 1, _ => rfl
                  | 2, _ => rfl
                  | 3, _ => rfl)
                clear hc hb
                cases hb : rightS S p (S.q p j) with
                | false =>
                  have HRj : ∀ u, Keeps w u [] → Hid (Calls Try.prog 54 #[.agg #[.slice (some ad) S.np c, .slice R S.nr d, .int .i64 S.gr, .int .i64 S.lk, .int .i64 S.ce], .int .i64 p, .agg (inst (S.q p j))] u fun e w' => e = .returned (.bool false) ∧ Keeps u w' []) := fun u k => Lib.hid (by have := HR2.out j u k; rwa [hb] at this)
                  have HF := Lib.hid (validB_inst p j hlt (by rw [HNn.out]; exact hjn) hb)
                  clear hb
                  have c1 := (O.get 0 rfl).cell
                  have cp := HCP.out _ O.keep
                  go_wp2
                  clear c1 cp
                  have c1 := Later.cell (O.get 0 rfl)
                  have cp : ∀ p' : Later wr, p'.1.cell? (ad.add p) = some (.slice (some be) n cb) := fun p' => HCP.out _ (O.keep.trans p'.2 (by simp))
                  refine wp_quiet_later (by kernel_rfl) (by kernel_rfl) ?_
                  repeat (first
                    | (refine wpQuiet_load 95 rfl rfl rfl rfl (Later.blk (O.get 0 rfl)) Try.underlying27 rfl (by kernel_rfl) ?_; simp only [Act.put, List.setIfInBounds_toArray, List.set_cons_zero, List.set_cons_succ])
                    | (refine wpQuiet_load_at 104 rfl rfl rfl rfl (fun u hu => HC.out u (by obtain ⟨p', rfl⟩ := hu; exact O.keep.trans p'.2 (by simp))) Try.underlying99 rfl (by kernel_rfl) ?_; simp only [Act.put, List.setIfInBounds_toArray, List.set_cons_zero, List.set_cons_succ])
                    | go_big_quiet_step ((go_at_call 54; exact later_of (HRj _ (O.keep.trans (Later.keep _) (by simp))).out)))
                  refine wpQuiet_nil ?_
                  intro _ hw
                  obtain ⟨p', rfl⟩ := hw
                  replace O := O.keeps p'.2
                  clear c1 cp
                  generalize p'.1 = W3 at O ⊢
                  go_wp2
                  go_ret
                  exact ⟨by rw [HF.out]; rfl, O.keep⟩
                | true =>
                  have HRj : ∀ u, Keeps w u [] → Hid (Calls Try.prog 54 #[.agg #[.slice (some ad) S.np c, .slice R S.nr d, .int .i64 S.gr, .int .i64 S.lk, .int .i64 S.ce], .int .i64 p, .agg (inst (S.q p j))] u fun e w' => e = .returned (.bool true) ∧ Keeps u w' []) := fun u k => Lib.hid (by have := HR2.out j u k; rwa [hb] at this)
                  have HQ2 := Lib.hid (show ∀ i, i < j + 1 → rightS S p (S.q p i) = true from fun i hi => if h : i = j then (by rw [h]; exact hb) else HQ.out i (by omega))
                  clear hb
                  have c1 := (O.get 0 rfl).cell
                  have cp := HCP.out _ O.keep
                  go_wp2
                  clear c1 cp
                  have c1 := Later.cell (O.get 0 rfl)
                  have cp : ∀ p' : Later wr, p'.1.cell? (ad.add p) = some (.slice (some be) n cb) := fun p' => HCP.out _ (O.keep.trans p'.2 (by simp))
                  refine wp_quiet_later (by kernel_rfl) (by kernel_rfl) ?_
                  repeat (first
                    | (refine wpQuiet_load 95 rfl rfl rfl rfl (Later.blk (O.get 0 rfl)) Try.underlying27 rfl (by kernel_rfl) ?_; simp only [Act.put, List.setIfInBounds_toArray, List.set_cons_zero, List.set_cons_succ])
                    | (refine wpQuiet_load_at 104 rfl rfl rfl rfl (fun u hu => HC.out u (by obtain ⟨p', rfl⟩ := hu; exact O.keep.trans p'.2 (by simp))) Try.underlying99 rfl (by kernel_rfl) ?_; simp only [Act.put, List.setIfInBounds_toArray, List.set_cons_zero, List.set_cons_succ])
                    | go_big_quiet_step ((go_at_call 54; exact later_of (HRj _ (O.keep.trans (Later.keep _) (by simp))).out)))
                  refine wpQuiet_nil ?_
                  intro _ hw
                  obtain ⟨p', rfl⟩ := hw
                  replace O := O.keeps p'.2
                  clear c1 cp
                  generalize p'.1 = W3 at O ⊢
                  go_wp2
                  go_roundw
                  case rel => exact ⟨j + 1, by omega, by go_num, O, HQ2.out⟩
                  case measure => (simp [intOf] <;> omega)
              · obtain rfl : j = n := by omega
                have HN2 := Lib.hid (show ∀ i, i < p + 1 → progB S i = true from fun i hi => if h : i = p then (by
                    rw [h]
                    simp only [progB, List.all_eq_true, List.mem_range, Bool.and_eq_true, decide_eq_true_eq]
                    exact ⟨by have := HNn.out; omega, fun x hx => HQ.out x (by rw [HNn.out] at hx; exact hx)⟩) else HN.out i (by omega))
                have c1 := (O.get 0 rfl).cell
                have cp := HCP.out _ O.keep
                go_wp2
                clear c1 cp
                go_roundw
                case rel => exact ⟨p + 1, by omega, by go_num, O, HN2.out⟩
                case measure => (simp [intOf] <;> omega)
        · obtain rfl : p = S.np := by omega
          have HF := Lib.hid ((validB_iff S).2 ⟨HH.out, HM.out, fun p hp => by
            have := HN.out p hp
            simpa [progB, List.all_eq_true] using this⟩)
          go_wp2
          go_ret
          exact ⟨by rw [HF.out]; rfl, O.keep⟩
/-- quernref13.Valid. -/
theorem refvalid_any (hS : SysIn w S A c R d) : Calls Try.prog 23 #[.agg (sysV S A c R d)] w fun e w' => e = .returned (.bool (validB S)) ∧ Keeps w w' [] := by
  cases hh : headB S with
  | true => exact rbody hh hS
  | false =>
    rw [validB_bad hh]
    by_cases g0 : (S.np : Int) < 1
    · exact rhead_0 g0
    by_cases g1 : 64 < (S.np : Int)
    · exact rhead_1 g0 g1
    by_cases g2 : 64 < (S.nr : Int)
    · exact rhead_2 g0 g1 g2
    by_cases g3 : S.gr < 0
    · exact rhead_3 g0 g1 g2 g3
    by_cases g4 : 64 < S.gr
    · exact rhead_4 g0 g1 g2 g3 g4
    by_cases g5 : S.lk < 0
    · exact rhead_5 g0 g1 g2 g3 g4 g5
    by_cases g6 : 64 < S.lk
    · exact rhead_6 g0 g1 g2 g3 g4 g5 g6
    by_cases g7 : S.ce < 0
    · exact rhead_7 g0 g1 g2 g3 g4 g5 g6 g7
    by_cases g8 : 64 < S.ce
    · exact rhead_8 g0 g1 g2 g3 g4 g5 g6 g7 g8
    rw [(headB_iff S).2 ⟨by omega, by omega, by omega, by simp [shB]; omega, by simp [shB]; omega, by simp [shB]; omega⟩] at hh
    cases hh
end
end Go.Proofs.Ytakmcpadkanggaa
namespace Go.Proofs.Ytakmcpadkanggaa
open Go.RowKit Go.Maps
theorem key3 : Keyed Try.prog 3 := int_keyed Try.underlying3
theorem zero3 (w : World) : (zeroValue 3).run Try.prog w = .ok (.int .i64 0) w := by kernel_rfl
theorem zero4 (w : World) : (zeroValue 4).run Try.prog w = .ok (.bool false) w := by kernel_rfl
/-- One place anew. -/
def updI {α : Type} (f : Int → α) (i : Int) (x : α) : Int → α := fun j => if j = i then x else f j
@[simp] theorem updI_same {α : Type} (f : Int → α) (i : Int) (x : α) : updI f i x i = x := by simp [updI]
theorem updI_other {α : Type} (f : Int → α) (i j : Int) (x : α) (h : j ≠ i) : updI f i x j = f j := by simp [updI, h]
/-- Block b is a map of at most n integers, by integers: what it gives at each. -/
def MapI (w : World) (b n : Nat) (f : Int → Int) : Prop := ∃ D : DataW Unit, w.ownsMap Try.prog 3 (plainElem Try.prog 3) b n D ∧ ∀ k, D.atKey (.int .i64 k) (.lit (.int .i64 0)) = .lit (.int .i64 (f k))
def MapB (w : World) (b n : Nat) (f : Int → Bool) : Prop := ∃ D : DataW Unit, w.ownsMap Try.prog 3 (plainElem Try.prog 4) b n D ∧ ∀ k, D.atKey (.int .i64 k) (.lit (.bool false)) = .lit (.bool (f k))
section
variable {w w' W : World} {S : List Nat} {b n : Nat} {f : Int → Int} {h : Int → Bool}
theorem ownsMap_block {H : Type} {P : Program} {k : TypeId} {R : Value → Option (DataW H × List MemPlace)} {D : DataW H} (m : w.ownsMap P k R b n D) (e : w'.heap[b]? = w.heap[b]?) : w'.ownsMap P k R b n D := by
  obtain ⟨es, c, hb, r⟩ := m
  exact ⟨es, c, e.trans hb, r⟩
theorem MapI.lt (m : MapI w b n f) : b < w.heap.size := m.choose_spec.1.lt
theorem MapB.lt (m : MapB w b n h) : b < w.heap.size := m.choose_spec.1.lt
theorem MapI.keeps (m : MapI w b n f) (k : Keeps w w' S) (hs : b ∉ S) : MapI w' b n f := by
  obtain ⟨D, h1, h2⟩ := m
  exact ⟨D, ownsMap_block h1 (k.block b h1.lt hs), h2⟩
theorem MapB.keeps (m : MapB w b n h) (k : Keeps w w' S) (hs : b ∉ S) : MapB w' b n h := by
  obtain ⟨D, h1, h2⟩ := m
  exact ⟨D, ownsMap_block h1 (k.block b h1.lt hs), h2⟩
theorem ownsMap_not_blk {H : Type} {P : Program} {k : TypeId} {R : Value → Option (DataW H × List MemPlace)} {D : DataW H} (m : w.ownsMap P k R b n D) {g : Nat} {t : TypeId} {cs : Array Value} (hg : Blk w g t cs) : g ≠ b := by
  rintro rfl
  obtain ⟨es, c, hb, _⟩ := m
  rw [Blk, hb] at hg
  cases hg
theorem MapI.not_blk (m : MapI w b n f) {g : Nat} {t : TypeId} {cs : Array Value} (hg : Blk w g t cs) : g ≠ b := ownsMap_not_blk m.choose_spec.1 hg
theorem MapB.not_blk (m : MapB w b n h) {g : Nat} {t : TypeId} {cs : Array Value} (hg : Blk w g t cs) : g ≠ b := ownsMap_not_blk m.choose_spec.1 hg
theorem keeps_of_grown (g : w.grownBy w' (some b)) : Keeps w w' [b] := ⟨g.os, g.tape, g.output, g.size, fun k hk hn => g.block k hk (by simpa using hn)⟩
theorem MapI.made (w : World) : MapI (w.alloc (.map #[] 0)) w.heap.size 0 fun _ => 0 := ⟨.map [], World.ownsMap_made _ _ _ _, fun k => by simp [DataW.atKey]⟩
theorem MapB.made (w : World) : MapB (w.alloc (.map #[] 0)) w.heap.size 0 fun _ => false := ⟨.map [], World.ownsMap_made _ _ _ _, fun k => by simp [DataW.atKey]⟩
/-- Known blocks stay known while a map is written. -/
theorem Own.mapped {S : List Nat} {L : List Ent} (O : Own w W S L) (k : Keeps W w' [b]) (hb : ∀ g t cs, Blk W g t cs → g ≠ b) (hS : b < w.heap.size → b ∈ S) : Own w w' S L := by
  refine ⟨O.keep.trans k (fun x hx hlt => ?_), fun e he => (O.blk e he).keeps k (by have := hb _ _ _ (O.blk e he); simpa using this), O.new, O.nd⟩
  obtain rfl : x = b := by simpa using hx
  exact hS hlt
end
section
variable {ops : Array Oper} {rest : List Oper} {o : Oper} {a : Act} {W : World} {Q : Exit → Act → World → Prop} {T b n : Nat} {f : Int → Int} {h : Int → Bool} {x y z : Operand} {k v : Int} {r : Bool}
theorem map_storeI (M : MapI W b n f) (T : TypeId) (ht : Try.prog.underlying T = some (.map 3 3)) (hg : o.guard = none) (ho : o.op = .mapUpdate T x y z) (hx : a.eval x = .map (some b)) (hy : a.eval y = .int .i64 k) (hk : (Lit.int .i64 k).wf = true)
    (hz : a.eval z = .int .i64 v) (hv : (Lit.int .i64 v).wf = true) (hn : n < maxLen)
    (hK : ∀ u, Keeps W u [b] → MapI u b (n + 1) (updI f k v) → wpList Try.prog ops Q rest (a.put o.dst undef) u) : wpList Try.prog ops Q (o :: rest) a W := by
  obtain ⟨D, h1, h2⟩ := M
  refine wpList_mapUpdate_own _ hg _ _ _ T ho 3 3 key3 ht _ b n D hx h1 hn _ _ _ hy hz (keyOf_int_mk Try.underlying3 hk) _ [] (plainElem_int Try.underlying3 hv) fun u m g => hK u (keeps_of_grown g) ⟨_, m, fun j => ?_⟩
  by_cases hj : j = k
  · subst hj; rw [updI_same, Maps.atKey_put_same (k := .int .i64 j) h1.isMap True.intro]
  · rw [updI_other _ _ _ _ hj, Maps.atKey_put_other (fun e => hj (by injection e)), h2]
theorem map_storeB (M : MapB W b n h) (T : TypeId) (ht : Try.prog.underlying T = some (.map 3 4)) (hg : o.guard = none) (ho : o.op = .mapUpdate T x y z) (hx : a.eval x = .map (some b)) (hy : a.eval y = .int .i64 k) (hk : (Lit.int .i64 k).wf = true)
    (hz : a.eval z = .bool r) (hn : n < maxLen)
    (hK : ∀ u, Keeps W u [b] → MapB u b (n + 1) (updI h k r) → wpList Try.prog ops Q rest (a.put o.dst undef) u) : wpList Try.prog ops Q (o :: rest) a W := by
  obtain ⟨D, h1, h2⟩ := M
  refine wpList_mapUpdate_own _ hg _ _ _ T ho 3 4 key3 ht _ b n D hx h1 hn _ _ _ hy hz (keyOf_int_mk Try.underlying3 hk) _ [] (plainElem_bool Try.underlying4 r) fun u m g => hK u (keeps_of_grown g) ⟨_, m, fun j => ?_⟩
  by_cases hj : j = k
  · subst hj; rw [updI_same, Maps.atKey_put_same (k := .int .i64 j) h1.isMap True.intro]
  · rw [updI_other _ _ _ _ hj, Maps.atKey_put_other (fun e => hj (by injection e)), h2]
end
end Go.Proofs.Ytakmcpadkanggaa
namespace Go.Proofs.Ytakmcpadkanggaa
open Go.RowKit Go.Deep
/-- An event. -/
structure Ev where
  who : Int
  op : Int
  a : Int
  v : Int
  sh : Bool
def evC (e : Ev) : Array Value := #[.int .i64 e.who, .int .i64 e.op, .int .i64 e.a, .int .i64 e.v, .bool e.sh]
theorem evC_cell (e : Ev) : ∀ v ∈ (evC e).toList, v.oneCell' = true := by
  intro v hv
  simp only [evC, List.mem_cons, List.not_mem_nil, or_false] at hv
  rcases hv with rfl | rfl | rfl | rfl | rfl <;> rfl
/-- What a list of events has left behind. -/
structure St where
  r : Int
  held : Int → Bool
  sent : Int → Int
  took : Int → Int
  shut : Int → Bool
/-- How many there are of what an operation's A says; -1: it says none. -/
def cnt (S : Sys) (op : Int) : Int :=
  if op = 5 ∨ op = 6 ∨ op = 7 then S.nr else if op = 8 ∨ op = 9 then S.lk else if op = 10 ∨ op = 11 then S.gr else if op = 12 ∨ op = 13 then S.ce else if op = 14 then S.np else -1
def headE (S : Sys) (st : St) (e : Ev) : Bool :=
  decide (0 ≤ e.who) && (decide (e.who < st.r) && (decide (1 ≤ e.op) && (decide (e.op ≤ 16) && (decide (cnt S e.op < 0) || (decide (0 ≤ e.a) && decide (e.a < cnt S e.op))))))
def bodyE (st : St) (e : Ev) : Bool :=
  if e.op = 14 then decide (e.v = 0) || (decide (e.v = st.r) && decide (e.v < 512))
  else if e.op = 6 then (if e.sh then st.shut e.a else decide (st.took e.a + 1 ≤ st.sent e.a))
  else if e.op = 8 then !st.held e.a else true
/-- May the event come next? -/
def okE (S : Sys) (st : St) (e : Ev) : Bool := headE S st e && bodyE st e
def nextE (st : St) (e : Ev) : St :=
  if e.op = 14 then (if e.v = 0 then st else { st with r := st.r + 1 })
  else if e.op = 5 then { st with sent := updI st.sent e.a (st.sent e.a + 1) }
  else if e.op = 6 then (if e.sh then st else { st with took := updI st.took e.a (st.took e.a + 1) })
  else if e.op = 7 then { st with shut := updI st.shut e.a true }
  else if e.op = 8 then { st with held := updI st.held e.a true }
  else if e.op = 9 then { st with held := updI st.held e.a false }
  else st
def st0 : St := ⟨1, fun _ => false, fun _ => 0, fun _ => 0, fun _ => false⟩
def stN (E : Nat → Ev) : Nat → St
  | 0 => st0
  | k + 1 => nextE (stN E k) (E k)
theorem nextE_r (st : St) (e : Ev) : st.r ≤ (nextE st e).r ∧ (nextE st e).r ≤ st.r + 1 := by
  unfold nextE; split
  · split <;> simp <;> omega
  · repeat' split
    all_goals simp <;> omega
theorem nextE_le (st : St) (e : Ev) (j : Int) : st.sent j ≤ (nextE st e).sent j ∧ (nextE st e).sent j ≤ st.sent j + 1 ∧ st.took j ≤ (nextE st e).took j ∧ (nextE st e).took j ≤ st.took j + 1 := by
  unfold nextE
  have h : ∀ (f : Int → Int) (i : Int), f j ≤ updI f i (f i + 1) j ∧ updI f i (f i + 1) j ≤ f j + 1 := fun f i => by
    by_cases hj : j = i
    · subst hj; rw [updI_same]; omega
    · rw [updI_other _ _ _ _ hj]; omega
  repeat' split
  all_goals (first | (have := h st.sent e.a; simp; omega) | (have := h st.took e.a; simp; omega) | (simp; omega))
theorem stN_le (E : Nat → Ev) (k : Nat) : 1 ≤ (stN E k).r ∧ (stN E k).r ≤ k + 1 ∧ ∀ j, 0 ≤ (stN E k).sent j ∧ (stN E k).sent j ≤ k ∧ 0 ≤ (stN E k).took j ∧ (stN E k).took j ≤ k := by
  induction k with
  | zero => exact ⟨by simp [stN, st0], by simp [stN, st0], fun j => by simp [stN, st0]⟩
  | succ k ih =>
    obtain ⟨h1, h2, h3⟩ := ih
    have h4 := nextE_r (stN E k) (E k)
    refine ⟨by simp only [stN]; omega, by simp only [stN]; omega, fun j => ?_⟩
    have h5 := nextE_le (stN E k) (E k) j
    have h6 := h3 j
    simp only [stN]
    omega
/-- Events in memory. -/
def EvsAt (W : World) (A : Option Addr) (n : Nat) (E : Nat → Ev) : Prop := 0 < n → ∃ ad, A = some ad ∧ ad.block < W.heap.size ∧ ∀ i j, i < n → j < 5 → W.cell? (ad.add (i * 5 + j)) = (evC (E i))[j]?
theorem EvsAt.kept {w u : World} {A : Option Addr} {n : Nat} {E : Nat → Ev} (h : EvsAt w A n E) (k : Keeps w u []) : EvsAt u A n E := fun hn => by
  obtain ⟨ad, e, hb, hc⟩ := h hn
  exact ⟨ad, e, by have := k.size; omega, fun i j hi hj => by rw [k.cellAt (by rw [add_block]; exact hb) (by simp)]; exact hc i j hi hj⟩
theorem EvsAt.row {w u : World} {A : Option Addr} {n : Nat} {E : Nat → Ev} (h : EvsAt w A n E) {i : Nat} (hi : i < n) : ∃ ad, A = some ad ∧ ∀ S u, Keeps w u S → ad.block ∉ S → ∀ j, j < (evC (E i)).size → u.cell? ((ad.add (i * 5)).add j) = (evC (E i))[j]? := by
  obtain ⟨ad, e, hb, hc⟩ := h (by omega)
  refine ⟨ad, e, fun S u k hn j hj => ?_⟩
  rw [Addr.add_add, k.cellAt (by rw [add_block]; exact hb) (by rw [add_block]; exact hn)]
  exact hc i j hi hj
theorem inside_any (a n : Int) (w : World) : Calls Try.prog 65 #[.int .i64 a, .int .i64 n] w fun e w' => e = .returned (.bool (decide (0 ≤ a) && decide (a < n))) ∧ w = w' := by
  by_cases h0 : 0 ≤ a
  · have H := Lib.hid (show (decide (0 ≤ a) && decide (a < n)) = decide (a < n) by simp [h0])
    go_enter Try.func65, Try.ntmps65
    go_wp2
    go_ret
    exact ⟨by rw [H.out]; rfl, rfl⟩
  · have H := Lib.hid (show (decide (0 ≤ a) && decide (a < n)) = false by simp [h0])
    go_enter Try.func65, Try.ntmps65
    go_wp2
    go_ret
    exact ⟨by rw [H.out]; rfl, rfl⟩
section
variable (S : Sys) (A : Option Addr) (c : Nat) (R : Option Addr) (d : Nat) (w : World)
set_option maxRecDepth 100000 in
theorem shared_5 : Calls Try.prog 109 #[.agg (sysV S A c R d), .int .i64 5] w fun e w' => e = .returned (.int .i64 (cnt S 5)) ∧ Keeps w w' [] := by
  have O := Own.start w []
  unfold sysV
  go_enter Try.func109, Try.ntmps109
  go_wp2_with (first
    | go_big_skip
    | (refine own_box 2 _ O rfl rfl rfl rfl ?_; clear O; intro W a2 O; simp only [Act.put, List.setIfInBounds_toArray, List.set_cons_zero, List.set_cons_succ]; have c2 := (O.get 0 rfl).cell))
  go_ret
  exact ⟨rfl, O.keep⟩
set_option maxRecDepth 100000 in
theorem shared_6 : Calls Try.prog 109 #[.agg (sysV S A c R d), .int .i64 6] w fun e w' => e = .returned (.int .i64 (cnt S 6)) ∧ Keeps w w' [] := by
  have O := Own.start w []
  unfold sysV
  go_enter Try.func109, Try.ntmps109
  go_wp2_with (first
    | go_big_skip
    | (refine own_box 2 _ O rfl rfl rfl rfl ?_; clear O; intro W a2 O; simp only [Act.put, List.setIfInBounds_toArray, List.set_cons_zero, List.set_cons_succ]; have c2 := (O.get 0 rfl).cell))
  go_ret
  exact ⟨rfl, O.keep⟩
set_option maxRecDepth 100000 in
theorem shared_7 : Calls Try.prog 109 #[.agg (sysV S A c R d), .int .i64 7] w fun e w' => e = .returned (.int .i64 (cnt S 7)) ∧ Keeps w w' [] := by
  have O := Own.start w []
  unfold sysV
  go_enter Try.func109, Try.ntmps109
  go_wp2_with (first
    | go_big_skip
    | (refine own_box 2 _ O rfl rfl rfl rfl ?_; clear O; intro W a2 O; simp only [Act.put, List.setIfInBounds_toArray, List.set_cons_zero, List.set_cons_succ]; have c2 := (O.get 0 rfl).cell))
  go_ret
  exact ⟨rfl, O.keep⟩
set_option maxRecDepth 100000 in
theorem shared_8 : Calls Try.prog 109 #[.agg (sysV S A c R d), .int .i64 8] w fun e w' => e = .returned (.int .i64 (cnt S 8)) ∧ Keeps w w' [] := by
  have O := Own.start w []
  unfold sysV
  go_enter Try.func109, Try.ntmps109
  go_wp2_with (first
    | go_big_skip
    | (refine own_box 2 _ O rfl rfl rfl rfl ?_; clear O; intro W a2 O; simp only [Act.put, List.setIfInBounds_toArray, List.set_cons_zero, List.set_cons_succ]; have c2 := (O.get 0 rfl).cell))
  go_ret
  exact ⟨rfl, O.keep⟩
set_option maxRecDepth 100000 in
theorem shared_9 : Calls Try.prog 109 #[.agg (sysV S A c R d), .int .i64 9] w fun e w' => e = .returned (.int .i64 (cnt S 9)) ∧ Keeps w w' [] := by
  have O := Own.start w []
  unfold sysV
  go_enter Try.func109, Try.ntmps109
  go_wp2_with (first
    | go_big_skip
    | (refine own_box 2 _ O rfl rfl rfl rfl ?_; clear O; intro W a2 O; simp only [Act.put, List.setIfInBounds_toArray, List.set_cons_zero, List.set_cons_succ]; have c2 := (O.get 0 rfl).cell))
  go_ret
  exact ⟨rfl, O.keep⟩
set_option maxRecDepth 100000 in
theorem shared_10 : Calls Try.prog 109 #[.agg (sysV S A c R d), .int .i64 10] w fun e w' => e = .returned (.int .i64 (cnt S 10)) ∧ Keeps w w' [] := by
  have O := Own.start w []
  unfold sysV
  go_enter Try.func109, Try.ntmps109
  go_wp2_with (first
    | go_big_skip
    | (refine own_box 2 _ O rfl rfl rfl rfl ?_; clear O; intro W a2 O; simp only [Act.put, List.setIfInBounds_toArray, List.set_cons_zero, List.set_cons_succ]; have c2 := (O.get 0 rfl).cell))
  go_ret
  exact ⟨rfl, O.keep⟩
set_option maxRecDepth 100000 in
theorem shared_11 : Calls Try.prog 109 #[.agg (sysV S A c R d), .int .i64 11] w fun e w' => e = .returned (.int .i64 (cnt S 11)) ∧ Keeps w w' [] := by
  have O := Own.start w []
  unfold sysV
  go_enter Try.func109, Try.ntmps109
  go_wp2_with (first
    | go_big_skip
    | (refine own_box 2 _ O rfl rfl rfl rfl ?_; clear O; intro W a2 O; simp only [Act.put, List.setIfInBounds_toArray, List.set_cons_zero, List.set_cons_succ]; have c2 := (O.get 0 rfl).cell))
  go_ret
  exact ⟨rfl, O.keep⟩
set_option maxRecDepth 100000 in
theorem shared_12 : Calls Try.prog 109 #[.agg (sysV S A c R d), .int .i64 12] w fun e w' => e = .returned (.int .i64 (cnt S 12)) ∧ Keeps w w' [] := by
  have O := Own.start w []
  unfold sysV
  go_enter Try.func109, Try.ntmps109
  go_wp2_with (first
    | go_big_skip
    | (refine own_box 2 _ O rfl rfl rfl rfl ?_; clear O; intro W a2 O; simp only [Act.put, List.setIfInBounds_toArray, List.set_cons_zero, List.set_cons_succ]; have c2 := (O.get 0 rfl).cell))
  go_ret
  exact ⟨rfl, O.keep⟩
set_option maxRecDepth 100000 in
theorem shared_13 : Calls Try.prog 109 #[.agg (sysV S A c R d), .int .i64 13] w fun e w' => e = .returned (.int .i64 (cnt S 13)) ∧ Keeps w w' [] := by
  have O := Own.start w []
  unfold sysV
  go_enter Try.func109, Try.ntmps109
  go_wp2_with (first
    | go_big_skip
    | (refine own_box 2 _ O rfl rfl rfl rfl ?_; clear O; intro W a2 O; simp only [Act.put, List.setIfInBounds_toArray, List.set_cons_zero, List.set_cons_succ]; have c2 := (O.get 0 rfl).cell))
  go_ret
  exact ⟨rfl, O.keep⟩
set_option maxRecDepth 100000 in
theorem shared_14 : Calls Try.prog 109 #[.agg (sysV S A c R d), .int .i64 14] w fun e w' => e = .returned (.int .i64 (cnt S 14)) ∧ Keeps w w' [] := by
  have O := Own.start w []
  unfold sysV
  go_enter Try.func109, Try.ntmps109
  go_wp2_with (first
    | go_big_skip
    | (refine own_box 2 _ O rfl rfl rfl rfl ?_; clear O; intro W a2 O; simp only [Act.put, List.setIfInBounds_toArray, List.set_cons_zero, List.set_cons_succ]; have c2 := (O.get 0 rfl).cell))
  go_ret
  exact ⟨rfl, O.keep⟩
set_option maxRecDepth 100000 in
theorem shared_other (op : Int) (h5 : ¬ op = 5) (h6 : ¬ op = 6) (h7 : ¬ op = 7) (h8 : ¬ op = 8) (h9 : ¬ op = 9) (h10 : ¬ op = 10) (h11 : ¬ op = 11) (h12 : ¬ op = 12) (h13 : ¬ op = 13) (h14 : ¬ op = 14) : Calls Try.prog 109 #[.agg (sysV S A c R d), .int .i64 op] w fun e w' => e = .returned (.int .i64 (cnt S op)) ∧ Keeps w w' [] := by
  have O := Own.start w []
  have H := Lib.hid (show cnt S op = -1 by simp [cnt, h5, h6, h7, h8, h9, h10, h11, h12, h13, h14])
  unfold sysV
  go_enter Try.func109, Try.ntmps109
  go_wp2_with (first
    | go_big_skip
    | (refine own_box 2 _ O rfl rfl rfl rfl ?_; clear O; intro W a2 O; simp only [Act.put, List.setIfInBounds_toArray, List.set_cons_zero, List.set_cons_succ]; have c2 := (O.get 0 rfl).cell))
  go_ret
  exact ⟨by rw [H.out]; rfl, O.keep⟩
theorem sharedT_any (op : Int) : Calls Try.prog 109 #[.agg (sysV S A c R d), .int .i64 op] w fun e w' => e = .returned (.int .i64 (cnt S op)) ∧ Keeps w w' [] := by
  by_cases h5 : op = 5
  · subst h5; exact shared_5 S A c R d w
  by_cases h6 : op = 6
  · subst h6; exact shared_6 S A c R d w
  by_cases h7 : op = 7
  · subst h7; exact shared_7 S A c R d w
  by_cases h8 : op = 8
  · subst h8; exact shared_8 S A c R d w
  by_cases h9 : op = 9
  · subst h9; exact shared_9 S A c R d w
  by_cases h10 : op = 10
  · subst h10; exact shared_10 S A c R d w
  by_cases h11 : op = 11
  · subst h11; exact shared_11 S A c R d w
  by_cases h12 : op = 12
  · subst h12; exact shared_12 S A c R d w
  by_cases h13 : op = 13
  · subst h13; exact shared_13 S A c R d w
  by_cases h14 : op = 14
  · subst h14; exact shared_14 S A c R d w
  exact shared_other S A c R d w op h5 h6 h7 h8 h9 h10 h11 h12 h13 h14
def meantB (S : Sys) (e : Ev) : Bool := decide (1 ≤ e.op) && (decide (e.op ≤ 16) && (decide (cnt S e.op < 0) || (decide (0 ≤ e.a) && decide (e.a < cnt S e.op))))
variable (hh : 0 ≤ S.gr ∧ 0 ≤ S.lk ∧ 0 ≤ S.ce)
include hh
set_option maxRecDepth 100000 in
theorem meant_5 (e : Ev) (he : e.op = 5) : Calls Try.prog 93 #[.agg (sysV S A c R d), .agg (evC e)] w fun x w' => x = .returned (.bool (meantB S e)) ∧ Keeps w w' [] := by
  have O := Own.start w []
  have _u := hh
  clear _u
  have H := Lib.hid (show meantB S e = (decide (0 ≤ e.a) && decide (e.a < cnt S 5)) by simp [meantB, he, cnt]; omega)
  unfold sysV evC
  rw [he]
  clear he
  go_enter Try.func93, Try.ntmps93
  go_wp2_with (first
    | go_big_skip
    | (refine own_box 2 _ O rfl rfl rfl rfl ?_; clear O; intro W a2 O; simp only [Act.put, List.setIfInBounds_toArray, List.set_cons_zero, List.set_cons_succ])
    | (refine own_box 3 _ O rfl rfl rfl rfl ?_; clear O; intro W a3 O; simp only [Act.put, List.setIfInBounds_toArray, List.set_cons_zero, List.set_cons_succ]; have c3 := (O.get 0 rfl).cell; have c2 := (O.get 1 rfl).cell)
    | (go_at_call 65; refine (inside_any _ _ _).mono ?_; rintro e W ⟨rfl, rfl⟩))
  go_ret
  exact ⟨by rw [H.out]; rfl, O.keep⟩
set_option maxRecDepth 100000 in
theorem meant_6 (e : Ev) (he : e.op = 6) : Calls Try.prog 93 #[.agg (sysV S A c R d), .agg (evC e)] w fun x w' => x = .returned (.bool (meantB S e)) ∧ Keeps w w' [] := by
  have O := Own.start w []
  have _u := hh
  clear _u
  have H := Lib.hid (show meantB S e = (decide (0 ≤ e.a) && decide (e.a < cnt S 6)) by simp [meantB, he, cnt]; omega)
  unfold sysV evC
  rw [he]
  clear he
  go_enter Try.func93, Try.ntmps93
  go_wp2_with (first
    | go_big_skip
    | (refine own_box 2 _ O rfl rfl rfl rfl ?_; clear O; intro W a2 O; simp only [Act.put, List.setIfInBounds_toArray, List.set_cons_zero, List.set_cons_succ])
    | (refine own_box 3 _ O rfl rfl rfl rfl ?_; clear O; intro W a3 O; simp only [Act.put, List.setIfInBounds_toArray, List.set_cons_zero, List.set_cons_succ]; have c3 := (O.get 0 rfl).cell; have c2 := (O.get 1 rfl).cell)
    | (go_at_call 65; refine (inside_any _ _ _).mono ?_; rintro e W ⟨rfl, rfl⟩))
  go_ret
  exact ⟨by rw [H.out]; rfl, O.keep⟩
set_option maxRecDepth 100000 in
theorem meant_7 (e : Ev) (he : e.op = 7) : Calls Try.prog 93 #[.agg (sysV S A c R d), .agg (evC e)] w fun x w' => x = .returned (.bool (meantB S e)) ∧ Keeps w w' [] := by
  have O := Own.start w []
  have _u := hh
  clear _u
  have H := Lib.hid (show meantB S e = (decide (0 ≤ e.a) && decide (e.a < cnt S 7)) by simp [meantB, he, cnt]; omega)
  unfold sysV evC
  rw [he]
  clear he
  go_enter Try.func93, Try.ntmps93
  go_wp2_with (first
    | go_big_skip
    | (refine own_box 2 _ O rfl rfl rfl rfl ?_; clear O; intro W a2 O; simp only [Act.put, List.setIfInBounds_toArray, List.set_cons_zero, List.set_cons_succ])
    | (refine own_box 3 _ O rfl rfl rfl rfl ?_; clear O; intro W a3 O; simp only [Act.put, List.setIfInBounds_toArray, List.set_cons_zero, List.set_cons_succ]; have c3 := (O.get 0 rfl).cell; have c2 := (O.get 1 rfl).cell)
    | (go_at_call 65; refine (inside_any _ _ _).mono ?_; rintro e W ⟨rfl, rfl⟩))
  go_ret
  exact ⟨by rw [H.out]; rfl, O.keep⟩
set_option maxRecDepth 100000 in
theorem meant_8 (e : Ev) (he : e.op = 8) : Calls Try.prog 93 #[.agg (sysV S A c R d), .agg (evC e)] w fun x w' => x = .returned (.bool (meantB S e)) ∧ Keeps w w' [] := by
  have O := Own.start w []
  have _u := hh
  clear _u
  have H := Lib.hid (show meantB S e = (decide (0 ≤ e.a) && decide (e.a < cnt S 8)) by simp [meantB, he, cnt]; omega)
  unfold sysV evC
  rw [he]
  clear he
  go_enter Try.func93, Try.ntmps93
  go_wp2_with (first
    | go_big_skip
    | (refine own_box 2 _ O rfl rfl rfl rfl ?_; clear O; intro W a2 O; simp only [Act.put, List.setIfInBounds_toArray, List.set_cons_zero, List.set_cons_succ])
    | (refine own_box 3 _ O rfl rfl rfl rfl ?_; clear O; intro W a3 O; simp only [Act.put, List.setIfInBounds_toArray, List.set_cons_zero, List.set_cons_succ]; have c3 := (O.get 0 rfl).cell; have c2 := (O.get 1 rfl).cell)
    | (go_at_call 65; refine (inside_any _ _ _).mono ?_; rintro e W ⟨rfl, rfl⟩))
  go_ret
  exact ⟨by rw [H.out]; rfl, O.keep⟩
set_option maxRecDepth 100000 in
theorem meant_9 (e : Ev) (he : e.op = 9) : Calls Try.prog 93 #[.agg (sysV S A c R d), .agg (evC e)] w fun x w' => x = .returned (.bool (meantB S e)) ∧ Keeps w w' [] := by
  have O := Own.start w []
  have _u := hh
  clear _u
  have H := Lib.hid (show meantB S e = (decide (0 ≤ e.a) && decide (e.a < cnt S 9)) by simp [meantB, he, cnt]; omega)
  unfold sysV evC
  rw [he]
  clear he
  go_enter Try.func93, Try.ntmps93
  go_wp2_with (first
    | go_big_skip
    | (refine own_box 2 _ O rfl rfl rfl rfl ?_; clear O; intro W a2 O; simp only [Act.put, List.setIfInBounds_toArray, List.set_cons_zero, List.set_cons_succ])
    | (refine own_box 3 _ O rfl rfl rfl rfl ?_; clear O; intro W a3 O; simp only [Act.put, List.setIfInBounds_toArray, List.set_cons_zero, List.set_cons_succ]; have c3 := (O.get 0 rfl).cell; have c2 := (O.get 1 rfl).cell)
    | (go_at_call 65; refine (inside_any _ _ _).mono ?_; rintro e W ⟨rfl, rfl⟩))
  go_ret
  exact ⟨by rw [H.out]; rfl, O.keep⟩
set_option maxRecDepth 100000 in
theorem meant_10 (e : Ev) (he : e.op = 10) : Calls Try.prog 93 #[.agg (sysV S A c R d), .agg (evC e)] w fun x w' => x = .returned (.bool (meantB S e)) ∧ Keeps w w' [] := by
  have O := Own.start w []
  have _u := hh
  clear _u
  have H := Lib.hid (show meantB S e = (decide (0 ≤ e.a) && decide (e.a < cnt S 10)) by simp [meantB, he, cnt]; omega)
  unfold sysV evC
  rw [he]
  clear he
  go_enter Try.func93, Try.ntmps93
  go_wp2_with (first
    | go_big_skip
    | (refine own_box 2 _ O rfl rfl rfl rfl ?_; clear O; intro W a2 O; simp only [Act.put, List.setIfInBounds_toArray, List.set_cons_zero, List.set_cons_succ])
    | (refine own_box 3 _ O rfl rfl rfl rfl ?_; clear O; intro W a3 O; simp only [Act.put, List.setIfInBounds_toArray, List.set_cons_zero, List.set_cons_succ]; have c3 := (O.get 0 rfl).cell; have c2 := (O.get 1 rfl).cell)
    | (go_at_call 65; refine (inside_any _ _ _).mono ?_; rintro e W ⟨rfl, rfl⟩))
  go_ret
  exact ⟨by rw [H.out]; rfl, O.keep⟩
set_option maxRecDepth 100000 in
theorem meant_11 (e : Ev) (he : e.op = 11) : Calls Try.prog 93 #[.agg (sysV S A c R d), .agg (evC e)] w fun x w' => x = .returned (.bool (meantB S e)) ∧ Keeps w w' [] := by
  have O := Own.start w []
  have _u := hh
  clear _u
  have H := Lib.hid (show meantB S e = (decide (0 ≤ e.a) && decide (e.a < cnt S 11)) by simp [meantB, he, cnt]; omega)
  unfold sysV evC
  rw [he]
  clear he
  go_enter Try.func93, Try.ntmps93
  go_wp2_with (first
    | go_big_skip
    | (refine own_box 2 _ O rfl rfl rfl rfl ?_; clear O; intro W a2 O; simp only [Act.put, List.setIfInBounds_toArray, List.set_cons_zero, List.set_cons_succ])
    | (refine own_box 3 _ O rfl rfl rfl rfl ?_; clear O; intro W a3 O; simp only [Act.put, List.setIfInBounds_toArray, List.set_cons_zero, List.set_cons_succ]; have c3 := (O.get 0 rfl).cell; have c2 := (O.get 1 rfl).cell)
    | (go_at_call 65; refine (inside_any _ _ _).mono ?_; rintro e W ⟨rfl, rfl⟩))
  go_ret
  exact ⟨by rw [H.out]; rfl, O.keep⟩
set_option maxRecDepth 100000 in
theorem meant_12 (e : Ev) (he : e.op = 12) : Calls Try.prog 93 #[.agg (sysV S A c R d), .agg (evC e)] w fun x w' => x = .returned (.bool (meantB S e)) ∧ Keeps w w' [] := by
  have O := Own.start w []
  have _u := hh
  clear _u
  have H := Lib.hid (show meantB S e = (decide (0 ≤ e.a) && decide (e.a < cnt S 12)) by simp [meantB, he, cnt]; omega)
  unfold sysV evC
  rw [he]
  clear he
  go_enter Try.func93, Try.ntmps93
  go_wp2_with (first
    | go_big_skip
    | (refine own_box 2 _ O rfl rfl rfl rfl ?_; clear O; intro W a2 O; simp only [Act.put, List.setIfInBounds_toArray, List.set_cons_zero, List.set_cons_succ])
    | (refine own_box 3 _ O rfl rfl rfl rfl ?_; clear O; intro W a3 O; simp only [Act.put, List.setIfInBounds_toArray, List.set_cons_zero, List.set_cons_succ]; have c3 := (O.get 0 rfl).cell; have c2 := (O.get 1 rfl).cell)
    | (go_at_call 65; refine (inside_any _ _ _).mono ?_; rintro e W ⟨rfl, rfl⟩))
  go_ret
  exact ⟨by rw [H.out]; rfl, O.keep⟩
set_option maxRecDepth 100000 in
theorem meant_13 (e : Ev) (he : e.op = 13) : Calls Try.prog 93 #[.agg (sysV S A c R d), .agg (evC e)] w fun x w' => x = .returned (.bool (meantB S e)) ∧ Keeps w w' [] := by
  have O := Own.start w []
  have _u := hh
  clear _u
  have H := Lib.hid (show meantB S e = (decide (0 ≤ e.a) && decide (e.a < cnt S 13)) by simp [meantB, he, cnt]; omega)
  unfold sysV evC
  rw [he]
  clear he
  go_enter Try.func93, Try.ntmps93
  go_wp2_with (first
    | go_big_skip
    | (refine own_box 2 _ O rfl rfl rfl rfl ?_; clear O; intro W a2 O; simp only [Act.put, List.setIfInBounds_toArray, List.set_cons_zero, List.set_cons_succ])
    | (refine own_box 3 _ O rfl rfl rfl rfl ?_; clear O; intro W a3 O; simp only [Act.put, List.setIfInBounds_toArray, List.set_cons_zero, List.set_cons_succ]; have c3 := (O.get 0 rfl).cell; have c2 := (O.get 1 rfl).cell)
    | (go_at_call 65; refine (inside_any _ _ _).mono ?_; rintro e W ⟨rfl, rfl⟩))
  go_ret
  exact ⟨by rw [H.out]; rfl, O.keep⟩
set_option maxRecDepth 100000 in
theorem meant_14 (e : Ev) (he : e.op = 14) : Calls Try.prog 93 #[.agg (sysV S A c R d), .agg (evC e)] w fun x w' => x = .returned (.bool (meantB S e)) ∧ Keeps w w' [] := by
  have O := Own.start w []
  have _u := hh
  clear _u
  have H := Lib.hid (show meantB S e = (decide (0 ≤ e.a) && decide (e.a < cnt S 14)) by simp [meantB, he, cnt]; omega)
  unfold sysV evC
  rw [he]
  clear he
  go_enter Try.func93, Try.ntmps93
  go_wp2_with (first
    | go_big_skip
    | (refine own_box 2 _ O rfl rfl rfl rfl ?_; clear O; intro W a2 O; simp only [Act.put, List.setIfInBounds_toArray, List.set_cons_zero, List.set_cons_succ])
    | (refine own_box 3 _ O rfl rfl rfl rfl ?_; clear O; intro W a3 O; simp only [Act.put, List.setIfInBounds_toArray, List.set_cons_zero, List.set_cons_succ]; have c3 := (O.get 0 rfl).cell; have c2 := (O.get 1 rfl).cell)
    | (go_at_call 65; refine (inside_any _ _ _).mono ?_; rintro e W ⟨rfl, rfl⟩))
  go_ret
  exact ⟨by rw [H.out]; rfl, O.keep⟩
set_option maxRecDepth 100000 in
theorem meant_lo (e : Ev) (h5 : ¬ e.op = 5) (h6 : ¬ e.op = 6) (h7 : ¬ e.op = 7) (h8 : ¬ e.op = 8) (h9 : ¬ e.op = 9) (h10 : ¬ e.op = 10) (h11 : ¬ e.op = 11) (h12 : ¬ e.op = 12) (h13 : ¬ e.op = 13) (h14 : ¬ e.op = 14) (h : e.op < 1) : Calls Try.prog 93 #[.agg (sysV S A c R d), .agg (evC e)] w fun x w' => x = .returned (.bool (meantB S e)) ∧ Keeps w w' [] := by
  have O := Own.start w []
  have _u := hh
  clear _u
  have H := Lib.hid (show meantB S e = false by simp [meantB, cnt, h5, h6, h7, h8, h9, h10, h11, h12, h13, h14]; omega)
  have q1 : (1 ≤ e.op) = False := by simp; omega
  skip
  unfold sysV evC
  go_enter Try.func93, Try.ntmps93
  go_wp2_with (first
    | go_big_skip
    | (refine own_box 2 _ O rfl rfl rfl rfl ?_; clear O; intro W a2 O; simp only [Act.put, List.setIfInBounds_toArray, List.set_cons_zero, List.set_cons_succ])
    | (refine own_box 3 _ O rfl rfl rfl rfl ?_; clear O; intro W a3 O; simp only [Act.put, List.setIfInBounds_toArray, List.set_cons_zero, List.set_cons_succ]; have c3 := (O.get 0 rfl).cell; have c2 := (O.get 1 rfl).cell))
  go_ret
  exact ⟨by rw [H.out]; rfl, O.keep⟩
set_option maxRecDepth 100000 in
theorem meant_hi (e : Ev) (h5 : ¬ e.op = 5) (h6 : ¬ e.op = 6) (h7 : ¬ e.op = 7) (h8 : ¬ e.op = 8) (h9 : ¬ e.op = 9) (h10 : ¬ e.op = 10) (h11 : ¬ e.op = 11) (h12 : ¬ e.op = 12) (h13 : ¬ e.op = 13) (h14 : ¬ e.op = 14) (h : 16 < e.op) : Calls Try.prog 93 #[.agg (sysV S A c R d), .agg (evC e)] w fun x w' => x = .returned (.bool (meantB S e)) ∧ Keeps w w' [] := by
  have O := Own.start w []
  have _u := hh
  clear _u
  have H := Lib.hid (show meantB S e = false by simp [meantB, cnt, h5, h6, h7, h8, h9, h10, h11, h12, h13, h14]; omega)
  have q1 : (1 ≤ e.op) = True := by simp; omega
  have q2 : (e.op ≤ 16) = False := by simp; omega
  unfold sysV evC
  go_enter Try.func93, Try.ntmps93
  go_wp2_with (first
    | go_big_skip
    | (refine own_box 2 _ O rfl rfl rfl rfl ?_; clear O; intro W a2 O; simp only [Act.put, List.setIfInBounds_toArray, List.set_cons_zero, List.set_cons_succ])
    | (refine own_box 3 _ O rfl rfl rfl rfl ?_; clear O; intro W a3 O; simp only [Act.put, List.setIfInBounds_toArray, List.set_cons_zero, List.set_cons_succ]; have c3 := (O.get 0 rfl).cell; have c2 := (O.get 1 rfl).cell))
  go_ret
  exact ⟨by rw [H.out]; rfl, O.keep⟩
set_option maxRecDepth 100000 in
theorem meant_ok (e : Ev) (h5 : ¬ e.op = 5) (h6 : ¬ e.op = 6) (h7 : ¬ e.op = 7) (h8 : ¬ e.op = 8) (h9 : ¬ e.op = 9) (h10 : ¬ e.op = 10) (h11 : ¬ e.op = 11) (h12 : ¬ e.op = 12) (h13 : ¬ e.op = 13) (h14 : ¬ e.op = 14) (h : 1 ≤ e.op ∧ e.op ≤ 16) : Calls Try.prog 93 #[.agg (sysV S A c R d), .agg (evC e)] w fun x w' => x = .returned (.bool (meantB S e)) ∧ Keeps w w' [] := by
  have O := Own.start w []
  have _u := hh
  clear _u
  have H := Lib.hid (show meantB S e = true by simp [meantB, cnt, h5, h6, h7, h8, h9, h10, h11, h12, h13, h14]; omega)
  have q1 : (1 ≤ e.op) = True := by simp; omega
  have q2 : (e.op ≤ 16) = True := by simp; omega
  unfold sysV evC
  go_enter Try.func93, Try.ntmps93
  go_wp2_with (first
    | go_big_skip
    | (refine own_box 2 _ O rfl rfl rfl rfl ?_; clear O; intro W a2 O; simp only [Act.put, List.setIfInBounds_toArray, List.set_cons_zero, List.set_cons_succ])
    | (refine own_box 3 _ O rfl rfl rfl rfl ?_; clear O; intro W a3 O; simp only [Act.put, List.setIfInBounds_toArray, List.set_cons_zero, List.set_cons_succ]; have c3 := (O.get 0 rfl).cell; have c2 := (O.get 1 rfl).cell))
  go_ret
  exact ⟨by rw [H.out]; rfl, O.keep⟩
theorem meant_any (e : Ev) : Calls Try.prog 93 #[.agg (sysV S A c R d), .agg (evC e)] w fun x w' => x = .returned (.bool (meantB S e)) ∧ Keeps w w' [] := by
  by_cases h5 : e.op = 5
  · exact meant_5 S A c R d w hh e h5
  by_cases h6 : e.op = 6
  · exact meant_6 S A c R d w hh e h6
  by_cases h7 : e.op = 7
  · exact meant_7 S A c R d w hh e h7
  by_cases h8 : e.op = 8
  · exact meant_8 S A c R d w hh e h8
  by_cases h9 : e.op = 9
  · exact meant_9 S A c R d w hh e h9
  by_cases h10 : e.op = 10
  · exact meant_10 S A c R d w hh e h10
  by_cases h11 : e.op = 11
  · exact meant_11 S A c R d w hh e h11
  by_cases h12 : e.op = 12
  · exact meant_12 S A c R d w hh e h12
  by_cases h13 : e.op = 13
  · exact meant_13 S A c R d w hh e h13
  by_cases h14 : e.op = 14
  · exact meant_14 S A c R d w hh e h14
  by_cases l1 : e.op < 1
  · exact meant_lo S A c R d w hh e h5 h6 h7 h8 h9 h10 h11 h12 h13 h14 l1
  by_cases l2 : 16 < e.op
  · exact meant_hi S A c R d w hh e h5 h6 h7 h8 h9 h10 h11 h12 h13 h14 l2
  exact meant_ok S A c R d w hh e h5 h6 h7 h8 h9 h10 h11 h12 h13 h14 (by omega)
end
end Go.Proofs.Ytakmcpadkanggaa
namespace Go.Proofs.Ytakmcpadkanggaa
open Go.RowKit Go.Maps Go.Deep
theorem shB_iff (n : Int) : shB n = true ↔ 0 ≤ n ∧ n ≤ 64 := by simp [shB]
section
variable {ops : Array Oper} {rest : List Oper} {o : Oper} {a : Act} {w W : World} {Q : Exit → Act → World → Prop} {S : List Nat} {L : List Ent} {T : TypeId}
theorem own_allocK (d : Nat) (cs : Array Value) (O : Own w W S L) (_hd : o.dst = some d) (hgd : o.guard = none) (ho : o.op = .alloc T) (hz : ∀ w, (zeroValue T).run Try.prog w = .ok (.agg cs) w)
    (h : ∀ u g, Own w u S ((g, T, cs) :: L) → Keeps W u [] → W.heap.size ≤ g → wpList Try.prog ops Q rest (a.put o.dst (.pointer (some ⟨g, 0, none⟩))) u) : wpList Try.prog ops Q (o :: rest) a W :=
  wpList_alloc d cs _hd hgd ho hz fun u k b _ => h u _ (O.add k b) k (Nat.le_refl _)
theorem own_store_rowK {ty g t : Nat} {cs cs' : Array Value} (k : Nat) (y z : Operand) (O : Own w W S L) (hgd : o.guard = none) (hdst : o.dst = none) (ho : o.op = .store ty y z) (hy : a.eval y = .pointer (some ⟨g, 0, none⟩)) (hz : a.eval z = .agg cs') (hk : L[k]? = some (g, t, cs))
    (hi : (Try.prog.info? ty).map (·.size) = some cs'.size) (hs : cs.size = cs'.size) (h1 : ∀ v ∈ cs'.toList, v.oneCell' = true)
    (h : ∀ u, Own w u S (L.set k (g, t, cs')) → Keeps W u [g] → wpList Try.prog ops Q rest a u) : wpList Try.prog ops Q (o :: rest) a W :=
  wpList_store_row y z hgd hdst ho hy hz (O.get k hk) hi hs h1 fun u kp b => h u (O.set k hk kp b) kp
end
def arrI (n : Nat) (f : Int → Int) : Array Value := (Array.range n).map fun i => .int .i64 (f (i : Nat))
def arrB (n : Nat) (f : Int → Bool) : Array Value := (Array.range n).map fun i => .bool (f (i : Nat))
@[go_sem] theorem arrI_size (n : Nat) (f : Int → Int) : (arrI n f).size = n := by simp [arrI]
@[go_sem] theorem arrB_size (n : Nat) (f : Int → Bool) : (arrB n f).size = n := by simp [arrB]
theorem arrI_get (n : Nat) (f : Int → Int) (i : Nat) (h : i < n) : (arrI n f)[i]? = some (.int .i64 (f (i : Nat))) := by simp [arrI, h]
theorem arrB_get (n : Nat) (f : Int → Bool) (i : Nat) (h : i < n) : (arrB n f)[i]? = some (.bool (f (i : Nat))) := by simp [arrB, h]
theorem arrI_set (n : Nat) (f : Int → Int) (i : Nat) (x : Int) : (arrI n f).setIfInBounds i (.int .i64 x) = arrI n (updI f (i : Nat) x) := by
  apply Array.ext_getElem?
  intro j
  rw [Array.getElem?_setIfInBounds]
  by_cases hj : i = j
  · subst hj
    by_cases hi : i < n
    · rw [if_pos rfl, if_pos (by rw [arrI_size]; exact hi), arrI_get _ _ _ hi, updI_same]
    · simp [arrI, hi]
  · rw [if_neg hj]
    by_cases hi : j < n
    · rw [arrI_get _ _ _ hi, arrI_get _ _ _ hi, updI_other _ _ _ _ (by omega)]
    · simp [arrI, hi]
theorem arrB_set (n : Nat) (f : Int → Bool) (i : Nat) (x : Bool) : (arrB n f).setIfInBounds i (.bool x) = arrB n (updI f (i : Nat) x) := by
  apply Array.ext_getElem?
  intro j
  rw [Array.getElem?_setIfInBounds]
  by_cases hj : i = j
  · subst hj
    by_cases hi : i < n
    · rw [if_pos rfl, if_pos (by rw [arrB_size]; exact hi), arrB_get _ _ _ hi, updI_same]
    · simp [arrB, hi]
  · rw [if_neg hj]
    by_cases hi : j < n
    · rw [arrB_get _ _ _ hi, arrB_get _ _ _ hi, updI_other _ _ _ _ (by omega)]
    · simp [arrB, hi]
theorem info3' : (Try.prog.info? 3).map (fun i => (i.zero, i.size, i.bytes)) = some (some (.int .i64 0), 1, 8) := by kernel_rfl
theorem info4' : (Try.prog.info? 4).map (fun i => (i.zero, i.size, i.bytes)) = some (some (.bool false), 1, 1) := by kernel_rfl
theorem made_I (n : Nat) : madeCells #[.int .i64 0] n = arrI n fun _ => 0 := by
  apply Array.ext_getElem?
  intro j
  by_cases hj : j < n
  · rw [arrI_get _ _ _ hj]; simp [madeCells, hj, Nat.mod_one]
  · simp [madeCells, arrI, hj]
theorem made_B (n : Nat) : madeCells #[.bool false] n = arrB n fun _ => false := by
  apply Array.ext_getElem?
  intro j
  by_cases hj : j < n
  · rw [arrB_get _ _ _ hj]; simp [madeCells, hj, Nat.mod_one]
  · simp [madeCells, arrB, hj]
section
variable {ops : Array Oper} {rest : List Oper} {o : Oper} {a : Act} {w W : World} {Q : Exit → Act → World → Prop} {S : List Nat} {L : List Ent} {x : Operand}
theorem own_loadG {P : Program} {ty g t : Nat} {cs : Array Value} {e : TypeDesc} (d k : Nat) (O : Own w W S L) (_hd : o.dst = some d) (hw : Region.wanted o (yielded ops a.tmps) = true) (ho : o.op = .load ty x) (hx : a.eval x = .pointer (some ⟨g, 0, none⟩)) (hk : L[k]? = some (g, t, cs))
    (hu : P.underlying ty = some e) (he : (match e with | .struct _ | .array _ _ => true | _ => false) = true) (hi : (P.info? ty).map (·.size) = some cs.size)
    (h : wpList P ops Q rest (a.put o.dst (.agg cs)) W) : wpList P ops Q (o :: rest) a W := by
  have hr : (loadVar ty ⟨g, 0, none⟩).run P W = .ok (.agg cs) W := run_loadVar_row W g t ty cs (0, 0) e (O.get k hk) hu he hi
  simp only [wpList, hw, if_true]
  left
  unfold Oper.wp execOp
  simp only [ho, hx, Instr.loadAt, Instr.sureAddr, Sem.run_bind, Sem.run_pure, Result.andThen_ok, hr]
  exact h
theorem own_makeI (d n : Nat) (O : Own w W S L) (_hd : o.dst = some d) (hgd : o.guard = none) (ho : o.op = .makeSlice 25 x x) (hx : a.eval x = .int .i64 (n : Int)) (hn : n ≤ 1000000)
    (h : ∀ u g, Own w u S ((g, 3, arrI n fun _ => 0) :: L) → wpList Try.prog ops Q rest (a.put o.dst (.slice (some ⟨g, 0, none⟩) n n)) u) : wpList Try.prog ops Q (o :: rest) a W := by
  refine wpList_plain hgd fun K hK => ?_
  unfold Oper.wp execOp
  simp only [ho, hx, Sem.run_bind, run_make_row' 25 3 (.int .i64 0) 8 Try.underlying25 info3' rfl .i64 .i64 n (by omega) (by omega), Result.andThen_ok, Sem.run_pure]
  exact hK _ _ (h _ _ (O.add ((Keeps.refl _ _).alloc _) (by rw [made_I]; exact Blk.new _ _ _)))
theorem own_makeB (d n : Nat) (O : Own w W S L) (_hd : o.dst = some d) (hgd : o.guard = none) (ho : o.op = .makeSlice 41 x x) (hx : a.eval x = .int .i64 (n : Int)) (hn : n ≤ 1000000)
    (h : ∀ u g, Own w u S ((g, 4, arrB n fun _ => false) :: L) → wpList Try.prog ops Q rest (a.put o.dst (.slice (some ⟨g, 0, none⟩) n n)) u) : wpList Try.prog ops Q (o :: rest) a W := by
  refine wpList_plain hgd fun K hK => ?_
  unfold Oper.wp execOp
  simp only [ho, hx, Sem.run_bind, run_make_row' 41 4 (.bool false) 1 Try.underlying41 info4' rfl .i64 .i64 n (by omega) (by omega), Result.andThen_ok, Sem.run_pure]
  exact hK _ _ (h _ _ (O.add ((Keeps.refl _ _).alloc _) (by rw [made_B]; exact Blk.new _ _ _)))
end
end Go.Proofs.Ytakmcpadkanggaa
namespace Go.Proofs.Ytakmcpadkanggaa
open Go.ChangeShapes Go.WideShapes Go.RowKit Go.Maps Go.Deep
instance Ev.some_ : Inhabited Ev := ⟨⟨0, 0, 0, 0, false⟩⟩
theorem cells37 : Try.prog.cellsOf 37 = 5 := by kernel_rfl
theorem cells4 : Try.prog.cellsOf 4 = 1 := by kernel_rfl
theorem bytes37 : Try.prog.bytesOf 37 = 40 := by kernel_rfl
section
variable {H : Type} {enc : TypeId × Value → H} {w : World}
theorem field1w {fuel j : Nat} {cs : List Value} {y : DataW H × List MemPlace} (h : DataW.trod enc Try.prog w 0 (fun _ => true) true fuel 3 ((cs.drop j).take (Try.prog.cellsOf 3)) = some y) : ∃ n : Int, cs[j]? = some (.int .i64 n) ∧ (Lit.int .i64 n).wf = true := by
  rw [cells3] at h
  obtain ⟨n, e, _, hw⟩ := DataW.trod_int Try.underlying3 h
  refine ⟨n, ?_, hw⟩
  have := congrArg (fun l => l[0]?) e
  simpa [List.getElem?_take, List.getElem?_drop] using this
theorem field1b {fuel j : Nat} {cs : List Value} {y : DataW H × List MemPlace} (h : DataW.trod enc Try.prog w 0 (fun _ => true) true fuel 4 ((cs.drop j).take (Try.prog.cellsOf 4)) = some y) : ∃ b : Bool, cs[j]? = some (.bool b) := by
  rw [cells4] at h
  obtain ⟨n, e, _⟩ := DataW.trod_bool Try.underlying4 h
  refine ⟨n, ?_⟩
  have := congrArg (fun l => l[0]?) e
  simpa [List.getElem?_take, List.getElem?_drop] using this
set_option maxRecDepth 100000 in
/-- A list of events, opened. -/
theorem open_events {base : Nat} {v : Value} {d : DataW H} {p : List MemPlace} (hval : Value.okWide Try.prog w .any base 31 v) (h : DataW.Trod enc Try.prog w 0 (fun _ => true) true 31 v d p)
    (hz : ∀ e s, d = .slice e s → (e.length + s.length) * Try.prog.bytesOf 37 ≤ reachBytes) :
    ∃ (A : Option Addr) (n c : Nat) (E : Nat → Ev), v = .slice A n c ∧ EvsAt w A n E ∧ (∀ i, i < n → (Lit.int .i64 (E i).a).wf = true) ∧ n * 40 ≤ 140737488351232 ∧ (A = none → n = 0 ∧ c = 0) := by
  obtain ⟨a0, len0, cap0, rfl⟩ := okWide_slice Try.underlying31 hval
  obtain ⟨fuel, hf⟩ := h
  rcases open_slice Try.underlying31 hf with ⟨hcs, _⟩ | ⟨a, len, cap, m, n, D, Pl, hcs, hb, hl, hm, hmm, hx, hel⟩
  · simp [Value.cells] at hcs
    obtain ⟨rfl, rfl, rfl⟩ := hcs
    exact ⟨none, 0, 0, fun _ => default, rfl, fun hn => by omega, fun i hi => by omega, by omega, fun _ => ⟨rfl, rfl⟩⟩
  · simp [Value.cells] at hcs
    obtain ⟨rfl, rfl, rfl⟩ := hcs
    simp only [if_true] at hmm
    subst hmm
    simp only [Prod.mk.injEq] at hx
    obtain ⟨rfl, rfl⟩ := hx
    have hs := hz _ _ rfl
    rw [bytes37] at hs
    simp only [List.length_map, List.length_range] at hs
    have hr : reachBytes ≤ 140737488351232 := by decide
    have key : ∀ i, i < m → ∃ e : Ev, (∀ j, j < 5 → w.cell? (a.add (i * 5 + j)) = (evC e)[j]?) ∧ (Lit.int .i64 e.a).wf = true := fun i hi => by
      obtain ⟨cs', h1, h2⟩ := hel i hi
      rw [cells37] at h1
      obtain ⟨xs, n', _, _, _, hlen, hf⟩ := DataW.trod_struct Try.underlying37 h2
      have hc := (World.cells?_some h1).2.2
      match xs, hlen with
      | [y0, y1, y2, y3, y4], _ =>
        obtain ⟨n0, e0, _⟩ := field1w (j := 0) (by simpa using hf 0 _ rfl)
        obtain ⟨n1, e1, _⟩ := field1w (j := 1) (by simpa using hf 1 _ rfl)
        obtain ⟨n2, e2, w2⟩ := field1w (j := 2) (by simpa using hf 2 _ rfl)
        obtain ⟨n3, e3, _⟩ := field1w (j := 3) (by simpa using hf 3 _ rfl)
        obtain ⟨n4, e4⟩ := field1b (j := 4) (by simpa using hf 4 _ rfl)
        refine ⟨⟨n0, n1, n2, n3, n4⟩, fun j hj => ?_, w2⟩
        rw [← Addr.add_add]
        match j, hj with
        | 0, _ => rw [hc 0 (by omega)]; exact e0
        | 1, _ => rw [hc 1 (by omega)]; exact e1
        | 2, _ => rw [hc 2 (by omega)]; exact e2
        | 3, _ => rw [hc 3 (by omega)]; exact e3
        | 4, _ => rw [hc 4 (by omega)]; exact e4
    obtain ⟨g, hg⟩ := choose_lt key
    refine ⟨some a, len0, m, g, rfl, fun hn => ⟨a, rfl, ?_, fun i j hi hj => (hg i (by omega)).1 j hj⟩, fun i hi => (hg i (by omega)).2, ?_, fun h => by cases h⟩
    · have h0 := (hg 0 (by omega)).1 0 (by omega)
      have := World.block_lt_of_cell? w _ h0
      rwa [add_block] at this
    · have : len0 * 40 ≤ (len0 + (m - len0)) * 40 := Nat.mul_le_mul_right _ (by omega)
      omega
end
theorem info37 : ∃ i, Try.prog.info? 37 = some i ∧ i.zero = some (.agg (evC ⟨0, 0, 0, 0, false⟩)) ∧ i.size = 5 ∧ i.bytes = 40 := by
  have h : (Try.prog.info? 37).map (fun i => (i.zero, i.size, i.bytes)) = some (some (.agg (evC ⟨0, 0, 0, 0, false⟩)), 5, 40) := by kernel_rfl
  obtain ⟨i, hi, he⟩ := Option.map_eq_some_iff.1 h
  simp only [Prod.mk.injEq] at he
  exact ⟨i, hi, he.1, he.2.1, he.2.2⟩
/-- The cells of n events. -/
def evL (E : Nat → Ev) (n : Nat) : List Value := (List.range (n * 5)).map fun i => (evC (E (i / 5))).getD (i % 5) undef
theorem evL_length (E : Nat → Ev) (n : Nat) : (evL E n).length = n * 5 := by simp [evL]
theorem evC_getD (e : Ev) (j : Nat) (h : j < 5) : (evC e)[j]? = some ((evC e).getD j undef) := by
  have h' : j < (evC e).size := h
  simp [h']
theorem evL_get (E : Nat → Ev) (n i j : Nat) (hi : i < n) (hj : j < 5) : (evL E n)[i * 5 + j]? = (evC (E i))[j]? := by
  rw [evC_getD _ _ hj]
  have h : i * 5 + j < n * 5 := by omega
  simp [evL, h, show (i * 5 + j) / 5 = i by omega, show (i * 5 + j) % 5 = j by omega]
theorem evL_cell (E : Nat → Ev) (n : Nat) : ∀ u ∈ evL E n, u.oneCell' = true := by
  intro u hu
  simp only [evL, List.mem_map, List.mem_range] at hu
  obtain ⟨i, _, rfl⟩ := hu
  refine evC_cell (E (i / 5)) _ ?_
  have h := evC_getD (E (i / 5)) (i % 5) (by omega)
  exact Array.mem_toList_iff.2 (Array.mem_of_getElem? h)
theorem evs_of_row {w w0 : World} {v : Value} {n : Nat} {E : Nat → Ev} (h : w.ownsRow w0.heap.size 37 5 v n (evL E n)) : ∃ B c, v = .slice B n c ∧ EvsAt w B n E := by
  obtain ⟨_, ⟨rfl, rfl⟩ | ⟨g, cap, cur, rfl, _, hb, hle, hm, hs, ht⟩⟩ := h
  · exact ⟨none, 0, rfl, fun h => by omega⟩
  · refine ⟨some ⟨g, 0, none⟩, cap, rfl, fun hn => ⟨⟨g, 0, none⟩, rfl, ?_, fun i j hi hj => ?_⟩⟩
    · rcases Nat.lt_or_ge g w.heap.size with h | h
      · exact h
      · rw [Array.getElem?_eq_none h] at hb; cases hb
    · rw [add_zero_, cell_of_row w g (i * 5 + j) cur 37 (0, 0) hb, ← evL_get E n i j hi hj, ← ht, List.getElem?_take, if_pos (by omega), Array.getElem?_toList]
section
variable {w : World} {n : Nat} {E : Nat → Ev} {B : Option Addr} {cb : Nat}
theorem ev_self (e : Ev) (w : World) : (Op.equalIn 10000 37 (.agg (evC e)) (.agg (evC e))).run Try.prog w = .ok true w := by
  have h := run_equalIn_struct (P := Try.prog) w 9999 37 (evC e) (evC e) (by kernel_rfl) (by kernel_rfl)
  show (Op.equalIn (9999 + 1) 37 _ _).run Try.prog w = _
  rw [h]
  simp [Program.fieldsOf, Try.underlying37, Op.eqFields, part, isAgg, run_underlying Try.underlying3, run_underlying Try.underlying4, evC, run_equalIn_int _ _ _ _ _ _ _ Try.underlying3, run_equalIn_bool _ _ _ _ _ Try.underlying4]
end
end Go.Proofs.Ytakmcpadkanggaa
namespace Go.Proofs.Ytakmcpadkanggaa
open Go.RowKit Go.Maps Go.Deep
/-- v is a row of these numbers, of the call's own making (from block base on). -/
def Mint (base : Nat) (W : World) (v : Value) (xs : List Int) : Prop := W.ownsRow base 3 1 v xs.length (xs.map fun x => Value.int .i64 x)
theorem Mint.nil (base : Nat) (W : World) : Mint base W (.slice none 0 0) [] := World.ownsRow_nil W base 3 1
theorem Mint.own {base : Nat} {W : World} {v : Value} {xs : List Int} (h : Mint base W v xs) {g : Nat} (hg : v.ownBlock = some g) : base ≤ g ∧ g < W.heap.size ∧ ∃ cur, Blk W g 3 cur := by
  have hl := h.lt g hg
  refine ⟨hl.1, hl.2, ?_⟩
  rcases h.2 with ⟨rfl, _⟩ | ⟨g', cap, cur, rfl, _, hb, _⟩
  · cases hg
  · simp [Value.ownBlock] at hg
    subst hg
    exact ⟨cur, hb⟩
theorem Mint.keeps {base : Nat} {W u : World} {v : Value} {xs : List Int} {S : List Nat} (h : Mint base W v xs) (k : Keeps W u S) (hS : ∀ g, v.ownBlock = some g → g ∉ S) : Mint base u v xs := by
  refine ⟨h.1, ?_⟩
  rcases h.2 with hn | ⟨g, cap, cur, rfl, hb, hgg, rest⟩
  · exact .inl hn
  · refine .inr ⟨g, cap, cur, rfl, hb, ?_, rest⟩
    rw [k.block g (Array.getElem?_eq_some_iff.1 hgg).1 (hS g rfl)]
    exact hgg
/-- A slice of these numbers. -/
def IntL (W : World) (v : Value) (xs : List Int) : Prop := ∃ A c, v = .slice A xs.length c ∧ (0 < xs.length → ∃ ad, A = some ad ∧ ad.block < W.heap.size ∧ ∀ j, j < xs.length → W.cell? (ad.add j) = some (.int .i64 (xs.getD j 0)))
theorem Mint.list {base : Nat} {W : World} {v : Value} {xs : List Int} (h : Mint base W v xs) : IntL W v xs := by
  have hc := fun g hg j u hu => h.cells (g := g) hg j u hu
  have hl := h.lt
  rcases h.2 with ⟨rfl, h0⟩ | ⟨g, cap, cur, rfl, _⟩
  · have : xs = [] := List.eq_nil_of_length_eq_zero h0
    subst this
    exact ⟨none, 0, rfl, fun h => by simp at h⟩
  · refine ⟨_, cap, rfl, fun _ => ⟨_, rfl, (hl g rfl).2, fun j hj => hc g rfl j _ ?_⟩⟩
    simp [hj]
theorem IntL.kept {w u : World} {v : Value} {xs : List Int} (h : IntL w v xs) (k : Keeps w u []) : IntL u v xs := by
  obtain ⟨A, c, e, hx⟩ := h
  refine ⟨A, c, e, fun hn => ?_⟩
  obtain ⟨ad, e, hb, hc⟩ := hx hn
  exact ⟨ad, e, by have := k.size; omega, fun j hj => by rw [k.cellAt (by rw [add_block]; exact hb) (by simp)]; exact hc j hj⟩
theorem info3 : ∃ i, Try.prog.info? 3 = some i ∧ i.zero = some (.int .i64 0) ∧ i.size = 1 ∧ i.bytes = 8 := by
  obtain ⟨i, hi, he⟩ := Option.map_eq_some_iff.1 info3'
  simp only [Prod.mk.injEq] at he
  exact ⟨i, hi, he.1, he.2.1, he.2.2⟩
section
variable {ops : Array Oper} {rest : List Oper} {o : Oper} {a : Act} {w W : World} {Q : Exit → Act → World → Prop}
theorem app_one (base : Nat) (v : Value) (xs : List Int) (x : Int) (gl : Nat) (s z : Operand) (hM : Mint base W v xs) (hb : base ≤ W.heap.size) (hgd : o.guard = none) (ho : o.op = .call { callee := .builtin .append, args := #[s, z], argTypes := #[25, 25] })
    (hs : a.eval s = v) (hz' : a.eval z = .slice (some ⟨gl, 0, none⟩) 1 1) (hc : W.cell? ⟨gl, 0, none⟩ = some (.int .i64 x)) (hn : xs.length ≤ 1000000)
    (h : ∀ v' u, W.grownBy u v.ownBlock → Mint base u v' (xs ++ [x]) → wpList Try.prog ops Q rest (a.put o.dst v') u) : wpList Try.prog ops Q (o :: rest) a W := by
  obtain ⟨i, hi, hz, hsz, hby⟩ := info3
  refine wpList_append_own W hgd s z 25 ho base 3 i (.int .i64 0) 1 8 Try.underlying25 hi hz hsz hby rfl (by decide) v xs.length (xs.map fun x => .int .i64 x) hs hM ⟨gl, 0, none⟩ 1 1 [.int .i64 x] hz' rfl (fun j u hu => ?_) (fun u hu => by rw [List.mem_singleton] at hu; subst hu; rfl)
    (by simp only [maxLen]; omega) (by omega) hb fun v' u h1 h2 _ => ?_
  · match j with
    | 0 => simp at hu; subst hu; exact hc
    | j + 1 => simp at hu
  · exact h v' u h2 (by unfold Mint; rw [List.length_append, List.map_append]; exact h1)
end
section
variable {ops : Array Oper} {rest : List Oper} {o : Oper} {a : Act} {w W : World} {Q : Exit → Act → World → Prop} {S : List Nat} {L : List Ent} {x0 x : Operand} {T : TypeId}
theorem own_lit1 (d : Nat) (n0 : Int) (O : Own w W S L) (_hd : o.dst = some d) (hgd : o.guard = none) (ho : o.op = .buildSlice 25 1 #[(0, x0)]) (h0 : a.eval x0 = .int .i64 n0)
    (h : ∀ u g, Own w u S ((g, 3, #[.int .i64 n0]) :: L) → Keeps W u [] → W.heap.size ≤ g → wpList Try.prog ops Q rest (a.put o.dst (.slice (some ⟨g, 0, none⟩) 1 1)) u) : wpList Try.prog ops Q (o :: rest) a W := by
  obtain ⟨i, hi, hz, hs, hb⟩ := info3
  have k := (Keeps.refl W []).alloc (.cells #[Value.int .i64 n0] 3)
  refine wpList_buildSlice hgd 25 3 1 _ ho #[.int .i64 n0] i (.int .i64 0) Try.underlying25 hi hz (by rw [hs]; decide) (by rw [hs]; decide) ?_ (h _ _ (O.add k (Blk.new _ _ _)) k (Nat.le_refl _))
  rw [hs]
  have e : ((#[(0, x0)] : Array (Nat × Operand)).map (fun (i, x) => (i, a.eval x))).toList = [(0, .int .i64 n0)] := by simp [h0]
  rw [e]
  have r : Array.range 1 = #[0] := by decide
  simp [Instr.fill, r, Value.cells]
theorem own_box1 (d : Nat) (v : Value) (O : Own w W S L) (_hd : o.dst = some d) (hgd : o.guard = none) (ho : o.op = .box T x) (hx : a.eval x = v) (hv : v.cells = #[v])
    (h : ∀ u g, Own w u S ((g, T, #[v]) :: L) → wpList Try.prog ops Q rest (a.put o.dst (.pointer (some ⟨g, 0, none⟩))) u) : wpList Try.prog ops Q (o :: rest) a W := by
  refine wpList_plain hgd fun K hK => ?_
  have hr : (Instr.box T v).run Try.prog W = .ok (.pointer (some ⟨W.heap.size, 0, none⟩)) (W.alloc (.cells #[v] T)) := by
    simp [Instr.box, newVar, newRow, hv]
  unfold Oper.wp execOp
  simp only [ho, hx, Sem.run_bind, hr, Result.andThen_ok, Sem.run_pure]
  exact hK _ _ (h _ _ (O.add ((Keeps.refl _ _).alloc _) (Blk.new _ _ _)))
/-- A row of one's own grows by one. -/
theorem own_app (base : Nat) (v : Value) (xs : List Int) (y : Int) (gl : Nat) (s z : Operand) (O : Own w W S L) (hM : Mint base W v xs) (hgd : o.guard = none) (ho : o.op = .call { callee := .builtin .append, args := #[s, z], argTypes := #[25, 25] })
    (hs : a.eval s = v) (hz' : a.eval z = .slice (some ⟨gl, 0, none⟩) 1 1) (hc : W.cell? ⟨gl, 0, none⟩ = some (.int .i64 y)) (hb : w.heap.size = base) (hL : ∀ q ∈ L, q.2.1 ≠ 3) (hn : xs.length ≤ 1000000)
    (h : ∀ v' u, Own w u S L → Mint base u v' (xs ++ [y]) → wpList Try.prog ops Q rest (a.put o.dst v') u) : wpList Try.prog ops Q (o :: rest) a W := by
  refine app_one base v xs y gl s z hM (by have := O.keep.size; omega) hgd ho hs hz' hc hn fun v' u g M => h v' u ?_ M
  have hk : Keeps W u (v.ownBlock.toList) := ⟨g.os, g.tape, g.output, g.size, fun b hb' hn => g.block b hb' (by intro e; exact hn (by rw [← e]; simp))⟩
  refine ⟨O.keep.trans hk (fun b hb' hlt => ?_), fun q hq => (O.blk q hq).keeps hk (fun hm => ?_), O.new, O.nd⟩
  · have := (hM.own (g := b) (by simpa using hb')).1
    omega
  · obtain ⟨_, _, cur, hcur⟩ := hM.own (g := q.1) (by simpa using hm)
    have h1 := O.blk q hq
    rw [Blk, hcur] at h1
    injection h1 with h1
    injection h1 with _ h1 _
    exact hL q hq h1.symm
end
theorem IntL.nil (W : World) : IntL W (.slice none 0 0) [] := ⟨none, 0, rfl, fun h => by simp at h⟩
end Go.Proofs.Ytakmcpadkanggaa
