/-
  The document's answer: which instruction, which system may be (quernref13).
-/
import Derived.Test.YtakmcpadkanggaaT4
namespace Go.Proofs.Ytakmcpadkanggaa
open Go.RowKit

theorem add_zero_ (g k : Nat) : (⟨g, 0, none⟩ : Addr).add k = ⟨g, k, none⟩ := by unfold Addr.add; split <;> simp_all
/-- The letter of what a field is. -/
def ltr (k : Nat) : Int := [110, 114, 112, 120, 99, 108, 103, 115].getD k 110
def strA (o : Nat) : ByteArray := ⟨(([[], [114, 120, 110], [114, 114, 110], [114, 114, 112], [110, 110, 112], [99, 114, 110], [99, 114, 112], [99, 110, 110], [108, 110, 110], [108, 110, 110], [103, 120, 110], [103, 110, 110], [114, 114, 110], [114, 114, 110], [115, 110, 110], [120, 114, 110], [110, 110, 110]] : List (List UInt8)).getD o []).toArray⟩

theorem reffields_1 (w : World) : Calls Try.prog 87 #[.int .i64 1] w fun e w' => e = .returned (.string (strA 1)) ∧ Keeps w w' [] := by
  go_enter Try.func87, Try.ntmps87
  go_wp2
  go_ret
  exact ⟨rfl, (Keeps.refl _ _).alloc _⟩

theorem reffields_2 (w : World) : Calls Try.prog 87 #[.int .i64 2] w fun e w' => e = .returned (.string (strA 2)) ∧ Keeps w w' [] := by
  go_enter Try.func87, Try.ntmps87
  go_wp2
  go_ret
  exact ⟨rfl, (Keeps.refl _ _).alloc _⟩

theorem reffields_3 (w : World) : Calls Try.prog 87 #[.int .i64 3] w fun e w' => e = .returned (.string (strA 3)) ∧ Keeps w w' [] := by
  go_enter Try.func87, Try.ntmps87
  go_wp2
  go_ret
  exact ⟨rfl, (Keeps.refl _ _).alloc _⟩

theorem reffields_4 (w : World) : Calls Try.prog 87 #[.int .i64 4] w fun e w' => e = .returned (.string (strA 4)) ∧ Keeps w w' [] := by
  go_enter Try.func87, Try.ntmps87
  go_wp2
  go_ret
  exact ⟨rfl, (Keeps.refl _ _).alloc _⟩

theorem reffields_5 (w : World) : Calls Try.prog 87 #[.int .i64 5] w fun e w' => e = .returned (.string (strA 5)) ∧ Keeps w w' [] := by
  go_enter Try.func87, Try.ntmps87
  go_wp2
  go_ret
  exact ⟨rfl, (Keeps.refl _ _).alloc _⟩

theorem reffields_6 (w : World) : Calls Try.prog 87 #[.int .i64 6] w fun e w' => e = .returned (.string (strA 6)) ∧ Keeps w w' [] := by
  go_enter Try.func87, Try.ntmps87
  go_wp2
  go_ret
  exact ⟨rfl, (Keeps.refl _ _).alloc _⟩

theorem reffields_7 (w : World) : Calls Try.prog 87 #[.int .i64 7] w fun e w' => e = .returned (.string (strA 7)) ∧ Keeps w w' [] := by
  go_enter Try.func87, Try.ntmps87
  go_wp2
  go_ret
  exact ⟨rfl, (Keeps.refl _ _).alloc _⟩

theorem reffields_8 (w : World) : Calls Try.prog 87 #[.int .i64 8] w fun e w' => e = .returned (.string (strA 8)) ∧ Keeps w w' [] := by
  go_enter Try.func87, Try.ntmps87
  go_wp2
  go_ret
  exact ⟨rfl, (Keeps.refl _ _).alloc _⟩

theorem reffields_9 (w : World) : Calls Try.prog 87 #[.int .i64 9] w fun e w' => e = .returned (.string (strA 9)) ∧ Keeps w w' [] := by
  go_enter Try.func87, Try.ntmps87
  go_wp2
  go_ret
  exact ⟨rfl, (Keeps.refl _ _).alloc _⟩

theorem reffields_10 (w : World) : Calls Try.prog 87 #[.int .i64 10] w fun e w' => e = .returned (.string (strA 10)) ∧ Keeps w w' [] := by
  go_enter Try.func87, Try.ntmps87
  go_wp2
  go_ret
  exact ⟨rfl, (Keeps.refl _ _).alloc _⟩

theorem reffields_11 (w : World) : Calls Try.prog 87 #[.int .i64 11] w fun e w' => e = .returned (.string (strA 11)) ∧ Keeps w w' [] := by
  go_enter Try.func87, Try.ntmps87
  go_wp2
  go_ret
  exact ⟨rfl, (Keeps.refl _ _).alloc _⟩

theorem reffields_12 (w : World) : Calls Try.prog 87 #[.int .i64 12] w fun e w' => e = .returned (.string (strA 12)) ∧ Keeps w w' [] := by
  go_enter Try.func87, Try.ntmps87
  go_wp2
  go_ret
  exact ⟨rfl, (Keeps.refl _ _).alloc _⟩

theorem reffields_13 (w : World) : Calls Try.prog 87 #[.int .i64 13] w fun e w' => e = .returned (.string (strA 13)) ∧ Keeps w w' [] := by
  go_enter Try.func87, Try.ntmps87
  go_wp2
  go_ret
  exact ⟨rfl, (Keeps.refl _ _).alloc _⟩

theorem reffields_14 (w : World) : Calls Try.prog 87 #[.int .i64 14] w fun e w' => e = .returned (.string (strA 14)) ∧ Keeps w w' [] := by
  go_enter Try.func87, Try.ntmps87
  go_wp2
  go_ret
  exact ⟨rfl, (Keeps.refl _ _).alloc _⟩

theorem reffields_15 (w : World) : Calls Try.prog 87 #[.int .i64 15] w fun e w' => e = .returned (.string (strA 15)) ∧ Keeps w w' [] := by
  go_enter Try.func87, Try.ntmps87
  go_wp2
  go_ret
  exact ⟨rfl, (Keeps.refl _ _).alloc _⟩

theorem reffields_16 (w : World) : Calls Try.prog 87 #[.int .i64 16] w fun e w' => e = .returned (.string (strA 16)) ∧ Keeps w w' [] := by
  go_enter Try.func87, Try.ntmps87
  go_wp2
  go_ret
  exact ⟨rfl, (Keeps.refl _ _).alloc _⟩

theorem reffields_low (op : Int) (h : op < 1) (w : World) : Calls Try.prog 87 #[.int .i64 op] w fun e w' => e = .returned (.string ⟨#[]⟩) ∧ Keeps w w' [] := by
  go_enter Try.func87, Try.ntmps87
  go_wp2_with (first | go_big_skip)
  go_ret
  exact ⟨rfl, (Keeps.refl _ _).alloc _⟩

theorem reffields_high (op : Int) (h : 17 ≤ op) (w : World) : Calls Try.prog 87 #[.int .i64 op] w fun e w' => e = .returned (.string ⟨#[]⟩) ∧ Keeps w w' [] := by
  have g0 : ¬ op < 1 := by omega
  go_enter Try.func87, Try.ntmps87
  go_wp2_with (first | go_big_skip)
  go_ret
  exact ⟨rfl, (Keeps.refl _ _).alloc _⟩

theorem reffields_any (o : Nat) (h1 : 1 ≤ o) (h2 : o ≤ 16) (w : World) : Calls Try.prog 87 #[.int .i64 (o : Int)] w fun e w' => e = .returned (.string (strA o)) ∧ Keeps w w' [] := by
  match o, h1, h2 with
  | 1, _, _ => exact reffields_1 w
  | 2, _, _ => exact reffields_2 w
  | 3, _, _ => exact reffields_3 w
  | 4, _, _ => exact reffields_4 w
  | 5, _, _ => exact reffields_5 w
  | 6, _, _ => exact reffields_6 w
  | 7, _, _ => exact reffields_7 w
  | 8, _, _ => exact reffields_8 w
  | 9, _, _ => exact reffields_9 w
  | 10, _, _ => exact reffields_10 w
  | 11, _, _ => exact reffields_11 w
  | 12, _, _ => exact reffields_12 w
  | 13, _, _ => exact reffields_13 w
  | 14, _, _ => exact reffields_14 w
  | 15, _, _ => exact reffields_15 w
  | 16, _, _ => exact reffields_16 w
  | 0, h, _ => omega
  | n + 17, _, h => exact absurd h (by omega)

section
variable (S : Sys) (A : Option Addr) (c : Nat) (R : Option Addr) (d : Nat) (p : Nat) (w : World) (hS : SysIn w S A c R d) (hp : p < S.np) (hl : S.lp p ≤ 256)
include hS hp hl

set_option maxRecDepth 100000 in
theorem bound_0 : Calls Try.prog 88 #[.agg (sysV S A c R d), .int .i64 p, .int .u8 110] w fun e w' => e = .returned (.int .i64 (bnd S p 0)) ∧ Keeps w w' [] := by
  have O := Own.start w []
  have _u := And.intro hS (And.intro hp hl)
  clear _u
  clear hS hp hl
  unfold sysV
  go_enter Try.func88, Try.ntmps88
  go_wp2_with (first
    | go_big_skip
    | (refine own_box 3 _ O rfl rfl rfl rfl ?_; clear O; intro W a3 O; simp only [Act.put, List.setIfInBounds_toArray, List.set_cons_zero, List.set_cons_succ]; have c3 := (O.get 0 rfl).cell))
  go_ret
  exact ⟨rfl, O.keep⟩

set_option maxRecDepth 100000 in
theorem bound_1 : Calls Try.prog 88 #[.agg (sysV S A c R d), .int .i64 p, .int .u8 114] w fun e w' => e = .returned (.int .i64 (bnd S p 1)) ∧ Keeps w w' [] := by
  have O := Own.start w []
  have _u := And.intro hS (And.intro hp hl)
  clear _u
  clear hS hp hl
  unfold sysV
  go_enter Try.func88, Try.ntmps88
  go_wp2_with (first
    | go_big_skip
    | (refine own_box 3 _ O rfl rfl rfl rfl ?_; clear O; intro W a3 O; simp only [Act.put, List.setIfInBounds_toArray, List.set_cons_zero, List.set_cons_succ]; have c3 := (O.get 0 rfl).cell))
  go_ret
  exact ⟨rfl, O.keep⟩

set_option maxRecDepth 100000 in
theorem bound_2 : Calls Try.prog 88 #[.agg (sysV S A c R d), .int .i64 p, .int .u8 112] w fun e w' => e = .returned (.int .i64 (bnd S p 2)) ∧ Keeps w w' [] := by
  have O := Own.start w []
  have _u := And.intro hS (And.intro hp hl)
  clear _u
  obtain ⟨ad, rfl, hb, hc⟩ := hS.progs (by omega)
  obtain ⟨B, cb, hcell, _, _, _⟩ := hc p hp
  have HC := Lib.hid (show ∀ u, Keeps w u [] → u.cell? (ad.add p) = some (.slice B (S.lp p) cb) from fun u k => (k.cellAt (by rw [add_block]; exact hb) (by simp)).trans hcell)
  have z0 : (0 : Int) ≤ p := by omega
  have z1 : (p : Int) < S.np := by omega
  have r1 : IntKind.i64.wrap ((S.lp p : Int) + 1) = S.lp p + 1 := IntWalk.i64_in _ (by omega)
  clear hc hS hp hl hcell hb
  unfold sysV
  go_enter Try.func88, Try.ntmps88
  go_wp2_with (first
    | go_big_skip
    | (refine own_box 3 _ O rfl rfl rfl rfl ?_; clear O; intro W a3 O; simp only [Act.put, List.setIfInBounds_toArray, List.set_cons_zero, List.set_cons_succ]; have c3 := (O.get 0 rfl).cell; have cp := HC.out _ O.keep))
  go_ret
  exact ⟨rfl, O.keep⟩

set_option maxRecDepth 100000 in
theorem bound_4 : Calls Try.prog 88 #[.agg (sysV S A c R d), .int .i64 p, .int .u8 99] w fun e w' => e = .returned (.int .i64 (bnd S p 4)) ∧ Keeps w w' [] := by
  have O := Own.start w []
  have _u := And.intro hS (And.intro hp hl)
  clear _u
  clear hS hp hl
  unfold sysV
  go_enter Try.func88, Try.ntmps88
  go_wp2_with (first
    | go_big_skip
    | (refine own_box 3 _ O rfl rfl rfl rfl ?_; clear O; intro W a3 O; simp only [Act.put, List.setIfInBounds_toArray, List.set_cons_zero, List.set_cons_succ]; have c3 := (O.get 0 rfl).cell))
  go_ret
  exact ⟨rfl, O.keep⟩

set_option maxRecDepth 100000 in
theorem bound_5 : Calls Try.prog 88 #[.agg (sysV S A c R d), .int .i64 p, .int .u8 108] w fun e w' => e = .returned (.int .i64 (bnd S p 5)) ∧ Keeps w w' [] := by
  have O := Own.start w []
  have _u := And.intro hS (And.intro hp hl)
  clear _u
  clear hS hp hl
  unfold sysV
  go_enter Try.func88, Try.ntmps88
  go_wp2_with (first
    | go_big_skip
    | (refine own_box 3 _ O rfl rfl rfl rfl ?_; clear O; intro W a3 O; simp only [Act.put, List.setIfInBounds_toArray, List.set_cons_zero, List.set_cons_succ]; have c3 := (O.get 0 rfl).cell))
  go_ret
  exact ⟨rfl, O.keep⟩

set_option maxRecDepth 100000 in
theorem bound_6 : Calls Try.prog 88 #[.agg (sysV S A c R d), .int .i64 p, .int .u8 103] w fun e w' => e = .returned (.int .i64 (bnd S p 6)) ∧ Keeps w w' [] := by
  have O := Own.start w []
  have _u := And.intro hS (And.intro hp hl)
  clear _u
  clear hS hp hl
  unfold sysV
  go_enter Try.func88, Try.ntmps88
  go_wp2_with (first
    | go_big_skip
    | (refine own_box 3 _ O rfl rfl rfl rfl ?_; clear O; intro W a3 O; simp only [Act.put, List.setIfInBounds_toArray, List.set_cons_zero, List.set_cons_succ]; have c3 := (O.get 0 rfl).cell))
  go_ret
  exact ⟨rfl, O.keep⟩

set_option maxRecDepth 100000 in
theorem bound_7 : Calls Try.prog 88 #[.agg (sysV S A c R d), .int .i64 p, .int .u8 115] w fun e w' => e = .returned (.int .i64 (bnd S p 7)) ∧ Keeps w w' [] := by
  have O := Own.start w []
  have _u := And.intro hS (And.intro hp hl)
  clear _u
  clear hS hp hl
  unfold sysV
  go_enter Try.func88, Try.ntmps88
  go_wp2_with (first
    | go_big_skip
    | (refine own_box 3 _ O rfl rfl rfl rfl ?_; clear O; intro W a3 O; simp only [Act.put, List.setIfInBounds_toArray, List.set_cons_zero, List.set_cons_succ]; have c3 := (O.get 0 rfl).cell))
  go_ret
  exact ⟨rfl, O.keep⟩

theorem bound_any (k : Nat) (hk : k ≤ 7) (h3 : k ≠ 3) : Calls Try.prog 88 #[.agg (sysV S A c R d), .int .i64 p, .int .u8 (ltr k)] w fun e w' => e = .returned (.int .i64 (bnd S p k)) ∧ Keeps w w' [] := by
  match k, hk, h3 with
  | 0, _, _ => exact bound_0 S A c R d p w hS hp hl
  | 1, _, _ => exact bound_1 S A c R d p w hS hp hl
  | 2, _, _ => exact bound_2 S A c R d p w hS hp hl
  | 4, _, _ => exact bound_4 S A c R d p w hS hp hl
  | 5, _, _ => exact bound_5 S A c R d p w hS hp hl
  | 6, _, _ => exact bound_6 S A c R d p w hS hp hl
  | 7, _, _ => exact bound_7 S A c R d p w hS hp hl
  | 3, _, h => exact absurd rfl h
end
end Go.Proofs.Ytakmcpadkanggaa
