/-
  Bytes of both texts, and Same.
-/
import Derived.Test.YtainpnjddhabfaaY4
namespace Go.Proofs.Ytainpnjddhabfaa
open Go.RowKit

theorem same_true (A A' : Option Addr) (n c c' : Nat) (f : Nat → BitVec 8) (w : World) (hb : Byt w A n f) (hb' : Byt w A' n f) (hn : n ≤ maxLen) :
    Calls Try.prog 25 #[.slice A n c, .slice A' n c'] w fun e w' => e = .returned (.bool true) ∧ Keeps w w' [] := by
  have hn' : n ≤ 9223372036854775807 := hn
  rcases Nat.eq_zero_or_pos n with rfl | hp
  · go_enter Try.func25, Try.ntmps25
    go_wp2
    go_loopw [5] (fun i wr => i = .int .i64 0 ∧ w = wr) (fun i _ => 0)
    case atStart => exact ⟨rfl, rfl⟩
    case round =>
      obtain ⟨rfl, rfl⟩ := hrel
      go_wp2
      go_ret
      exact ⟨rfl, Keeps.refl _ _⟩
  · obtain ⟨ad, rfl, hB, hc⟩ := hb hp
    obtain ⟨ad', rfl, hB', hc'⟩ := hb' hp
    have hc0 := Lib.hid hc
    have hc1 := Lib.hid hc'
    clear hc hc' hb hb'
    go_enter Try.func25, Try.ntmps25
    go_wp2
    go_loopw [5] (fun i wr => ∃ k : Nat, k ≤ n ∧ i = .int .i64 k ∧ Keeps w wr []) (fun i _ => n - (intOf i).toNat)
    case atStart => exact ⟨0, by omega, rfl, Keeps.refl _ _⟩
    case round =>
      obtain ⟨k, hk, rfl, K⟩ := hrel
      by_cases hlt : k < n
      · have g1 : ((k : Int)) < n := by omega
        have g0 : (0 : Int) ≤ k := by omega
        have c1 : wr.cell? (ad.add k) = some (U8 (f k)) := (K.cellAt (by rw [add_block]; exact hB) (by simp)).trans (hc0.out k hlt)
        have c2 : wr.cell? (ad'.add k) = some (U8 (f k)) := (K.cellAt (by rw [add_block]; exact hB') (by simp)).trans (hc1.out k hlt)
        have e1 : (f k != f k) = false := by simp
        go_wp2
        go_quiet (fail)
        generalize hW : World.drewN wr _ = W
        have K2 : Keeps w W [] := by rw [← hW]; exact K.drewN _
        clear hW c1 c2 e1
        go_wp2
        go_roundw
        case rel => exact ⟨k + 1, by omega, by go_num, K2⟩
        case measure => (simp [intOf] <;> omega)
      · obtain rfl : k = n := by omega
        go_wp2
        go_ret
        exact ⟨rfl, K⟩

theorem index_words (V : Nat → BitVec 64) (k : Nat) (hk : k < 8) : ∀ w, (Instr.index 23 (.agg (words 8 V)) (.int .i64 (k : Int))).run Try.prog w = .ok (U64 (V k)) w := by
  have i0 : ∀ w, (Instr.index 23 (.agg (words 8 V)) (.int .i64 ((0 : Nat) : Int))).run Try.prog w = .ok (U64 (V 0)) w := fun _ => by kernel_rfl
  have i1 : ∀ w, (Instr.index 23 (.agg (words 8 V)) (.int .i64 ((1 : Nat) : Int))).run Try.prog w = .ok (U64 (V 1)) w := fun _ => by kernel_rfl
  have i2 : ∀ w, (Instr.index 23 (.agg (words 8 V)) (.int .i64 ((2 : Nat) : Int))).run Try.prog w = .ok (U64 (V 2)) w := fun _ => by kernel_rfl
  have i3 : ∀ w, (Instr.index 23 (.agg (words 8 V)) (.int .i64 ((3 : Nat) : Int))).run Try.prog w = .ok (U64 (V 3)) w := fun _ => by kernel_rfl
  have i4 : ∀ w, (Instr.index 23 (.agg (words 8 V)) (.int .i64 ((4 : Nat) : Int))).run Try.prog w = .ok (U64 (V 4)) w := fun _ => by kernel_rfl
  have i5 : ∀ w, (Instr.index 23 (.agg (words 8 V)) (.int .i64 ((5 : Nat) : Int))).run Try.prog w = .ok (U64 (V 5)) w := fun _ => by kernel_rfl
  have i6 : ∀ w, (Instr.index 23 (.agg (words 8 V)) (.int .i64 ((6 : Nat) : Int))).run Try.prog w = .ok (U64 (V 6)) w := fun _ => by kernel_rfl
  have i7 : ∀ w, (Instr.index 23 (.agg (words 8 V)) (.int .i64 ((7 : Nat) : Int))).run Try.prog w = .ok (U64 (V 7)) w := fun _ => by kernel_rfl
  match k, hk with
  | 0, _ => exact i0
  | 1, _ => exact i1
  | 2, _ => exact i2
  | 3, _ => exact i3
  | 4, _ => exact i4
  | 5, _ => exact i5
  | 6, _ => exact i6
  | 7, _ => exact i7
/-- The bytes of words. -/
def bV (V : Nat → BitVec 64) : Nat → BitVec 8 := fun i => by64 (V (i / 8)) (i % 8)
theorem bV_cat (V : Nat → BitVec 64) (k i : Nat) (hi : i < 8 * k + 8) : cat (8 * k) (bV V) (by64 (V k)) i = bV V i := by
  unfold cat bV
  by_cases h : i < 8 * k
  · rw [if_pos h]
  · rw [if_neg h, show i / 8 = k from by omega, show i % 8 = i - 8 * k from by omega]

set_option maxHeartbeats 1000000 in
theorem bytes_any (V : Nat → BitVec 64) (w : World) : Calls Try.prog 26 #[.agg (words 8 V)] w fun e u => Fresh w u e 64 (bV V) := by
  have O := Own.start w []
  have HB := Lib.hid (bV_cat V)
  have M0 : ∀ {W : World} {g c : Nat}, Blk W g 5 (bytesA c fun _ => 0) → w.heap.size ≤ g → c ≤ maxLen → Mine w W (.slice (some ⟨g, 0, none⟩) 0 c) 0 (bV V) := fun h hg hc => (Mine.row h hg (Nat.zero_le _) hc).congr (fun i hi => by omega)
  generalize bV V = F at *
  go_enter Try.func26, Try.ntmps26
  go_wp2_with (first
    | (refine own_box 1 (words 8 V) O rfl rfl rfl rfl ?_; clear O; intro W a1 O; simp only [Act.put, List.setIfInBounds_toArray, List.set_cons_zero, List.set_cons_succ])
    | (refine own_make 6 0 64 O rfl rfl rfl rfl rfl (by omega) (by omega) ?_; clear O; intro W a6 O; simp only [Act.put, List.setIfInBounds_toArray, List.set_cons_zero, List.set_cons_succ])
    | (refine own_load 7 1 O rfl rfl rfl rfl rfl Try.underlying23 rfl (by kernel_rfl) ?_; simp only [Act.put, List.setIfInBounds_toArray, List.set_cons_zero, List.set_cons_succ]))
  have M := M0 (O.get 0 rfl) (Nat.le_of_not_lt fun h => by have := O.new (a6, 5, bytesA 64 fun _ => 0) (by simp) h; simp at this) (by simp [maxLen])
  replace O := O.drop_ 1
  simp only [List.drop] at O
  clear M0
  go_loopw [8, 3, 5] (fun i v x wr => ∃ k : Nat, k ≤ 8 ∧ i = .int .i64 k ∧ Own w wr [] [(a1, 23, words 8 V)] ∧ Mine w wr v (8 * k) F) (fun i _ _ _ => 8 - (intOf i).toNat)
  case atStart => exact ⟨0, by omega, rfl, O, M⟩
  case round =>
    obtain ⟨k, hk, rfl, O, M⟩ := hrel
    by_cases hlt : k < 8
    · have g1 : ((k : Int)) < 8 := by omega
      have ix := index_words V k hlt
      go_wp2_with (first
        | (go_at_call 42; refine (store_any (V k) _).mono ?_; rintro e W ⟨K, g, c, rfl, h1, h2, h3⟩; replace O := O.keeps K; replace M := M.keeps K; clear K h1 h2)
        | (at_builtin; refine own_append _ (8 * k) 8 _ F (by64 (V k)) _ (.tmp 11) (.tmp 13) O M rfl rfl rfl rfl (by simp) h3 (by omega) ?_; clear O M h3; intro v1 W O M; simp only [Act.put, List.setIfInBounds_toArray, List.set_cons_zero, List.set_cons_succ]))
      clear ix
      go_roundw
      case rel => exact ⟨k + 1, by omega, by go_num, O, M.congr fun i hi => HB.out k i (by omega)⟩
      case measure => (simp [intOf] <;> omega)
    · obtain rfl : k = 8 := by omega
      go_wp2
      go_ret
      have e8 : Keeps w wr [] := O.keep
      obtain ⟨g, c, rfl, h1, h2, h3⟩ := M.byt (by omega)
      exact ⟨O.keep, g, c, rfl, h1, h2, h3⟩

set_option maxHeartbeats 1000000 in
theorem refbytes_any (V : Nat → BitVec 64) (w : World) : Calls Try.prog 27 #[.agg (words 8 V)] w fun e u => Fresh w u e 64 (bV V) := by
  have O := Own.start w []
  have HB := Lib.hid (bV_cat V)
  have M := Mine.nil w w (bV V)
  generalize bV V = F at *
  go_enter Try.func27, Try.ntmps27
  go_wp2_with (first
    | (refine own_box 1 (words 8 V) O rfl rfl rfl rfl ?_; clear O; intro W a1 O; simp only [Act.put, List.setIfInBounds_toArray, List.set_cons_zero, List.set_cons_succ]))
  replace M := M.keeps (O.keep)
  go_loopw [4, 3] (fun i v wr => ∃ k : Nat, k ≤ 8 ∧ i = .int .i64 k ∧ Own w wr [] [(a1, 23, words 8 V)] ∧ Mine w wr v (8 * k) F) (fun i _ _ => 8 - (intOf i).toNat)
  case atStart => exact ⟨0, by omega, rfl, O, M⟩
  case round =>
    obtain ⟨k, hk, rfl, O, M⟩ := hrel
    by_cases hlt : k < 8
    · have g1 : ((k : Int)) < 8 := by omega
      have c1 := (O.get 0 rfl).cell
      go_wp2_with (first
        | (go_at_call 43; refine (refstore_any (V k) _).mono ?_; rintro e W ⟨K, g, c, rfl, h1, h2, h3⟩; replace O := O.keeps K; replace M := M.keeps K; clear K h1 h2; clear c1)
        | (at_builtin; refine own_append _ (8 * k) 8 _ F (by64 (V k)) _ (.tmp 9) (.tmp 13) O M rfl rfl rfl rfl (by simp) h3 (by omega) ?_; clear O M h3; intro v1 W O M; simp only [Act.put, List.setIfInBounds_toArray, List.set_cons_zero, List.set_cons_succ]))
      go_roundw
      case rel => exact ⟨k + 1, by omega, by go_num, O, M.congr fun i hi => HB.out k i (by omega)⟩
      case measure => (simp [intOf] <;> omega)
    · obtain rfl : k = 8 := by omega
      go_wp2
      go_ret
      have e8 : Keeps w wr [] := O.keep
      obtain ⟨g, c, rfl, h1, h2, h3⟩ := M.byt (by omega)
      exact ⟨O.keep, g, c, rfl, h1, h2, h3⟩
end Go.Proofs.Ytainpnjddhabfaa
