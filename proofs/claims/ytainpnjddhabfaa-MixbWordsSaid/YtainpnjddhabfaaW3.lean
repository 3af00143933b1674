import Derived.Test.YtainpnjddhabfaaW2
namespace Go.Proofs.Ytainpnjddhabfaa
open Go.RowKit

theorem refiv_any (i : Nat) (hi : i < 8) (w : World) : Calls Try.prog 13 #[.int .i64 i] w fun e w' => e = .returned (U64 (ivV i)) ∧ Keeps w w' [] := by
  have hm : i % 8 = i := by omega
  go_enter Try.func13, Try.ntmps13
  go_wp2_with (first
    | (refine wpList_const 4 (.agg (words 8 ivV)) rfl rfl (fun _ => by kernel_rfl) ?_; simp only [Act.put, List.setIfInBounds_toArray, List.set_cons_zero, List.set_cons_succ])
    | (refine wpList_alloc 3 (words 8 fun _ => 0) rfl rfl rfl (fun _ => by kernel_rfl) ?_; intro u1 K1 B1 s1; simp only [Act.put, List.setIfInBounds_toArray, List.set_cons_zero, List.set_cons_succ])
    | (refine wpList_store_row (.tmp 3) (.tmp 4) rfl rfl rfl rfl rfl B1 (by kernel_rfl) (by rw [words_size, words_size]) (words_cell _ _) ?_; intro u2 K2 B2; have k2 := B2.cell))
  go_ret
  exact ⟨rfl, K1.trans K2 (by simp)⟩

def okP (a : Int) : Bool := decide (0 ≤ a ∧ a ≤ 15)
theorem place_any (a : Int) (w : World) : Calls Try.prog 38 #[.int .i64 a] w fun e w' => e = .returned (.bool (okP a)) ∧ w = w' := by
  by_cases h1 : 0 ≤ a
  · by_cases h2 : a ≤ 15
    · have H := Lib.hid (show okP a = true by simp [okP, h1, h2])
      go_enter Try.func38, Try.ntmps38
      go_wp2
      go_ret
      exact ⟨by rw [H.out]; rfl, rfl⟩
    · have H := Lib.hid (show okP a = false by simp [okP, h2])
      go_enter Try.func38, Try.ntmps38
      go_wp2
      go_ret
      exact ⟨by rw [H.out]; rfl, rfl⟩
  · have H := Lib.hid (show okP a = false by simp [okP, h1])
    go_enter Try.func38, Try.ntmps38
    go_wp2
    go_ret
    exact ⟨by rw [H.out]; rfl, rfl⟩

theorem turn_any (x : BitVec 64) (n : Int) (w : World) : Calls Try.prog 39 #[U64 x, .int .i64 n] w fun e w' => e = .returned (U64 (x.rotateRight (n % 64).toNat)) ∧ ∃ m, w' = w.drewN m := by
  have hr := rest_any n 64 (by omega)
  have hk : 0 ≤ n % 64 ∧ n % 64 < 64 := by omega
  obtain ⟨k, hk'⟩ : ∃ k : Nat, n % 64 = k := ⟨(n % 64).toNat, by omega⟩
  rw [hk'] at hk hr ⊢
  clear hk'
  have HR := Lib.hid hr
  clear hr
  rw [Int.toNat_natCast]
  by_cases h0 : k = 0
  · subst h0
    go_enter Try.func39, Try.ntmps39
    go_wp2_with (go_at_call 35; refine (HR.out _).mono ?_; rintro e w' ⟨rfl, rfl⟩)
    go_ret
    refine ⟨?_, 0, rfl⟩
    have : x.rotateRight 0 = x := by simp [BitVec.rotateRight, BitVec.rotateRightAux]
    rw [this]; rfl
  · have h1 : 1 ≤ k := by omega
    have e1 : IntKind.i64.wrap (64 - (k : Int)) = 64 - k := IntWalk.i64_in _ (by omega)
    have e2 : (0 : Int) ≤ 64 - k := by omega
    have e4 : (k : Int) ≤ 64 := by omega
    have e5 : k ≤ 64 := by omega
    have e3 : (64 - (k : Int)).toNat = 64 - k := by omega
    go_enter Try.func39, Try.ntmps39
    go_wp2_with (go_at_call 35; refine (HR.out _).mono ?_; rintro e w' ⟨rfl, rfl⟩)
    go_quiet (fail)
    go_wp2
    go_ret
    refine ⟨?_, _, rfl⟩
    have hkk : k % 64 = k := Nat.mod_eq_of_lt (by omega)
    have : x.rotateRight k = x >>> k ||| x <<< (64 - k) := by rw [BitVec.rotateRight, BitVec.rotateRightAux, hkk]
    rw [this]; rfl
end Go.Proofs.Ytainpnjddhabfaa
