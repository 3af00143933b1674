/-
  '==' on the program's arrays; the law's own small call that answers true.
-/
import Derived.Test.YtainpnjddhabfaaW4
namespace Go.Proofs.Ytainpnjddhabfaa
open Go.RowKit

theorem info22 : (Try.prog.info? 22).map (·.size) = some 1 := by kernel_rfl
theorem info3' : (Try.prog.info? 3).map (·.size) = some 1 := by kernel_rfl
theorem size_of {t : TypeId} (h : (Try.prog.info? t).map (·.size) = some 1) : ∃ i, Try.prog.info? t = some i ∧ i.size = 1 := by
  cases hq : Try.prog.info? t with
  | none => rw [hq] at h; cases h
  | some i => rw [hq] at h; exact ⟨i, rfl, by simpa using h⟩

@[go_sem] theorem eql33 (w : World) (V V' : Nat → BitVec 64) : (Op.equalIn 10000 33 (.agg (words 16 V)) (.agg (words 16 V'))).run Try.prog w = .ok (eqW 16 V V') w := by
  obtain ⟨i, hi, hs⟩ := size_of info22
  exact run_equal_words w Try.underlying33 Try.underlying22 hi hs V V'
@[go_sem] theorem eql23 (w : World) (V V' : Nat → BitVec 64) : (Op.equalIn 10000 23 (.agg (words 8 V)) (.agg (words 8 V'))).run Try.prog w = .ok (eqW 8 V V') w := by
  obtain ⟨i, hi, hs⟩ := size_of info22
  exact run_equal_words w Try.underlying23 Try.underlying22 hi hs V V'
@[go_sem] theorem eqg33 (w : World) (x y : Operand) (c d : Array Value) : (eqGuard .eql 33 x y (.agg c) (.agg d)).run Try.prog w = .ok () w := run_eqGuard_agg w .eql 33 x y c d (by kernel_rfl)
@[go_sem] theorem eqg23 (w : World) (x y : Operand) (c d : Array Value) : (eqGuard .eql 23 x y (.agg c) (.agg d)).run Try.prog w = .ok () w := run_eqGuard_agg w .eql 23 x y c d (by kernel_rfl)
@[go_sem] theorem eqg26 (w : World) (x y : Operand) (c d : Array Value) : (eqGuard .eql 26 x y (.agg c) (.agg d)).run Try.prog w = .ok () w := run_eqGuard_agg w .eql 26 x y c d (by kernel_rfl)
/-- Do n places agree? -/
def eqN (n : Nat) (f g : Nat → Nat) : Bool := (List.range n).all fun i => (f i : Int) == (g i : Int)
theorem eqN_self (n : Nat) (f : Nat → Nat) : eqN n f f = true := by simp [eqN]
@[go_sem] theorem eql26 (w : World) (f g : Nat → Nat) : (Op.equalIn 10000 26 (.agg (ints 16 f)) (.agg (ints 16 g))).run Try.prog w = .ok (eqN 16 f g) w := by
  obtain ⟨i, hi, hs⟩ := size_of info3'
  exact run_eql_ints w Try.underlying26 Try.underlying3 hi hs (ints 16 f) (ints 16 g) (fun i => (f i : Nat)) (fun i => (g i : Nat)) (fun i hi => ⟨ints_get 16 f i hi, ints_get 16 g i hi⟩)

theorem awake_any (w : World) : Calls Try.prog 16 #[] w fun e w' => e = .returned (.bool true) ∧ Keeps w w' [] := by
  have h1 : (ivV 0 == BitVec.ofInt 64 7640891576956012808) = true := by decide
  have h2 : (ivV 7 == BitVec.ofInt 64 6620516959819538809) = true := by decide
  have h3 : row 1 = 1 := by decide
  have h4 : sig 1 0 = 14 := by decide
  have h5 : sig 1 15 = 3 := by decide
  go_enter Try.func16, Try.ntmps16
  go_wp2_with (first
    | (go_at_call 12; refine (iv_any _).mono ?_; rintro e W0 ⟨rfl, K0⟩)
    | (go_at_call 14; refine (sigma_any _ _).mono ?_; rintro e W3 ⟨rfl, K3⟩)
    | (refine wpList_alloc 1 (words 8 fun _ => 0) rfl rfl rfl (fun _ => by kernel_rfl) ?_; intro W1 K1 B1 s1; simp only [Act.put, List.setIfInBounds_toArray, List.set_cons_zero, List.set_cons_succ])
    | (refine wpList_alloc 2 (ints 16 fun _ => 0) rfl rfl rfl (fun _ => by kernel_rfl) ?_; intro W4 K4 B4 s4; simp only [Act.put, List.setIfInBounds_toArray, List.set_cons_zero, List.set_cons_succ])
    | (refine wpList_store_row (.tmp 1) (.tmp 3) rfl rfl rfl rfl rfl B1 (by kernel_rfl) (by rw [words_size, words_size]) (words_cell _ _) ?_; intro W2 K2 B2)
    | (refine wpList_store_row (.tmp 2) (.tmp 4) rfl rfl rfl rfl rfl B4 (by kernel_rfl) (by rw [ints_size, ints_size]) (ints_cell _ _) ?_; intro W5 K5 B5; have k5 := B5.cell; have kb := (((B2.keeps K3 (by simp)).keeps K4 (by simp)).keeps K5 (by have := K3.size; have := B2.lt; simp; omega)).cell))
  go_ret
  refine ⟨rfl, ?_⟩
  have l0 := K0.size
  have l3 := K3.size
  have l2 := K2.size
  exact ((((K0.trans K1 (by simp)).trans K2 (by simp; omega)).trans K3 (by simp)).trans K4 (by simp)).trans K5 (by simp; omega)
end Go.Proofs.Ytainpnjddhabfaa
