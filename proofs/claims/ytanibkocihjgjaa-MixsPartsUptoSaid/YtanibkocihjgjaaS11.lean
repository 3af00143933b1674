/-
  Plain law: the states keep apart what they began with, and lead back to it.
-/
import Derived.Test.YtanibkocihjgjaaS8
import Derived.Test.YtanibkocihjgjaaS10
import Derived.Test.YtanibkocihjgjaaInv
namespace Go.Proofs.Ytanibkocihjgjaa
open Go.RowKit

theorem stF_apart (H H' M : Nat → BitVec 32) (n n' : BitVec 64) (l l' d d' : Bool) : ∀ k, eqW 16 (stF H M n l d k) (stF H' M n' l' d' k) = eqW 16 (begV H n l d) (begV H' n' l' d')
  | 0 => rfl
  | k + 1 => by
    show eqW 16 (roundV (stF H M n l d k) M _) (roundV (stF H' M n' l' d' k) M _) = _
    rw [round_apart, stF_apart H H' M n n' l l' d d' k]
theorem join_halves (n : BitVec 64) : (n.setWidth 32).setWidth 64 ||| ((n >>> 32).setWidth 32).setWidth 64 <<< 32 = n := by
  apply BitVec.eq_of_toNat_eq
  have hn := n.isLt
  rw [BitVec.toNat_or, BitVec.toNat_shiftLeft, BitVec.toNat_setWidth, BitVec.toNat_setWidth, BitVec.toNat_setWidth, BitVec.toNat_setWidth, BitVec.toNat_ushiftRight, Nat.shiftRight_eq_div_pow]
  have h1 : n.toNat % 2 ^ 32 < 2 ^ 32 := Nat.mod_lt _ (by omega)
  have h2 : n.toNat / 2 ^ 32 < 2 ^ 32 := by omega
  rw [Nat.mod_eq_of_lt (show n.toNat % 2 ^ 32 < 2 ^ 64 by omega), Nat.mod_eq_of_lt h2, Nat.mod_eq_of_lt (show n.toNat / 2 ^ 32 < 2 ^ 64 by omega), Nat.shiftLeft_eq, Nat.mod_eq_of_lt (show n.toNat / 2 ^ 32 * 2 ^ 32 < 2 ^ 64 by omega), Nat.or_comm, ← Nat.shiftLeft_eq, ← Nat.shiftLeft_add_eq_or_of_lt h1, Nat.shiftLeft_eq]
  omega
theorem cntV_begV (H : Nat → BitVec 32) (n : BitVec 64) (l d : Bool) : cntV (begV H n l d) = n := by
  have e1 : begV H n l d 12 = ivV 4 ^^^ n.setWidth 32 := rfl
  have e2 : begV H n l d 13 = ivV 5 ^^^ (n >>> 32).setWidth 32 := rfl
  unfold cntV
  rw [e1, e2]
  simp only [← BitVec.setWidth_xor]
  rw [BitVec.xor_comm (ivV 4), BitVec.xor_comm (ivV 5), BitVec.xor_assoc, BitVec.xor_assoc, BitVec.xor_self, BitVec.xor_self, BitVec.xor_zero, BitVec.xor_zero]
  exact join_halves n
theorem flags_begV (H : Nat → BitVec 32) (n : BitVec 64) (l d : Bool) : lastV (begV H n l d) = l ∧ nodeV (begV H n l d) = d :=
  ⟨(flags_same (show begV H n l d 14 = (if l then ~~~ ivV 6 else ivV 6) from rfl)).1, (flags_same (show begV H n l d 15 = (if d then ~~~ ivV 7 else ivV 7) from rfl)).1⟩
theorem begV_low (H : Nat → BitVec 32) (n : BitVec 64) (l d : Bool) (i : Nat) (h : i < 8) : begV H n l d i = H i := by unfold begV; rw [if_pos h]
theorem begV_congr {H H' : Nat → BitVec 32} (n : BitVec 64) (l d : Bool) (h : ∀ i, i < 8 → H i = H' i) (i : Nat) : begV H n l d i = begV H' n l d i := by
  unfold begV
  by_cases hi : i < 8
  · rw [if_pos hi, if_pos hi, h i hi]
  · rw [if_neg hi, if_neg hi]
theorem begV_apart (H H' : Nat → BitVec 32) (n n' : BitVec 64) (l l' d d' : Bool) : eqW 16 (begV H n l d) (begV H' n' l' d') = (eqW 8 H H' && n == n' && l == l' && d == d') := by
  rw [Bool.eq_iff_iff, eqW_iff, Bool.and_eq_true, Bool.and_eq_true, Bool.and_eq_true, eqW_iff, beq_iff_eq, beq_iff_eq, beq_iff_eq]
  constructor
  · intro h
    refine ⟨⟨⟨fun i hi => ?_, ?_⟩, ?_⟩, ?_⟩
    · rw [← begV_low H n l d i hi, ← begV_low H' n' l' d' i hi, h i (by omega)]
    · rw [← cntV_begV H n l d, ← cntV_begV H' n' l' d']
      unfold cntV
      rw [h 12 (by omega), h 13 (by omega)]
    · rw [← (flags_begV H n l d).1, ← (flags_begV H' n' l' d').1]
      unfold lastV
      rw [h 14 (by omega)]
    · rw [← (flags_begV H n l d).2, ← (flags_begV H' n' l' d').2]
      unfold nodeV
      rw [h 15 (by omega)]
  · rintro ⟨⟨⟨h, rfl⟩, rfl⟩, rfl⟩ i _
    exact begV_congr n l d h i
/-- Ten rounds back from the last state is the first. -/
theorem unK_stF (H M : Nat → BitVec 32) (n : BitVec 64) (l d : Bool) : ∀ k, k ≤ 10 → unK M (stF H M n l d 10) k = stF H M n l d (10 - k)
  | 0, _ => rfl
  | k + 1, hk => by
    show backV (unK M (stF H M n l d 10) k) M _ = _
    rw [unK_stF H M n l d k (by omega), show 10 - k = (9 - k) + 1 from by omega, show 10 - (k + 1) = 9 - k from by omega]
    show backV (roundV (stF H M n l d (9 - k)) M _) M _ = _
    rw [back_round]
theorem openA_stF (H M : Nat → BitVec 32) (n : BitVec 64) (l d : Bool) : openA (unK M (stF H M n l d 10) 10) = .tuple #[.agg (words 8 H), U64 n, .bool l, .bool d, .bool true] := by
  rw [unK_stF H M n l d 10 (by omega)]
  show openA (begV H n l d) = _
  have h : isV (begV H n l d) = true := by
    unfold isV
    rw [cntV_begV, (flags_begV H n l d).1, (flags_begV H n l d).2, eqW_iff]
    exact fun i _ => begV_congr n l d (fun i hi => begV_low H n l d i hi) i
  rw [openA_yes h, cntV_begV, (flags_begV H n l d).1, (flags_begV H n l d).2, words_congr (fun i hi => begV_low H n l d i hi)]
end Go.Proofs.Ytanibkocihjgjaa
