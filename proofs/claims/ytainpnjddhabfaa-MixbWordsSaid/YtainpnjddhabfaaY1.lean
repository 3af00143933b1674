/-
  Bytes: a slice that reads as bytes; what load and store of both texts compute.
-/
import Derived.Test.YtainpnjddhabfaaBase
import Derived.Test.YtainpnjddhabfaaOwn
import Derived.Laws.OwnMore
import Derived.Deep.AppendLies
namespace Go.Proofs.Ytainpnjddhabfaa
open Go.RowKit

/-! ### Laws of single steps -/
@[go_sem] theorem run_convert_U8 {P : Program} (w : World) (src dst : TypeId) (x : BitVec 8) (hs : (P.underlying src).isSome = true) (hd : P.underlying dst = some (.int .u64)) :
    (convert src dst (U8 x)).run P w = .ok (U64 (x.setWidth 64)) w := by
  have hk : P.intKind dst = .u64 := by simp [Program.intKind, hd]
  unfold U8
  rw [run_convert_int w src dst .u8 _ hs (by rw [hk]; exact hd), hk, wrap_u64]
  congr 2
  rw [BitVec.toNat_setWidth]
  have := x.isLt
  omega
@[go_sem] theorem run_convert_U64_8 {P : Program} (w : World) (src dst : TypeId) (x : BitVec 64) (hs : (P.underlying src).isSome = true) (hd : P.underlying dst = some (.int .u8)) :
    (convert src dst (U64 x)).run P w = .ok (U8 (x.setWidth 8)) w := by
  have hk : P.intKind dst = .u8 := by simp [Program.intKind, hd]
  unfold U64
  rw [run_convert_int w src dst .u64 _ hs (by rw [hk]; exact hd), hk, IntKind.wrap_u8']
  congr 2 <;> rw [BitVec.toNat_setWidth]
section
variable (t : TypeId) (x : BitVec 64)
@[go_sem] theorem mul_256 : binOp .mul t (U64 x) (.int .u64 256) = pure (U64 (x * 256#64)) := by
  simp only [U64, binOp_mul, Op.intArith]
  congr 2 <;> (rw [wrap_u64, BitVec.toNat_mul] <;> simp)
@[go_sem] theorem rem_256 : binOp .rem t (U64 x) (.int .u64 256) = pure (U64 (x % 256#64)) := by
  simp only [U64, binOp_rem, Op.intDiv, BitVec.toNat_umod]
  rw [if_neg (by omega)]
  simp [Int.tmod_eq_emod_of_nonneg]
@[go_sem] theorem quo_256 : binOp .quo t (U64 x) (.int .u64 256) = pure (U64 (x / 256#64)) := by
  have h : IntKind.u64.wrap ((x.toNat : Int).tdiv 256) = ((x / 256#64).toNat : Int) := by
    rw [wrap_u64, BitVec.toNat_udiv, Int.tdiv_eq_ediv_of_nonneg (by omega)]
    have := x.isLt
    simp
    omega
  simp only [U64, binOp_quo, Op.intDiv]
  rw [if_neg (by omega)]
  exact congrArg (fun n => (pure (Value.int .u64 n) : Sem Value)) h
end
@[go_sem] theorem neq_U8 (t : TypeId) (x y : BitVec 8) : binOp .neq t (U8 x) (U8 y) = pure (.bool (x != y)) := by
  simp only [U8, binOp_neq]
  congr 2
  rw [Bool.eq_iff_iff, bne_iff_ne, bne_iff_ne, ne_eq, ne_eq, Int.natCast_inj, BitVec.toNat_inj]

/-! ### A slice that reads as bytes -/
def Byt (W : World) (A : Option Addr) (n : Nat) (f : Nat → BitVec 8) : Prop :=
  0 < n → ∃ ad, A = some ad ∧ ad.block < W.heap.size ∧ ∀ j, j < n → W.cell? (ad.add j) = some (U8 (f j))
theorem add_block (a : Addr) (n : Nat) : (a.add n).block = a.block := by unfold Addr.add; split <;> rfl
theorem Keeps.cellAt {w u : World} {S : List Nat} (k : Keeps w u S) {p : Addr} (hp : p.block < w.heap.size) (hn : p.block ∉ S) : u.cell? p = w.cell? p := World.cell?_of_block (k.block p.block hp hn)
theorem Byt.keeps {w u : World} {A : Option Addr} {n : Nat} {f : Nat → BitVec 8} {S : List Nat} (h : Byt w A n f) (k : Keeps w u S) (hS : ∀ ad, A = some ad → ad.block ∉ S) : Byt u A n f := fun hn => by
  obtain ⟨ad, e, hb, hc⟩ := h hn
  refine ⟨ad, e, by have := k.size; omega, fun j hj => ?_⟩
  rw [k.cellAt (by rw [add_block]; exact hb) (by rw [add_block]; exact hS ad e)]
  exact hc j hj
theorem Byt.kept {w u : World} {A : Option Addr} {n : Nat} {f : Nat → BitVec 8} (h : Byt w A n f) (k : Keeps w u []) : Byt u A n f := h.keeps k (fun _ _ => by simp)

/-! ### What load and store compute -/
def orK (f : Nat → BitVec 8) : Nat → BitVec 64
  | 0 => 0
  | k + 1 => orK f k ||| ((f k).setWidth 64) <<< (8 * k)
/-- The reference's: k bytes down from the top of m. -/
def hoK (f : Nat → BitVec 8) (m : Nat) : Nat → BitVec 64
  | 0 => 0
  | k + 1 => hoK f m k * 256#64 + (f (m - 1 - k)).setWidth 64
def leN (f : Nat → BitVec 8) : Nat → Nat
  | 0 => 0
  | k + 1 => leN f k + (f k).toNat * 2 ^ (8 * k)
theorem leN_lt (f : Nat → BitVec 8) : ∀ k, leN f k < 2 ^ (8 * k)
  | 0 => by simp [leN]
  | k + 1 => by
    have h := leN_lt f k
    have hb := (f k).isLt
    unfold leN
    have e : 2 ^ (8 * (k + 1)) = 2 ^ (8 * k) * 256 := by rw [show 8 * (k + 1) = 8 * k + 8 from by omega, Nat.pow_add]
    rw [e]
    have h2 : (f k).toNat * 2 ^ (8 * k) ≤ 255 * 2 ^ (8 * k) := Nat.mul_le_mul_right _ (by omega)
    omega
theorem leN_cons (f : Nat → BitVec 8) : ∀ k, leN f (k + 1) = (f 0).toNat + 256 * leN (fun j => f (1 + j)) k
  | 0 => by simp [leN]
  | k + 1 => by
    have ih := leN_cons f k
    show leN f (k + 1) + (f (k + 1)).toNat * 2 ^ (8 * (k + 1)) = _
    rw [ih]
    show _ = (f 0).toNat + 256 * (leN (fun j => f (1 + j)) k + (f (1 + k)).toNat * 2 ^ (8 * k))
    rw [show 2 ^ (8 * (k + 1)) = 256 * 2 ^ (8 * k) from by rw [show 8 * (k + 1) = 8 + 8 * k from by omega, Nat.pow_add], Nat.add_comm 1 k, Nat.mul_add, Nat.mul_left_comm, Nat.add_assoc]
theorem orK_toNat (f : Nat → BitVec 8) : ∀ k, k ≤ 8 → (orK f k).toNat = leN f k
  | 0, _ => rfl
  | k + 1, h => by
    have ih := orK_toNat f k (by omega)
    have hl := leN_lt f k
    have hb := (f k).isLt
    unfold orK leN
    have hp : 2 ^ (8 * k) * 256 ≤ 2 ^ 64 := by
      rw [show 2 ^ (8 * k) * 256 = 2 ^ (8 * k + 8) from by rw [Nat.pow_add]]
      exact Nat.pow_le_pow_right (by decide) (by omega)
    have h2 : (f k).toNat * 2 ^ (8 * k) ≤ 255 * 2 ^ (8 * k) := Nat.mul_le_mul_right _ (by omega)
    rw [BitVec.toNat_or, BitVec.toNat_shiftLeft, BitVec.toNat_setWidth, ih, Nat.mod_eq_of_lt (show (f k).toNat < 2 ^ 64 from by omega), Nat.shiftLeft_eq, Nat.mod_eq_of_lt (by omega), Nat.or_comm, ← Nat.shiftLeft_eq, ← Nat.shiftLeft_add_eq_or_of_lt hl, Nat.shiftLeft_eq, Nat.add_comm]
theorem hoK_toNat (f : Nat → BitVec 8) (m : Nat) : ∀ k, k ≤ 8 → k ≤ m → (hoK f m k).toNat = leN (fun j => f (m - k + j)) k
  | 0, _, _ => rfl
  | k + 1, h, hm => by
    have ih := hoK_toNat f m k (by omega) (by omega)
    have hl := leN_lt (fun j => f (m - k + j)) k
    have hb := (f (m - 1 - k)).isLt
    rw [leN_cons]
    unfold hoK
    have hp : 2 ^ (8 * k) * 256 ≤ 2 ^ 64 := by
      rw [show 2 ^ (8 * k) * 256 = 2 ^ (8 * k + 8) from by rw [Nat.pow_add]]
      exact Nat.pow_le_pow_right (by decide) (by omega)
    rw [BitVec.toNat_add, BitVec.toNat_mul, BitVec.toNat_setWidth, ih, Nat.mod_eq_of_lt (show (f (m - 1 - k)).toNat < 2 ^ 64 from by omega)]
    have e1 : (fun j => f (m - (k + 1) + (1 + j))) = fun j => f (m - k + j) := funext fun j => by rw [show m - (k + 1) + (1 + j) = m - k + j from by omega]
    have e2 : m - (k + 1) + 0 = m - 1 - k := by omega
    rw [e1, e2]
    simp only [BitVec.toNat_ofNat]
    omega
def le64 (f : Nat → BitVec 8) : BitVec 64 := orK f 8
theorem hoK_le64 (f : Nat → BitVec 8) : hoK f 8 8 = le64 f := by
  apply BitVec.eq_of_toNat_eq
  rw [hoK_toNat f 8 8 (by omega) (by omega)]
  unfold le64
  rw [orK_toNat f 8 (by omega)]
  congr 1
  funext j
  rw [show 8 - 8 + j = j from by omega]
/-- Byte i of a word. -/
def by64 (x : BitVec 64) (i : Nat) : BitVec 8 := (x >>> (8 * i)).setWidth 8
/-- The word with i bytes cut off. -/
def cutB (x : BitVec 64) : Nat → BitVec 64
  | 0 => x
  | i + 1 => cutB x i / 256#64
theorem cutB_toNat (x : BitVec 64) : ∀ i, (cutB x i).toNat = x.toNat / 2 ^ (8 * i)
  | 0 => by simp [cutB]
  | i + 1 => by
    unfold cutB
    rw [BitVec.toNat_udiv, cutB_toNat x i, show 8 * (i + 1) = 8 * i + 8 from by omega, Nat.pow_add, ← Nat.div_div_eq_div_mul]
    rfl
theorem cutB_byte (x : BitVec 64) (i : Nat) : (cutB x i % 256#64).setWidth 8 = by64 x i := by
  apply BitVec.eq_of_toNat_eq
  unfold by64
  rw [BitVec.toNat_setWidth, BitVec.toNat_setWidth, BitVec.toNat_umod, cutB_toNat, BitVec.toNat_ushiftRight, Nat.shiftRight_eq_div_pow]
  simp
end Go.Proofs.Ytainpnjddhabfaa
