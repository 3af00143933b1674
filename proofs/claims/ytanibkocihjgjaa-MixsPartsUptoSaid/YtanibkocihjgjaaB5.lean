/-
  Arguments opened: bytes with their bounds, a count; what Chain answers, by its parts.
-/
import Derived.Test.YtanibkocihjgjaaB4
namespace Go.Proofs.Ytanibkocihjgjaa
open Go.ChangeShapes Go.WideShapes Go.RowKit

theorem open_bytes2 {H : Type} {enc : TypeId × Value → H} {w : World} {base : Nat} {v : Value} {d : DataW H} {p : List MemPlace} (hval : Value.okWide Try.prog w .any base 32 v) (h : DataW.Trod enc Try.prog w 0 (fun _ => true) true 32 v d p) (hlt : ∀ q ∈ p, q.block < w.heap.size)
    (hz : ∀ e s, d = .slice e s → (e.length + s.length) * Try.prog.bytesOf 5 ≤ reachBytes) :
    ∃ (A : Option Addr) (n c : Nat) (f : Nat → BitVec 8), v = .slice A n c ∧ Byt w A n f ∧ n ≤ 140737488351232 ∧ (A = none → n = 0 ∧ c = 0) ∧ n ≤ c := by
  obtain ⟨a0, len0, cap0, rfl⟩ := okWide_slice Try.underlying32 hval
  obtain ⟨fuel, hf⟩ := h
  rcases open_ints Try.underlying32 Try.underlying5 (by kernel_rfl) hf with ⟨hcs, hx⟩ | ⟨a, len, cap, zs, hcs, _, hle, hmax, hzl, hx, hcell, hwf⟩
  · simp [Value.cells] at hcs
    obtain ⟨rfl, rfl, rfl⟩ := hcs
    exact ⟨none, 0, 0, fun _ => 0, rfl, fun hn => by omega, by omega, (fun _ => ⟨rfl, rfl⟩), Nat.le_refl _⟩
  · simp [Value.cells] at hcs
    obtain ⟨rfl, rfl, rfl⟩ := hcs
    simp only [Prod.mk.injEq] at hx
    obtain ⟨rfl, rfl⟩ := hx
    have hzl' : zs.length = cap0 := by simpa using hzl
    have hs := hz _ _ rfl
    rw [bytes5] at hs
    have hr : reachBytes ≤ 140737488351232 := by decide
    have hs2 : cap0 ≤ reachBytes := by
      have e : (lits .u8 (zs.take len0) : List (DataW H)).length + (lits .u8 (zs.drop len0) : List (DataW H)).length = zs.length := by simp [lits]; omega
      rw [e] at hs
      omega
    refine ⟨some a, len0, cap0, fun i => BitVec.ofNat 8 (zs.getD i 0).toNat, rfl, fun hn => ⟨a, rfl, ?_, fun j hj => ?_⟩, by omega, (fun h => by cases h), hle⟩
    · exact World.block_lt_of_cell? w (a.add 0) (hcell 0 (by omega)) |> fun h => by rwa [add_block] at h
    · rw [hcell j (by omega)]
      have hj' : j < zs.length := by omega
      refine congrArg some (u8_of _ (hwf _ ?_))
      simp [List.getElem?_eq_getElem hj']

theorem open_u64 {H : Type} {enc : TypeId × Value → H} {w : World} {base : Nat} {v : Value} {d : DataW H} {p : List MemPlace} (hval : Value.okWide Try.prog w .any base 46 v) (h : DataW.Trod enc Try.prog w 0 (fun _ => true) true 46 v d p) : ∃ x : BitVec 64, v = U64 x := by
  obtain ⟨n, rfl, _, _, wf⟩ := open_int Try.underlying46 hval h
  have h' : 0 ≤ n ∧ n ≤ 18446744073709551615 := by simpa [Lit.wf, IntKind.has, IntKind.min, IntKind.max, IntKind.signed, IntKind.bits] using wf
  refine ⟨BitVec.ofNat 64 n.toNat, ?_⟩
  unfold U64
  rw [BitVec.toNat_ofNat]
  congr 1
  omega
theorem chA_form (H : Nat → BitVec 32) (n : Nat) (f : Nat → BitVec 8) (cnt : BitVec 64) : ∃ (X : Nat → BitVec 32) (q : BitVec 64) (e : Int), chA H n f cnt = .tuple #[.agg (words 8 X), U64 q, .int .i64 e] := by
  by_cases h : n % 64 = 0
  · exact ⟨_, _, _, chA_yes H f cnt h⟩
  · exact ⟨_, _, _, chA_no H f cnt h⟩
end Go.Proofs.Ytanibkocihjgjaa
