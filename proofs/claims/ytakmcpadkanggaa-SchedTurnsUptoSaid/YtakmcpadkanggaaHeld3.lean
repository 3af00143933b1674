/-
  A region in which several operations that make memory may come in any order.
-/
import Derived.Test.YtakmcpadkanggaaHeld2
import Derived.Test.YtakmcpadkanggaaT27
namespace Go.Proofs.Ytakmcpadkanggaa
open Go.RowKit

theorem cnt_upd (b : Nat → Bool) (j : Nat) (hb : b j = false) : ∀ m, j < m → ((List.range m).filter fun i => !b i).length = ((List.range m).filter fun i => !(updN b j true) i).length + 1
  | 0, h => by omega
  | m + 1, h => by
    rw [List.range_succ, List.filter_append, List.filter_append, List.length_append, List.length_append]
    by_cases e : j = m
    · subst e
      have h1 : (List.range j).filter (fun i => !(updN b j true) i) = (List.range j).filter fun i => !b i := List.filter_congr fun i hi => by
        rw [List.mem_range] at hi
        rw [updN_other _ _ _ _ (by omega)]
      rw [h1]
      simp [updN_same, hb]
    · rw [cnt_upd b j hb m (by omega)]
      have h2 : updN b j true m = b m := updN_other _ _ _ _ (fun h => e h.symm)
      simp only [List.filter_cons, List.filter_nil, h2]
      omega
section
variable {P : Program} {ops : Array Oper} {Q : Exit → Act → World → Prop} {S : World → Prop} {n : Nat}
theorem ah_makes {l : List Oper} (m : Nat) (I : Nat → Nat) (LB : (Nat → Bool) → Array Bool) (AS : (Nat → Option Nat) → Act) (K : (Nat → Option Nat) → World → Prop) (hI : ∀ j, j < m → I j < n)
    (hrd : ∀ b, ((List.range m).filter fun j => !b j) ≠ [] → Region.ready .any ops (LB b) = ((List.range m).filter fun j => !b j).map I) (hset : ∀ b j, j < m → (LB b).setIfInBounds (I j) true = LB (updN b j true)) (hS : ∀ gs w, K gs w → S w)
    (hstep : ∀ j, j < m → ∃ o, ops[I j]? = some o ∧ ∀ gs u (K' : Exit → Act → World → Prop), K gs u → gs j = none → (∀ u' g, K (updN gs j (some g)) u' → wpList P ops K' [] (AS (updN gs j (some g))) u') → wpList P ops K' [o] (AS gs) u)
    (fin : ∀ gs u, (∀ j, j < m → (gs j).isSome = true) → K gs u → AH P ops Q S n l 0 (LB fun j => (gs j).isSome) (AS gs) u) :
    ∀ c gs u, ((List.range m).filter fun j => !(gs j).isSome).length = c → K gs u → AH P ops Q S n l c (LB fun j => (gs j).isSome) (AS gs) u
  | 0, gs, u, hc, hK => fin gs u (fun j hj => by
      have h0 := List.eq_nil_of_length_eq_zero hc
      have h1 := List.filter_eq_nil_iff.1 h0 j (List.mem_range.2 hj)
      cases hg : gs j with
      | some _ => rfl
      | none => simp [hg] at h1) hK
  | c + 1, gs, u, hc, hK => by
    intro hs hcb hn hsel inv
    have hr := hrd (fun j => (gs j).isSome) (fun h => by have hc' : ((List.range m).filter fun j => !(gs j).isSome).length = c + 1 := hc; rw [h] at hc'; simp at hc')
    refine ⟨fun h0 => ?_, fun i hi => ?_⟩
    · rw [hr] at h0
      have := congrArg List.length h0
      rw [List.length_map, hc] at this
      simp at this
    · have hi' := hi
      rw [hr] at hi'
      obtain ⟨j, hj, rfl⟩ := List.mem_map.1 hi'
      obtain ⟨hj1, hj2⟩ := List.mem_filter.1 hj
      have hjm := List.mem_range.1 hj1
      have hnone : gs j = none := by simpa using hj2
      refine ⟨hI j hjm, ?_⟩
      obtain ⟨o, ho, hst⟩ := hstep j hjm
      have inv' := inv.set hi (hI j hjm)
      rw [hset _ j hjm] at inv' ⊢
      have e : ∀ g, (updN (fun j => (gs j).isSome) j true) = fun k => (updN gs j (some g) k).isSome := fun g => by
        funext k
        by_cases h : k = j
        · subst h; rw [updN_same, updN_same]; rfl
        · rw [updN_other _ _ _ _ h, updN_other _ _ _ _ h]
      have h := hst gs u (BackA P ops Q S n l c (LB (updN (fun j => (gs j).isSome) j true))) hK hnone fun u' g hK' => by
        refine backA_intro (hS _ _ hK') ?_
        rw [e g]
        refine ah_makes m I LB AS K hI hrd hset hS hstep fin c _ _ ?_ hK'
        have := cnt_upd (fun j => (gs j).isSome) j (by simp [hnone]) m hjm
        have e2 : (fun i => !(updN (fun j => (gs j).isSome) j true) i) = fun i => !(updN gs j (some g) i).isSome := by rw [e g]
        rw [e2] at this
        omega
      unfold wpList at h
      unfold wpOp
      simp only [ho]
      split
      · rename_i hw
        rw [if_pos hw] at h
        exact h.imp (fun h => wp_backA (Oper.wp_mono (fun a w hk => ⟨hk.1, hk.2 hs hcb hn hsel inv'⟩) h)) id
      · rename_i hw
        rw [if_neg hw] at h
        exact ⟨h.1, h.2 hs hcb hn hsel inv'⟩
/-- A new row of zeros. -/
theorem wpList_make {rest : List Oper} {o : Oper} {a : Act} {W : World} {x : Operand} (d T e N n size bytes : Nat) (z : Value) (_hd : o.dst = some d) (hgd : o.guard = none) (ho : o.op = .makeSlice T x x) (hx : a.eval x = .int .i64 (n : Int)) (ht : P.underlying T = some (.slice e))
    (hi : (P.info? e).map (fun i => (i.zero, i.size, i.bytes)) = some (some z, size, bytes)) (hb : bytes ≤ 1000) (hn : n ≤ 1000000) (hN : n * size = N)
    (h : ∀ u, Keeps W u [] → u.heap.size = W.heap.size + 1 → Blk u W.heap.size e (madeCells z.cells N) → wpList P ops Q rest (a.put o.dst (.slice (some ⟨W.heap.size, 0, none⟩) n n)) u) : wpList P ops Q (o :: rest) a W := by
  subst hN
  refine wpList_plain hgd fun K hK => ?_
  obtain ⟨i, hi, he⟩ := Option.map_eq_some_iff.1 hi
  simp only [Prod.mk.injEq] at he
  obtain ⟨hz, hsz, hby⟩ := he
  have hmul : bytes * n ≤ 1000 * 1000000 := Nat.mul_le_mul hb hn
  have hr := run_make (P := P) W T e i z ht hi hz .i64 .i64 (n : Int) (n : Int) (by omega) (Int.le_refl _) (by rw [hby, ← Int.natCast_mul]; omega) (by omega)
  rw [Int.toNat_natCast, hsz] at hr
  unfold Oper.wp execOp
  simp only [ho, hx, Sem.run_bind, hr, Result.andThen_ok, Sem.run_pure]
  exact hK _ _ (h _ ((Keeps.refl _ _).alloc _) (by show (W.heap.push _).size = _; exact Array.size_push _) (Blk.new _ _ _))
end
end Go.Proofs.Ytakmcpadkanggaa
