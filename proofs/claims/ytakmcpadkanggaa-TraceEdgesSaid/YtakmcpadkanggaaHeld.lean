/-
  A region that draws its order, walked by a plan: operations that may be taken first, in a class of worlds, and operations that come up alone.
-/
import Derived.Test.YtakmcpadkanggaaOwn
import Derived.OrdersHeld
namespace Go.Proofs.Ytakmcpadkanggaa
open Go.RowKit

section
variable {P : Program} {ops : Array Oper} {md : Region.Mode} {Q : Exit → Act → World → Prop} {S : World → Prop}

/-- Operations taken first: each yields one value in every world of the class. -/
def wpTake (P : Program) (ops : Array Oper) (S : World → Prop) (K : Act → Prop) : List Oper → Act → Prop
  | [], a => K a
  | o :: r, a => (Region.wanted o (yielded ops a.tmps) = true ∧ ∃ v, (∀ w, S w → (execOp a.eval o).run P w = .ok (.value v) w) ∧ wpTake P ops S K r (a.put o.dst v)) ∨
      (Region.wanted o (yielded ops a.tmps) = false ∧ wpTake P ops S K r (a.put o.dst undef))

def segQ (md : Region.Mode) (ops : Array Oper) : List Nat → Array Bool → Array Bool → Bool
  | [], listed, L' => listed == L'
  | i :: r, listed, L' => (Region.ready md ops listed).contains i && Region.free md ops listed i && segQ md ops r (listed.setIfInBounds i true) L'

theorem seg_take (hsel : Region.noSelect ops = true) (hQ : ∀ o ∈ ops.toList, ∀ c v a w, Q (.panic c) (a.put (Oper.dst o) v) w → Q (.panic c) a w) {fuel : Nat} {L' : Array Bool} {w : World} (hS : S w) :
    ∀ (is : List Nat) (l : List Oper) (listed : Array Bool) (a : Act), is.map (fun i => ops[i]?) = l.map some → segQ md ops is listed L' = true →
    wpTake P ops S (fun a' => wpAnyH P md ops Q S fuel L' a' w) l a → wpAnyH P md ops Q S (l.length + fuel) listed a w
  | [], l, listed, a, hl, hB, h => by
    cases l with
    | nil =>
      simp only [segQ, beq_iff_eq] at hB
      subst hB
      rw [List.length_nil, Nat.zero_add]
      exact h
    | cons _ _ => simp at hl
  | i :: is, l, listed, a, hl, hB, h => by
    cases l with
    | nil => simp at hl
    | cons o l =>
      simp only [List.map_cons, List.cons.injEq] at hl
      obtain ⟨hi, hl⟩ := hl
      simp only [segQ, Bool.and_eq_true] at hB
      obtain ⟨⟨hr, hf⟩, hB⟩ := hB
      have ho : o ∈ ops.toList := by
        obtain ⟨hlt, he⟩ := Array.getElem?_eq_some_iff.1 hi
        rw [← he]; simp
      rw [List.length_cons, show l.length + 1 + fuel = (l.length + fuel) + 1 from by omega]
      rcases h with ⟨hw, v, hv, h⟩ | ⟨hw, h⟩
      · exact wpAnyH_take hi hsel hf hr (fun c a w => hQ o ho c v a w) (Or.inl ⟨hw, hv⟩) hS (seg_take hsel hQ hS is l _ _ hl hB h)
      · exact wpAnyH_take hi hsel hf hr (fun c a w => hQ o ho c undef a w) (Or.inr ⟨hw, rfl⟩) hS (seg_take hsel hQ hS is l _ _ hl hB h)

/-- Behind an operation that came up alone. -/
def Back (P : Program) (md : Region.Mode) (ops : Array Oper) (Q : Exit → Act → World → Prop) (S : World → Prop) (fuel : Nat) (L' : Array Bool) : Exit → Act → World → Prop
  | .normal, a, w => S w ∧ wpAnyH P md ops Q S fuel L' a w
  | e, a, w => Q e a w

theorem wp_back {fuel : Nat} {L' : Array Bool} {o : Oper} {a : Act} {w : World} {K : Act → World → Prop} (hh : o.wp P a w K (Back P md ops Q S fuel L')) : o.wp P a w K Q := by
  unfold Oper.wp at *
  generalize (execOp a.eval o).run P w = r at *
  cases r with
  | ok n w' =>
    cases n <;> simp only [Oper.upon] at hh ⊢ <;>
      first
        | exact hh
        | exact Calls.mono hh (fun e w'' he => by cases e <;> exact he)
  | halt x w' => cases x <;> simp only [Oper.upon] at hh ⊢ <;> exact hh

theorem seg_sole {fuel : Nat} {listed : Array Bool} {a : Act} {w : World} (i : Nat) (L' : Array Bool) {o : Oper} (hi : ops[i]? = some o) (hr : (Region.ready md ops listed == [i] && listed.setIfInBounds i true == L') = true)
    (h : wpList P ops (Back P md ops Q S fuel L') [o] a w) : wpAnyH P md ops Q S (fuel + 1) listed a w := by
  simp only [Bool.and_eq_true, beq_iff_eq] at hr
  obtain ⟨hr, hL⟩ := hr
  refine wpAnyH_all hr (by simp) fun j hj => ?_
  obtain rfl : j = i := by simpa using hj
  rw [hL]
  unfold wpList at h
  unfold wpOp
  simp only [hi]
  split
  · rename_i hw
    rw [if_pos hw] at h
    refine h.imp (fun h => wp_back (Oper.wp_mono (fun a w hk => ?_) h)) id
    exact hk
  · rename_i hw
    rw [if_neg hw] at h
    exact h

/-- Two may come up next. -/
theorem seg_two {fuel : Nat} {listed : Array Bool} {a : Act} {w : World} (i j : Nat) (Li Lj : Array Bool) {oi oj : Oper} (hi : ops[i]? = some oi) (hj : ops[j]? = some oj) (hr : (Region.ready md ops listed == [i, j] && listed.setIfInBounds i true == Li && listed.setIfInBounds j true == Lj) = true)
    (h1 : wpList P ops (Back P md ops Q S fuel Li) [oi] a w) (h2 : wpList P ops (Back P md ops Q S fuel Lj) [oj] a w) : wpAnyH P md ops Q S (fuel + 1) listed a w := by
  simp only [Bool.and_eq_true, beq_iff_eq] at hr
  obtain ⟨⟨hr, hLi⟩, hLj⟩ := hr
  refine wpAnyH_all hr (by simp) fun k hk => ?_
  have key : ∀ (i : Nat) (Li : Array Bool) (oi : Oper), ops[i]? = some oi → listed.setIfInBounds i true = Li → wpList P ops (Back P md ops Q S fuel Li) [oi] a w → wpOp P ops Q i (fun a' w' => S w' ∧ wpAnyH P md ops Q S fuel (listed.setIfInBounds i true) a' w') a w := fun i Li oi hi hL h => by
    rw [hL]
    unfold wpList at h
    unfold wpOp
    simp only [hi]
    split
    · rename_i hw
      rw [if_pos hw] at h
      exact h.imp (fun h => wp_back (Oper.wp_mono (fun a w hk => hk) h)) id
    · rename_i hw
      rw [if_neg hw] at h
      exact h
  rcases List.mem_cons.1 hk with rfl | hk
  · exact key k Li oi hi hLi h1
  · obtain rfl : k = j := by simpa using hk
    exact key k Lj oj hj hLj h2

theorem back_intro {fuel : Nat} {L' : Array Bool} {a : Act} {w : World} (hS : S w) (h : wpAnyH P md ops Q S fuel L' a w) : wpList P ops (Back P md ops Q S fuel L') [] a w := ⟨hS, h⟩

theorem back_intro2 {fuel : Nat} {L' : Array Bool} {a : Act} {w : World} (hS : S w) (h : wpAnyH P md ops Q S fuel L' a w) : Back P md ops Q S fuel L' .normal a w := ⟨hS, h⟩
/-- Q, but no panic. -/
def NP (Q : Exit → Act → World → Prop) : Exit → Act → World → Prop
  | .panic _, _, _ => False
  | e, a, w => Q e a w
theorem NP.imp {Q : Exit → Act → World → Prop} : ∀ (e : Exit) (a : Act) (w : World), NP Q e a w → Q e a w := fun e a w h => by
  cases e <;> first | exact h | exact (h : False).elim
theorem seg_done {listed : Array Bool} {a : Act} {w : World} (hr : Region.ready md ops listed = []) (h : Q .normal a w) : wpAnyH P md ops (NP Q) S 0 listed a w := ⟨hr, h⟩

theorem take_nil {K : Act → Prop} {a : Act} (h : K a) : wpTake P ops S K [] a := h
theorem take_done {md : Region.Mode} {Q : Exit → Act → World → Prop} {fuel : Nat} {L' : Array Bool} {a : Act} {w : World} (h : wpAnyH P md ops Q S fuel L' a w) : wpTake P ops S (fun a' => wpAnyH P md ops Q S fuel L' a' w) [] a := h
theorem take_pure {K : Act → Prop} {o : Oper} {r : List Oper} {a : Act} {v : Value} (hw : Region.wanted o (yielded ops a.tmps) = true) (hv : ∀ w, S w → (execOp a.eval o).run P w = .ok (.value v) w) (h : wpTake P ops S K r (a.put o.dst v)) : wpTake P ops S K (o :: r) a := .inl ⟨hw, v, hv, h⟩
theorem take_skip {K : Act → Prop} {o : Oper} {r : List Oper} {a : Act} (hw : Region.wanted o (yielded ops a.tmps) = false) (h : wpTake P ops S K r (a.put o.dst undef)) : wpTake P ops S K (o :: r) a := .inr ⟨hw, h⟩
theorem take_load {K : Act → Prop} {o : Oper} {r : List Oper} {a : Act} {g : Nat} {t ty : TypeId} {cs : Array Value} {x : Operand} {d : TypeDesc} (n : Nat) (_hd : o.dst = some n)
    (hw : Region.wanted o (yielded ops a.tmps) = true) (ho : o.op = .load ty x) (hx : a.eval x = .pointer (some ⟨g, 0, none⟩)) (hb : ∀ w, S w → Blk w g t cs)
    (hu : P.underlying ty = some d) (hd' : (match d with | .struct _ | .array _ _ => true | _ => false) = true) (hi : (P.info? ty).map (·.size) = some cs.size)
    (h : wpTake P ops S K r (a.put o.dst (.agg cs))) : wpTake P ops S K (o :: r) a :=
  take_pure hw (fun w hS => by
    unfold execOp
    simp only [ho, hx, Instr.loadAt, Instr.sureAddr, Sem.run_bind, Sem.run_pure, Result.andThen_ok, run_loadVar_row w g t ty cs (0, 0) d (hb w hS) hu hd' hi]) h
theorem take_load_part {K : Act → Prop} {o : Oper} {r : List Oper} {a : Act} {g off : Nat} {t ty : TypeId} {cs part : Array Value} {x : Operand} {d : TypeDesc} (n : Nat) (_hd : o.dst = some n)
    (hw : Region.wanted o (yielded ops a.tmps) = true) (ho : o.op = .load ty x) (hx : a.eval x = .pointer (some ⟨g, off, none⟩)) (hb : ∀ w, S w → Blk w g t cs)
    (hu : P.underlying ty = some d) (hd' : d.isRow = true) (hi : (P.info? ty).map (·.size) = some part.size) (hp : ∀ j, j < part.size → cs[off + j]? = part[j]?)
    (h : wpTake P ops S K r (a.put o.dst (.agg part))) : wpTake P ops S K (o :: r) a :=
  take_pure hw (fun w hC => by
    have hl := run_loadVar_mid (P := P) w g off ty part.toList d (fun j v hv => by
      rw [(hb w hC).cell]
      have hj : j < part.size := by
        rcases Nat.lt_or_ge j part.size with h1 | h1
        · exact h1
        · rw [List.getElem?_eq_none (by simpa using h1)] at hv; cases hv
      rw [hp j hj]
      simpa using hv) hu hd' (by simpa using hi)
    unfold execOp
    simp only [ho, hx, Instr.loadAt, Instr.sureAddr, Sem.run_bind, Sem.run_pure, Result.andThen_ok, hl, Array.toArray_toList]) h
/-- The beginning. -/
theorem wp_held {id : Nat} {a : Act} {w : World} {l : List Oper} (n : Nat) (L0 : Array Bool) (hm : P.follows .mixedOrders = true) (hn : l.length = n) (hL : Array.replicate n false = L0) (h : wpAnyH P .any l.toArray (NP Q) S n L0 a w.drew) : (Code.region id l.toArray true).wp P Q a w :=
  Code.wp_mono NP.imp (wp_region_held hm (by subst hn; subst hL; simpa using h))
end
end Go.Proofs.Ytakmcpadkanggaa
