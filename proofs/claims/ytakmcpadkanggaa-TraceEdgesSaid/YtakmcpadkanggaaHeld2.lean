/-
  A region that draws its order: a head walked by a plan (some operations taken first, in a class of worlds; some that come up alone), a forced tail behind it.
-/
import Derived.Test.YtakmcpadkanggaaTail
import Derived.Test.YtakmcpadkanggaaHeld
namespace Go.Proofs.Ytakmcpadkanggaa
open Go.RowKit

section
variable {P : Program} {ops : Array Oper} {md : Region.Mode} {Q : Exit → Act → World → Prop} {S : World → Prop} {n : Nat} {L : Array Bool → Act → World → Prop}

/-- What is left to come up is among the first n; S holds behind each of them; then L. -/
def anyHL (P : Program) (md : Region.Mode) (ops : Array Oper) (Q : Exit → Act → World → Prop) (S : World → Prop) (n : Nat) (L : Array Bool → Act → World → Prop) : Nat → Array Bool → Act → World → Prop
  | 0, listed, a, w => L listed a w
  | f + 1, listed, a, w => Region.ready md ops listed ≠ [] ∧ ∀ i ∈ Region.ready md ops listed, i < n ∧ wpOp P ops Q i (fun a' w' => S w' ∧ anyHL P md ops Q S n L f (listed.setIfInBounds i true) a' w') a w

theorem any_of_headH {g : Nat} (hL : ∀ listed a w, L listed a w → wpAny P md ops Q g listed a w) :
    ∀ (f : Nat) (listed : Array Bool) (a : Act) (w : World), anyHL P md ops Q S n L f listed a w → wpAny P md ops Q (f + g) listed a w
  | 0, listed, a, w, h => by rw [Nat.zero_add]; exact hL _ _ _ h
  | f + 1, listed, a, w, h => by
    rw [show f + 1 + g = (f + g) + 1 by omega]
    exact ⟨fun h0 => absurd h0 h.1, fun i hi => wpOp_mono (fun a' w' h' => any_of_headH hL f _ a' w' h'.2) (h.2 i hi).2⟩

theorem anyHL_first {i : Nat} {oi : Oper} {v : Value} (hi : ops[i]? = some oi) (hsel : ∀ (j : Nat) (o : Oper) cs b, ops[j]? = some o → o.op ≠ .select cs b)
    (hQ : ∀ c a w, Q (.panic c) (a.put oi.dst v) w → Q (.panic c) a w)
    (hs : Region.sinkB md ops n = true) (hc : Region.chainB md ops n = true) (hn : n < ops.size) (hin : i < n)
    (hdone : ∀ listed a w, L listed a w → ∀ j ∈ Region.ready md ops listed, n ≤ j) :
    ∀ (f : Nat) (listed : Array Bool) (a : Act) (w : World), HeadInv md ops n listed →
      (∀ j oj, ops[j]? = some oj → j ≠ i → listed.getD j true = false → (∀ e ∈ oj.after, Region.binds md e = true → e.on ≠ i) → oi.apart ops oj = true) →
      i ∈ Region.ready md ops listed → YieldsIf P ops S oi v a → S w →
      anyHL P md ops Q S n L f (listed.setIfInBounds i true) (a.put oi.dst v) w → anyHL P md ops Q S n L (f + 1) listed a w := by
  intro f
  induction f with
  | zero =>
    intro listed a w inv _ hr hy hS H
    have hun := (mem_ready.1 hr).1
    refine ⟨fun h => (by rw [h] at hr; cases hr), fun j hj => ?_⟩
    have hjn : j < n := by
      rcases Nat.lt_or_ge j n with h | h
      · exact h
      · exact absurd hj (tail_waits hs hc hn inv _ i rfl hin hun j h)
    refine ⟨hjn, ?_⟩
    by_cases hji : j = i
    · subst hji; exact hy.wpOp hi hS ⟨hS, H⟩
    · have := hdone _ _ _ H j (ready_mono hj hji)
      omega
  | succ f ih =>
    intro listed a w inv hfree hr hy hS H
    have hun := (mem_ready.1 hr).1
    refine ⟨fun h => (by rw [h] at hr; cases hr), fun j hj => ?_⟩
    have hjn : j < n := by
      rcases Nat.lt_or_ge j n with h | h
      · exact h
      · exact absurd hj (tail_waits hs hc hn inv _ i rfl hin hun j h)
    refine ⟨hjn, ?_⟩
    by_cases hji : j = i
    · subst hji; exact hy.wpOp hi hS ⟨hS, H⟩
    · have h1 := (H.2 j (ready_mono hj hji)).2
      obtain ⟨hjun, oj, hoj, hall⟩ := mem_ready.1 hj
      have hnot : ∀ e ∈ oj.after, Region.binds md e = true → e.on ≠ i := fun e he hb heq => by
        have h1 := hall e he hb
        rw [heq, getD_both hun] at h1
        cases h1
      have h2 := wpOp_putIf hoj (hfree j oj hoj hji hjun hnot) (fun cs b => hsel i oi cs b hi) (fun cs b => hsel j oj cs b hoj) hQ hy h1
      have hfree' : ∀ k ok, ops[k]? = some ok → k ≠ i → (listed.setIfInBounds j true).getD k true = false →
          (∀ e ∈ ok.after, Region.binds md e = true → e.on ≠ i) → oi.apart ops ok = true := fun k ok hk hki hun hno => by
        refine hfree k ok hk hki ?_ hno
        by_cases hjk : j = k
        · subst hjk; exact hjun
        · rw [getD_set_ne true hjk] at hun; exact hun
      refine wpOp_mono (fun a' w' h3 => ⟨h3.2.1, ih (listed.setIfInBounds j true) a' w' (inv.set hj hjn) hfree' (ready_mono hr (Ne.symm hji)) h3.1 h3.2.1 ?_⟩) h2
      rw [Array.setIfInBounds_comm _ _ hji]
      exact h3.2.2

/-- The tail, and how much of the head is left. -/
def tailL (P : Program) (md : Region.Mode) (ops : Array Oper) (Q : Exit → Act → World → Prop) (n : Nat) (l : List Oper) (listed : Array Bool) (a : Act) (w : World) : Prop :=
  Region.seqB md ops l.length n listed = true ∧ wpList P ops Q l a w
def AH (P : Program) (ops : Array Oper) (Q : Exit → Act → World → Prop) (S : World → Prop) (n : Nat) (l : List Oper) (f : Nat) (listed : Array Bool) (a : Act) (w : World) : Prop :=
  Region.sinkB .any ops n = true → Region.chainB .any ops n = true → n < ops.size → Region.noSelect ops = true → HeadInv .any ops n listed → anyHL P .any ops (NP Q) S n (tailL P .any ops (NP Q) n l) f listed a w

theorem ah_take {l : List Oper} {L' : Array Bool} {w : World} (hS : S w) {f : Nat} :
    ∀ (is : List Nat) (os : List Oper) (listed : Array Bool) (a : Act), is.map (fun i => ops[i]?) = os.map some → is.all (fun i => decide (i < n)) = true → segQ .any ops is listed L' = true →
    wpTake P ops S (fun a' => AH P ops Q S n l f L' a' w) os a → AH P ops Q S n l (os.length + f) listed a w
  | [], os, listed, a, hl, _, hB, h => by
    cases os with
    | nil =>
      simp only [segQ, beq_iff_eq] at hB
      subst hB
      rw [List.length_nil, Nat.zero_add]
      exact h
    | cons _ _ => simp at hl
  | i :: is, os, listed, a, hl, hin, hB, h => by
    cases os with
    | nil => simp at hl
    | cons o os =>
      simp only [List.map_cons, List.cons.injEq] at hl
      obtain ⟨hi, hl⟩ := hl
      simp only [List.all_cons, Bool.and_eq_true, decide_eq_true_eq] at hin
      simp only [segQ, Bool.and_eq_true] at hB
      obtain ⟨⟨hr, hf⟩, hB⟩ := hB
      have hr' : i ∈ Region.ready .any ops listed := by simpa using hr
      intro hs hc hn hsel inv
      rw [List.length_cons, show os.length + 1 + f = (os.length + f) + 1 from by omega]
      have key : ∀ v, YieldsIf P ops S o v a → wpTake P ops S (fun a' => AH P ops Q S n l f L' a' w) os (a.put o.dst v) → anyHL P .any ops (NP Q) S n (tailL P .any ops (NP Q) n l) (os.length + f + 1) listed a w := fun v hy h =>
        anyHL_first hi (Region.noSelect_spec hsel) (fun _ _ _ h => h) hs hc hn hin.1 (fun listed' a' w' hL => seqB_ready hL.1) _ listed a w inv (Region.free_spec hi hf) hr' hy hS
          (ah_take hS is os _ _ hl hin.2 hB h hs hc hn hsel (inv.set hr' hin.1))
      rcases h with ⟨hw, v, hv, h⟩ | ⟨hw, h⟩
      · exact key v (.inl ⟨hw, hv⟩) h
      · exact key undef (.inr ⟨hw, rfl⟩) h

/-- Behind an operation that came up alone. -/
def BackA (P : Program) (ops : Array Oper) (Q : Exit → Act → World → Prop) (S : World → Prop) (n : Nat) (l : List Oper) (f : Nat) (L' : Array Bool) : Exit → Act → World → Prop
  | .normal, a, w => S w ∧ AH P ops Q S n l f L' a w
  | e, a, w => NP Q e a w
theorem wp_backA {l : List Oper} {f : Nat} {L' : Array Bool} {o : Oper} {a : Act} {w : World} {K : Act → World → Prop} (hh : o.wp P a w K (BackA P ops Q S n l f L')) : o.wp P a w K (NP Q) := by
  unfold Oper.wp at *
  generalize (execOp a.eval o).run P w = r at *
  cases r with
  | ok n w' =>
    cases n <;> simp only [Oper.upon] at hh ⊢ <;>
      first
        | exact hh
        | exact Calls.mono hh (fun e w'' he => by cases e <;> exact he)
  | halt x w' => cases x <;> simp only [Oper.upon] at hh ⊢ <;> exact hh
theorem ah_sole {l : List Oper} {f : Nat} {listed : Array Bool} {a : Act} {w : World} (i : Nat) (L' : Array Bool) {o : Oper} (hi : ops[i]? = some o) (hin : i < n) (hr : (Region.ready .any ops listed == [i] && listed.setIfInBounds i true == L') = true)
    (h : wpList P ops (BackA P ops Q S n l f L') [o] a w) : AH P ops Q S n l (f + 1) listed a w := by
  simp only [Bool.and_eq_true, beq_iff_eq] at hr
  obtain ⟨hr, hL⟩ := hr
  intro hs hc hn hsel inv
  refine ⟨by rw [hr]; simp, fun j hj => ?_⟩
  have hj' := hj
  rw [hr] at hj'
  obtain rfl : j = i := by simpa using hj'
  refine ⟨hin, ?_⟩
  rw [hL]
  have inv' := inv.set hj hin
  rw [hL] at inv'
  unfold wpList at h
  unfold wpOp
  simp only [hi]
  split
  · rename_i hw
    rw [if_pos hw] at h
    exact h.imp (fun h => wp_backA (Oper.wp_mono (fun a w hk => ⟨hk.1, hk.2 hs hc hn hsel inv'⟩) h)) id
  · rename_i hw
    rw [if_neg hw] at h
    exact ⟨h.1, h.2 hs hc hn hsel inv'⟩
theorem backA_intro {l : List Oper} {f : Nat} {L' : Array Bool} {a : Act} {w : World} (hS : S w) (h : AH P ops Q S n l f L' a w) : wpList P ops (BackA P ops Q S n l f L') [] a w := ⟨hS, h⟩
theorem backA_intro2 {l : List Oper} {f : Nat} {L' : Array Bool} {a : Act} {w : World} (hS : S w) (h : AH P ops Q S n l f L' a w) : BackA P ops Q S n l f L' .normal a w := ⟨hS, h⟩
theorem takeA_done {l : List Oper} {f : Nat} {L' : Array Bool} {a : Act} {w : World} (h : AH P ops Q S n l f L' a w) : wpTake P ops S (fun a' => AH P ops Q S n l f L' a' w) [] a := h
/-- The head is done. -/
theorem ah_tail {l : List Oper} {listed : Array Bool} {a : Act} {w : World} (hq : Region.seqB .any ops l.length n listed = true) (h : wpList P ops (NP Q) l a w) : AH P ops Q S n l 0 listed a w :=
  fun _ _ _ _ _ => ⟨hq, h⟩
theorem np_intro {a : Act} {w : World} (h : Q .normal a w) : NP Q .normal a w := h
def headOk (ops : Array Oper) (n : Nat) : Bool := Region.noSelect ops && (decide (n < ops.size) && (Region.sinkB .any ops n && Region.chainB .any ops n))
/-- The beginning. -/
theorem wp_headH {id : Nat} {a : Act} {w : World} {l : List Oper} (n : Nat) (hm : P.follows .mixedOrders = true) (hB : headOk l.toArray n = true)
    (h : AH P l.toArray Q S n (l.drop n) n (Array.replicate l.length false) a w.drew) : (Code.region id l.toArray true).wp P Q a w := by
  simp only [headOk, Bool.and_eq_true, decide_eq_true_eq] at hB
  obtain ⟨hsel, hn, hs, hc⟩ := hB
  have inv0 : HeadInv .any l.toArray n (Array.replicate l.length false) :=
    ⟨by simp, fun j oj _ hl => (by rw [getD_replicate_false] at hl; cases hl), fun t _ ht => getD_in (by simpa using ht) (getD_replicate_false _ _)⟩
  have H := h hs hc hn hsel inv0
  refine Code.wp_mono NP.imp (wp_region_any hm ?_)
  have hn' : n < l.length := by simpa using hn
  have hdl : (l.drop n).length = l.toArray.size - n := by simp
  have := any_of_headH (g := l.toArray.size - n) (fun listed a' w' hL => by
    have := wpAny_of_seq (md := .any) (Q' := NP Q) (l.drop n) n listed a' w' (fun j => by simp [List.getElem?_drop]) (by rw [hdl]; rw [← hdl]; exact hL.1) hL.2
    rwa [hdl] at this) _ _ _ _ H
  rw [show n + (l.toArray.size - n) = l.toArray.size by omega] at this
  simpa using this
end
end Go.Proofs.Ytakmcpadkanggaa
