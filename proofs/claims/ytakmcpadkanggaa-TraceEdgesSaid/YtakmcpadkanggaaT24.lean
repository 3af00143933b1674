/-
  The machine of sched, in plain words: locks and groups in a run (for SchedLocks).
-/
import Derived.Test.YtakmcpadkanggaaT23
namespace Go.Proofs.Ytakmcpadkanggaa
open Go.RowKit

/-- Every runner runs a program that is. -/
def RInv (S : Sys) (P : PW) : Prop := ∀ k, k < P.n → (P.rs k).prog < S.np
def RInvX (S : Sys) (x : PW × Int) : Prop := RInv S x.1
theorem rinv_ite {S : Sys} {c : Prop} [Decidable c] {x y : PW × Int} (h1 : c → RInvX S x) (h2 : ¬ c → RInvX S y) : RInvX S (if c then x else y) := by
  by_cases h : c
  · rw [if_pos h]; exact h1 h
  · rw [if_neg h]; exact h2 h
theorem RInv.fin {S : Sys} {P : PW} (h : RInv S P) {k : Nat} {r : Rn} {on : Nat} {e : Ev} (hr : k < P.n → r.prog < S.np) : RInvX S (finP P k r on e) := by
  intro j hj
  have hj' : j < P.n := hj
  show ((if j = k then { r with pos := on } else P.rs j) : Rn).prog < S.np
  by_cases hjk : j = k
  · subst hjk; rw [if_pos rfl]; exact hr hj'
  · rw [if_neg hjk]; exact h j hj'
/-- What an instruction that may be has in its fields. -/
theorem right_of {S : Sys} (hv : validB S = true) {r : Rn} (hr : r.prog < S.np) {f : Nat → Int} (hf : instP S r = some f) : rightS S r.prog f = true := by
  unfold instP at hf
  split at hf
  · rename_i hp
    injection hf with hf
    subst hf
    exact (((validB_iff S).1 hv).2.2 r.prog hr).2 r.pos hp
  · cases hf
theorem right_lock {S : Sys} {p : Nat} {f : Nat → Int} (h : rightS S p f = true) (ho : f 0 = 8 ∨ f 0 = 9) : 0 ≤ f 1 ∧ f 1 < S.lk := by
  unfold rightS at h
  rcases ho with ho | ho <;> rw [ho] at h <;> simp [kd, kdL, mayS, bnd, opOk] at h <;> omega
theorem right_group {S : Sys} {p : Nat} {f : Nat → Int} (h : rightS S p f = true) (ho : f 0 = 10 ∨ f 0 = 11) : 0 ≤ f 1 ∧ f 1 < S.gr := by
  unfold rightS at h
  rcases ho with ho | ho <;> rw [ho] at h <;> simp [kd, kdL, mayS, bnd, opOk] at h <;> omega
theorem right_start {S : Sys} {p : Nat} {f : Nat → Int} (h : rightS S p f = true) (ho : f 0 = 14) : 0 ≤ f 1 ∧ f 1 < S.np := by
  unfold rightS at h
  rw [ho] at h; simp [kd, kdL, mayS, bnd, opOk] at h; omega
theorem right_room {S : Sys} {p : Nat} {f : Nat → Int} (h : rightS S p f = true) (ho : f 0 = 5 ∨ f 0 = 6 ∨ f 0 = 7) : 0 ≤ f 1 ∧ f 1 < S.nr := by
  unfold rightS at h
  rcases ho with ho | ho | ho <;> rw [ho] at h <;> simp [kd, kdL, mayS, bnd, opOk] at h <;> omega
theorem stepP_rinv (S : Sys) (P : PW) (k : Nat) (f : Nat → Int) (h : RInv S P) (hk : k < P.n) (hr : rightS S (P.rs k).prog f = true) : RInv S (stepP S P k f).1 := by
  show RInvX S (stepP S P k f)
  have hp := h k hk
  unfold stepP
  simp only []
  repeat' (refine rinv_ite (fun _ => ?_) (fun _ => ?_))
  all_goals first
    | (refine RInv.fin ?_ (fun _ => hp); exact h)
    | exact h
    | (cases P.held (f 1).toNat <;> (refine RInv.fin ?_ (fun _ => hp); exact h))
    | skip
  have h14 : f 0 = 14 := by assumption
  have hs := right_start hr h14
  refine RInv.fin (P := { P with n := P.n + 1, rs := updN P.rs P.n ⟨(f 1).toNat, 0, (P.rs k).rg⟩ }) (fun j hj => ?_) (fun _ => hp)
  have hj' : j < P.n + 1 := hj
  show (updN P.rs P.n ⟨(f 1).toNat, 0, (P.rs k).rg⟩ j).prog < S.np
  unfold updN
  by_cases hjn : j = P.n
  · rw [if_pos hjn]; show (f 1).toNat < S.np; omega
  · rw [if_neg hjn]; exact h j (by omega)

/-- Locks and groups, as the events tell them. -/
structure LS where
  lk : Int → Bool
  gr : Int → Int
def lsNx (s : LS) (e : Ev) : LS := if e.op = 8 then { s with lk := updI s.lk e.a true } else if e.op = 9 then { s with lk := updI s.lk e.a false } else if e.op = 10 then { s with gr := updI s.gr e.a e.v } else s
def lsOk (S : Sys) (s : LS) (bad : Bool) (e : Ev) : Bool :=
  (!(decide (e.op = 8) || decide (e.op = 9)) || (decide (0 ≤ e.a) && decide (e.a < S.lk))) && ((!(decide (e.op = 10) || decide (e.op = 11)) || (decide (0 ≤ e.a) && decide (e.a < S.gr))) &&
    (if e.op = 8 then !s.lk e.a else if e.op = 9 then s.lk e.a != bad else if e.op = 10 then decide (e.v < 0) == bad else if e.op = 11 then decide (s.gr e.a = 0) else true))
def ls0 : LS := ⟨fun _ => false, fun _ => 0⟩
def lsN (l : List Ev) : LS := l.foldl lsNx ls0
theorem lsN_snoc (l : List Ev) (e : Ev) : lsN (l ++ [e]) = lsNx (lsN l) e := by simp [lsN]
/-- What a step does to locks and groups. -/
def LStep (S : Sys) (P : PW) (x : PW × Int) : Prop := ∃ e, x.1.ev = P.ev ++ [e] ∧ (x.2 = 0 → lsOk S ⟨P.lk, P.gr⟩ false e = true ∧ lsNx ⟨P.lk, P.gr⟩ e = ⟨x.1.lk, x.1.gr⟩) ∧ (x.2 ≠ 0 → lsOk S ⟨P.lk, P.gr⟩ true e = true)
theorem lstep_ite {S : Sys} {P : PW} {c : Prop} [Decidable c] {x y : PW × Int} (h1 : c → LStep S P x) (h2 : ¬ c → LStep S P y) : LStep S P (if c then x else y) := by
  by_cases h : c
  · rw [if_pos h]; exact h1 h
  · rw [if_neg h]; exact h2 h
theorem stepP_locks (S : Sys) (P : PW) (k : Nat) (f : Nat → Int) (hr : rightS S (P.rs k).prog f = true) (hc : canP S P f = true) : LStep S P (stepP S P k f) := by
  unfold stepP
  simp only []
  repeat' (refine lstep_ite (fun _ => ?_) (fun _ => ?_))
  all_goals first
    | (refine ⟨_, rfl, fun _ => ⟨?_, ?_⟩, fun h => absurd rfl h⟩ <;> simp [lsOk, lsNx, finP, tellP, setR, *] <;> done)
    | skip
  · exact ⟨_, rfl, fun h => by simp at h, fun _ => by simp [lsOk]⟩
  · exact ⟨_, rfl, fun h => by simp at h, fun _ => by simp [lsOk]⟩
  · cases P.held (f 1).toNat <;> exact ⟨_, rfl, fun _ => ⟨by simp [lsOk], by simp [lsNx, finP, tellP, setR]⟩, fun h => absurd rfl h⟩
  · exact ⟨_, rfl, fun h => by simp at h, fun _ => by simp [lsOk]⟩
  · have h8 : f 0 = 8 := by assumption
    obtain ⟨r1, r2⟩ := right_lock hr (.inl h8)
    have hl : P.lk (f 1) = false := by simpa [canP, h8] using hc
    exact ⟨_, rfl, fun _ => ⟨by simp [lsOk, r1, r2, hl], by simp [lsNx, finP, tellP, setR]⟩, fun h => absurd rfl h⟩
  · have h9 : f 0 = 9 := by assumption
    have hl : P.lk (f 1) = true := by assumption
    obtain ⟨r1, r2⟩ := right_lock hr (.inr h9)
    exact ⟨_, rfl, fun _ => ⟨by simp [lsOk, r1, r2, hl], by simp [lsNx, finP, tellP, setR]⟩, fun h => absurd rfl h⟩
  · have h9 : f 0 = 9 := by assumption
    have hl : ¬ P.lk (f 1) = true := by assumption
    obtain ⟨r1, r2⟩ := right_lock hr (.inr h9)
    exact ⟨_, rfl, fun h => by simp at h, fun _ => by simp [lsOk, r1, r2, hl]⟩
  · have h10 : f 0 = 10 := by assumption
    have hw : IntKind.i64.wrap (P.gr (f 1) + f 2) < 0 := by assumption
    obtain ⟨r1, r2⟩ := right_group hr (.inl h10)
    exact ⟨_, rfl, fun h => by simp at h, fun _ => by simp [lsOk, r1, r2, hw]⟩
  · have h10 : f 0 = 10 := by assumption
    have hw : ¬ IntKind.i64.wrap (P.gr (f 1) + f 2) < 0 := by assumption
    obtain ⟨r1, r2⟩ := right_group hr (.inl h10)
    exact ⟨_, rfl, fun _ => ⟨by simp [lsOk, r1, r2]; omega, by simp [lsNx, finP, tellP, setR]⟩, fun h => absurd rfl h⟩
  · have h8 : ¬ f 0 = 8 := by assumption
    have h9 : ¬ f 0 = 9 := by assumption
    have h10 : ¬ f 0 = 10 := by assumption
    by_cases h11 : f 0 = 11
    · obtain ⟨r1, r2⟩ := right_group hr (.inr h11)
      have hg : P.gr (f 1) = 0 := by simpa [canP, h11] using hc
      exact ⟨_, rfl, fun _ => ⟨by simp [lsOk, r1, r2, hg, h11], by simp [lsNx, finP, tellP, setR, h11]⟩, fun h => absurd rfl h⟩
    · exact ⟨_, rfl, fun _ => ⟨by simp [lsOk, h8, h9, h10, h11], by simp [lsNx, finP, tellP, setR, h8, h9, h10]⟩, fun h => absurd rfl h⟩
/-- Each event is right behind those ahead of it; the last one of a run that ended with a fault as such. -/
def LOk (S : Sys) (l : List Ev) : Prop := ∀ i e, l[i]? = some e → lsOk S (lsN (l.take i)) false e = true
def LEnd (S : Sys) (x : RunP) : Prop := ((x.fault ≠ 0 ↔ x.fin = 3) ∧ 1 ≤ x.fin ∧ x.fin ≤ 4 ∧ x.P.ev.length ≤ 40000) ∧ ∀ i e, x.P.ev[i]? = some e → lsOk S (lsN (x.P.ev.take i)) (decide (x.fin = 3) && decide (i + 1 = x.P.ev.length)) e = true
theorem LOk.snoc {S : Sys} {l : List Ev} {e : Ev} (h : LOk S l) (he : lsOk S (lsN l) false e = true) : LOk S (l ++ [e]) := by
  intro i x hx
  rcases Nat.lt_or_ge i l.length with hi | hi
  · rw [List.getElem?_append_left hi] at hx
    rw [List.take_append_of_le_length (by omega)]
    exact h i x hx
  · rw [List.getElem?_append_right hi] at hx
    have : i = l.length := by
      rcases Nat.lt_or_ge (i - l.length) 1 with h1 | h1
      · omega
      · rw [List.getElem?_eq_none (by simpa using h1)] at hx; cases hx
    subst this
    simp at hx
    subst hx
    simpa using he
theorem LOk.fin {S : Sys} {x : RunP} (h : LOk S x.P.ev) (h0 : x.fault = 0) (h1 : 1 ≤ x.fin ∧ x.fin ≤ 4 ∧ x.fin ≠ 3) (hl : x.P.ev.length ≤ 40000) : LEnd S x :=
  ⟨⟨⟨fun h => absurd h0 h, fun h => absurd h h1.2.2⟩, h1.1, h1.2.1, hl⟩, fun i e he => by
    have := h i e he
    rwa [show (decide (x.fin = 3) && decide (i + 1 = x.P.ev.length)) = false by simp [h1.2.2]]⟩
theorem runP_locks (S : Sys) (hv : validB S = true) (picks : List Int) : ∀ fuel t P, P.ev.length = t → t ≤ 40000 → 40000 < t + fuel → RInv S P → LOk S P.ev → lsN P.ev = ⟨P.lk, P.gr⟩ → LEnd S (runP S picks fuel t P)
  | 0, t, P, _, h1, h2, _, _, _ => by omega
  | fuel + 1, t, P, ht, h1, h2, hr, hk, hs => by
    unfold runP
    by_cases c1 : endedN S P P.n = true
    · simp only [c1, if_true]; exact LOk.fin hk rfl ⟨by simp, by simp, by simp⟩ (by show P.ev.length ≤ 40000; omega)
    by_cases c2 : 40000 ≤ t
    · simp only [c1, c2, if_true, if_false, Bool.false_eq_true]; exact LOk.fin hk rfl ⟨by simp, by simp, by simp⟩ (by show P.ev.length ≤ 40000; omega)
    by_cases c3 : readyN S P P.n = []
    · simp only [c1, c2, c3, if_true, if_false, Bool.false_eq_true]; exact LOk.fin hk rfl ⟨by simp, by simp, by simp⟩ (by show P.ev.length ≤ 40000; omega)
    simp only [c1, c2, c3, if_false, Bool.false_eq_true]
    obtain ⟨q1, f, q2, q3⟩ := picked S P picks t c3
    generalize (readyN S P P.n).getD (pickP picks t (readyN S P P.n).length) 0 = k at *
    simp only [q2]
    have hrt := right_of hv (hr k q1) q2
    obtain ⟨e, e1, e2, e3⟩ := stepP_locks S P k f hrt q3
    split
    · rename_i hz
      obtain ⟨e4, e5⟩ := e2 hz
      refine runP_locks S hv picks fuel (t + 1) _ (by rw [e1]; simp [ht]) (by omega) (by omega) (stepP_rinv S P k f hr q1 hrt) ?_ ?_
      · rw [e1]; exact hk.snoc (by rw [hs]; exact e4)
      · rw [e1, lsN_snoc, hs, e5]
    · rename_i hz
      have e4 := e3 hz
      refine ⟨⟨⟨fun _ => rfl, fun _ => hz⟩, by simp, by simp, by show (stepP S P k f).1.ev.length ≤ 40000; rw [e1]; simp; omega⟩, fun i x hx => ?_⟩
      simp only at hx ⊢
      rw [e1] at hx ⊢
      rcases Nat.lt_or_ge i P.ev.length with hi | hi
      · rw [List.getElem?_append_left hi] at hx
        rw [List.take_append_of_le_length (by omega)]
        have hne : ¬ i + 1 = (P.ev ++ [e]).length := by simp; omega
        simp only [hne, decide_false, Bool.and_false]
        exact hk i x hx
      · have : i = P.ev.length := by
          have := (List.getElem?_eq_some_iff.1 hx).1
          simp at this
          omega
        subst this
        simp at hx
        subst hx
        simpa [hs] using e4
/-- Locks and groups in every run of a system that may be. -/
theorem play_locks (S : Sys) (hv : validB S = true) (picks : List Int) : LEnd S (playP S picks) := by
  refine runP_locks S hv picks 40001 0 begunP rfl (by omega) (by omega) (fun k hk => ?_) (fun i e h => by simp [begunP] at h) rfl
  have := ((headB_iff S).1 ((validB_iff S).1 hv).1).1
  show (0 : Nat) < S.np
  omega
end Go.Proofs.Ytakmcpadkanggaa
