/-
  The machine of sched, in plain words: channels in a run (for SchedChannels).
-/
import Derived.Test.YtakmcpadkanggaaT24
namespace Go.Proofs.Ytakmcpadkanggaa
open Go.RowKit

/-- One channel, as the events tell it. -/
structure CS where
  held : List Int
  cl : Bool
def csNx (c : Nat) (s : CS) (e : Ev) : CS :=
  if e.a = (c : Int) then (if e.op = 5 then { s with held := s.held ++ [e.v] } else if e.op = 7 then { s with cl := true } else if e.op = 6 then (if e.sh then s else { s with held := s.held.tail }) else s) else s
def csOk (S : Sys) (c : Nat) (s : CS) (e : Ev) : Bool :=
  if e.a = (c : Int) then (if e.op = 5 then !s.cl && decide ((s.held.length : Int) + 1 ≤ S.rm c) else if e.op = 7 then !s.cl else if e.op = 6 then (if e.sh then s.cl && s.held.isEmpty else decide (s.held.head? = some e.v)) else true) else true
def csN (c : Nat) (l : List Ev) : CS := l.foldl (csNx c) ⟨[], false⟩
theorem csN_snoc (c : Nat) (l : List Ev) (e : Ev) : csN c (l ++ [e]) = csNx c (csN c l) e := by simp [csN]
/-- What a step without a fault does to channel c. -/
def CStep (S : Sys) (c : Nat) (P : PW) (x : PW × Int) : Prop := ∃ e, x.1.ev = P.ev ++ [e] ∧ (x.2 = 0 → csOk S c ⟨P.held c, P.cl c⟩ e = true ∧ csNx c ⟨P.held c, P.cl c⟩ e = ⟨x.1.held c, x.1.cl c⟩)
theorem cstep_ite {S : Sys} {k : Nat} {P : PW} {c : Prop} [Decidable c] {x y : PW × Int} (h1 : c → CStep S k P x) (h2 : ¬ c → CStep S k P y) : CStep S k P (if c then x else y) := by
  by_cases h : c
  · rw [if_pos h]; exact h1 h
  · rw [if_neg h]; exact h2 h
theorem stepP_chan (S : Sys) (c : Nat) (P : PW) (k : Nat) (f : Nat → Int) (hr : rightS S (P.rs k).prog f = true) (hc : canP S P f = true) : CStep S c P (stepP S P k f) := by
  unfold stepP
  simp only []
  repeat' (refine cstep_ite (fun _ => ?_) (fun _ => ?_))
  all_goals first
    | (refine ⟨_, rfl, fun _ => ⟨?_, ?_⟩⟩ <;> simp [csOk, csNx, finP, tellP, setR] <;> done)
    | exact ⟨_, rfl, fun h => by simp at h⟩
    | skip
  · have h5 : f 0 = 5 := by assumption
    have hcl : ¬ P.cl (f 1).toNat = true := by assumption
    obtain ⟨r1, r2⟩ := right_room hr (.inl h5)
    refine ⟨_, rfl, fun _ => ?_⟩
    by_cases ha : f 1 = (c : Int)
    · have e1 : (f 1).toNat = c := by omega
      rw [e1] at hcl
      have hl : ((P.held c).length : Int) < S.rm c := by simpa [canP, h5, e1, hcl] using hc
      exact ⟨by simp [csOk, ha, hcl]; omega, by simp [csNx, finP, tellP, setR, updN, ha]⟩
    · have e1 : ¬ c = (f 1).toNat := by omega
      exact ⟨by simp [csOk, ha], by simp [csNx, finP, tellP, setR, updN, ha, e1]⟩
  · have h6 : f 0 = 6 := by assumption
    obtain ⟨r1, r2⟩ := right_room hr (.inr (.inl h6))
    by_cases ha : f 1 = (c : Int)
    · have e1 : (f 1).toNat = c := by omega
      rw [e1]
      cases hh : P.held c with
      | nil =>
        have hcl : P.cl c = true := by simpa [canP, h6, e1, hh] using hc
        exact ⟨_, rfl, fun _ => ⟨by simp [csOk, ha, hcl, hh], by simp [csNx, finP, tellP, setR, ha, hh]⟩⟩
      | cons x l => exact ⟨_, rfl, fun _ => ⟨by simp [csOk, ha, hh], by simp [csNx, finP, tellP, setR, updN, ha, hh]⟩⟩
    · have e1 : ¬ c = (f 1).toNat := by omega
      cases hh : P.held (f 1).toNat with
      | nil => exact ⟨_, rfl, fun _ => ⟨by simp [csOk, ha], by simp [csNx, finP, tellP, setR, ha]⟩⟩
      | cons x l => exact ⟨_, rfl, fun _ => ⟨by simp [csOk, ha], by simp [csNx, finP, tellP, setR, updN, ha, e1]⟩⟩
  · have h7 : f 0 = 7 := by assumption
    have hcl : ¬ P.cl (f 1).toNat = true := by assumption
    obtain ⟨r1, r2⟩ := right_room hr (.inr (.inr h7))
    refine ⟨_, rfl, fun _ => ?_⟩
    by_cases ha : f 1 = (c : Int)
    · have e1 : (f 1).toNat = c := by omega
      rw [e1] at hcl
      exact ⟨by simp [csOk, ha, hcl], by simp [csNx, finP, tellP, setR, updN, ha]⟩
    · have e1 : ¬ c = (f 1).toNat := by omega
      exact ⟨by simp [csOk, ha], by simp [csNx, finP, tellP, setR, updN, ha, e1]⟩
  · have h5 : ¬ f 0 = 5 := by assumption
    have h6 : ¬ f 0 = 6 := by assumption
    have h7 : ¬ f 0 = 7 := by assumption
    exact ⟨_, rfl, fun _ => ⟨by simp [csOk, h5, h6, h7], by simp [csNx, finP, tellP, setR, h5, h6, h7]⟩⟩
def COk (S : Sys) (c : Nat) (l : List Ev) : Prop := ∀ i e, l[i]? = some e → csOk S c (csN c (l.take i)) e = true
/-- Each event but the bad one is right for channel c. -/
def CEnd (S : Sys) (c : Nat) (x : RunP) : Prop := ∀ i e, x.P.ev[i]? = some e → (x.fin = 3 ∧ i + 1 = x.P.ev.length) ∨ csOk S c (csN c (x.P.ev.take i)) e = true
theorem COk.snoc {S : Sys} {c : Nat} {l : List Ev} {e : Ev} (h : COk S c l) (he : csOk S c (csN c l) e = true) : COk S c (l ++ [e]) := by
  intro i x hx
  rcases Nat.lt_or_ge i l.length with hi | hi
  · rw [List.getElem?_append_left hi] at hx
    rw [List.take_append_of_le_length (by omega)]
    exact h i x hx
  · have : i = l.length := by
      have := (List.getElem?_eq_some_iff.1 hx).1
      simp at this
      omega
    subst this
    simp at hx
    subst hx
    simpa using he
theorem runP_chan (S : Sys) (c : Nat) (hv : validB S = true) (picks : List Int) : ∀ fuel t P, RInv S P → COk S c P.ev → csN c P.ev = ⟨P.held c, P.cl c⟩ → CEnd S c (runP S picks fuel t P)
  | 0, _, P, _, hk, _ => fun i e he => .inr (hk i e he)
  | fuel + 1, t, P, hr, hk, hs => by
    unfold runP
    by_cases c1 : endedN S P P.n = true
    · simp only [c1, if_true]; exact fun i e he => .inr (hk i e he)
    by_cases c2 : 40000 ≤ t
    · simp only [c1, c2, if_true, if_false, Bool.false_eq_true]; exact fun i e he => .inr (hk i e he)
    by_cases c3 : readyN S P P.n = []
    · simp only [c1, c2, c3, if_true, if_false, Bool.false_eq_true]; exact fun i e he => .inr (hk i e he)
    simp only [c1, c2, c3, if_false, Bool.false_eq_true]
    obtain ⟨q1, f, q2, q3⟩ := picked S P picks t c3
    generalize (readyN S P P.n).getD (pickP picks t (readyN S P P.n).length) 0 = k at *
    simp only [q2]
    have hrt := right_of hv (hr k q1) q2
    obtain ⟨e, e1, e2⟩ := stepP_chan S c P k f hrt q3
    split
    · rename_i hz
      obtain ⟨e4, e5⟩ := e2 hz
      refine runP_chan S c hv picks fuel (t + 1) _ (stepP_rinv S P k f hr q1 hrt) ?_ ?_
      · rw [e1]; exact hk.snoc (by rw [hs]; exact e4)
      · rw [e1, csN_snoc, hs, e5]
    · intro i x hx
      simp only at hx ⊢
      rw [e1] at hx ⊢
      rcases Nat.lt_or_ge i P.ev.length with hi | hi
      · rw [List.getElem?_append_left hi] at hx
        rw [List.take_append_of_le_length (by omega)]
        exact .inr (hk i x hx)
      · have := (List.getElem?_eq_some_iff.1 hx).1
        simp at this
        exact .inl ⟨trivial, by simp; omega⟩
/-- Channels in every run of a system that may be. -/
theorem play_chan (S : Sys) (c : Nat) (hv : validB S = true) (picks : List Int) : CEnd S c (playP S picks) := by
  refine runP_chan S c hv picks 40001 0 begunP (fun k hk => ?_) (fun i e h => by simp [begunP] at h) rfl
  have := ((headB_iff S).1 ((validB_iff S).1 hv).1).1
  show (0 : Nat) < S.np
  omega
end Go.Proofs.Ytakmcpadkanggaa
