/-
  The machine of sched, in plain words: who can go on, one step, a run; what two runs by pick lists have in common.
-/
import Derived.Test.YtakmcpadkanggaaLite2
namespace Go.Proofs.Ytakmcpadkanggaa
open Go.RowKit

/-- One that runs. -/
structure Rn where
  prog : Nat
  pos : Nat
  rg : Nat → Int
/-- All there is while it runs. -/
structure PW where
  n : Nat
  rs : Nat → Rn
  held : Nat → List Int
  cl : Nat → Bool
  lk : Int → Bool
  gr : Int → Int
  ce : Int → Int
  ev : List Ev
def instP (S : Sys) (r : Rn) : Option (Nat → Int) := if r.pos < S.lp r.prog then some (S.q r.prog r.pos) else none
def canP (S : Sys) (P : PW) (f : Nat → Int) : Bool :=
  if f 0 = 5 then P.cl (f 1).toNat || decide (((P.held (f 1).toNat).length : Int) < S.rm (f 1).toNat)
  else if f 0 = 6 then P.cl (f 1).toNat || decide (0 < ((P.held (f 1).toNat).length : Int))
  else if f 0 = 8 then !P.lk (f 1)
  else if f 0 = 11 then decide (P.gr (f 1) = 0)
  else true
/-- Those below k that can go on, rising. -/
def readyN (S : Sys) (P : PW) : Nat → List Nat
  | 0 => []
  | k + 1 => readyN S P k ++ (match instP S (P.rs k) with | some f => if canP S P f = true then [k] else [] | none => [])
def endedN (S : Sys) (P : PW) : Nat → Bool
  | 0 => true
  | k + 1 => endedN S P k && (instP S (P.rs k)).isNone
def setReg (r : Rn) (i : Nat) (v : Int) : Rn := { r with rg := fun j => if j = i then v else r.rg j }
def setR (P : PW) (k : Nat) (r : Rn) : PW := { P with rs := fun j => if j = k then r else P.rs j }
def tellP (P : PW) (e : Ev) : PW := { P with ev := P.ev ++ [e] }
/-- A runner goes on at 'on', and the event is told. -/
def finP (P : PW) (k : Nat) (r : Rn) (on : Nat) (e : Ev) : PW × Int := (tellP (setR P k { r with pos := on }) e, 0)
def updN {α : Type} (f : Nat → α) (i : Nat) (x : α) : Nat → α := fun j => if j = i then x else f j
/-- One step of runner k, whose instruction is f: the world behind it, the fault (0: none). -/
def stepP (S : Sys) (P : PW) (k : Nat) (f : Nat → Int) : PW × Int :=
  let r := P.rs k
  let a := (f 1).toNat
  let b := (f 2).toNat
  let on := r.pos + 1
  if f 0 = 1 then finP P k (setReg r a (f 2)) on ⟨k, 1, 0, 0, false⟩
  else if f 0 = 2 then finP P k (setReg r a (IntKind.i64.wrap (r.rg a + r.rg b))) on ⟨k, 2, 0, 0, false⟩
  else if f 0 = 3 then finP P k r (if r.rg b ≤ r.rg a then on else (f 3).toNat) ⟨k, 3, 0, 0, false⟩
  else if f 0 = 4 then finP P k r (f 3).toNat ⟨k, 4, 0, 0, false⟩
  else if f 0 = 16 then finP P k r (S.lp r.prog) ⟨k, 16, 0, 0, false⟩
  else if f 0 = 12 then finP P k (setReg r b (P.ce (r.rg a % S.ce))) on ⟨k, 12, r.rg a % S.ce, P.ce (r.rg a % S.ce), false⟩
  else if f 0 = 13 then finP { P with ce := updI P.ce (r.rg a % S.ce) (r.rg b) } k r on ⟨k, 13, r.rg a % S.ce, r.rg b, false⟩
  else if f 0 = 14 then
    (if 512 ≤ P.n then (tellP P ⟨k, 14, f 1, 0, false⟩, 135)
    else finP { P with n := P.n + 1, rs := updN P.rs P.n ⟨a, 0, r.rg⟩ } k r on ⟨k, 14, f 1, P.n, false⟩)
  else if f 0 = 15 then finP P k r on ⟨k, 15, f 1, r.rg b, false⟩
  else if f 0 = 5 then
    (if P.cl a then (tellP P ⟨k, 5, f 1, r.rg b, false⟩, 131)
    else finP { P with held := updN P.held a (P.held a ++ [r.rg b]) } k r on ⟨k, 5, f 1, r.rg b, false⟩)
  else if f 0 = 6 then
    (match P.held a with
    | [] => finP P k r (f 3).toNat ⟨k, 6, f 1, 0, true⟩
    | x :: l => finP { P with held := updN P.held a l } k (setReg r b x) on ⟨k, 6, f 1, x, false⟩)
  else if f 0 = 7 then
    (if P.cl a then (tellP P ⟨k, 7, f 1, 0, false⟩, 132)
    else finP { P with cl := updN P.cl a true } k r on ⟨k, 7, f 1, 0, false⟩)
  else if f 0 = 8 then finP { P with lk := updI P.lk (f 1) true } k r on ⟨k, 8, f 1, 0, false⟩
  else if f 0 = 9 then
    (if P.lk (f 1) then finP { P with lk := updI P.lk (f 1) false } k r on ⟨k, 9, f 1, 0, false⟩
    else (tellP P ⟨k, 9, f 1, 0, false⟩, 133))
  else if f 0 = 10 then
    (if IntKind.i64.wrap (P.gr (f 1) + f 2) < 0 then (tellP P ⟨k, 10, f 1, IntKind.i64.wrap (P.gr (f 1) + f 2), false⟩, 134)
    else finP { P with gr := updI P.gr (f 1) (IntKind.i64.wrap (P.gr (f 1) + f 2)) } k r on ⟨k, 10, f 1, IntKind.i64.wrap (P.gr (f 1) + f 2), false⟩)
  else finP P k r on ⟨k, f 0, f 1, 0, false⟩
def begunP : PW := ⟨1, fun _ => ⟨0, 0, fun _ => 0⟩, fun _ => [], fun _ => false, fun _ => false, fun _ => 0, fun _ => 0, []⟩
/-- Which of n ready ones the pick of step t means. -/
def pickP (picks : List Int) (t n : Nat) : Nat := match picks[t]? with | some x => (x % (n : Int)).toNat | none => 0
/-- How a run ended (1 done, 2 stuck, 3 fault, 4 steps), the fault, the world. -/
structure RunP where
  fin : Int
  fault : Int
  P : PW
def runP (S : Sys) (picks : List Int) : Nat → Nat → PW → RunP
  | 0, _, P => ⟨4, 0, P⟩
  | fuel + 1, t, P =>
    if endedN S P P.n then ⟨1, 0, P⟩
    else if 40000 ≤ t then ⟨4, 0, P⟩
    else if readyN S P P.n = [] then ⟨2, 0, P⟩
    else
      let k := (readyN S P P.n).getD (pickP picks t (readyN S P P.n).length) 0
      match instP S (P.rs k) with
      | none => ⟨4, 0, P⟩
      | some f => if (stepP S P k f).2 = 0 then runP S picks fuel (t + 1) (stepP S P k f).1 else ⟨3, (stepP S P k f).2, (stepP S P k f).1⟩
def playP (S : Sys) (picks : List Int) : RunP := runP S picks 40001 0 begunP

theorem finP_ev (P : PW) (k : Nat) (r : Rn) (on : Nat) (e : Ev) : (finP P k r on e).1.ev = P.ev ++ [e] := rfl
def Tells (P : PW) (x : PW × Int) : Prop := ∃ e, x.1.ev = P.ev ++ [e]
theorem tells_ite {P : PW} {c : Prop} [Decidable c] {x y : PW × Int} (h1 : Tells P x) (h2 : Tells P y) : Tells P (if c then x else y) := by split <;> assumption
/-- Each step tells one event. -/
theorem stepP_ev (S : Sys) (P : PW) (k : Nat) (f : Nat → Int) : ∃ e, (stepP S P k f).1.ev = P.ev ++ [e] := by
  show Tells P (stepP S P k f)
  unfold stepP
  simp only []
  repeat' (refine tells_ite ?_ ?_)
  all_goals first
    | exact ⟨_, rfl⟩
    | (cases P.held (f 1).toNat <;> exact ⟨_, rfl⟩)
theorem pickP_lt (picks : List Int) (t n : Nat) (hn : 0 < n) : pickP picks t n < n := by
  unfold pickP
  split
  · rename_i x _
    have h1 := Int.emod_nonneg x (b := (n : Int)) (by omega)
    have h2 := Int.emod_lt_of_pos x (b := (n : Int)) (by omega)
    omega
  · exact hn
theorem readyN_mem (S : Sys) (P : PW) : ∀ m k, k ∈ readyN S P m → k < m ∧ ∃ f, instP S (P.rs k) = some f ∧ canP S P f = true
  | 0, k, h => by simp [readyN] at h
  | m + 1, k, h => by
    simp only [readyN, List.mem_append] at h
    rcases h with h | h
    · have := readyN_mem S P m k h
      exact ⟨by omega, this.2⟩
    · split at h
      · rename_i f hf
        split at h
        · rename_i hc
          obtain rfl : k = m := by simpa using h
          exact ⟨by omega, f, hf, hc⟩
        · simp at h
      · simp at h
theorem picked (S : Sys) (P : PW) (picks : List Int) (t : Nat) (h : readyN S P P.n ≠ []) : (readyN S P P.n).getD (pickP picks t (readyN S P P.n).length) 0 < P.n ∧ ∃ f, instP S (P.rs ((readyN S P P.n).getD (pickP picks t (readyN S P P.n).length) 0)) = some f ∧ canP S P f = true := by
  have hn : 0 < (readyN S P P.n).length := List.length_pos_iff.2 h
  have hl := pickP_lt picks t _ hn
  refine readyN_mem S P P.n _ ?_
  rw [List.getD_eq_getElem?_getD, List.getElem?_eq_getElem hl]
  exact List.getElem_mem hl
theorem runP_prefix (S : Sys) (picks : List Int) : ∀ fuel t P, P.ev <+: (runP S picks fuel t P).P.ev
  | 0, _, P => List.prefix_rfl
  | fuel + 1, t, P => by
    unfold runP
    split
    · exact List.prefix_rfl
    split
    · exact List.prefix_rfl
    split
    · exact List.prefix_rfl
    simp only []
    split
    · exact List.prefix_rfl
    · rename_i f _
      obtain ⟨e, he⟩ := stepP_ev S P _ f
      split
      · refine List.IsPrefix.trans ?_ (runP_prefix S picks fuel (t + 1) _)
        exact ⟨[e], he.symm⟩
      · exact ⟨[e], he.symm⟩
theorem runP_begins (S : Sys) (p more : List Int) : ∀ fuel t P, P.ev.length = t → t ≤ p.length →
    runP S p fuel t P = runP S (p ++ more) fuel t P ∨ (p.length < (runP S p fuel t P).P.ev.length ∧ ∃ pre, pre.length = p.length ∧ pre <+: (runP S p fuel t P).P.ev ∧ pre <+: (runP S (p ++ more) fuel t P).P.ev)
  | 0, _, P, _, _ => .inl rfl
  | fuel + 1, t, P, ht, hp => by
    unfold runP
    by_cases h1 : endedN S P P.n = true
    · left; simp [h1]
    by_cases h2 : 40000 ≤ t
    · left; simp [h1, h2]
    by_cases h3 : readyN S P P.n = []
    · left; simp [h1, h2, h3]
    simp only [h1, h2, h3, if_false, Bool.false_eq_true]
    by_cases hlt : t < p.length
    · have hpk : ∀ m, pickP (p ++ more) t m = pickP p t m := fun m => by unfold pickP; rw [List.getElem?_append_left hlt]
      rw [hpk]
      split
      · exact .inl rfl
      · rename_i f _
        obtain ⟨e, he⟩ := stepP_ev S P ((readyN S P P.n).getD (pickP p t (readyN S P P.n).length) 0) f
        split
        · exact runP_begins S p more fuel (t + 1) _ (by rw [he]; simp [ht]) (by omega)
        · exact .inl rfl
    · have hpt : p.length = t := by omega
      have key : ∀ q : List Int, ∀ g, instP S (P.rs ((readyN S P P.n).getD (pickP q t (readyN S P P.n).length) 0)) = some g →
          P.ev <+: (if (stepP S P ((readyN S P P.n).getD (pickP q t (readyN S P P.n).length) 0) g).2 = 0 then runP S q fuel (t + 1) (stepP S P ((readyN S P P.n).getD (pickP q t (readyN S P P.n).length) 0) g).1 else ⟨3, (stepP S P ((readyN S P P.n).getD (pickP q t (readyN S P P.n).length) 0) g).2, (stepP S P ((readyN S P P.n).getD (pickP q t (readyN S P P.n).length) 0) g).1⟩).P.ev ∧
          t < (if (stepP S P ((readyN S P P.n).getD (pickP q t (readyN S P P.n).length) 0) g).2 = 0 then runP S q fuel (t + 1) (stepP S P ((readyN S P P.n).getD (pickP q t (readyN S P P.n).length) 0) g).1 else ⟨3, (stepP S P ((readyN S P P.n).getD (pickP q t (readyN S P P.n).length) 0) g).2, (stepP S P ((readyN S P P.n).getD (pickP q t (readyN S P P.n).length) 0) g).1⟩).P.ev.length := fun q g _ => by
        obtain ⟨e, he⟩ := stepP_ev S P ((readyN S P P.n).getD (pickP q t (readyN S P P.n).length) 0) g
        have h0 : P.ev <+: (stepP S P ((readyN S P P.n).getD (pickP q t (readyN S P P.n).length) 0) g).1.ev := ⟨[e], he.symm⟩
        have h4 : (stepP S P ((readyN S P P.n).getD (pickP q t (readyN S P P.n).length) 0) g).1.ev.length = t + 1 := by rw [he]; simp [ht]
        split
        · have h5 := runP_prefix S q fuel (t + 1) (stepP S P ((readyN S P P.n).getD (pickP q t (readyN S P P.n).length) 0) g).1
          exact ⟨h0.trans h5, by have := h5.length_le; omega⟩
        · exact ⟨h0, by show t < (stepP S P _ g).1.ev.length; omega⟩
      obtain ⟨_, f, hf, _⟩ := picked S P p t h3
      obtain ⟨_, g, hg, _⟩ := picked S P (p ++ more) t h3
      right
      have k1 := key p f hf
      have k2 := key (p ++ more) g hg
      simp only [hf, hg]
      exact ⟨by rw [hpt]; exact k1.2, P.ev, by rw [ht, hpt], k1.1, k2.1⟩
/-- Runs by pick lists of which one begins with the other begin alike. -/
theorem play_begins (S : Sys) (p more : List Int) :
    (∀ i, i < min p.length (playP S p).P.ev.length → i < (playP S (p ++ more)).P.ev.length ∧ (playP S p).P.ev[i]? = (playP S (p ++ more)).P.ev[i]?) ∧ (p.length < (playP S p).P.ev.length ∨ playP S p = playP S (p ++ more)) := by
  rcases runP_begins S p more 40001 0 begunP rfl (Nat.zero_le _) with h | ⟨h, pre, h1, h2, h3⟩
  · have h' : playP S p = playP S (p ++ more) := h
    exact ⟨fun i hi => ⟨by rw [← h']; omega, by rw [h']⟩, .inr h'⟩
  · refine ⟨fun i hi => ?_, .inl h⟩
    have l3 := h3.length_le
    refine ⟨by show i < (runP S (p ++ more) 40001 0 begunP).P.ev.length; omega, ?_⟩
    show (runP S p 40001 0 begunP).P.ev[i]? = (runP S (p ++ more) 40001 0 begunP).P.ev[i]?
    obtain ⟨x, hx⟩ := h2
    obtain ⟨y, hy⟩ := h3
    rw [← hx, ← hy, List.getElem?_append_left (by omega), List.getElem?_append_left (by omega)]
theorem pickP_turn (p q : List Int) (t n : Nat) (h : p.length = q.length) (hm : ∀ i, i < p.length → (p.getD i 0) % (n : Int) = (q.getD i 0) % (n : Int)) : pickP p t n = pickP q t n := by
  unfold pickP
  by_cases ht : t < p.length
  · have hq : t < q.length := by omega
    have := hm t ht
    rw [List.getD_eq_getElem?_getD, List.getD_eq_getElem?_getD, List.getElem?_eq_getElem ht, List.getElem?_eq_getElem hq] at this
    rw [List.getElem?_eq_getElem ht, List.getElem?_eq_getElem hq]
    simp only [Option.getD_some] at this
    show (p[t] % (n : Int)).toNat = (q[t] % (n : Int)).toNat
    rw [this]
  · rw [List.getElem?_eq_none (by omega), List.getElem?_eq_none (by omega)]
def More (P : PW) (x : PW × Int) : Prop := P.n ≤ x.1.n
theorem more_ite {P : PW} {c : Prop} [Decidable c] {x y : PW × Int} (h1 : More P x) (h2 : More P y) : More P (if c then x else y) := by split <;> assumption
theorem stepP_n (S : Sys) (P : PW) (k : Nat) (f : Nat → Int) : P.n ≤ (stepP S P k f).1.n := by
  show More P (stepP S P k f)
  unfold stepP
  simp only []
  repeat' (refine more_ite ?_ ?_)
  all_goals first
    | exact Nat.le_refl _
    | exact Nat.le_succ _
    | (cases P.held (f 1).toNat <;> exact Nat.le_refl _)
theorem runP_n (S : Sys) (picks : List Int) : ∀ fuel t P, P.n ≤ (runP S picks fuel t P).P.n
  | 0, _, P => Nat.le_refl _
  | fuel + 1, t, P => by
    unfold runP
    split
    · exact Nat.le_refl _
    split
    · exact Nat.le_refl _
    split
    · exact Nat.le_refl _
    simp only []
    split
    · exact Nat.le_refl _
    · rename_i f _
      have h := stepP_n S P ((readyN S P P.n).getD (pickP picks t (readyN S P P.n).length) 0) f
      split
      · exact Nat.le_trans h (runP_n S picks fuel (t + 1) _)
      · exact h
theorem readyN_length (S : Sys) (P : PW) : ∀ m, (readyN S P m).length ≤ m
  | 0 => by simp [readyN]
  | m + 1 => by
    have := readyN_length S P m
    simp only [readyN, List.length_append]
    split
    · split <;> simp <;> omega
    · simp; omega
theorem runP_turn (S : Sys) (p q : List Int) (N : Nat) (hl : p.length = q.length) (hm : ∀ m : Nat, 1 ≤ m → m ≤ N → ∀ i, i < p.length → (p.getD i 0) % (m : Int) = (q.getD i 0) % (m : Int)) :
    ∀ fuel t P, (runP S p fuel t P).P.n ≤ N → runP S p fuel t P = runP S q fuel t P
  | 0, _, P, _ => rfl
  | fuel + 1, t, P, h => by
    have h0 := Nat.le_trans (runP_n S p (fuel + 1) t P) h
    unfold runP at h ⊢
    by_cases h1 : endedN S P P.n = true
    · simp [h1]
    by_cases h2 : 40000 ≤ t
    · simp [h1, h2]
    by_cases h3 : readyN S P P.n = []
    · simp [h1, h2, h3]
    simp only [h1, h2, h3, if_false, Bool.false_eq_true] at h ⊢
    have hn : 0 < (readyN S P P.n).length := List.length_pos_iff.2 h3
    have hpk : pickP q t (readyN S P P.n).length = pickP p t (readyN S P P.n).length := (pickP_turn p q t _ hl (hm _ (by omega) (by have := readyN_length S P P.n; omega))).symm
    rw [hpk]
    split
    · rfl
    · rename_i f hf
      rw [hf] at h
      simp only at h
      split
      · rename_i hz
        rw [if_pos hz] at h
        exact runP_turn S p q N hl hm fuel (t + 1) _ h
      · rfl
/-- A pick counts by its rest. -/
theorem play_turns (S : Sys) (p : List Int) (z : Int) (h : (playP S p).P.n ≤ 12) : playP S p = playP S (p.map fun x => x + z * 27720) := by
  refine runP_turn S p _ 12 (by simp) (fun m h1 h2 i hi => ?_) 40001 0 begunP h
  have e : (p.map fun x => x + z * 27720).getD i 0 = p.getD i 0 + z * 27720 := by simp [List.getD_eq_getElem?_getD, hi]
  rw [e]
  have hd : ((m : Nat) : Int) ∣ 27720 := by
    have hk : ∀ m : Fin 13, 1 ≤ m.1 → m.1 ∣ 27720 := by decide
    exact Int.natCast_dvd_natCast.2 (hk ⟨m, by omega⟩ h1)
  obtain ⟨w, hw⟩ := hd
  rw [hw, show z * ((m : Int) * w) = (m : Int) * (z * w) by rw [← Int.mul_assoc, Int.mul_comm z, Int.mul_assoc], Int.add_mul_emod_self_left]
/-- The system 'small' of the law. -/
def smallQ : List (List (List Int)) := [[[14, 1, 0, 0], [1, 0, 7, 0], [5, 0, 0, 0], [7, 0, 0, 0]], [[6, 0, 1, 2], [4, 0, 0, 0]]]
def smallS : Sys := ⟨2, fun p => (smallQ.getD p []).length, fun p i j => ((smallQ.getD p []).getD i []).getD j 0, 1, fun _ => 1, 0, 0, 0⟩
set_option maxRecDepth 100000 in
theorem small_run : (playP smallS []).fin = 1 ∧ (playP smallS []).fault = 0 ∧ (playP smallS []).P.ev.length = 7 ∧ (playP smallS []).P.n = 2 := by
  decide +kernel
end Go.Proofs.Ytakmcpadkanggaa
