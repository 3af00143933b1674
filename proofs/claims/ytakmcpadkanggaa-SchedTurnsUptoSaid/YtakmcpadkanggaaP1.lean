/-
  What a run of sched tells is a trace.
-/
import Derived.Test.YtakmcpadkanggaaT25
import Derived.Test.YtakmcpadkanggaaT27
namespace Go.Proofs.Ytakmcpadkanggaa
open Go.RowKit

/-- What a list of events has left behind. -/
def stL (l : List Ev) : St := l.foldl nextE st0
theorem stL_snoc (l : List Ev) (e : Ev) : stL (l ++ [e]) = nextE (stL l) e := by simp [stL]
theorem stN_take (l : List Ev) : ∀ k, k ≤ l.length → stN (lE l) k = stL (l.take k)
  | 0, _ => rfl
  | k + 1, h => by
    have hk : k < l.length := by omega
    rw [List.take_succ_eq_append_getElem hk, stL_snoc, ← stN_take l k (by omega)]
    simp only [stN, lE]
    rw [List.getD_eq_getElem?_getD, List.getElem?_eq_getElem hk]
    rfl
/-- What the world and what the events have left behind are the same. -/
def Tied (st : St) (P : PW) : Prop := st.r = P.n ∧ (∀ a, st.held a = P.lk a) ∧ (∀ c : Nat, st.shut c = P.cl c) ∧ ∀ c : Nat, st.sent c - st.took c = (P.held c).length
def TStep (S : Sys) (st : St) (P : PW) (x : PW × Int) : Prop := ∃ e, x.1.ev = P.ev ++ [e] ∧ okE S st e = true ∧ (x.2 = 0 → Tied (nextE st e) x.1)
theorem tstep_ite {S : Sys} {st : St} {P : PW} {c : Prop} [Decidable c] {x y : PW × Int} (h1 : c → TStep S st P x) (h2 : ¬ c → TStep S st P y) : TStep S st P (if c then x else y) := by
  by_cases h : c
  · rw [if_pos h]; exact h1 h
  · rw [if_neg h]; exact h2 h
theorem right_op {S : Sys} {p : Nat} {f : Nat → Int} (h : rightS S p f = true) : 1 ≤ f 0 ∧ f 0 ≤ 16 := by
  unfold rightS at h
  simp only [Bool.and_eq_true] at h
  simpa [opOk] using h.1
theorem right_cells {S : Sys} {p : Nat} {f : Nat → Int} (h : rightS S p f = true) (ho : f 0 = 12 ∨ f 0 = 13) : S.ce ≠ 0 := by
  unfold rightS at h
  rcases ho with ho | ho <;> rw [ho] at h <;> simp at h <;> exact h.2.1
theorem okE_mk {S : Sys} {st : St} {P : PW} {k : Nat} {o a v : Int} {sh : Bool} (hR : Tied st P) (hk : k < P.n) (h1 : 1 ≤ o) (h2 : o ≤ 16) (hc : cnt S o < 0 ∨ (0 ≤ a ∧ a < cnt S o)) (hb : bodyE st ⟨k, o, a, v, sh⟩ = true) : okE S st ⟨k, o, a, v, sh⟩ = true := by
  have h := hR.1
  unfold okE headE
  rw [hb, Bool.and_true]
  simp only [Bool.and_eq_true, Bool.or_eq_true, decide_eq_true_eq]
  exact ⟨by omega, by omega, h1, h2, hc⟩
theorem stepP_trace (S : Sys) (st : St) (P : PW) (k : Nat) (f : Nat → Int) (hR : Tied st P) (hk : k < P.n) (hce : 0 ≤ S.ce) (hr : rightS S (P.rs k).prog f = true) (hc : canP S P f = true) : TStep S st P (stepP S P k f) := by
  obtain ⟨o1, o2⟩ := right_op hr
  have R1 := hR.1
  have R2 := hR.2.1
  have R3 := hR.2.2.1
  have R4 := hR.2.2.2
  unfold stepP
  simp only []
  refine tstep_ite (fun o => ?_) (fun n1 => ?_)
  · exact ⟨_, rfl, okE_mk hR hk (by omega) (by omega) (.inl (by simp [cnt])) (by simp [bodyE]), fun _ => ⟨R1, R2, R3, R4⟩⟩
  refine tstep_ite (fun o => ?_) (fun n2 => ?_)
  · exact ⟨_, rfl, okE_mk hR hk (by omega) (by omega) (.inl (by simp [cnt])) (by simp [bodyE]), fun _ => ⟨R1, R2, R3, R4⟩⟩
  refine tstep_ite (fun o => ?_) (fun n3 => ?_)
  · exact ⟨_, rfl, okE_mk hR hk (by omega) (by omega) (.inl (by simp [cnt])) (by simp [bodyE]), fun _ => ⟨R1, R2, R3, R4⟩⟩
  refine tstep_ite (fun o => ?_) (fun n4 => ?_)
  · exact ⟨_, rfl, okE_mk hR hk (by omega) (by omega) (.inl (by simp [cnt])) (by simp [bodyE]), fun _ => ⟨R1, R2, R3, R4⟩⟩
  refine tstep_ite (fun o => ?_) (fun n16 => ?_)
  · exact ⟨_, rfl, okE_mk hR hk (by omega) (by omega) (.inl (by simp [cnt])) (by simp [bodyE]), fun _ => ⟨R1, R2, R3, R4⟩⟩
  refine tstep_ite (fun o => ?_) (fun n12 => ?_)
  · have := right_cells hr (.inl o)
    exact ⟨_, rfl, okE_mk hR hk (by omega) (by omega) (.inr ⟨Int.emod_nonneg _ this, by show _ < S.ce; exact Int.emod_lt_of_pos _ (by omega)⟩) (by simp [bodyE]), fun _ => ⟨R1, R2, R3, R4⟩⟩
  refine tstep_ite (fun o => ?_) (fun n13 => ?_)
  · have := right_cells hr (.inr o)
    exact ⟨_, rfl, okE_mk hR hk (by omega) (by omega) (.inr ⟨Int.emod_nonneg _ this, by show _ < S.ce; exact Int.emod_lt_of_pos _ (by omega)⟩) (by simp [bodyE]), fun _ => ⟨R1, R2, R3, R4⟩⟩
  refine tstep_ite (fun o => ?_) (fun n14 => ?_)
  · have hs := right_start hr o
    refine tstep_ite (fun hn => ?_) (fun hn => ?_)
    · exact ⟨_, rfl, okE_mk hR hk (by omega) (by omega) (.inr ⟨hs.1, hs.2⟩) (by simp [bodyE]), fun h => by simp at h⟩
    · refine ⟨_, rfl, okE_mk hR hk (by omega) (by omega) (.inr ⟨hs.1, hs.2⟩) ?_, fun _ => ?_⟩
      · simp only [bodyE, if_true, Bool.or_eq_true, decide_eq_true_eq, Bool.and_eq_true]
        right; omega
      · have h0 : ¬ (P.n : Int) = 0 := by omega
        simp only [nextE, if_true, if_neg h0]
        refine ⟨?_, R2, R3, R4⟩
        show st.r + 1 = ((P.n + 1 : Nat) : Int)
        omega
  refine tstep_ite (fun o => ?_) (fun n15 => ?_)
  · exact ⟨_, rfl, okE_mk hR hk (by omega) (by omega) (.inl (by simp [cnt])) (by simp [bodyE]), fun _ => ⟨R1, R2, R3, R4⟩⟩
  refine tstep_ite (fun o => ?_) (fun n5 => ?_)
  · obtain ⟨a1, a2⟩ := right_room hr (.inl o)
    refine tstep_ite (fun hcl => ?_) (fun hcl => ?_)
    · exact ⟨_, rfl, okE_mk hR hk (by omega) (by omega) (.inr ⟨a1, a2⟩) (by simp [bodyE]), fun h => by simp at h⟩
    · refine ⟨_, rfl, okE_mk hR hk (by omega) (by omega) (.inr ⟨a1, a2⟩) (by simp [bodyE]), fun _ => ⟨R1, R2, R3, fun c => ?_⟩⟩
      show updI st.sent (f 1) (st.sent (f 1) + 1) c - st.took c = (updN P.held (f 1).toNat (P.held (f 1).toNat ++ [_]) c).length
      have h4 := R4 c
      by_cases e : c = (f 1).toNat
      · have e1 : f 1 = (c : Int) := by omega
        rw [← e, e1, updI_same, updN_same]
        simp; omega
      · rw [updI_other _ _ _ _ (by omega), updN_other _ _ _ _ e, h4]
  refine tstep_ite (fun o => ?_) (fun n6 => ?_)
  · obtain ⟨a1, a2⟩ := right_room hr (.inr (.inl o))
    have h4 := R4 (f 1).toNat
    rw [show (((f 1).toNat : Nat) : Int) = f 1 by omega] at h4
    cases hh : P.held (f 1).toNat with
    | nil =>
      refine ⟨_, rfl, okE_mk hR hk (by omega) (by omega) (.inr ⟨a1, a2⟩) ?_, fun _ => ⟨R1, R2, R3, R4⟩⟩
      have h3 := R3 (f 1).toNat
      rw [show (((f 1).toNat : Nat) : Int) = f 1 by omega] at h3
      have hcl : P.cl (f 1).toNat = true := by
        simp [canP, o, hh] at hc
        exact hc
      simp [bodyE, h3, hcl]
    | cons x l =>
      rw [hh] at h4
      simp only [List.length_cons] at h4
      refine ⟨_, rfl, okE_mk hR hk (by omega) (by omega) (.inr ⟨a1, a2⟩) ?_, fun _ => ⟨R1, R2, R3, fun c => ?_⟩⟩
      · simp [bodyE]; omega
      · show st.sent c - updI st.took (f 1) (st.took (f 1) + 1) c = (updN P.held (f 1).toNat l c).length
        by_cases e : c = (f 1).toNat
        · have e1 : f 1 = (c : Int) := by omega
          rw [← e, e1, updI_same, updN_same]
          rw [e1] at h4
          omega
        · rw [updI_other _ _ _ _ (by omega), updN_other _ _ _ _ e, R4 c]
  refine tstep_ite (fun o => ?_) (fun n7 => ?_)
  · obtain ⟨a1, a2⟩ := right_room hr (.inr (.inr o))
    refine tstep_ite (fun hcl => ?_) (fun hcl => ?_)
    · exact ⟨_, rfl, okE_mk hR hk (by omega) (by omega) (.inr ⟨a1, a2⟩) (by simp [bodyE]), fun h => by simp at h⟩
    · refine ⟨_, rfl, okE_mk hR hk (by omega) (by omega) (.inr ⟨a1, a2⟩) (by simp [bodyE]), fun _ => ⟨R1, R2, fun c => ?_, R4⟩⟩
      show updI st.shut (f 1) true c = updN P.cl (f 1).toNat true c
      by_cases e : c = (f 1).toNat
      · have e1 : f 1 = (c : Int) := by omega
        rw [← e, e1, updI_same, updN_same]
      · rw [updI_other _ _ _ _ (by omega), updN_other _ _ _ _ e, R3 c]
  refine tstep_ite (fun o => ?_) (fun n8 => ?_)
  · obtain ⟨a1, a2⟩ := right_lock hr (.inl o)
    have hl : P.lk (f 1) = false := by simpa [canP, o] using hc
    refine ⟨_, rfl, okE_mk hR hk (by omega) (by omega) (.inr ⟨a1, a2⟩) (by simp [bodyE, R2, hl]), fun _ => ⟨R1, fun a => ?_, R3, R4⟩⟩
    show updI st.held (f 1) true a = updI P.lk (f 1) true a
    unfold updI
    rw [R2 a]
  refine tstep_ite (fun o => ?_) (fun n9 => ?_)
  · obtain ⟨a1, a2⟩ := right_lock hr (.inr o)
    refine tstep_ite (fun hl => ?_) (fun hl => ?_)
    · refine ⟨_, rfl, okE_mk hR hk (by omega) (by omega) (.inr ⟨a1, a2⟩) (by simp [bodyE]), fun _ => ⟨R1, fun a => ?_, R3, R4⟩⟩
      show updI st.held (f 1) false a = updI P.lk (f 1) false a
      unfold updI
      rw [R2 a]
    · exact ⟨_, rfl, okE_mk hR hk (by omega) (by omega) (.inr ⟨a1, a2⟩) (by simp [bodyE]), fun h => by simp at h⟩
  refine tstep_ite (fun o => ?_) (fun n10 => ?_)
  · obtain ⟨a1, a2⟩ := right_group hr (.inl o)
    refine tstep_ite (fun hl => ?_) (fun hl => ?_)
    · exact ⟨_, rfl, okE_mk hR hk (by omega) (by omega) (.inr ⟨a1, a2⟩) (by simp [bodyE]), fun h => by simp at h⟩
    · exact ⟨_, rfl, okE_mk hR hk (by omega) (by omega) (.inr ⟨a1, a2⟩) (by simp [bodyE]), fun _ => ⟨R1, R2, R3, R4⟩⟩
  · have o : f 0 = 11 := by omega
    obtain ⟨a1, a2⟩ := right_group hr (.inr o)
    rw [o]
    exact ⟨_, rfl, okE_mk hR hk (by omega) (by omega) (.inr ⟨a1, a2⟩) (by simp [bodyE]), fun _ => ⟨R1, R2, R3, R4⟩⟩
def FStep (P : PW) (x : PW × Int) : Prop := x.2 ≠ 0 → ∃ e, x.1.ev = P.ev ++ [e] ∧ x.1.n = P.n ∧ ∀ st, (nextE st e).r = st.r
theorem fstep_ite {P : PW} {c : Prop} [Decidable c] {x y : PW × Int} (h1 : FStep P x) (h2 : FStep P y) : FStep P (if c then x else y) := by split <;> assumption
theorem fstep_fin {P Q : PW} {k : Nat} {r : Rn} {on : Nat} {e : Ev} : FStep P (finP Q k r on e) := fun h => absurd rfl h
/-- A step with a fault tells an event, and starts nobody. -/
theorem stepP_faultn (S : Sys) (P : PW) (k : Nat) (f : Nat → Int) (h : (stepP S P k f).2 ≠ 0) : ∃ e, (stepP S P k f).1.ev = P.ev ++ [e] ∧ (stepP S P k f).1.n = P.n ∧ ∀ st, (nextE st e).r = st.r := by
  have key : FStep P (stepP S P k f) := by
    unfold stepP
    simp only []
    repeat' (refine fstep_ite ?_ ?_)
    all_goals first
      | exact fstep_fin
      | exact fun _ => ⟨_, rfl, rfl, fun st => by simp [nextE]⟩
      | (cases P.held (f 1).toNat <;> exact fstep_fin)
  exact key h
/-- Each event may be behind those ahead of it. -/
def TOk (S : Sys) (l : List Ev) : Prop := ∀ i e, l[i]? = some e → okE S (stL (l.take i)) e = true
theorem TOk.snoc {S : Sys} {l : List Ev} {e : Ev} (h : TOk S l) (he : okE S (stL l) e = true) : TOk S (l ++ [e]) := by
  intro i x hx
  rcases Nat.lt_or_ge i l.length with hi | hi
  · rw [List.getElem?_append_left hi] at hx
    rw [List.take_append_of_le_length (by omega)]
    exact h i x hx
  · rw [List.getElem?_append_right hi] at hx
    have : i = l.length := by
      rcases Nat.lt_or_ge (i - l.length) 1 with h1 | h1
      · omega
      · rw [List.getElem?_eq_none (by simpa using h1)] at hx; cases hx
    subst this
    simp at hx
    subst hx
    simpa using he
theorem runP_trace (S : Sys) (hv : validB S = true) (picks : List Int) : ∀ fuel t P, P.ev.length = t → t ≤ 40000 → RInv S P → TOk S P.ev → Tied (stL P.ev) P →
    TOk S (runP S picks fuel t P).P.ev ∧ (runP S picks fuel t P).P.ev.length ≤ 40000 ∧ ((runP S picks fuel t P).fault ≠ 0 ∨ Tied (stL (runP S picks fuel t P).P.ev) (runP S picks fuel t P).P) ∧ (stL (runP S picks fuel t P).P.ev).r = (runP S picks fuel t P).P.n
  | 0, t, P, ht, h1, hr, hk, hs => ⟨hk, by show P.ev.length ≤ 40000; omega, .inr hs, hs.1⟩
  | fuel + 1, t, P, ht, h1, hr, hk, hs => by
    have hce : 0 ≤ S.ce := by
      have := ((headB_iff S).1 ((validB_iff S).1 hv).1).2.2.2.2.2
      simp [shB] at this
      omega
    have hend : TOk S P.ev ∧ P.ev.length ≤ 40000 ∧ ((0 : Int) ≠ 0 ∨ Tied (stL P.ev) P) ∧ (stL P.ev).r = P.n := ⟨hk, by omega, .inr hs, hs.1⟩
    unfold runP
    by_cases c1 : endedN S P P.n = true
    · simp only [c1, if_true]; exact hend
    by_cases c2 : 40000 ≤ t
    · simp only [c1, c2, if_true, if_false, Bool.false_eq_true]; exact hend
    by_cases c3 : readyN S P P.n = []
    · simp only [c1, c2, c3, if_true, if_false, Bool.false_eq_true]; exact hend
    simp only [c1, c2, c3, if_false, Bool.false_eq_true]
    obtain ⟨q1, f, q2, q3⟩ := picked S P picks t c3
    generalize (readyN S P P.n).getD (pickP picks t (readyN S P P.n).length) 0 = k at *
    simp only [q2]
    have hrt := right_of hv (hr k q1) q2
    obtain ⟨e, e1, e2, e3⟩ := stepP_trace S (stL P.ev) P k f hs q1 hce hrt q3
    have hk2 : TOk S (stepP S P k f).1.ev := by rw [e1]; exact hk.snoc e2
    split
    · rename_i hz
      exact runP_trace S hv picks fuel (t + 1) _ (by rw [e1]; simp [ht]) (by omega) (stepP_rinv S P k f hr q1 hrt) hk2 (by rw [e1, stL_snoc]; exact e3 hz)
    · rename_i hz
      refine ⟨hk2, by show (stepP S P k f).1.ev.length ≤ 40000; rw [e1]; simp; omega, .inl hz, ?_⟩
      show (stL (stepP S P k f).1.ev).r = (stepP S P k f).1.n
      obtain ⟨e', e1', e4⟩ := stepP_faultn S P k f hz
      rw [e1'] at e1
      have : e' = e := by simpa using e1
      subst this
      rw [e1', stL_snoc, e4.2 (stL P.ev), hs.1, e4.1]
end Go.Proofs.Ytakmcpadkanggaa
