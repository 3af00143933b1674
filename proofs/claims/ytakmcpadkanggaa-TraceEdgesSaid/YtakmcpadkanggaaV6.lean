/-
  (*links).next at an event of a trace.
-/
import Derived.Test.YtakmcpadkanggaaV5
import Derived.Test.YtakmcpadkanggaaK2
import Derived.Test.YtakmcpadkanggaaR2
namespace Go.Proofs.Ytakmcpadkanggaa
open Go.RowKit Go.Maps Go.Deep

theorem wf_small {n : Int} (h0 : -1000000 ≤ n) (h1 : n ≤ 1000000) : (Lit.int .i64 n).wf = true := by
  have e1 : IntKind.i64.min = -9223372036854775808 := by decide
  have e2 : IntKind.i64.max = 9223372036854775807 := by decide
  simp only [Lit.wf, e1, e2, Bool.and_eq_true, decide_eq_true_eq]
  omega
theorem nextK_len (k : Lk) (j : Int) (e : Ev) (i : Nat) (a : Int) : ((nextK k j e).rows i a).length ≤ (k.rows i a).length + 1 := by
  have h : ∀ (R : Nat → Int → List Int) (i' : Nat) (a' y : Int), ((updN R i' (updI (R i') a' (R i' a' ++ [y]))) i a).length ≤ (R i a).length + 1 := fun R i' a' y => by
    unfold updN
    by_cases e1 : i = i'
    · subst e1
      rw [if_pos rfl]
      by_cases e2 : a = a'
      · subst e2; rw [updI_same]; simp
      · rw [updI_other _ _ _ _ e2]; omega
    · rw [if_neg e1]; omega
  have h0 : ∀ (R : Nat → Int → List Int) (i' : Nat) (a' : Int), ((updN R i' (updI (R i') a' [])) i a).length ≤ (R i a).length + 1 := fun R i' a' => by
    unfold updN
    by_cases e1 : i = i'
    · subst e1
      rw [if_pos rfl]
      by_cases e2 : a = a'
      · subst e2; rw [updI_same]; simp
      · rw [updI_other _ _ _ _ e2]; omega
    · rw [if_neg e1]; omega
  unfold nextK
  repeat' split
  all_goals first
    | exact h _ _ _ _
    | exact h0 _ _ _
    | exact Nat.le_succ _
theorem lk_len (E : Nat → Ev) (i : Nat) (a : Int) : ∀ j, ((lkN E j).rows i a).length ≤ j
  | 0 => Nat.le_refl _
  | j + 1 => by
    have h1 := lk_len E i a j
    have h2 := nextK_len (lkN E j) j (E j) i a
    show ((nextK (lkN E j) j (E j)).rows i a).length ≤ j + 1
    omega
theorem ok_head {S : Sys} {st : St} {e : Ev} (h : okE S st e = true) : 0 ≤ e.who ∧ e.who < st.r ∧ 1 ≤ e.op ∧ e.op ≤ 16 ∧ (cnt S e.op < 0 ∨ (0 ≤ e.a ∧ e.a < cnt S e.op)) := by
  unfold okE headE at h
  simp only [Bool.and_eq_true, decide_eq_true_eq, Bool.or_eq_true] at h
  exact ⟨h.1.1, h.1.2.1, h.1.2.2.1, h.1.2.2.2.1, h.1.2.2.2.2⟩
theorem ok_start {S : Sys} {st : St} {e : Ev} (h : okE S st e = true) (h14 : e.op = 14) : e.v = 0 ∨ (e.v = st.r ∧ e.v < 512) := by
  unfold okE bodyE at h
  rw [if_pos h14] at h
  simp only [Bool.and_eq_true, decide_eq_true_eq, Bool.or_eq_true] at h
  exact h.2
section
variable {w W : World} {S : Sys} {A : Option Addr} {c : Nat} {R : Option Addr} {d : Nat} {E : Nat → Ev} {F : List Nat} {p : Nat} {mb : Nat → Nat} {f : Nat → Int → Option Value} {base j : Nat} {k : Lk} {m : Nat}
def LNextE (W : World) (F : List Nat) (rooms : Value) (p : Nat) (mb : Nat → Nat) (k : Lk) (m base : Nat) (rm : Int → Int) (j : Nat) (e : Ev) (x : Ending) (u : World) : Prop :=
  ∃ r F' f', x = .returned r ∧ HRow W.heap.size u r (scL (nextR k rm e)) ∧ LinksAt u F' rooms p mb f' (nextK k j e) (m + 2) base ∧ (∀ b ∈ F', b ∈ F ∨ W.heap.size ≤ b) ∧ (∀ g, r.ownBlock = some g → g ∉ F') ∧ Keeps W u F
/-- next, at an event that may come next. -/
theorem lnextE (hS : SysIn w S A c R d) (KW : Keeps w W []) (hrm : ∀ q, q < S.nr → 1 ≤ S.rm q ∧ S.rm q ≤ 1000000) (hj : j ≤ 40000) (hok : okE S (stN E j) (E j) = true) (hwa : (Lit.int .i64 (E j).a).wf = true) (hl : LinksAt W F (.slice R S.nr d) p mb f k m base) (hm : m ≤ 100000) (hkl : ∀ i a, (k.rows i a).length ≤ 100000)
    (h6 : (E j).op = 6 → (E j).sh = false → (k.rows 1 (E j).a).length < (k.rows 0 (E j).a).length) (hb : w.heap.size ≤ base) :
    Calls Try.prog 70 #[.pointer (some ⟨p, 0, none⟩), .int .i64 (j : Int), .agg (evC (E j))] W (LNextE W F (.slice R S.nr d) p mb k m base (rmS S) j (E j)) := by
  obtain ⟨h1, h2, h3, h4, h5⟩ := ok_head hok
  have hr := (stN_le E j).2.1
  have hv14 : (E j).op = 14 → (Lit.int .i64 (E j).v).wf = true := fun h14 => by
    rcases ok_start hok h14 with h | h
    · rw [h]; decide
    · exact wf_small (by omega) (by omega)
  refine (lnext_any (rm := rmS S) (E j) hl (wf_small (by omega) (by omega)) hwa hv14 hm hkl (fun h5' => ?_) h6).mono fun x u h => h
  have hc : cnt S (E j).op = S.nr := by rw [h5']; simp [cnt]
  have ha : 0 ≤ (E j).a ∧ (E j).a < S.nr := by
    rcases h5 with h | h
    · rw [hc] at h; omega
    · rw [hc] at h; exact h
  obtain ⟨rad, e, hrb, hrc⟩ := hS.rooms (by omega)
  have hlt : (E j).a.toNat < S.nr := by omega
  have h7 := hrm (E j).a.toNat hlt
  have e1 : rmS S (((E j).a.toNat : Nat) : Int) = S.rm (E j).a.toNat := by unfold rmS; rw [Int.toNat_natCast]
  refine ⟨rad, S.nr, d, (E j).a.toNat, by rw [e], by omega, by omega, ?_, hlt, by rw [e1]; omega, by rw [e1]; omega⟩
  rw [e1, KW.cellAt (by rw [add_block]; exact hrb) (by simp)]
  exact hrc _ hlt
theorem notF {F F' : List Nat} {b : Nat} (hn : ∀ b ∈ F', b ∈ F ∨ W.heap.size ≤ b) (hb : b ∉ F) (hlt : b < W.heap.size) : b ∉ F' := fun hm => by
  rcases hn b hm with h | h
  · exact hb h
  · omega
end
end Go.Proofs.Ytakmcpadkanggaa
