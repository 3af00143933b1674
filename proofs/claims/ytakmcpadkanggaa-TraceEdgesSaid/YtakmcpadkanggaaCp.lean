/-
  Events of one's own (copied), with their room.
-/
import Derived.Test.YtakmcpadkanggaaT13
namespace Go.Proofs.Ytakmcpadkanggaa
open Go.ChangeShapes Go.WideShapes Go.RowKit Go.Maps Go.Deep

theorem evs_of_row3 {w w0 : World} {v : Value} {n : Nat} {E : Nat → Ev} (h : w.ownsRow w0.heap.size 37 5 v n (evL E n)) : ∃ B c, v = .slice B n c ∧ EvsAt w B n E ∧ n ≤ c ∧ c ≤ maxLen := by
  obtain ⟨B, c, rfl, hE⟩ := evs_of_row h
  refine ⟨B, c, rfl, hE, ?_⟩
  obtain ⟨_, ⟨e, hn⟩ | ⟨g, cap, cur, e, _, hb, hle, hm, hs, ht⟩⟩ := h
  · injection e with _ _ e; subst hn; subst e; exact ⟨Nat.le_refl _, by simp [maxLen]⟩
  · injection e with _ _ e; subst e; exact ⟨hle, hm⟩
section
variable {w : World} {S : Sys} {A : Option Addr} {c : Nat} {R : Option Addr} {d n : Nat} {E : Nat → Ev} {B : Option Addr} {cb : Nat}
set_option maxRecDepth 100000 in
theorem copied_rm (hE : EvsAt w B n E) (hB : B = none → n = 0 ∧ cb = 0) (hn : n * 40 ≤ 140737488351232) : Calls Try.prog 27 #[.slice B n cb] w fun e w' => (∃ B' c', e = .returned (.slice B' n c') ∧ EvsAt w' B' n E ∧ n ≤ c' ∧ c' ≤ maxLen) ∧ Keeps w w' [] := by
  obtain ⟨i, hi, hz, hsz, hby⟩ := info37
  rcases B with _ | ad
  · obtain ⟨rfl, rfl⟩ := hB rfl
    go_enter Try.func27, Try.ntmps27
    go_wp2_with (at_builtin; refine wpList_append_own_none rfl (.tmp 4) (.tmp 5) 31 rfl w.heap.size 37 i 5 Try.underlying31 hi (.slice none 0 0) 0 [] rfl (World.ownsRow_nil _ _ _ _) rfl ?_; simp only [Act.put, List.setIfInBounds_toArray, List.set_cons_zero, List.set_cons_succ])
    go_ret
    exact ⟨⟨none, 0, rfl, fun h => by omega, by simp [maxLen]⟩, Keeps.refl _ _⟩
  · have HC := Lib.hid (show ∀ j u, (evL E n)[j]? = some u → w.cell? (ad.add j) = some u from fun j u hu => by
      have hj : j < n * 5 := by
        rcases Nat.lt_or_ge j (n * 5) with h | h
        · exact h
        · rw [List.getElem?_eq_none (by rw [evL_length]; exact h)] at hu; cases hu
      obtain ⟨ad', e, _, hc⟩ := hE (by omega)
      cases e
      have h1 := hc (j / 5) (j % 5) (by omega) (by omega)
      rw [show j / 5 * 5 + j % 5 = j by omega] at h1
      have h2 := evL_get E n (j / 5) (j % 5) (by omega) (by omega)
      rw [show j / 5 * 5 + j % 5 = j by omega] at h2
      rw [h1, ← h2, hu])
    clear hE hB
    go_enter Try.func27, Try.ntmps27
    go_wp2_with (at_builtin; refine wpList_append_own _ rfl (.tmp 4) (.tmp 5) 31 rfl w.heap.size 37 i (.agg (evC ⟨0, 0, 0, 0, false⟩)) 5 40 Try.underlying31 hi hz hsz hby rfl (by decide) (.slice none 0 0) 0 [] rfl (World.ownsRow_nil _ _ _ _) ad n cb (evL E n) rfl (evL_length E n) HC.out (evL_cell E n) (by simp only [maxLen]; omega) (by omega) (Nat.le_refl _) ?_; intro v' u h1 h2 _; simp only [Act.put, List.setIfInBounds_toArray, List.set_cons_zero, List.set_cons_succ])
    simp only [Nat.zero_add, List.nil_append] at h1
    obtain ⟨B', c', rfl, hE', hr, hr'⟩ := evs_of_row3 h1
    go_ret
    exact ⟨⟨B', c', rfl, hE', hr, hr'⟩, ⟨h2.os, h2.tape, h2.output, h2.size, fun b hb _ => h2.block b hb (by simp [Value.ownBlock])⟩⟩

end
end Go.Proofs.Ytakmcpadkanggaa
