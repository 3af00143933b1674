/-
  trace.Held whole; copies of events with their room.
-/
import Derived.Test.YtakmcpadkanggaaT17
namespace Go.Proofs.Ytakmcpadkanggaa
open Go.RowKit Go.Maps Go.Deep

theorem EvsAt.le {W : World} {A : Option Addr} {n m : Nat} {E : Nat → Ev} (h : EvsAt W A n E) (hm : m ≤ n) : EvsAt W A m E := fun h0 => by
  obtain ⟨ad, e, hb, hc⟩ := h (by omega)
  exact ⟨ad, e, hb, fun i j hi hj => hc i j (by omega) hj⟩
theorem EvsAt.keptOff {W u : World} {A : Option Addr} {n po : Nat} {E : Nat → Ev} (h : EvsAt W A n E) (k : Keeps W u [po]) (off : ∀ ad, A = some ad → ad.block ≠ po) : EvsAt u A n E := fun hn => by
  obtain ⟨ad, e, hb, hc⟩ := h hn
  exact ⟨ad, e, by have := k.size; omega, fun i j hi hj => by rw [k.cellAt (by rw [add_block]; exact hb) (by rw [add_block]; simpa using off ad e)]; exact hc i j hi hj⟩
theorem thr_who {S : Sys} {E : Nat → Ev} {n : Nat} (h : ∀ j, j < n → okE S (stN E j) (E j) = true) (hn : n ≤ 40000) : ∀ j, j < n → 0 ≤ (E j).who ∧ (E j).who ≤ 100000 := fun j hj => by
  have h1 := h j hj
  have h2 := (stN_le E j).2.1
  simp [okE, headE] at h1
  omega
section
variable {w : World} {S : Sys} {A : Option Addr} {c : Nat} {R : Option Addr} {d n : Nat} {E : Nat → Ev} {B : Option Addr} {cb : Nat}
def heldAns (S : Sys) (E : Nat → Ev) (n : Nat) (i : Int) : List Int × Int := heldR S E n i
theorem asked_bad (i : Int) (h : ¬ (askedR S E n [i]).2 = 0) : heldR S E n i = ([], (askedR S E n [i]).2) := by
  unfold askedR heldR at *
  by_cases h0 : (thr S E n).2.2 = 0
  · rw [if_pos h0] at h ⊢
    rw [if_pos h0]
    by_cases hi : 0 ≤ i ∧ i < n
    · rw [if_pos (by simp [insB, hi])] at h; exact absurd rfl h
    · rw [if_neg hi, if_neg (by simp [insB]; omega)]
  · rw [if_neg h0, if_neg h0]
theorem asked_good (i : Int) (h : (askedR S E n [i]).2 = 0) : (thr S E n).2.2 = 0 ∧ 0 ≤ i ∧ i < n := by
  unfold askedR at h
  by_cases h0 : (thr S E n).2.2 = 0
  · rw [if_pos h0] at h
    refine ⟨h0, ?_⟩
    by_cases hi : [i].all (insB n) = true
    · simpa [insB] using hi
    · rw [if_neg hi] at h; simp at h
  · rw [if_neg h0] at h; exact absurd h h0
set_option maxRecDepth 100000 in
set_option maxHeartbeats 1000000 in
theorem held_any (hS : SysIn w S A c R d) (hE : EvsAt w B n E) (hcb : n ≤ cb) (hmx : cb ≤ maxLen) (hwf : ∀ i, i < n → (Lit.int .i64 (E i).a).wf = true) (i : Int) : Calls Try.prog 32 #[.agg (sysV S A c R d), .slice B n cb, .int .i64 i] w (HeldPost (heldR S E n i) w) := by
  have O := Own.start w []
  have HA := Lib.hid (show ∀ u, Keeps w u [] → ∀ v, IntL u v [i] → Calls Try.prog 62 #[.agg (sysV S A c R d), .slice B n cb, v] u fun e w' => e = .returned (.tuple #[.int .i64 (askedR S E n [i]).1, .int .i64 (askedR S E n [i]).2]) ∧ Keeps u w' [] from fun u k v hv => asked_any (cb := cb) (hS.kept k) (hE.kept k) hwf v [i] hv (by simp))
  by_cases h : (askedR S E n [i]).2 = 0
  · obtain ⟨ht, hi0, hi1⟩ := asked_good i h
    obtain ⟨hv, hn, hok⟩ := thr_zero ht
    have hh := ((validB_iff S).1 hv).1
    have h4 := ((headB_iff S).1 hh).2.2.2.2.1
    rw [shB_iff] at h4
    obtain ⟨m, hm⟩ : ∃ m : Nat, S.lk = (m : Int) := ⟨S.lk.toNat, by omega⟩
    obtain ⟨k, rfl⟩ : ∃ k : Nat, i = (k : Int) := ⟨i.toNat, by omega⟩
    have HR := Lib.hid (show heldR S E n (k : Int) = (heldN E k m, 0) by simp [heldR, ht, hi1, hm])
    have HW := Lib.hid (thr_who hok hn)
    have HE := Lib.hid hE
    have HWF := Lib.hid hwf
    have HM := Lib.hid hm
    have g1 : ((k : Nat) : Int) < n := hi1
    have g0 : (0 : Int) ≤ k := by omega
    have g2 : (n : Int) ≤ cb := by omega
    have g3 : ((k : Nat) : Int) + 1 ≤ cb := by omega
    have b1 : m ≤ 64 := by omega
    have HB := Lib.hid (show n ≤ 40000 ∧ n ≤ cb ∧ cb ≤ maxLen from ⟨hn, hcb, hmx⟩)
    generalize hr : heldR S E n (k : Int) = r at HR ⊢
    clear hr ht hv hh h4 hm hok hE hwf hi0 hi1 hcb hS
    generalize askedR S E n [(k : Int)] = x at HA h
    obtain ⟨x0, x1⟩ := x
    simp only at h HA
    subst h
    go_enter Try.func32, Try.ntmps32
    go_wp2_with (first
      | go_big_skip
      | (refine own_box 3 (sysV S A c R d) O rfl rfl rfl rfl ?_; clear O; intro W ps O; simp only [Act.put, List.setIfInBounds_toArray, List.set_cons_zero, List.set_cons_succ])
      | (refine own_box1 4 (.slice B n cb) O rfl rfl rfl rfl rfl ?_; clear O; intro W pl O; simp only [Act.put, List.setIfInBounds_toArray, List.set_cons_zero, List.set_cons_succ])
      | (refine own_box1 5 (.int .i64 (k : Int)) O rfl rfl rfl rfl rfl ?_; clear O; intro W pi O; simp only [Act.put, List.setIfInBounds_toArray, List.set_cons_zero, List.set_cons_succ]; have cl := (O.get 1 rfl).cell 0; have ci := (O.get 0 rfl).cell 0)
      | (refine own_load 12 2 O rfl rfl rfl rfl rfl Try.underlying27 rfl (by kernel_rfl) ?_; simp only [Act.put, List.setIfInBounds_toArray, List.set_cons_zero, List.set_cons_succ])
      | (refine own_lit1 15 (k : Int) O rfl rfl rfl rfl ?_; clear O; intro W gl O K1 hg; clear K1 hg cl ci; have cl := (O.get 2 rfl).cell 0; have ci := (O.get 1 rfl).cell 0; simp only [Act.put, List.setIfInBounds_toArray, List.set_cons_zero, List.set_cons_succ])
      | (go_at_call 62; refine (HA.out _ O.keep _ ⟨_, 1, rfl, fun _ => ⟨⟨gl, 0, none⟩, rfl, O.lt 0 rfl, fun j hj => by obtain rfl : j = 0 := (by simpa using hj); exact (O.get 0 rfl).cell 0⟩⟩).mono ?_; rintro e W ⟨rfl, K⟩; replace O := (O.keeps K).drop_ 1; clear K cl ci; have cl := (O.get 1 rfl).cell 0; have ci := (O.get 0 rfl).cell 0)
      | (refine own_alloc1 10 (.slice none 0 0) O rfl rfl rfl (fun _ => by kernel_rfl) rfl ?_; clear O; intro W po O; simp only [Act.put, List.setIfInBounds_toArray, List.set_cons_zero, List.set_cons_succ]; clear cl ci; have cl := (O.get 2 rfl).cell 0; have ci := (O.get 1 rfl).cell 0))
    have H : HeldAt W S A c R d E B n cb k m ps pi pl po := ⟨O.get 3 rfl, O.get 1 rfl, O.get 2 rfl, O.get 0 rfl, HE.out.kept O.keep, fun ad hB he => by
      obtain ⟨ad', e, hb, _⟩ := HE.out (by omega)
      rw [hB] at e
      cases e
      have := O.new _ (List.mem_of_getElem? (show _[0]? = some (po, 25, #[Value.slice none 0 0]) from rfl)) (by rw [← he]; exact hb)
      simp at this, HM.out, b1, by omega, HB.out.1, HW.out⟩
    have HH := Lib.hid H
    have HO := Lib.hid O.keep
    clear H cl ci
    refine (holder_64 (w := W) (B := B) (cb := cb) (E := E) (fun j u => Keeps W u [po] ∧ ∃ v, Blk u po 25 #[v] ∧ Mint W.heap.size u v (heldAtN E k m j)) (k + 1) _ _ _ _ ?_ (by have := HB.out.1; omega) (fun j hj => HWF.out j (by omega)) (fun j hj => HW.out j (by omega)) ?_ ?_ ?_ ?_).mono ?_
    · rintro j u ⟨K, _⟩
      refine (EvsAt.le (n := n) ?_ (by omega))
      exact HH.out.fe.keptOff K HH.out.off
    · exact ⟨Keeps.refl _ _, _, O.get 0 rfl, by simpa [heldAtN] using Mint.nil _ _⟩
    · rintro j u u' ⟨K, v, h1, h2⟩ k1
      exact ⟨K.trans k1 (by simp), v, h1.keeps k1 (by simp), h2.keeps k1 (by simp)⟩
    · rintro j u u' b mm f hz ⟨K, v, h1, h2⟩ hm k1
      refine ⟨K.trans k1 (fun x hx hlt => ?_), v, h1.keeps k1 (by simpa using hm.not_blk h1), h2.keeps k1 (fun g hg hm' => ?_)⟩
      · obtain rfl : x = b := by simpa using hx
        omega
      · obtain rfl : g = b := by simpa using hm'
        exact h2.offMap hm (by rw [hg]; simp)
    · rintro j u b hj ⟨K, v, h1, h2⟩ hm
      have r : Rel W u u po b j (whoF E j) (heldAtN E k m j) := ⟨K, ⟨v, h1, h2⟩, hm, fun _ _ h => h⟩
      rcases Nat.lt_or_ge j k with hjk | hjk
      · exact (held1_before HH.out j hjk r).mono fun e u' ⟨he, r'⟩ => ⟨he, ⟨r'.keep, r'.out⟩, r'.map, r'.ev⟩
      · obtain rfl : j = k := by omega
        exact (held1_at HH.out r).mono fun e u' ⟨he, r'⟩ => ⟨he, ⟨r'.keep, r'.out⟩, r'.map, r'.ev⟩
    · rintro e u ⟨rfl, K, v, h1, h2⟩
      have cv : u.cell? ⟨po, 0, none⟩ = some v := h1.cell 0
      have HV := Lib.hid (show Mint W.heap.size u v (heldN E k m) by simpa [heldAtN, show ¬ k + 1 ≤ k by omega] using h2)
      have HKu := Lib.hid (show Keeps w u [] from HO.out.trans K (fun x hx hlt => by
        obtain rfl : x = po := by simpa using hx
        exact absurd hlt (by have := O.new _ (List.mem_of_getElem? (show _[0]? = some (x, 25, #[Value.slice none 0 0]) from rfl)); simp at this; omega)))
      clear h1 h2 K O
      go_wp2
      go_returns
      exact ⟨⟨_, by rw [HR.out]; rfl, by rw [HR.out]; exact HV.out.list⟩, HKu.out⟩
  · have HF := Lib.hid (asked_bad i h)
    generalize heldR S E n i = r at HF ⊢
    generalize askedR S E n [i] = x at HA HF h
    obtain ⟨x0, x1⟩ := x
    simp only at h HF HA
    clear hS hE hwf hcb hmx
    go_enter Try.func32, Try.ntmps32
    go_wp2_with (first
      | go_big_skip
      | (refine own_box 3 (sysV S A c R d) O rfl rfl rfl rfl ?_; clear O; intro W ps O; simp only [Act.put, List.setIfInBounds_toArray, List.set_cons_zero, List.set_cons_succ])
      | (refine own_box1 4 (.slice B n cb) O rfl rfl rfl rfl rfl ?_; clear O; intro W pl O; simp only [Act.put, List.setIfInBounds_toArray, List.set_cons_zero, List.set_cons_succ])
      | (refine own_box1 5 (.int .i64 i) O rfl rfl rfl rfl rfl ?_; clear O; intro W pi O; simp only [Act.put, List.setIfInBounds_toArray, List.set_cons_zero, List.set_cons_succ]; have cl := (O.get 1 rfl).cell 0; have ci := (O.get 0 rfl).cell 0)
      | (refine own_load 12 2 O rfl rfl rfl rfl rfl Try.underlying27 rfl (by kernel_rfl) ?_; simp only [Act.put, List.setIfInBounds_toArray, List.set_cons_zero, List.set_cons_succ])
      | (refine own_lit1 15 i O rfl rfl rfl rfl ?_; clear O; intro W gl O K1 hg; clear K1 hg cl ci; have cl := (O.get 2 rfl).cell 0; have ci := (O.get 1 rfl).cell 0; simp only [Act.put, List.setIfInBounds_toArray, List.set_cons_zero, List.set_cons_succ])
      | (go_at_call 62; refine (HA.out _ O.keep _ ⟨_, 1, rfl, fun _ => ⟨⟨gl, 0, none⟩, rfl, O.lt 0 rfl, fun j hj => by obtain rfl : j = 0 := (by simpa using hj); exact (O.get 0 rfl).cell 0⟩⟩).mono ?_; rintro e W ⟨rfl, K⟩; replace O := (O.keeps K).drop_ 1; clear K cl ci; have cl := (O.get 1 rfl).cell 0; have ci := (O.get 0 rfl).cell 0))
    go_returns
    exact ⟨⟨_, by rw [HF.out]; rfl, by rw [HF.out]; exact IntL.nil _⟩, O.keep⟩
end
end Go.Proofs.Ytakmcpadkanggaa
