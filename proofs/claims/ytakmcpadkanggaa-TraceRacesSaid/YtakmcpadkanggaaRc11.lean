/-
  Part 11 of what this claim rests on.
-/
import Derived.Test.YtakmcpadkanggaaRc10
namespace Go.Proofs.Ytakmcpadkanggaa
open Go.ChangeShapes Go.WideShapes Go.RowKit Go.Maps Go.Deep
theorem prC_self79 (x : Int × Int) (w : World) : (Op.equalIn 10000 79 (.agg (prC x)) (.agg (prC x))).run Try.prog w = .ok true w := by
  have h := run_equalIn_struct (P := Try.prog) w 9999 79 (prC x) (prC x) (by kernel_rfl) (by kernel_rfl)
  show (Op.equalIn (9999 + 1) 79 _ _).run Try.prog w = _
  rw [h]
  simp [Program.fieldsOf, Try.underlying79, Op.eqFields, part, isAgg, run_underlying Try.underlying3, prC, run_equalIn_int _ _ _ _ _ _ _ Try.underlying3]
theorem prow79 {W : World} {base n q m c : Nat} {v : Value} {ps : List (Int × Int)} {ad : Addr} (M : W.ownsRow base 79 2 v n (prL ps)) (hv : v = .slice (some ad) m c) (hq : q < ps.length) : ∀ j, j < (prC (ps.getD q (0, 0))).size → W.cell? ((ad.add (q * 2)).add j) = (prC (ps.getD q (0, 0)))[j]? := fun j hj => by
  have hj' : j < 2 := hj
  have h1 := prL_get ps q j hq hj'
  rw [Addr.add_add, ← h1]
  obtain ⟨x, hx⟩ : ∃ x, (prL ps)[q * 2 + j]? = some x := ⟨_, List.getElem?_eq_getElem (by rw [prL_length]; omega)⟩
  rw [hx]
  exact (gr_cell M hv hx).2
section
variable {w : World} {S : Sys} {A : Option Addr} {c : Nat} {R : Option Addr} {d n : Nat} {E : Nat → Ev} {B : Option Addr} {cb : Nat}
theorem races_len (S : Sys) (E : Nat → Ev) (rm : Int → Int) (n : Nat) (most : Int) : (racesR S E rm n most).1.length ≤ 4096 := by
  unfold racesR
  split
  · split
    · simp
    · rw [List.length_take]; omega
  · simp
set_option maxRecDepth 100000 in
set_option maxHeartbeats 4000000 in
theorem races_walk (hS : SysIn w S A c R d) (hE : EvsAt w B n E) (hwf : ∀ i, i < n → (Lit.int .i64 (E i).a).wf = true) (hB : B = none → n = 0 ∧ cb = 0) (hn : n * 40 ≤ 140737488351232) (most : Int) :
    Calls Try.prog 13 #[.agg (sysV S A c R d), .slice B n cb, .int .i64 most] w fun e w' => e = .returned (.bool true) ∧ Keeps w w' [] := by
  have O := Own.start w []
  have HC := Lib.hid (fun u (k : Keeps w u []) => copied_rm (cb := cb) (hE.kept k) hB hn)
  have HA := Lib.hid (fun u (k : Keeps w u []) B' c' (h : EvsAt u B' n E) => traces_any (cb := c') (hS.kept k) h hwf most)
  have HR := Lib.hid (fun u (k : Keeps w u []) => rraces_any (cb := cb) (hS.kept k) (hE.kept k) most)
  have HL := Lib.hid (races_len S E (rmS S) n most)
  clear hS hE hwf hB hn
  generalize racesR S E (rmS S) n most = x at *
  obtain ⟨xs, er⟩ := x
  unfold RacPost at HA HR
  simp only at HA HR HL
  go_enter Try.func13, Try.ntmps13
  go_wp2_with (first
    | go_big_skip
    | (refine own_box 3 (sysV S A c R d) O rfl rfl rfl rfl ?_; clear O; intro W a3 O; simp only [Act.put, List.setIfInBounds_toArray, List.set_cons_zero, List.set_cons_succ]))
  refine wp_held (S := fun u => Own w u [] [(a3, 27, sysV S A c R d)]) 10 #[false, false, false, false, false, false, false, false, false, false] (by kernel_rfl) rfl rfl ?_
  replace O := O.drew
  refine seg_take (fuel := 7) (L' := #[true, true, false, true, false, false, false, false, false, false]) (by kernel_rfl) (fun _ _ _ _ _ _ h => h) (by exact O) [0, 1, 3] [_, _, _] _ _ rfl (by kernel_rfl) ?_
  simp only [List.getElem_toArray, List.getElem_cons_zero, List.getElem_cons_succ]
  repeat (first
    | (refine take_load 13 rfl (by rfl) rfl rfl (fun _ h => Own.get h 0 rfl) Try.underlying27 rfl (by kernel_rfl) ?_; simp only [Act.put, List.setIfInBounds_toArray, List.set_cons_zero, List.set_cons_succ])
    | (refine take_pure (v := ?_) (by rfl) ?_ ?_; rotate_left; (· (intro w hSw; clear hSw; go_simp; try with_reducible rfl)); simp only [Act.put, List.setIfInBounds_toArray, List.set_cons_zero, List.set_cons_succ]))
  refine take_done ?_
  refine seg_sole 2 #[true, true, true, true, false, false, false, false, false, false] rfl (by kernel_rfl) ?_
  try simp only [List.getElem_toArray, List.getElem_cons_zero, List.getElem_cons_succ]
  go_wp2_with (go_at_call 27; refine (HC.out _ O.keep).mono ?_; rintro e W ⟨⟨B1, c1, rfl, q1, q2, q3⟩, K⟩; replace O := O.keeps K; clear K; have HM := Lib.hid q1; clear q1 q2 q3)
  (first | refine back_intro2 (by exact O) ?_ | refine back_intro (by exact O) ?_)
  refine seg_sole 4 #[true, true, true, true, true, false, false, false, false, false] rfl (by kernel_rfl) ?_
  try simp only [List.getElem_toArray, List.getElem_cons_zero, List.getElem_cons_succ]
  go_wp2_with (go_at_call 41; refine (HA.out _ O.keep _ _ HM.out).mono ?_; rintro e W ⟨⟨v1, rfl, q1⟩, K⟩; replace O := O.keeps K; clear K; have Hv1 := Lib.hid q1; clear q1)
  (first | refine back_intro2 (by exact O) ?_ | refine back_intro (by exact O) ?_)
  refine seg_take (fuel := 0) (L' := #[true, true, true, true, true, true, true, true, true, true]) (by kernel_rfl) (fun _ _ _ _ _ _ h => h) (by exact O) [5, 6, 7, 8, 9] [_, _, _, _, _] _ _ rfl (by kernel_rfl) ?_
  simp only [List.getElem_toArray, List.getElem_cons_zero, List.getElem_cons_succ]
  repeat (first
    | (refine take_pure (v := ?_) (by rfl) ?_ ?_; rotate_left; (· (intro w hSw; clear hSw; go_simp; try with_reducible rfl)); simp only [Act.put, List.setIfInBounds_toArray, List.set_cons_zero, List.set_cons_succ]))
  refine take_done ?_
  refine seg_done (by kernel_rfl) ?_
  obtain ⟨A1, p1, hv1, _⟩ := gr_shape Hv1.out
  obtain ⟨m, hm⟩ : ∃ m, m = xs.length := ⟨_, rfl⟩
  rw [← hm] at hv1
  subst hv1
  have HMX := Lib.hid hm
  have hm4 : m ≤ 4096 := by have := HL.out; omega
  clear hm
  have e1 : (er != er) = false := by simp
  have e2 : ((m : Int) != (m : Int)) = false := by simp
  go_wp2_with (first
    | go_big_skip
    | (refine own_load 21 0 O rfl rfl rfl rfl rfl Try.underlying27 rfl (by kernel_rfl) ?_; simp only [Act.put, List.setIfInBounds_toArray, List.set_cons_zero, List.set_cons_succ])
    | (go_at_call 42; refine (HR.out _ O.keep).mono ?_; rintro e W ⟨⟨v2, rfl, q2⟩, K⟩; replace O := O.keeps K; replace Hv1 := Lib.hid (gr_keeps Hv1.out K (by simp)); clear K; obtain ⟨A2, p2, hv2, _⟩ := gr_shape q2; rw [← HMX.out] at hv2; subst hv2; have Hv2 := Lib.hid q2; clear q2))
  have HLEN := Lib.hid O.keep
  clear HC HA HR HL
  go_loopg [11] m (fun gg s11 wr => ∃ q : Nat, q ≤ m ∧ gg = m - q ∧ s11 = .int .i64 (q : Int) ∧ Keeps W wr [])
  case atStart => exact ⟨0, by omega, by omega, rfl, Keeps.refl _ _⟩
  case round =>
    rename World => wt
    obtain ⟨q, hq, hgq, rfl, K0⟩ := hrel
    have HG := Lib.hid hgq
    have HK := Lib.hid K0
    clear hgq K0 O
    by_cases hqm : q < m
    · have g1 : (q : Int) < m := by omega
      have g2 : (0 : Int) ≤ q := by omega
      have HQ := Lib.hid (show q < xs.length by rw [← HMX.out]; exact hqm)
      obtain ⟨ad, c1', e2⟩ : ∃ ad c1, Value.slice A1 m p1 = .slice (some ad) m c1 := by
        obtain ⟨A', c', e', hA, _⟩ := gr_shape Hv1.out
        cases A' with
        | none => have := (hA rfl).1; have := HQ.out; omega
        | some ad => exact ⟨ad, c', by rw [e', ← HMX.out]⟩
      obtain ⟨ad', c2', e3⟩ : ∃ ad c1, Value.slice A2 m p2 = .slice (some ad) m c1 := by
        obtain ⟨A', c', e', hA, _⟩ := gr_shape Hv2.out
        cases A' with
        | none => have := (hA rfl).1; have := HQ.out; omega
        | some ad => exact ⟨ad, c', by rw [e', ← HMX.out]⟩
      cases e2
      cases e3
      obtain ⟨x, hx⟩ : ∃ x, x = xs.getD q (0, 0) := ⟨_, rfl⟩
      have HRA := Lib.hid (fun u (K : Keeps wt u []) => (by have := prow79 (q := q) (gr_keeps Hv1.out (HK.out.trans K (by simp)) (by simp)) rfl HQ.out; rw [← hx] at this; exact this : ∀ j, j < (prC x).size → u.cell? ((ad.add (q * 2)).add j) = (prC x)[j]?))
      have HRB := Lib.hid (fun u (K : Keeps wt u []) => (by have := prow79 (q := q) (gr_keeps Hv2.out (HK.out.trans K (by simp)) (by simp)) rfl HQ.out; rw [← hx] at this; exact this : ∀ j, j < (prC x).size → u.cell? ((ad'.add (q * 2)).add j) = (prC x)[j]?))
      have hs := prC_self79 x
      clear hx
      go_wp2
      refine wp_quiet_later (by kernel_rfl) (by kernel_rfl) ?_
      repeat (first
        | go_big_quiet_skip
        | (refine wpQuiet_load_at (cs := prC x) 46 rfl rfl rfl rfl (fun u hu => HRA.out u (by obtain ⟨p', rfl⟩ := hu; exact p'.2)) Try.underlying79 rfl (by kernel_rfl) ?_; simp only [Act.put, List.setIfInBounds_toArray, List.set_cons_zero, List.set_cons_succ])
        | (refine wpQuiet_load_at (cs := prC x) 50 rfl rfl rfl rfl (fun u hu => HRB.out u (by obtain ⟨p', rfl⟩ := hu; exact p'.2)) Try.underlying79 rfl (by kernel_rfl) ?_; simp only [Act.put, List.setIfInBounds_toArray, List.set_cons_zero, List.set_cons_succ])
        | go_big_quiet_step (fail))
      refine wpQuiet_nil ?_
      intro _ hw
      obtain ⟨p', rfl⟩ := hw
      have HK2 := Lib.hid (HK.out.trans p'.2 (by simp))
      clear hs HRA HRB
      generalize p'.1 = W9 at HK2 ⊢
      go_wp2
      go_roundg (m - (q + 1))
      case measure => (have := HG.out; omega)
      case rel => exact ⟨q + 1, by omega, rfl, by go_num, HK2.out⟩
    · obtain rfl : m = q := by omega
      go_wp2
      go_returns
      exact ⟨rfl, HLEN.out.trans HK.out (by simp)⟩
end
end Go.Proofs.Ytakmcpadkanggaa
