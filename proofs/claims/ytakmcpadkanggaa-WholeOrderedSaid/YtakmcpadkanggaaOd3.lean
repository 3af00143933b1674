/-
 Part 3 of what this claim rests on.
-/
import Derived.Test.YtakmcpadkanggaaOd2
namespace Go.Proofs.Ytakmcpadkanggaa
open Go.RowKit
theorem updN_eq {α : Type} {f : Nat → α} {i : Nat} {x : α} (h : f i = x) : updN f i x = f := by
 funext j
 unfold updN
 split
 · rename_i e; rw [e, h]
 · rfl
section
variable {W Q b J B q : Nat} {γ : Gh} {P P' : PW} {f : Nat → Int} {nW p : Nat}
theorem Vw.work (h : Vw W P nW) (hq : q < nW) (hle : nW ≤ W) (h0 : (P'.rs (q + 1)).prog = 1) (h8 : (P'.rs (q + 1)).pos ≤ 8) (hr : ∀ j, j ≠ q + 1 → P'.rs j = P.rs j) (hn : P'.n = P.n) : Vw W P' nW := by
 have e0 := hr 0 (by omega)
 have e1 := hr (W + 1) (by omega)
 have e2 := hr (W + 2) (by omega)
 refine ⟨by rw [e0]; exact h.c, fun r hr' => ?_, fun hp => by rw [e1]; rw [e0] at hp; exact h.f hp, fun hp => by rw [e2]; rw [e0] at hp; exact h.k hp, fun hp => by rw [e0] at hp; rw [hn]; exact h.n9 hp, fun hp => by rw [e0] at hp; rw [hn]; exact h.n10 hp, fun hp => by rw [e0] at hp; rw [hn]; exact h.n11 hp, fun hp => by rw [e0] at hp; rw [e1]; exact h.f0 hp, fun hp => by rw [e0] at hp; rw [e2]; exact h.k0 hp, fun r h1 h2 => by rw [hr _ (by omega)]; exact h.u r h1 h2⟩
 by_cases e : r = q
 · subst e; exact ⟨h0, h8⟩
 · rw [hr _ (by omega)]; exact h.w r hr'
theorem hd_work (hq : q < W) (hr : ∀ j, j ≠ q + 1 → P'.rs j = P.rs j) : hdP W P' = { hdP W P with tw := updN (hdP W P).tw q ((hdP W P').tw q), jw := updN (hdP W P).jw q ((hdP W P').jw q), ww := updN (hdP W P).ww q ((hdP W P').ww q) } := by
 have e0 := hr 0 (by omega)
 have e1 := hr (W + 1) (by omega)
 refine Hd.ext ?_ ?_ (funext fun r => ?_) (funext fun r => ?_) (funext fun r => ?_) ?_
 · simp only [hdP, e1]
 · simp only [hdP, e1]
 · by_cases e : r = q
   · subst e; simp [updN]
   · simp only [updN, if_neg e]; simp only [hdP]; rw [hr _ (by omega)]
 · by_cases e : r = q
   · subst e; simp [updN]
   · simp only [updN, if_neg e]; simp only [hdP]; rw [hr _ (by omega)]
 · by_cases e : r = q
   · subst e; simp [updN]
   · simp only [updN, if_neg e]; simp only [hdP]; rw [hr _ (by omega)]
 · simp only [hdP, e0]
theorem hd_of (hq : q < W) (hr : ∀ j, j ≠ q + 1 → P'.rs j = P.rs j) {tw jw : Option Int} {ww : Bool} (h1 : (hdP W P').tw q = tw) (h2 : (hdP W P').jw q = jw) (h3 : (hdP W P').ww q = ww) : hdP W P' = { hdP W P with tw := updN (hdP W P).tw q tw, jw := updN (hdP W P).jw q jw, ww := updN (hdP W P).ww q ww } := by
 have h := hd_work (P := P) (P' := P') hq hr
 rw [h1, h2, h3] at h
 exact h
set_option maxHeartbeats 1000000 in
theorem work_0 (pk : PoolOk W Q b J) (h : I1 W b J B γ P) (hq : q < γ.nW) (e : (P.rs (q + 1)).pos = 0) (hc : canP (poolS W Q b J) P (fun j => (pqW 0).getD j 0) = true) : StepOk W b J B γ P (stepP (poolS W Q b J) P (q + 1) (fun j => (pqW 0).getD j 0)) := by
 have hle := h.cb.nle
 have hqW : q < W := by omega
 have hprog := (h.vw.w q hq).1
 have hpos := cw_pos hq e
 have hw2 := pk.w2
 obtain ⟨q1, q2, q3, q4, q5, q6, q7, q8, q9, q10, q11, q12, q13, q14, q15, q16⟩ := h.gn
 cases hh : P.held 0 with
 | nil =>
   have hcl : P.cl 0 = true := by
     have : (P.cl 0 || decide (0 < ((P.held 0).length : Int))) = true := hc
     simpa [hh] using this
   have h18 := q6.1 hcl
   rw [hh, List.length_nil] at q2 q3 q4 q9
   have e1 : stepP (poolS W Q b J) P (q + 1) (fun j => (pqW 0).getD j 0) = finP P (q + 1) (P.rs (q + 1)) 6 ⟨(q + 1 : Nat), 6, 0, 0, true⟩ := by rw [st_shut rfl hh]; rfl
   rw [e1]
   have hr : ∀ j, j ≠ q + 1 → (finP P (q + 1) (P.rs (q + 1)) 6 ⟨(q + 1 : Nat), 6, 0, 0, true⟩).1.rs j = P.rs j := fun j hj => by simp [finP, tellP, setR, hj]
   have hkp : ((finP P (q + 1) (P.rs (q + 1)) 6 ⟨(q + 1 : Nat), 6, 0, 0, true⟩).1.rs (q + 1)).pos = 6 := by simp [finP, tellP, setR]
   have hkg : ((finP P (q + 1) (P.rs (q + 1)) 6 ⟨(q + 1 : Nat), 6, 0, 0, true⟩).1.rs (q + 1)).prog = 1 := by simp [finP, tellP, setR, setReg, hprog]
   have m0 := cw_move (P := P) (P' := (finP P (q + 1) (P.rs (q + 1)) 6 ⟨(q + 1 : Nat), 6, 0, 0, true⟩).1) 0 (q0 := q) (fun q' hq' => by rw [hr _ (by omega)]) γ.nW hq
   have m1 := cw_move (P := P) (P' := (finP P (q + 1) (P.rs (q + 1)) 6 ⟨(q + 1 : Nat), 6, 0, 0, true⟩).1) 1 (q0 := q) (fun q' hq' => by rw [hr _ (by omega)]) γ.nW hq
   have m2 := cw_move (P := P) (P' := (finP P (q + 1) (P.rs (q + 1)) 6 ⟨(q + 1 : Nat), 6, 0, 0, true⟩).1) 2 (q0 := q) (fun q' hq' => by rw [hr _ (by omega)]) γ.nW hq
   have m3 := cw_move (P := P) (P' := (finP P (q + 1) (P.rs (q + 1)) 6 ⟨(q + 1 : Nat), 6, 0, 0, true⟩).1) 3 (q0 := q) (fun q' hq' => by rw [hr _ (by omega)]) γ.nW hq
   have m4 := cw_move (P := P) (P' := (finP P (q + 1) (P.rs (q + 1)) 6 ⟨(q + 1 : Nat), 6, 0, 0, true⟩).1) 4 (q0 := q) (fun q' hq' => by rw [hr _ (by omega)]) γ.nW hq
   have m5 := cw_move (P := P) (P' := (finP P (q + 1) (P.rs (q + 1)) 6 ⟨(q + 1 : Nat), 6, 0, 0, true⟩).1) 5 (q0 := q) (fun q' hq' => by rw [hr _ (by omega)]) γ.nW hq
   have m6 := cw_move (P := P) (P' := (finP P (q + 1) (P.rs (q + 1)) 6 ⟨(q + 1 : Nat), 6, 0, 0, true⟩).1) 6 (q0 := q) (fun q' hq' => by rw [hr _ (by omega)]) γ.nW hq
   have m7 := cw_move (P := P) (P' := (finP P (q + 1) (P.rs (q + 1)) 6 ⟨(q + 1 : Nat), 6, 0, 0, true⟩).1) 7 (q0 := q) (fun q' hq' => by rw [hr _ (by omega)]) γ.nW hq
   have m8 := cw_move (P := P) (P' := (finP P (q + 1) (P.rs (q + 1)) 6 ⟨(q + 1 : Nat), 6, 0, 0, true⟩).1) 8 (q0 := q) (fun q' hq' => by rw [hr _ (by omega)]) γ.nW hq
   rw [e, hkp] at m0 m1 m2 m3 m4 m5 m6 m7 m8
   rw [if_pos rfl, if_neg (show ¬ (6 = 0) by decide)] at m0
   rw [if_neg (show ¬ (0 = 1) by decide), if_neg (show ¬ (6 = 1) by decide)] at m1
   rw [if_neg (show ¬ (0 = 2) by decide), if_neg (show ¬ (6 = 2) by decide)] at m2
   rw [if_neg (show ¬ (0 = 3) by decide), if_neg (show ¬ (6 = 3) by decide)] at m3
   rw [if_neg (show ¬ (0 = 4) by decide), if_neg (show ¬ (6 = 4) by decide)] at m4
   rw [if_neg (show ¬ (0 = 5) by decide), if_neg (show ¬ (6 = 5) by decide)] at m5
   rw [if_neg (show ¬ (0 = 6) by decide), if_pos rfl] at m6
   rw [if_neg (show ¬ (0 = 7) by decide), if_neg (show ¬ (6 = 7) by decide)] at m7
   rw [if_neg (show ¬ (0 = 8) by decide), if_neg (show ¬ (6 = 8) by decide)] at m8
   refine ⟨rfl, γ, ⟨h.vw.work hq hle hkg (by rw [hkp]; decide) hr rfl, by rw [hr 0 (by omega)]; exact h.cb, by rw [hr (W + 1) (by omega)]; exact h.fd, ?_⟩, ?_⟩
   · show GN W J B _ _ _ _ (cw (finP P (q + 1) (P.rs (q + 1)) 6 ⟨(q + 1 : Nat), 6, 0, 0, true⟩).1 γ.nW) _ _ _ _ _ _ _ _
     rw [hr 0 (by omega), hr (W + 1) (by omega), hr (W + 2) (by omega)]
     generalize cw (finP P (q + 1) (P.rs (q + 1)) 6 ⟨(q + 1 : Nat), 6, 0, 0, true⟩).1 γ.nW = n' at m0 m1 m2 m3 m4 m5 m6 m7 m8 ⊢
     generalize cw P γ.nW = n at *
     simp only [hh, List.length_nil, finP, tellP, setR, setReg, updI, updN, if_true, if_false, List.length_append, List.length_singleton, show ¬ (0 = 1) by decide, show ¬ (2 = 1) by decide, show ¬ (0 = 2) by decide, show ¬ (1 = 2) by decide, show ¬ (1 = 0) by decide, show ¬ (2 = 0) by decide]
     refine ⟨?_, ?_, ?_, ?_, ?_, ?_, ?_, ?_, ?_, ?_, ?_, ?_, ?_, ?_, ?_, ?_⟩
     · clear q2 q3 q4 q5 q6 q7 q8 q9 q10 q11 q12 q13 q14 q15 q16; try dsimp only
       first | exact q1 | omega | simpa using q1 | simp
     · clear q1 q3 q4 q5 q6 q7 q8 q9 q10 q11 q12 q13 q14 q15 q16; try dsimp only
       first | exact q2 | omega | simpa using q2 | simp
     · clear q1 q2 q4 q5 q6 q7 q8 q9 q10 q11 q12 q13 q14 q15 q16; try dsimp only
       first | exact q3 | omega | simpa using q3 | simp
     · clear q1 q2 q3 q5 q6 q7 q8 q9 q10 q11 q12 q13 q14 q15 q16; try dsimp only
       first | exact q4 | omega | simpa using q4 | simp
     · clear q1 q2 q3 q4 q6 q7 q8 q9 q10 q11 q12 q13 q14 q15 q16; try dsimp only
       first | exact q5 | omega | simpa using q5 | simp
     · clear q1 q2 q3 q4 q5 q7 q8 q9 q10 q11 q12 q13 q14 q15 q16; try dsimp only
       first | exact q6 | omega | simpa using q6 | simp
     · clear q1 q2 q3 q4 q5 q6 q8 q9 q10 q11 q12 q13 q14 q15 q16; try dsimp only
       first | exact q7 | omega | simpa using q7 | simp
     · clear q1 q2 q3 q4 q5 q6 q7 q9 q10 q11 q12 q13 q14 q15 q16; try dsimp only
       first | exact q8 | omega | simpa using q8 | simp
     · clear q1 q2 q3 q4 q5 q6 q7 q8 q10 q11 q12 q13 q14 q15 q16; try dsimp only
       first | exact q9 | omega | simpa using q9 | simp
     · clear q1 q2 q3 q4 q5 q6 q7 q8 q9 q11 q12 q13 q14 q15 q16; try dsimp only
       first | exact q10 | omega | simpa using q10 | simp
     · clear q1 q2 q3 q4 q5 q6 q7 q8 q9 q10 q12 q13 q14 q15 q16; try dsimp only
       first | exact q11 | omega | simpa using q11 | simp
     · clear q2 q3 q4 q5 q6 q7 q8 q9 q10 q11 q13 q14 q15 q16; try dsimp only
       first | exact q12 | omega | simpa using q12 | simp
     · clear q1 q2 q3 q4 q5 q6 q7 q8 q9 q10 q11 q12 q14 q15 q16; try dsimp only
       first | exact q13 | omega | simpa using q13 | simp
     · clear q1 q2 q3 q4 q5 q6 q7 q8 q9 q10 q11 q12 q13 q15 q16; try dsimp only
       first | exact q14 | omega | simpa using q14 | simp
     · clear q1 q2 q3 q4 q5 q6 q7 q8 q9 q10 q11 q12 q13 q14 q16; try dsimp only
       first | exact q15 | omega | simpa using q15 | simp
     · clear q1 q2 q3 q4 q5 q6 q7 q8 q9 q10 q11 q12 q13 q14 q15; try dsimp only
       first | exact q16 | omega | simpa using q16 | simp
   · exact .silent _ rfl (by simp) (by simp) (by simp) (by simp) (fun h => by first | rfl | simp at h) rfl rfl ((hd_of hqW hr (tw := none) (jw := none) (ww := false) (by simp [hdP, finP, tellP, setR, setReg]) (by simp [hdP, finP, tellP, setR, setReg]) (by simp [hdP, finP, tellP, setR, setReg])).trans (by rw [updN_eq (f := (hdP W P).tw) (by simp [hdP, e]), updN_eq (f := (hdP W P).jw) (by simp [hdP, e]), updN_eq (f := (hdP W P).ww) (by simp [hdP, e])])) rfl rfl
 | cons x l =>
   rw [hh, List.length_cons] at q2 q3 q4 q9
   have e1 : stepP (poolS W Q b J) P (q + 1) (fun j => (pqW 0).getD j 0) = finP { P with held := updN P.held 0 l } (q + 1) (setReg (P.rs (q + 1)) 3 x) 1 ⟨(q + 1 : Nat), 6, 0, x, false⟩ := by rw [st_take rfl hh, e]; rfl
   rw [e1]
   have hr : ∀ j, j ≠ q + 1 → (finP { P with held := updN P.held 0 l } (q + 1) (setReg (P.rs (q + 1)) 3 x) 1 ⟨(q + 1 : Nat), 6, 0, x, false⟩).1.rs j = P.rs j := fun j hj => by simp [finP, tellP, setR, hj]
   have hkp : ((finP { P with held := updN P.held 0 l } (q + 1) (setReg (P.rs (q + 1)) 3 x) 1 ⟨(q + 1 : Nat), 6, 0, x, false⟩).1.rs (q + 1)).pos = 1 := by simp [finP, tellP, setR]
   have hkg : ((finP { P with held := updN P.held 0 l } (q + 1) (setReg (P.rs (q + 1)) 3 x) 1 ⟨(q + 1 : Nat), 6, 0, x, false⟩).1.rs (q + 1)).prog = 1 := by simp [finP, tellP, setR, setReg, hprog]
   have m0 := cw_move (P := P) (P' := (finP { P with held := updN P.held 0 l } (q + 1) (setReg (P.rs (q + 1)) 3 x) 1 ⟨(q + 1 : Nat), 6, 0, x, false⟩).1) 0 (q0 := q) (fun q' hq' => by rw [hr _ (by omega)]) γ.nW hq
   have m1 := cw_move (P := P) (P' := (finP { P with held := updN P.held 0 l } (q + 1) (setReg (P.rs (q + 1)) 3 x) 1 ⟨(q + 1 : Nat), 6, 0, x, false⟩).1) 1 (q0 := q) (fun q' hq' => by rw [hr _ (by omega)]) γ.nW hq
   have m2 := cw_move (P := P) (P' := (finP { P with held := updN P.held 0 l } (q + 1) (setReg (P.rs (q + 1)) 3 x) 1 ⟨(q + 1 : Nat), 6, 0, x, false⟩).1) 2 (q0 := q) (fun q' hq' => by rw [hr _ (by omega)]) γ.nW hq
   have m3 := cw_move (P := P) (P' := (finP { P with held := updN P.held 0 l } (q + 1) (setReg (P.rs (q + 1)) 3 x) 1 ⟨(q + 1 : Nat), 6, 0, x, false⟩).1) 3 (q0 := q) (fun q' hq' => by rw [hr _ (by omega)]) γ.nW hq
   have m4 := cw_move (P := P) (P' := (finP { P with held := updN P.held 0 l } (q + 1) (setReg (P.rs (q + 1)) 3 x) 1 ⟨(q + 1 : Nat), 6, 0, x, false⟩).1) 4 (q0 := q) (fun q' hq' => by rw [hr _ (by omega)]) γ.nW hq
   have m5 := cw_move (P := P) (P' := (finP { P with held := updN P.held 0 l } (q + 1) (setReg (P.rs (q + 1)) 3 x) 1 ⟨(q + 1 : Nat), 6, 0, x, false⟩).1) 5 (q0 := q) (fun q' hq' => by rw [hr _ (by omega)]) γ.nW hq
   have m6 := cw_move (P := P) (P' := (finP { P with held := updN P.held 0 l } (q + 1) (setReg (P.rs (q + 1)) 3 x) 1 ⟨(q + 1 : Nat), 6, 0, x, false⟩).1) 6 (q0 := q) (fun q' hq' => by rw [hr _ (by omega)]) γ.nW hq
   have m7 := cw_move (P := P) (P' := (finP { P with held := updN P.held 0 l } (q + 1) (setReg (P.rs (q + 1)) 3 x) 1 ⟨(q + 1 : Nat), 6, 0, x, false⟩).1) 7 (q0 := q) (fun q' hq' => by rw [hr _ (by omega)]) γ.nW hq
   have m8 := cw_move (P := P) (P' := (finP { P with held := updN P.held 0 l } (q + 1) (setReg (P.rs (q + 1)) 3 x) 1 ⟨(q + 1 : Nat), 6, 0, x, false⟩).1) 8 (q0 := q) (fun q' hq' => by rw [hr _ (by omega)]) γ.nW hq
   rw [e, hkp] at m0 m1 m2 m3 m4 m5 m6 m7 m8
   rw [if_pos rfl, if_neg (show ¬ (1 = 0) by decide)] at m0
   rw [if_neg (show ¬ (0 = 1) by decide), if_pos rfl] at m1
   rw [if_neg (show ¬ (0 = 2) by decide), if_neg (show ¬ (1 = 2) by decide)] at m2
   rw [if_neg (show ¬ (0 = 3) by decide), if_neg (show ¬ (1 = 3) by decide)] at m3
   rw [if_neg (show ¬ (0 = 4) by decide), if_neg (show ¬ (1 = 4) by decide)] at m4
   rw [if_neg (show ¬ (0 = 5) by decide), if_neg (show ¬ (1 = 5) by decide)] at m5
   rw [if_neg (show ¬ (0 = 6) by decide), if_neg (show ¬ (1 = 6) by decide)] at m6
   rw [if_neg (show ¬ (0 = 7) by decide), if_neg (show ¬ (1 = 7) by decide)] at m7
   rw [if_neg (show ¬ (0 = 8) by decide), if_neg (show ¬ (1 = 8) by decide)] at m8
   refine ⟨rfl, { γ with t0 := γ.t0 + 1 }, ⟨h.vw.work hq hle hkg (by rw [hkp]; decide) hr rfl, by rw [hr 0 (by omega)]; exact h.cb, by rw [hr (W + 1) (by omega)]; exact h.fd, ?_⟩, ?_⟩
   · show GN W J B _ _ _ _ (cw (finP { P with held := updN P.held 0 l } (q + 1) (setReg (P.rs (q + 1)) 3 x) 1 ⟨(q + 1 : Nat), 6, 0, x, false⟩).1 γ.nW) _ _ _ _ _ _ _ _
     rw [hr 0 (by omega), hr (W + 1) (by omega), hr (W + 2) (by omega)]
     generalize cw (finP { P with held := updN P.held 0 l } (q + 1) (setReg (P.rs (q + 1)) 3 x) 1 ⟨(q + 1 : Nat), 6, 0, x, false⟩).1 γ.nW = n' at m0 m1 m2 m3 m4 m5 m6 m7 m8 ⊢
     generalize cw P γ.nW = n at *
     simp only [finP, tellP, setR, setReg, updI, updN, if_true, if_false, List.length_append, List.length_singleton, show ¬ (0 = 1) by decide, show ¬ (2 = 1) by decide, show ¬ (0 = 2) by decide, show ¬ (1 = 2) by decide, show ¬ (1 = 0) by decide, show ¬ (2 = 0) by decide]
     refine ⟨?_, ?_, ?_, ?_, ?_, ?_, ?_, ?_, ?_, ?_, ?_, ?_, ?_, ?_, ?_, ?_⟩
     · clear q2 q3 q4 q5 q6 q7 q8 q9 q10 q11 q12 q13 q14 q15 q16; try dsimp only
       first | exact q1 | omega | simpa using q1 | simp
     · clear q1 q3 q4 q5 q6 q7 q8 q9 q10 q11 q12 q13 q14 q15 q16; try dsimp only
       first | exact q2 | omega | simpa using q2 | simp
     · clear q1 q2 q4 q5 q6 q7 q8 q9 q10 q11 q12 q13 q14 q15 q16; try dsimp only
       first | exact q3 | omega | simpa using q3 | simp
     · clear q1 q2 q3 q5 q6 q7 q8 q9 q10 q11 q12 q13 q14 q15 q16; try dsimp only
       first | exact q4 | omega | simpa using q4 | simp
     · clear q1 q2 q3 q4 q6 q7 q8 q9 q10 q11 q12 q13 q14 q15 q16; try dsimp only
       first | exact q5 | omega | simpa using q5 | simp
     · clear q1 q2 q3 q4 q5 q7 q8 q9 q10 q11 q12 q13 q14 q15 q16; try dsimp only
       first | exact q6 | omega | simpa using q6 | simp
     · clear q1 q2 q3 q4 q5 q6 q8 q9 q10 q11 q12 q13 q14 q15 q16; try dsimp only
       first | exact q7 | omega | simpa using q7 | simp
     · clear q1 q2 q3 q4 q5 q6 q7 q9 q10 q11 q12 q13 q14 q15 q16; try dsimp only
       first | exact q8 | omega | simpa using q8 | simp
     · clear q1 q2 q3 q4 q5 q6 q7 q8 q10 q11 q12 q13 q14 q15 q16; try dsimp only
       first | exact q9 | omega | simpa using q9 | simp
     · clear q1 q2 q3 q4 q5 q6 q7 q8 q9 q11 q12 q13 q14 q15 q16; try dsimp only
       first | exact q10 | omega | simpa using q10 | simp
     · clear q1 q2 q3 q4 q5 q6 q7 q8 q9 q10 q12 q13 q14 q15 q16; try dsimp only
       first | exact q11 | omega | simpa using q11 | simp
     · clear q2 q3 q4 q5 q6 q7 q8 q9 q10 q11 q13 q14 q15 q16; try dsimp only
       first | exact q12 | omega | simpa using q12 | simp
     · clear q1 q2 q3 q4 q5 q6 q7 q8 q9 q10 q11 q12 q14 q15 q16; try dsimp only
       first | exact q13 | omega | simpa using q13 | simp
     · clear q1 q2 q3 q4 q5 q6 q7 q8 q9 q10 q11 q12 q13 q15 q16; try dsimp only
       first | exact q14 | omega | simpa using q14 | simp
     · clear q1 q2 q3 q4 q5 q6 q7 q8 q9 q10 q11 q12 q13 q14 q16; try dsimp only
       first | exact q15 | omega | simpa using q15 | simp
     · clear q1 q2 q3 q4 q5 q6 q7 q8 q9 q10 q11 q12 q13 q14 q15; try dsimp only
       first | exact q16 | omega | simpa using q16 | simp
   · refine .take0 q x l hqW rfl hh rfl rfl (by simp [hdP, e]) (by simp [hdP, e]) (by simp [hdP, e]) ((hd_of hqW hr (tw := some x) (jw := none) (ww := false) (by simp [hdP, finP, tellP, setR, setReg, hqW]) (by simp [hdP, finP, tellP, setR, setReg]) (by simp [hdP, finP, tellP, setR, setReg])).trans ?_) rfl rfl
     rw [updN_eq (f := (hdP W P).jw) (by simp [hdP, e]), updN_eq (f := (hdP W P).ww) (by simp [hdP, e])]
set_option maxHeartbeats 1000000 in
theorem work_1 (pk : PoolOk W Q b J) (h : I1 W b J B γ P) (hq : q < γ.nW) (e : (P.rs (q + 1)).pos = 1) (hc : canP (poolS W Q b J) P (fun j => (pqW 1).getD j 0) = true) : StepOk W b J B γ P (stepP (poolS W Q b J) P (q + 1) (fun j => (pqW 1).getD j 0)) := by
 have hle := h.cb.nle
 have hqW : q < W := by omega
 have hprog := (h.vw.w q hq).1
 have hpos := cw_pos hq e
 have hw2 := pk.w2
 obtain ⟨q1, q2, q3, q4, q5, q6, q7, q8, q9, q10, q11, q12, q13, q14, q15, q16⟩ := h.gn
 have e1 : stepP (poolS W Q b J) P (q + 1) (fun j => (pqW 1).getD j 0) = finP P (q + 1) (setReg (P.rs (q + 1)) 4 (P.ce ((P.rs (q + 1)).rg 3 % (b : Int)))) 2 ⟨(q + 1 : Nat), 12, ((P.rs (q + 1)).rg 3 % (b : Int)), (P.ce ((P.rs (q + 1)).rg 3 % (b : Int))), false⟩ := by rw [st_read rfl, e]; rfl
 rw [e1]
 have hr : ∀ j, j ≠ q + 1 → (finP P (q + 1) (setReg (P.rs (q + 1)) 4 (P.ce ((P.rs (q + 1)).rg 3 % (b : Int)))) 2 ⟨(q + 1 : Nat), 12, ((P.rs (q + 1)).rg 3 % (b : Int)), (P.ce ((P.rs (q + 1)).rg 3 % (b : Int))), false⟩).1.rs j = P.rs j := fun j hj => by simp [finP, tellP, setR, hj]
 have hkp : ((finP P (q + 1) (setReg (P.rs (q + 1)) 4 (P.ce ((P.rs (q + 1)).rg 3 % (b : Int)))) 2 ⟨(q + 1 : Nat), 12, ((P.rs (q + 1)).rg 3 % (b : Int)), (P.ce ((P.rs (q + 1)).rg 3 % (b : Int))), false⟩).1.rs (q + 1)).pos = 2 := by simp [finP, tellP, setR]
 have hkg : ((finP P (q + 1) (setReg (P.rs (q + 1)) 4 (P.ce ((P.rs (q + 1)).rg 3 % (b : Int)))) 2 ⟨(q + 1 : Nat), 12, ((P.rs (q + 1)).rg 3 % (b : Int)), (P.ce ((P.rs (q + 1)).rg 3 % (b : Int))), false⟩).1.rs (q + 1)).prog = 1 := by simp [finP, tellP, setR, setReg, hprog]
 have m0 := cw_move (P := P) (P' := (finP P (q + 1) (setReg (P.rs (q + 1)) 4 (P.ce ((P.rs (q + 1)).rg 3 % (b : Int)))) 2 ⟨(q + 1 : Nat), 12, ((P.rs (q + 1)).rg 3 % (b : Int)), (P.ce ((P.rs (q + 1)).rg 3 % (b : Int))), false⟩).1) 0 (q0 := q) (fun q' hq' => by rw [hr _ (by omega)]) γ.nW hq
 have m1 := cw_move (P := P) (P' := (finP P (q + 1) (setReg (P.rs (q + 1)) 4 (P.ce ((P.rs (q + 1)).rg 3 % (b : Int)))) 2 ⟨(q + 1 : Nat), 12, ((P.rs (q + 1)).rg 3 % (b : Int)), (P.ce ((P.rs (q + 1)).rg 3 % (b : Int))), false⟩).1) 1 (q0 := q) (fun q' hq' => by rw [hr _ (by omega)]) γ.nW hq
 have m2 := cw_move (P := P) (P' := (finP P (q + 1) (setReg (P.rs (q + 1)) 4 (P.ce ((P.rs (q + 1)).rg 3 % (b : Int)))) 2 ⟨(q + 1 : Nat), 12, ((P.rs (q + 1)).rg 3 % (b : Int)), (P.ce ((P.rs (q + 1)).rg 3 % (b : Int))), false⟩).1) 2 (q0 := q) (fun q' hq' => by rw [hr _ (by omega)]) γ.nW hq
 have m3 := cw_move (P := P) (P' := (finP P (q + 1) (setReg (P.rs (q + 1)) 4 (P.ce ((P.rs (q + 1)).rg 3 % (b : Int)))) 2 ⟨(q + 1 : Nat), 12, ((P.rs (q + 1)).rg 3 % (b : Int)), (P.ce ((P.rs (q + 1)).rg 3 % (b : Int))), false⟩).1) 3 (q0 := q) (fun q' hq' => by rw [hr _ (by omega)]) γ.nW hq
 have m4 := cw_move (P := P) (P' := (finP P (q + 1) (setReg (P.rs (q + 1)) 4 (P.ce ((P.rs (q + 1)).rg 3 % (b : Int)))) 2 ⟨(q + 1 : Nat), 12, ((P.rs (q + 1)).rg 3 % (b : Int)), (P.ce ((P.rs (q + 1)).rg 3 % (b : Int))), false⟩).1) 4 (q0 := q) (fun q' hq' => by rw [hr _ (by omega)]) γ.nW hq
 have m5 := cw_move (P := P) (P' := (finP P (q + 1) (setReg (P.rs (q + 1)) 4 (P.ce ((P.rs (q + 1)).rg 3 % (b : Int)))) 2 ⟨(q + 1 : Nat), 12, ((P.rs (q + 1)).rg 3 % (b : Int)), (P.ce ((P.rs (q + 1)).rg 3 % (b : Int))), false⟩).1) 5 (q0 := q) (fun q' hq' => by rw [hr _ (by omega)]) γ.nW hq
 have m6 := cw_move (P := P) (P' := (finP P (q + 1) (setReg (P.rs (q + 1)) 4 (P.ce ((P.rs (q + 1)).rg 3 % (b : Int)))) 2 ⟨(q + 1 : Nat), 12, ((P.rs (q + 1)).rg 3 % (b : Int)), (P.ce ((P.rs (q + 1)).rg 3 % (b : Int))), false⟩).1) 6 (q0 := q) (fun q' hq' => by rw [hr _ (by omega)]) γ.nW hq
 have m7 := cw_move (P := P) (P' := (finP P (q + 1) (setReg (P.rs (q + 1)) 4 (P.ce ((P.rs (q + 1)).rg 3 % (b : Int)))) 2 ⟨(q + 1 : Nat), 12, ((P.rs (q + 1)).rg 3 % (b : Int)), (P.ce ((P.rs (q + 1)).rg 3 % (b : Int))), false⟩).1) 7 (q0 := q) (fun q' hq' => by rw [hr _ (by omega)]) γ.nW hq
 have m8 := cw_move (P := P) (P' := (finP P (q + 1) (setReg (P.rs (q + 1)) 4 (P.ce ((P.rs (q + 1)).rg 3 % (b : Int)))) 2 ⟨(q + 1 : Nat), 12, ((P.rs (q + 1)).rg 3 % (b : Int)), (P.ce ((P.rs (q + 1)).rg 3 % (b : Int))), false⟩).1) 8 (q0 := q) (fun q' hq' => by rw [hr _ (by omega)]) γ.nW hq
 rw [e, hkp] at m0 m1 m2 m3 m4 m5 m6 m7 m8
 rw [if_neg (show ¬ (1 = 0) by decide), if_neg (show ¬ (2 = 0) by decide)] at m0
 rw [if_pos rfl, if_neg (show ¬ (2 = 1) by decide)] at m1
 rw [if_neg (show ¬ (1 = 2) by decide), if_pos rfl] at m2
 rw [if_neg (show ¬ (1 = 3) by decide), if_neg (show ¬ (2 = 3) by decide)] at m3
 rw [if_neg (show ¬ (1 = 4) by decide), if_neg (show ¬ (2 = 4) by decide)] at m4
 rw [if_neg (show ¬ (1 = 5) by decide), if_neg (show ¬ (2 = 5) by decide)] at m5
 rw [if_neg (show ¬ (1 = 6) by decide), if_neg (show ¬ (2 = 6) by decide)] at m6
 rw [if_neg (show ¬ (1 = 7) by decide), if_neg (show ¬ (2 = 7) by decide)] at m7
 rw [if_neg (show ¬ (1 = 8) by decide), if_neg (show ¬ (2 = 8) by decide)] at m8
 refine ⟨rfl, γ, ⟨h.vw.work hq hle hkg (by rw [hkp]; decide) hr rfl, by rw [hr 0 (by omega)]; exact h.cb, by rw [hr (W + 1) (by omega)]; exact h.fd, ?_⟩, ?_⟩
 · show GN W J B _ _ _ _ (cw (finP P (q + 1) (setReg (P.rs (q + 1)) 4 (P.ce ((P.rs (q + 1)).rg 3 % (b : Int)))) 2 ⟨(q + 1 : Nat), 12, ((P.rs (q + 1)).rg 3 % (b : Int)), (P.ce ((P.rs (q + 1)).rg 3 % (b : Int))), false⟩).1 γ.nW) _ _ _ _ _ _ _ _
   rw [hr 0 (by omega), hr (W + 1) (by omega), hr (W + 2) (by omega)]
   generalize cw (finP P (q + 1) (setReg (P.rs (q + 1)) 4 (P.ce ((P.rs (q + 1)).rg 3 % (b : Int)))) 2 ⟨(q + 1 : Nat), 12, ((P.rs (q + 1)).rg 3 % (b : Int)), (P.ce ((P.rs (q + 1)).rg 3 % (b : Int))), false⟩).1 γ.nW = n' at m0 m1 m2 m3 m4 m5 m6 m7 m8 ⊢
   generalize cw P γ.nW = n at *
   simp only [finP, tellP, setR, setReg, updI, updN, if_true, if_false, List.length_append, List.length_singleton, show ¬ (0 = 1) by decide, show ¬ (2 = 1) by decide, show ¬ (0 = 2) by decide, show ¬ (1 = 2) by decide, show ¬ (1 = 0) by decide, show ¬ (2 = 0) by decide]
   refine ⟨?_, ?_, ?_, ?_, ?_, ?_, ?_, ?_, ?_, ?_, ?_, ?_, ?_, ?_, ?_, ?_⟩
   · clear q2 q3 q4 q5 q6 q7 q8 q9 q10 q11 q12 q13 q14 q15 q16; try dsimp only
     first | exact q1 | omega | simpa using q1 | simp
   · clear q1 q3 q4 q5 q6 q7 q8 q9 q10 q11 q12 q13 q14 q15 q16; try dsimp only
     first | exact q2 | omega | simpa using q2 | simp
   · clear q1 q2 q4 q5 q6 q7 q8 q9 q10 q11 q12 q13 q14 q15 q16; try dsimp only
     first | exact q3 | omega | simpa using q3 | simp
   · clear q1 q2 q3 q5 q6 q7 q8 q9 q10 q11 q12 q13 q14 q15 q16; try dsimp only
     first | exact q4 | omega | simpa using q4 | simp
   · clear q1 q2 q3 q4 q6 q7 q8 q9 q10 q11 q12 q13 q14 q15 q16; try dsimp only
     first | exact q5 | omega | simpa using q5 | simp
   · clear q1 q2 q3 q4 q5 q7 q8 q9 q10 q11 q12 q13 q14 q15 q16; try dsimp only
     first | exact q6 | omega | simpa using q6 | simp
   · clear q1 q2 q3 q4 q5 q6 q8 q9 q10 q11 q12 q13 q14 q15 q16; try dsimp only
     first | exact q7 | omega | simpa using q7 | simp
   · clear q1 q2 q3 q4 q5 q6 q7 q9 q10 q11 q12 q13 q14 q15 q16; try dsimp only
     first | exact q8 | omega | simpa using q8 | simp
   · clear q1 q2 q3 q4 q5 q6 q7 q8 q10 q11 q12 q13 q14 q15 q16; try dsimp only
     first | exact q9 | omega | simpa using q9 | simp
   · clear q1 q2 q3 q4 q5 q6 q7 q8 q9 q11 q12 q13 q14 q15 q16; try dsimp only
     first | exact q10 | omega | simpa using q10 | simp
   · clear q1 q2 q3 q4 q5 q6 q7 q8 q9 q10 q12 q13 q14 q15 q16; try dsimp only
     first | exact q11 | omega | simpa using q11 | simp
   · clear q2 q3 q4 q5 q6 q7 q8 q9 q10 q11 q13 q14 q15 q16; try dsimp only
     first | exact q12 | omega | simpa using q12 | simp
   · clear q1 q2 q3 q4 q5 q6 q7 q8 q9 q10 q11 q12 q14 q15 q16; try dsimp only
     first | exact q13 | omega | simpa using q13 | simp
   · clear q1 q2 q3 q4 q5 q6 q7 q8 q9 q10 q11 q12 q13 q15 q16; try dsimp only
     first | exact q14 | omega | simpa using q14 | simp
   · clear q1 q2 q3 q4 q5 q6 q7 q8 q9 q10 q11 q12 q13 q14 q16; try dsimp only
     first | exact q15 | omega | simpa using q15 | simp
   · clear q1 q2 q3 q4 q5 q6 q7 q8 q9 q10 q11 q12 q13 q14 q15; try dsimp only
     first | exact q16 | omega | simpa using q16 | simp
 · refine .read q ((P.rs (q + 1)).rg 3) hqW rfl rfl rfl (by simp [hdP, e, hqW]) (by simp [hdP, e]) (by simp [hdP, e]) ((hd_of hqW hr (tw := some ((P.rs (q + 1)).rg 3)) (jw := some (P.ce ((P.rs (q + 1)).rg 3 % (b : Int)))) (ww := false) (by simp [hdP, finP, tellP, setR, setReg, hqW]) (by simp [hdP, finP, tellP, setR, setReg, hqW]) (by simp [hdP, finP, tellP, setR, setReg])).trans ?_) rfl rfl
   rw [updN_eq (f := (hdP W P).tw) (by simp [hdP, e, hqW]), updN_eq (f := (hdP W P).ww) (by simp [hdP, e])]
set_option maxHeartbeats 1000000 in
theorem work_2 (pk : PoolOk W Q b J) (h : I1 W b J B γ P) (hq : q < γ.nW) (e : (P.rs (q + 1)).pos = 2) (hc : canP (poolS W Q b J) P (fun j => (pqW 2).getD j 0) = true) : StepOk W b J B γ P (stepP (poolS W Q b J) P (q + 1) (fun j => (pqW 2).getD j 0)) := by
 have hle := h.cb.nle
 have hqW : q < W := by omega
 have hprog := (h.vw.w q hq).1
 have hpos := cw_pos hq e
 have hw2 := pk.w2
 obtain ⟨q1, q2, q3, q4, q5, q6, q7, q8, q9, q10, q11, q12, q13, q14, q15, q16⟩ := h.gn
 have e1 : stepP (poolS W Q b J) P (q + 1) (fun j => (pqW 2).getD j 0) = finP P (q + 1) (P.rs (q + 1)) 3 ⟨(q + 1 : Nat), 15, 0, ((P.rs (q + 1)).rg 4), false⟩ := by rw [st_work rfl, e]; rfl
 rw [e1]
 have hr : ∀ j, j ≠ q + 1 → (finP P (q + 1) (P.rs (q + 1)) 3 ⟨(q + 1 : Nat), 15, 0, ((P.rs (q + 1)).rg 4), false⟩).1.rs j = P.rs j := fun j hj => by simp [finP, tellP, setR, hj]
 have hkp : ((finP P (q + 1) (P.rs (q + 1)) 3 ⟨(q + 1 : Nat), 15, 0, ((P.rs (q + 1)).rg 4), false⟩).1.rs (q + 1)).pos = 3 := by simp [finP, tellP, setR]
 have hkg : ((finP P (q + 1) (P.rs (q + 1)) 3 ⟨(q + 1 : Nat), 15, 0, ((P.rs (q + 1)).rg 4), false⟩).1.rs (q + 1)).prog = 1 := by simp [finP, tellP, setR, setReg, hprog]
 have m0 := cw_move (P := P) (P' := (finP P (q + 1) (P.rs (q + 1)) 3 ⟨(q + 1 : Nat), 15, 0, ((P.rs (q + 1)).rg 4), false⟩).1) 0 (q0 := q) (fun q' hq' => by rw [hr _ (by omega)]) γ.nW hq
 have m1 := cw_move (P := P) (P' := (finP P (q + 1) (P.rs (q + 1)) 3 ⟨(q + 1 : Nat), 15, 0, ((P.rs (q + 1)).rg 4), false⟩).1) 1 (q0 := q) (fun q' hq' => by rw [hr _ (by omega)]) γ.nW hq
 have m2 := cw_move (P := P) (P' := (finP P (q + 1) (P.rs (q + 1)) 3 ⟨(q + 1 : Nat), 15, 0, ((P.rs (q + 1)).rg 4), false⟩).1) 2 (q0 := q) (fun q' hq' => by rw [hr _ (by omega)]) γ.nW hq
 have m3 := cw_move (P := P) (P' := (finP P (q + 1) (P.rs (q + 1)) 3 ⟨(q + 1 : Nat), 15, 0, ((P.rs (q + 1)).rg 4), false⟩).1) 3 (q0 := q) (fun q' hq' => by rw [hr _ (by omega)]) γ.nW hq
 have m4 := cw_move (P := P) (P' := (finP P (q + 1) (P.rs (q + 1)) 3 ⟨(q + 1 : Nat), 15, 0, ((P.rs (q + 1)).rg 4), false⟩).1) 4 (q0 := q) (fun q' hq' => by rw [hr _ (by omega)]) γ.nW hq
 have m5 := cw_move (P := P) (P' := (finP P (q + 1) (P.rs (q + 1)) 3 ⟨(q + 1 : Nat), 15, 0, ((P.rs (q + 1)).rg 4), false⟩).1) 5 (q0 := q) (fun q' hq' => by rw [hr _ (by omega)]) γ.nW hq
 have m6 := cw_move (P := P) (P' := (finP P (q + 1) (P.rs (q + 1)) 3 ⟨(q + 1 : Nat), 15, 0, ((P.rs (q + 1)).rg 4), false⟩).1) 6 (q0 := q) (fun q' hq' => by rw [hr _ (by omega)]) γ.nW hq
 have m7 := cw_move (P := P) (P' := (finP P (q + 1) (P.rs (q + 1)) 3 ⟨(q + 1 : Nat), 15, 0, ((P.rs (q + 1)).rg 4), false⟩).1) 7 (q0 := q) (fun q' hq' => by rw [hr _ (by omega)]) γ.nW hq
 have m8 := cw_move (P := P) (P' := (finP P (q + 1) (P.rs (q + 1)) 3 ⟨(q + 1 : Nat), 15, 0, ((P.rs (q + 1)).rg 4), false⟩).1) 8 (q0 := q) (fun q' hq' => by rw [hr _ (by omega)]) γ.nW hq
 rw [e, hkp] at m0 m1 m2 m3 m4 m5 m6 m7 m8
 rw [if_neg (show ¬ (2 = 0) by decide), if_neg (show ¬ (3 = 0) by decide)] at m0
 rw [if_neg (show ¬ (2 = 1) by decide), if_neg (show ¬ (3 = 1) by decide)] at m1
 rw [if_pos rfl, if_neg (show ¬ (3 = 2) by decide)] at m2
 rw [if_neg (show ¬ (2 = 3) by decide), if_pos rfl] at m3
 rw [if_neg (show ¬ (2 = 4) by decide), if_neg (show ¬ (3 = 4) by decide)] at m4
 rw [if_neg (show ¬ (2 = 5) by decide), if_neg (show ¬ (3 = 5) by decide)] at m5
 rw [if_neg (show ¬ (2 = 6) by decide), if_neg (show ¬ (3 = 6) by decide)] at m6
 rw [if_neg (show ¬ (2 = 7) by decide), if_neg (show ¬ (3 = 7) by decide)] at m7
 rw [if_neg (show ¬ (2 = 8) by decide), if_neg (show ¬ (3 = 8) by decide)] at m8
 refine ⟨rfl, γ, ⟨h.vw.work hq hle hkg (by rw [hkp]; decide) hr rfl, by rw [hr 0 (by omega)]; exact h.cb, by rw [hr (W + 1) (by omega)]; exact h.fd, ?_⟩, ?_⟩
 · show GN W J B _ _ _ _ (cw (finP P (q + 1) (P.rs (q + 1)) 3 ⟨(q + 1 : Nat), 15, 0, ((P.rs (q + 1)).rg 4), false⟩).1 γ.nW) _ _ _ _ _ _ _ _
   rw [hr 0 (by omega), hr (W + 1) (by omega), hr (W + 2) (by omega)]
   generalize cw (finP P (q + 1) (P.rs (q + 1)) 3 ⟨(q + 1 : Nat), 15, 0, ((P.rs (q + 1)).rg 4), false⟩).1 γ.nW = n' at m0 m1 m2 m3 m4 m5 m6 m7 m8 ⊢
   generalize cw P γ.nW = n at *
   simp only [finP, tellP, setR, setReg, updI, updN, if_true, if_false, List.length_append, List.length_singleton, show ¬ (0 = 1) by decide, show ¬ (2 = 1) by decide, show ¬ (0 = 2) by decide, show ¬ (1 = 2) by decide, show ¬ (1 = 0) by decide, show ¬ (2 = 0) by decide]
   refine ⟨?_, ?_, ?_, ?_, ?_, ?_, ?_, ?_, ?_, ?_, ?_, ?_, ?_, ?_, ?_, ?_⟩
   · clear q2 q3 q4 q5 q6 q7 q8 q9 q10 q11 q12 q13 q14 q15 q16; try dsimp only
     first | exact q1 | omega | simpa using q1 | simp
   · clear q1 q3 q4 q5 q6 q7 q8 q9 q10 q11 q12 q13 q14 q15 q16; try dsimp only
     first | exact q2 | omega | simpa using q2 | simp
   · clear q1 q2 q4 q5 q6 q7 q8 q9 q10 q11 q12 q13 q14 q15 q16; try dsimp only
     first | exact q3 | omega | simpa using q3 | simp
   · clear q1 q2 q3 q5 q6 q7 q8 q9 q10 q11 q12 q13 q14 q15 q16; try dsimp only
     first | exact q4 | omega | simpa using q4 | simp
   · clear q1 q2 q3 q4 q6 q7 q8 q9 q10 q11 q12 q13 q14 q15 q16; try dsimp only
     first | exact q5 | omega | simpa using q5 | simp
   · clear q1 q2 q3 q4 q5 q7 q8 q9 q10 q11 q12 q13 q14 q15 q16; try dsimp only
     first | exact q6 | omega | simpa using q6 | simp
   · clear q1 q2 q3 q4 q5 q6 q8 q9 q10 q11 q12 q13 q14 q15 q16; try dsimp only
     first | exact q7 | omega | simpa using q7 | simp
   · clear q1 q2 q3 q4 q5 q6 q7 q9 q10 q11 q12 q13 q14 q15 q16; try dsimp only
     first | exact q8 | omega | simpa using q8 | simp
   · clear q1 q2 q3 q4 q5 q6 q7 q8 q10 q11 q12 q13 q14 q15 q16; try dsimp only
     first | exact q9 | omega | simpa using q9 | simp
   · clear q1 q2 q3 q4 q5 q6 q7 q8 q9 q11 q12 q13 q14 q15 q16; try dsimp only
     first | exact q10 | omega | simpa using q10 | simp
   · clear q1 q2 q3 q4 q5 q6 q7 q8 q9 q10 q12 q13 q14 q15 q16; try dsimp only
     first | exact q11 | omega | simpa using q11 | simp
   · clear q2 q3 q4 q5 q6 q7 q8 q9 q10 q11 q13 q14 q15 q16; try dsimp only
     first | exact q12 | omega | simpa using q12 | simp
   · clear q1 q2 q3 q4 q5 q6 q7 q8 q9 q10 q11 q12 q14 q15 q16; try dsimp only
     first | exact q13 | omega | simpa using q13 | simp
   · clear q1 q2 q3 q4 q5 q6 q7 q8 q9 q10 q11 q12 q13 q15 q16; try dsimp only
     first | exact q14 | omega | simpa using q14 | simp
   · clear q1 q2 q3 q4 q5 q6 q7 q8 q9 q10 q11 q12 q13 q14 q16; try dsimp only
     first | exact q15 | omega | simpa using q15 | simp
   · clear q1 q2 q3 q4 q5 q6 q7 q8 q9 q10 q11 q12 q13 q14 q15; try dsimp only
     first | exact q16 | omega | simpa using q16 | simp
 · refine .work q ((P.rs (q + 1)).rg 3) ((P.rs (q + 1)).rg 4) hqW rfl rfl rfl (by simp [hdP, e, hqW]) (by simp [hdP, e, hqW]) (by simp [hdP, e]) ((hd_of hqW hr (tw := some ((P.rs (q + 1)).rg 3)) (jw := some ((P.rs (q + 1)).rg 4)) (ww := true) (by simp [hdP, finP, tellP, setR, hqW]) (by simp [hdP, finP, tellP, setR, hqW]) (by simp [hdP, finP, tellP, setR, setReg, hqW])).trans ?_) rfl rfl
   rw [updN_eq (f := (hdP W P).tw) (by simp [hdP, e, hqW]), updN_eq (f := (hdP W P).jw) (by simp [hdP, e, hqW])]
set_option maxHeartbeats 1000000 in
theorem work_3 (pk : PoolOk W Q b J) (h : I1 W b J B γ P) (hq : q < γ.nW) (e : (P.rs (q + 1)).pos = 3) (hc : canP (poolS W Q b J) P (fun j => (pqW 3).getD j 0) = true) : StepOk W b J B γ P (stepP (poolS W Q b J) P (q + 1) (fun j => (pqW 3).getD j 0)) := by
 have hle := h.cb.nle
 have hqW : q < W := by omega
 have hprog := (h.vw.w q hq).1
 have hpos := cw_pos hq e
 have hw2 := pk.w2
 obtain ⟨q1, q2, q3, q4, q5, q6, q7, q8, q9, q10, q11, q12, q13, q14, q15, q16⟩ := h.gn
 have e1 : stepP (poolS W Q b J) P (q + 1) (fun j => (pqW 3).getD j 0) = finP { P with held := updN P.held 2 (P.held 2 ++ [(P.rs (q + 1)).rg 3]) } (q + 1) (P.rs (q + 1)) 4 ⟨(q + 1 : Nat), 5, 2, ((P.rs (q + 1)).rg 3), false⟩ := by rw [st_send rfl q8, e]; rfl
 rw [e1]
 have hr : ∀ j, j ≠ q + 1 → (finP { P with held := updN P.held 2 (P.held 2 ++ [(P.rs (q + 1)).rg 3]) } (q + 1) (P.rs (q + 1)) 4 ⟨(q + 1 : Nat), 5, 2, ((P.rs (q + 1)).rg 3), false⟩).1.rs j = P.rs j := fun j hj => by simp [finP, tellP, setR, hj]
 have hkp : ((finP { P with held := updN P.held 2 (P.held 2 ++ [(P.rs (q + 1)).rg 3]) } (q + 1) (P.rs (q + 1)) 4 ⟨(q + 1 : Nat), 5, 2, ((P.rs (q + 1)).rg 3), false⟩).1.rs (q + 1)).pos = 4 := by simp [finP, tellP, setR]
 have hkg : ((finP { P with held := updN P.held 2 (P.held 2 ++ [(P.rs (q + 1)).rg 3]) } (q + 1) (P.rs (q + 1)) 4 ⟨(q + 1 : Nat), 5, 2, ((P.rs (q + 1)).rg 3), false⟩).1.rs (q + 1)).prog = 1 := by simp [finP, tellP, setR, setReg, hprog]
 have m0 := cw_move (P := P) (P' := (finP { P with held := updN P.held 2 (P.held 2 ++ [(P.rs (q + 1)).rg 3]) } (q + 1) (P.rs (q + 1)) 4 ⟨(q + 1 : Nat), 5, 2, ((P.rs (q + 1)).rg 3), false⟩).1) 0 (q0 := q) (fun q' hq' => by rw [hr _ (by omega)]) γ.nW hq
 have m1 := cw_move (P := P) (P' := (finP { P with held := updN P.held 2 (P.held 2 ++ [(P.rs (q + 1)).rg 3]) } (q + 1) (P.rs (q + 1)) 4 ⟨(q + 1 : Nat), 5, 2, ((P.rs (q + 1)).rg 3), false⟩).1) 1 (q0 := q) (fun q' hq' => by rw [hr _ (by omega)]) γ.nW hq
 have m2 := cw_move (P := P) (P' := (finP { P with held := updN P.held 2 (P.held 2 ++ [(P.rs (q + 1)).rg 3]) } (q + 1) (P.rs (q + 1)) 4 ⟨(q + 1 : Nat), 5, 2, ((P.rs (q + 1)).rg 3), false⟩).1) 2 (q0 := q) (fun q' hq' => by rw [hr _ (by omega)]) γ.nW hq
 have m3 := cw_move (P := P) (P' := (finP { P with held := updN P.held 2 (P.held 2 ++ [(P.rs (q + 1)).rg 3]) } (q + 1) (P.rs (q + 1)) 4 ⟨(q + 1 : Nat), 5, 2, ((P.rs (q + 1)).rg 3), false⟩).1) 3 (q0 := q) (fun q' hq' => by rw [hr _ (by omega)]) γ.nW hq
 have m4 := cw_move (P := P) (P' := (finP { P with held := updN P.held 2 (P.held 2 ++ [(P.rs (q + 1)).rg 3]) } (q + 1) (P.rs (q + 1)) 4 ⟨(q + 1 : Nat), 5, 2, ((P.rs (q + 1)).rg 3), false⟩).1) 4 (q0 := q) (fun q' hq' => by rw [hr _ (by omega)]) γ.nW hq
 have m5 := cw_move (P := P) (P' := (finP { P with held := updN P.held 2 (P.held 2 ++ [(P.rs (q + 1)).rg 3]) } (q + 1) (P.rs (q + 1)) 4 ⟨(q + 1 : Nat), 5, 2, ((P.rs (q + 1)).rg 3), false⟩).1) 5 (q0 := q) (fun q' hq' => by rw [hr _ (by omega)]) γ.nW hq
 have m6 := cw_move (P := P) (P' := (finP { P with held := updN P.held 2 (P.held 2 ++ [(P.rs (q + 1)).rg 3]) } (q + 1) (P.rs (q + 1)) 4 ⟨(q + 1 : Nat), 5, 2, ((P.rs (q + 1)).rg 3), false⟩).1) 6 (q0 := q) (fun q' hq' => by rw [hr _ (by omega)]) γ.nW hq
 have m7 := cw_move (P := P) (P' := (finP { P with held := updN P.held 2 (P.held 2 ++ [(P.rs (q + 1)).rg 3]) } (q + 1) (P.rs (q + 1)) 4 ⟨(q + 1 : Nat), 5, 2, ((P.rs (q + 1)).rg 3), false⟩).1) 7 (q0 := q) (fun q' hq' => by rw [hr _ (by omega)]) γ.nW hq
 have m8 := cw_move (P := P) (P' := (finP { P with held := updN P.held 2 (P.held 2 ++ [(P.rs (q + 1)).rg 3]) } (q + 1) (P.rs (q + 1)) 4 ⟨(q + 1 : Nat), 5, 2, ((P.rs (q + 1)).rg 3), false⟩).1) 8 (q0 := q) (fun q' hq' => by rw [hr _ (by omega)]) γ.nW hq
 rw [e, hkp] at m0 m1 m2 m3 m4 m5 m6 m7 m8
 rw [if_neg (show ¬ (3 = 0) by decide), if_neg (show ¬ (4 = 0) by decide)] at m0
 rw [if_neg (show ¬ (3 = 1) by decide), if_neg (show ¬ (4 = 1) by decide)] at m1
 rw [if_neg (show ¬ (3 = 2) by decide), if_neg (show ¬ (4 = 2) by decide)] at m2
 rw [if_pos rfl, if_neg (show ¬ (4 = 3) by decide)] at m3
 rw [if_neg (show ¬ (3 = 4) by decide), if_pos rfl] at m4
 rw [if_neg (show ¬ (3 = 5) by decide), if_neg (show ¬ (4 = 5) by decide)] at m5
 rw [if_neg (show ¬ (3 = 6) by decide), if_neg (show ¬ (4 = 6) by decide)] at m6
 rw [if_neg (show ¬ (3 = 7) by decide), if_neg (show ¬ (4 = 7) by decide)] at m7
 rw [if_neg (show ¬ (3 = 8) by decide), if_neg (show ¬ (4 = 8) by decide)] at m8
 refine ⟨rfl, γ, ⟨h.vw.work hq hle hkg (by rw [hkp]; decide) hr rfl, by rw [hr 0 (by omega)]; exact h.cb, by rw [hr (W + 1) (by omega)]; exact h.fd, ?_⟩, ?_⟩
 · show GN W J B _ _ _ _ (cw (finP { P with held := updN P.held 2 (P.held 2 ++ [(P.rs (q + 1)).rg 3]) } (q + 1) (P.rs (q + 1)) 4 ⟨(q + 1 : Nat), 5, 2, ((P.rs (q + 1)).rg 3), false⟩).1 γ.nW) _ _ _ _ _ _ _ _
   rw [hr 0 (by omega), hr (W + 1) (by omega), hr (W + 2) (by omega)]
   generalize cw (finP { P with held := updN P.held 2 (P.held 2 ++ [(P.rs (q + 1)).rg 3]) } (q + 1) (P.rs (q + 1)) 4 ⟨(q + 1 : Nat), 5, 2, ((P.rs (q + 1)).rg 3), false⟩).1 γ.nW = n' at m0 m1 m2 m3 m4 m5 m6 m7 m8 ⊢
   generalize cw P γ.nW = n at *
   simp only [finP, tellP, setR, setReg, updI, updN, if_true, if_false, List.length_append, List.length_singleton, show ¬ (0 = 1) by decide, show ¬ (2 = 1) by decide, show ¬ (0 = 2) by decide, show ¬ (1 = 2) by decide, show ¬ (1 = 0) by decide, show ¬ (2 = 0) by decide]
   refine ⟨?_, ?_, ?_, ?_, ?_, ?_, ?_, ?_, ?_, ?_, ?_, ?_, ?_, ?_, ?_, ?_⟩
   · clear q2 q3 q4 q5 q6 q7 q8 q9 q10 q11 q12 q13 q14 q15 q16; try dsimp only
     first | exact q1 | omega | simpa using q1 | simp
   · clear q1 q3 q4 q5 q6 q7 q8 q9 q10 q11 q12 q13 q14 q15 q16; try dsimp only
     first | exact q2 | omega | simpa using q2 | simp
   · clear q1 q2 q4 q5 q6 q7 q8 q9 q10 q11 q12 q13 q14 q15 q16; try dsimp only
     first | exact q3 | omega | simpa using q3 | simp
   · clear q1 q2 q3 q5 q6 q7 q8 q9 q10 q11 q12 q13 q14 q15 q16; try dsimp only
     first | exact q4 | omega | simpa using q4 | simp
   · clear q1 q2 q3 q4 q6 q7 q8 q9 q10 q11 q12 q13 q14 q15 q16; try dsimp only
     first | exact q5 | omega | simpa using q5 | simp
   · clear q1 q2 q3 q4 q5 q7 q8 q9 q10 q11 q12 q13 q14 q15 q16; try dsimp only
     first | exact q6 | omega | simpa using q6 | simp
   · clear q1 q2 q3 q4 q5 q6 q8 q9 q10 q11 q12 q13 q14 q15 q16; try dsimp only
     first | exact q7 | omega | simpa using q7 | simp
   · clear q1 q2 q3 q4 q5 q6 q7 q9 q10 q11 q12 q13 q14 q15 q16; try dsimp only
     first | exact q8 | omega | simpa using q8 | simp
   · clear q1 q2 q3 q4 q5 q6 q7 q8 q10 q11 q12 q13 q14 q15 q16; try dsimp only
     first | exact q9 | omega | simpa using q9 | simp
   · clear q1 q2 q3 q4 q5 q6 q7 q8 q9 q11 q12 q13 q14 q15 q16; try dsimp only
     first | exact q10 | omega | simpa using q10 | simp
   · clear q1 q2 q3 q4 q5 q6 q7 q8 q9 q10 q12 q13 q14 q15 q16; try dsimp only
     first | exact q11 | omega | simpa using q11 | simp
   · clear q2 q3 q4 q5 q6 q7 q8 q9 q10 q11 q13 q14 q15 q16; try dsimp only
     first | exact q12 | omega | simpa using q12 | simp
   · clear q1 q2 q3 q4 q5 q6 q7 q8 q9 q10 q11 q12 q14 q15 q16; try dsimp only
     first | exact q13 | omega | simpa using q13 | simp
   · clear q1 q2 q3 q4 q5 q6 q7 q8 q9 q10 q11 q12 q13 q15 q16; try dsimp only
     first | exact q14 | omega | simpa using q14 | simp
   · clear q1 q2 q3 q4 q5 q6 q7 q8 q9 q10 q11 q12 q13 q14 q16; try dsimp only
     first | exact q15 | omega | simpa using q15 | simp
   · clear q1 q2 q3 q4 q5 q6 q7 q8 q9 q10 q11 q12 q13 q14 q15; try dsimp only
     first | exact q16 | omega | simpa using q16 | simp
 · refine .send2w q ((P.rs (q + 1)).rg 3) ((P.rs (q + 1)).rg 4) hqW rfl rfl rfl (by simp [hdP, e, hqW]) (by simp [hdP, e, hqW]) (by simp [hdP, e, hqW]) ((hd_of hqW hr (tw := none) (jw := some ((P.rs (q + 1)).rg 4)) (ww := true) (by simp [hdP, finP, tellP, setR, setReg]) (by simp [hdP, finP, tellP, setR, hqW]) (by simp [hdP, finP, tellP, setR, setReg, hqW])).trans ?_) rfl rfl
   rw [updN_eq (f := (hdP W P).jw) (by simp [hdP, e, hqW]), updN_eq (f := (hdP W P).ww) (by simp [hdP, e, hqW])]
set_option maxHeartbeats 1000000 in
theorem work_4 (pk : PoolOk W Q b J) (h : I1 W b J B γ P) (hq : q < γ.nW) (e : (P.rs (q + 1)).pos = 4) (hc : canP (poolS W Q b J) P (fun j => (pqW 4).getD j 0) = true) : StepOk W b J B γ P (stepP (poolS W Q b J) P (q + 1) (fun j => (pqW 4).getD j 0)) := by
 have hle := h.cb.nle
 have hqW : q < W := by omega
 have hprog := (h.vw.w q hq).1
 have hpos := cw_pos hq e
 have hw2 := pk.w2
 obtain ⟨q1, q2, q3, q4, q5, q6, q7, q8, q9, q10, q11, q12, q13, q14, q15, q16⟩ := h.gn
 have hcl : P.cl 1 = false := by
   cases hx : P.cl 1 with
   | false => rfl
   | true => have := q7.1 hx; omega
 have e1 : stepP (poolS W Q b J) P (q + 1) (fun j => (pqW 4).getD j 0) = finP { P with held := updN P.held 1 (P.held 1 ++ [(P.rs (q + 1)).rg 4]) } (q + 1) (P.rs (q + 1)) 5 ⟨(q + 1 : Nat), 5, 1, ((P.rs (q + 1)).rg 4), false⟩ := by rw [st_send rfl hcl, e]; rfl
 rw [e1]
 have hr : ∀ j, j ≠ q + 1 → (finP { P with held := updN P.held 1 (P.held 1 ++ [(P.rs (q + 1)).rg 4]) } (q + 1) (P.rs (q + 1)) 5 ⟨(q + 1 : Nat), 5, 1, ((P.rs (q + 1)).rg 4), false⟩).1.rs j = P.rs j := fun j hj => by simp [finP, tellP, setR, hj]
 have hkp : ((finP { P with held := updN P.held 1 (P.held 1 ++ [(P.rs (q + 1)).rg 4]) } (q + 1) (P.rs (q + 1)) 5 ⟨(q + 1 : Nat), 5, 1, ((P.rs (q + 1)).rg 4), false⟩).1.rs (q + 1)).pos = 5 := by simp [finP, tellP, setR]
 have hkg : ((finP { P with held := updN P.held 1 (P.held 1 ++ [(P.rs (q + 1)).rg 4]) } (q + 1) (P.rs (q + 1)) 5 ⟨(q + 1 : Nat), 5, 1, ((P.rs (q + 1)).rg 4), false⟩).1.rs (q + 1)).prog = 1 := by simp [finP, tellP, setR, setReg, hprog]
 have m0 := cw_move (P := P) (P' := (finP { P with held := updN P.held 1 (P.held 1 ++ [(P.rs (q + 1)).rg 4]) } (q + 1) (P.rs (q + 1)) 5 ⟨(q + 1 : Nat), 5, 1, ((P.rs (q + 1)).rg 4), false⟩).1) 0 (q0 := q) (fun q' hq' => by rw [hr _ (by omega)]) γ.nW hq
 have m1 := cw_move (P := P) (P' := (finP { P with held := updN P.held 1 (P.held 1 ++ [(P.rs (q + 1)).rg 4]) } (q + 1) (P.rs (q + 1)) 5 ⟨(q + 1 : Nat), 5, 1, ((P.rs (q + 1)).rg 4), false⟩).1) 1 (q0 := q) (fun q' hq' => by rw [hr _ (by omega)]) γ.nW hq
 have m2 := cw_move (P := P) (P' := (finP { P with held := updN P.held 1 (P.held 1 ++ [(P.rs (q + 1)).rg 4]) } (q + 1) (P.rs (q + 1)) 5 ⟨(q + 1 : Nat), 5, 1, ((P.rs (q + 1)).rg 4), false⟩).1) 2 (q0 := q) (fun q' hq' => by rw [hr _ (by omega)]) γ.nW hq
 have m3 := cw_move (P := P) (P' := (finP { P with held := updN P.held 1 (P.held 1 ++ [(P.rs (q + 1)).rg 4]) } (q + 1) (P.rs (q + 1)) 5 ⟨(q + 1 : Nat), 5, 1, ((P.rs (q + 1)).rg 4), false⟩).1) 3 (q0 := q) (fun q' hq' => by rw [hr _ (by omega)]) γ.nW hq
 have m4 := cw_move (P := P) (P' := (finP { P with held := updN P.held 1 (P.held 1 ++ [(P.rs (q + 1)).rg 4]) } (q + 1) (P.rs (q + 1)) 5 ⟨(q + 1 : Nat), 5, 1, ((P.rs (q + 1)).rg 4), false⟩).1) 4 (q0 := q) (fun q' hq' => by rw [hr _ (by omega)]) γ.nW hq
 have m5 := cw_move (P := P) (P' := (finP { P with held := updN P.held 1 (P.held 1 ++ [(P.rs (q + 1)).rg 4]) } (q + 1) (P.rs (q + 1)) 5 ⟨(q + 1 : Nat), 5, 1, ((P.rs (q + 1)).rg 4), false⟩).1) 5 (q0 := q) (fun q' hq' => by rw [hr _ (by omega)]) γ.nW hq
 have m6 := cw_move (P := P) (P' := (finP { P with held := updN P.held 1 (P.held 1 ++ [(P.rs (q + 1)).rg 4]) } (q + 1) (P.rs (q + 1)) 5 ⟨(q + 1 : Nat), 5, 1, ((P.rs (q + 1)).rg 4), false⟩).1) 6 (q0 := q) (fun q' hq' => by rw [hr _ (by omega)]) γ.nW hq
 have m7 := cw_move (P := P) (P' := (finP { P with held := updN P.held 1 (P.held 1 ++ [(P.rs (q + 1)).rg 4]) } (q + 1) (P.rs (q + 1)) 5 ⟨(q + 1 : Nat), 5, 1, ((P.rs (q + 1)).rg 4), false⟩).1) 7 (q0 := q) (fun q' hq' => by rw [hr _ (by omega)]) γ.nW hq
 have m8 := cw_move (P := P) (P' := (finP { P with held := updN P.held 1 (P.held 1 ++ [(P.rs (q + 1)).rg 4]) } (q + 1) (P.rs (q + 1)) 5 ⟨(q + 1 : Nat), 5, 1, ((P.rs (q + 1)).rg 4), false⟩).1) 8 (q0 := q) (fun q' hq' => by rw [hr _ (by omega)]) γ.nW hq
 rw [e, hkp] at m0 m1 m2 m3 m4 m5 m6 m7 m8
 rw [if_neg (show ¬ (4 = 0) by decide), if_neg (show ¬ (5 = 0) by decide)] at m0
 rw [if_neg (show ¬ (4 = 1) by decide), if_neg (show ¬ (5 = 1) by decide)] at m1
 rw [if_neg (show ¬ (4 = 2) by decide), if_neg (show ¬ (5 = 2) by decide)] at m2
 rw [if_neg (show ¬ (4 = 3) by decide), if_neg (show ¬ (5 = 3) by decide)] at m3
 rw [if_pos rfl, if_neg (show ¬ (5 = 4) by decide)] at m4
 rw [if_neg (show ¬ (4 = 5) by decide), if_pos rfl] at m5
 rw [if_neg (show ¬ (4 = 6) by decide), if_neg (show ¬ (5 = 6) by decide)] at m6
 rw [if_neg (show ¬ (4 = 7) by decide), if_neg (show ¬ (5 = 7) by decide)] at m7
 rw [if_neg (show ¬ (4 = 8) by decide), if_neg (show ¬ (5 = 8) by decide)] at m8
 refine ⟨rfl, γ, ⟨h.vw.work hq hle hkg (by rw [hkp]; decide) hr rfl, by rw [hr 0 (by omega)]; exact h.cb, by rw [hr (W + 1) (by omega)]; exact h.fd, ?_⟩, ?_⟩
 · show GN W J B _ _ _ _ (cw (finP { P with held := updN P.held 1 (P.held 1 ++ [(P.rs (q + 1)).rg 4]) } (q + 1) (P.rs (q + 1)) 5 ⟨(q + 1 : Nat), 5, 1, ((P.rs (q + 1)).rg 4), false⟩).1 γ.nW) _ _ _ _ _ _ _ _
   rw [hr 0 (by omega), hr (W + 1) (by omega), hr (W + 2) (by omega)]
   generalize cw (finP { P with held := updN P.held 1 (P.held 1 ++ [(P.rs (q + 1)).rg 4]) } (q + 1) (P.rs (q + 1)) 5 ⟨(q + 1 : Nat), 5, 1, ((P.rs (q + 1)).rg 4), false⟩).1 γ.nW = n' at m0 m1 m2 m3 m4 m5 m6 m7 m8 ⊢
   generalize cw P γ.nW = n at *
   simp only [finP, tellP, setR, setReg, updI, updN, if_true, if_false, List.length_append, List.length_singleton, show ¬ (0 = 1) by decide, show ¬ (2 = 1) by decide, show ¬ (0 = 2) by decide, show ¬ (1 = 2) by decide, show ¬ (1 = 0) by decide, show ¬ (2 = 0) by decide]
   refine ⟨?_, ?_, ?_, ?_, ?_, ?_, ?_, ?_, ?_, ?_, ?_, ?_, ?_, ?_, ?_, ?_⟩
   · clear q2 q3 q4 q5 q6 q7 q8 q9 q10 q11 q12 q13 q14 q15 q16; try dsimp only
     first | exact q1 | omega | simpa using q1 | simp
   · clear q1 q3 q4 q5 q6 q7 q8 q9 q10 q11 q12 q13 q14 q15 q16; try dsimp only
     first | exact q2 | omega | simpa using q2 | simp
   · clear q1 q2 q4 q5 q6 q7 q8 q9 q10 q11 q12 q13 q14 q15 q16; try dsimp only
     first | exact q3 | omega | simpa using q3 | simp
   · clear q1 q2 q3 q5 q6 q7 q8 q9 q10 q11 q12 q13 q14 q15 q16; try dsimp only
     first | exact q4 | omega | simpa using q4 | simp
   · clear q1 q2 q3 q4 q6 q7 q8 q9 q10 q11 q12 q13 q14 q15 q16; try dsimp only
     first | exact q5 | omega | simpa using q5 | simp
   · clear q1 q2 q3 q4 q5 q7 q8 q9 q10 q11 q12 q13 q14 q15 q16; try dsimp only
     first | exact q6 | omega | simpa using q6 | simp
   · clear q1 q2 q3 q4 q5 q6 q8 q9 q10 q11 q12 q13 q14 q15 q16; try dsimp only
     first | exact q7 | omega | simpa using q7 | simp
   · clear q1 q2 q3 q4 q5 q6 q7 q9 q10 q11 q12 q13 q14 q15 q16; try dsimp only
     first | exact q8 | omega | simpa using q8 | simp
   · clear q1 q2 q3 q4 q5 q6 q7 q8 q10 q11 q12 q13 q14 q15 q16; try dsimp only
     first | exact q9 | omega | simpa using q9 | simp
   · clear q1 q2 q3 q4 q5 q6 q7 q8 q9 q11 q12 q13 q14 q15 q16; try dsimp only
     first | exact q10 | omega | simpa using q10 | simp
   · clear q1 q2 q3 q4 q5 q6 q7 q8 q9 q10 q12 q13 q14 q15 q16; try dsimp only
     first | exact q11 | omega | simpa using q11 | simp
   · clear q2 q3 q4 q5 q6 q7 q8 q9 q10 q11 q13 q14 q15 q16; try dsimp only
     first | exact q12 | omega | simpa using q12 | simp
   · clear q1 q2 q3 q4 q5 q6 q7 q8 q9 q10 q11 q12 q14 q15 q16; try dsimp only
     first | exact q13 | omega | simpa using q13 | simp
   · clear q1 q2 q3 q4 q5 q6 q7 q8 q9 q10 q11 q12 q13 q15 q16; try dsimp only
     first | exact q14 | omega | simpa using q14 | simp
   · clear q1 q2 q3 q4 q5 q6 q7 q8 q9 q10 q11 q12 q13 q14 q16; try dsimp only
     first | exact q15 | omega | simpa using q15 | simp
   · clear q1 q2 q3 q4 q5 q6 q7 q8 q9 q10 q11 q12 q13 q14 q15; try dsimp only
     first | exact q16 | omega | simpa using q16 | simp
 · refine .send1 q ((P.rs (q + 1)).rg 4) hqW rfl rfl rfl (by simp [hdP, e]) (by simp [hdP, e, hqW]) (by simp [hdP, e, hqW]) ((hd_of hqW hr (tw := none) (jw := none) (ww := false) (by simp [hdP, finP, tellP, setR, setReg]) (by simp [hdP, finP, tellP, setR, setReg]) (by simp [hdP, finP, tellP, setR, setReg])).trans ?_) rfl rfl
   rw [updN_eq (f := (hdP W P).tw) (by simp [hdP, e])]
set_option maxHeartbeats 1000000 in
theorem work_5 (pk : PoolOk W Q b J) (h : I1 W b J B γ P) (hq : q < γ.nW) (e : (P.rs (q + 1)).pos = 5) (hc : canP (poolS W Q b J) P (fun j => (pqW 5).getD j 0) = true) : StepOk W b J B γ P (stepP (poolS W Q b J) P (q + 1) (fun j => (pqW 5).getD j 0)) := by
 have hle := h.cb.nle
 have hqW : q < W := by omega
 have hprog := (h.vw.w q hq).1
 have hpos := cw_pos hq e
 have hw2 := pk.w2
 obtain ⟨q1, q2, q3, q4, q5, q6, q7, q8, q9, q10, q11, q12, q13, q14, q15, q16⟩ := h.gn
 have e1 : stepP (poolS W Q b J) P (q + 1) (fun j => (pqW 5).getD j 0) = finP P (q + 1) (P.rs (q + 1)) 0 ⟨(q + 1 : Nat), 4, 0, 0, false⟩ := by rw [st_jump rfl]; rfl
 rw [e1]
 have hr : ∀ j, j ≠ q + 1 → (finP P (q + 1) (P.rs (q + 1)) 0 ⟨(q + 1 : Nat), 4, 0, 0, false⟩).1.rs j = P.rs j := fun j hj => by simp [finP, tellP, setR, hj]
 have hkp : ((finP P (q + 1) (P.rs (q + 1)) 0 ⟨(q + 1 : Nat), 4, 0, 0, false⟩).1.rs (q + 1)).pos = 0 := by simp [finP, tellP, setR]
 have hkg : ((finP P (q + 1) (P.rs (q + 1)) 0 ⟨(q + 1 : Nat), 4, 0, 0, false⟩).1.rs (q + 1)).prog = 1 := by simp [finP, tellP, setR, setReg, hprog]
 have m0 := cw_move (P := P) (P' := (finP P (q + 1) (P.rs (q + 1)) 0 ⟨(q + 1 : Nat), 4, 0, 0, false⟩).1) 0 (q0 := q) (fun q' hq' => by rw [hr _ (by omega)]) γ.nW hq
 have m1 := cw_move (P := P) (P' := (finP P (q + 1) (P.rs (q + 1)) 0 ⟨(q + 1 : Nat), 4, 0, 0, false⟩).1) 1 (q0 := q) (fun q' hq' => by rw [hr _ (by omega)]) γ.nW hq
 have m2 := cw_move (P := P) (P' := (finP P (q + 1) (P.rs (q + 1)) 0 ⟨(q + 1 : Nat), 4, 0, 0, false⟩).1) 2 (q0 := q) (fun q' hq' => by rw [hr _ (by omega)]) γ.nW hq
 have m3 := cw_move (P := P) (P' := (finP P (q + 1) (P.rs (q + 1)) 0 ⟨(q + 1 : Nat), 4, 0, 0, false⟩).1) 3 (q0 := q) (fun q' hq' => by rw [hr _ (by omega)]) γ.nW hq
 have m4 := cw_move (P := P) (P' := (finP P (q + 1) (P.rs (q + 1)) 0 ⟨(q + 1 : Nat), 4, 0, 0, false⟩).1) 4 (q0 := q) (fun q' hq' => by rw [hr _ (by omega)]) γ.nW hq
 have m5 := cw_move (P := P) (P' := (finP P (q + 1) (P.rs (q + 1)) 0 ⟨(q + 1 : Nat), 4, 0, 0, false⟩).1) 5 (q0 := q) (fun q' hq' => by rw [hr _ (by omega)]) γ.nW hq
 have m6 := cw_move (P := P) (P' := (finP P (q + 1) (P.rs (q + 1)) 0 ⟨(q + 1 : Nat), 4, 0, 0, false⟩).1) 6 (q0 := q) (fun q' hq' => by rw [hr _ (by omega)]) γ.nW hq
 have m7 := cw_move (P := P) (P' := (finP P (q + 1) (P.rs (q + 1)) 0 ⟨(q + 1 : Nat), 4, 0, 0, false⟩).1) 7 (q0 := q) (fun q' hq' => by rw [hr _ (by omega)]) γ.nW hq
 have m8 := cw_move (P := P) (P' := (finP P (q + 1) (P.rs (q + 1)) 0 ⟨(q + 1 : Nat), 4, 0, 0, false⟩).1) 8 (q0 := q) (fun q' hq' => by rw [hr _ (by omega)]) γ.nW hq
 rw [e, hkp] at m0 m1 m2 m3 m4 m5 m6 m7 m8
 rw [if_neg (show ¬ (5 = 0) by decide), if_pos rfl] at m0
 rw [if_neg (show ¬ (5 = 1) by decide), if_neg (show ¬ (0 = 1) by decide)] at m1
 rw [if_neg (show ¬ (5 = 2) by decide), if_neg (show ¬ (0 = 2) by decide)] at m2
 rw [if_neg (show ¬ (5 = 3) by decide), if_neg (show ¬ (0 = 3) by decide)] at m3
 rw [if_neg (show ¬ (5 = 4) by decide), if_neg (show ¬ (0 = 4) by decide)] at m4
 rw [if_pos rfl, if_neg (show ¬ (0 = 5) by decide)] at m5
 rw [if_neg (show ¬ (5 = 6) by decide), if_neg (show ¬ (0 = 6) by decide)] at m6
 rw [if_neg (show ¬ (5 = 7) by decide), if_neg (show ¬ (0 = 7) by decide)] at m7
 rw [if_neg (show ¬ (5 = 8) by decide), if_neg (show ¬ (0 = 8) by decide)] at m8
 refine ⟨rfl, γ, ⟨h.vw.work hq hle hkg (by rw [hkp]; decide) hr rfl, by rw [hr 0 (by omega)]; exact h.cb, by rw [hr (W + 1) (by omega)]; exact h.fd, ?_⟩, ?_⟩
 · show GN W J B _ _ _ _ (cw (finP P (q + 1) (P.rs (q + 1)) 0 ⟨(q + 1 : Nat), 4, 0, 0, false⟩).1 γ.nW) _ _ _ _ _ _ _ _
   rw [hr 0 (by omega), hr (W + 1) (by omega), hr (W + 2) (by omega)]
   generalize cw (finP P (q + 1) (P.rs (q + 1)) 0 ⟨(q + 1 : Nat), 4, 0, 0, false⟩).1 γ.nW = n' at m0 m1 m2 m3 m4 m5 m6 m7 m8 ⊢
   generalize cw P γ.nW = n at *
   simp only [finP, tellP, setR, setReg, updI, updN, if_true, if_false, List.length_append, List.length_singleton, show ¬ (0 = 1) by decide, show ¬ (2 = 1) by decide, show ¬ (0 = 2) by decide, show ¬ (1 = 2) by decide, show ¬ (1 = 0) by decide, show ¬ (2 = 0) by decide]
   refine ⟨?_, ?_, ?_, ?_, ?_, ?_, ?_, ?_, ?_, ?_, ?_, ?_, ?_, ?_, ?_, ?_⟩
   · clear q2 q3 q4 q5 q6 q7 q8 q9 q10 q11 q12 q13 q14 q15 q16; try dsimp only
     first | exact q1 | omega | simpa using q1 | simp
   · clear q1 q3 q4 q5 q6 q7 q8 q9 q10 q11 q12 q13 q14 q15 q16; try dsimp only
     first | exact q2 | omega | simpa using q2 | simp
   · clear q1 q2 q4 q5 q6 q7 q8 q9 q10 q11 q12 q13 q14 q15 q16; try dsimp only
     first | exact q3 | omega | simpa using q3 | simp
   · clear q1 q2 q3 q5 q6 q7 q8 q9 q10 q11 q12 q13 q14 q15 q16; try dsimp only
     first | exact q4 | omega | simpa using q4 | simp
   · clear q1 q2 q3 q4 q6 q7 q8 q9 q10 q11 q12 q13 q14 q15 q16; try dsimp only
     first | exact q5 | omega | simpa using q5 | simp
   · clear q1 q2 q3 q4 q5 q7 q8 q9 q10 q11 q12 q13 q14 q15 q16; try dsimp only
     first | exact q6 | omega | simpa using q6 | simp
   · clear q1 q2 q3 q4 q5 q6 q8 q9 q10 q11 q12 q13 q14 q15 q16; try dsimp only
     first | exact q7 | omega | simpa using q7 | simp
   · clear q1 q2 q3 q4 q5 q6 q7 q9 q10 q11 q12 q13 q14 q15 q16; try dsimp only
     first | exact q8 | omega | simpa using q8 | simp
   · clear q1 q2 q3 q4 q5 q6 q7 q8 q10 q11 q12 q13 q14 q15 q16; try dsimp only
     first | exact q9 | omega | simpa using q9 | simp
   · clear q1 q2 q3 q4 q5 q6 q7 q8 q9 q11 q12 q13 q14 q15 q16; try dsimp only
     first | exact q10 | omega | simpa using q10 | simp
   · clear q1 q2 q3 q4 q5 q6 q7 q8 q9 q10 q12 q13 q14 q15 q16; try dsimp only
     first | exact q11 | omega | simpa using q11 | simp
   · clear q2 q3 q4 q5 q6 q7 q8 q9 q10 q11 q13 q14 q15 q16; try dsimp only
     first | exact q12 | omega | simpa using q12 | simp
   · clear q1 q2 q3 q4 q5 q6 q7 q8 q9 q10 q11 q12 q14 q15 q16; try dsimp only
     first | exact q13 | omega | simpa using q13 | simp
   · clear q1 q2 q3 q4 q5 q6 q7 q8 q9 q10 q11 q12 q13 q15 q16; try dsimp only
     first | exact q14 | omega | simpa using q14 | simp
   · clear q1 q2 q3 q4 q5 q6 q7 q8 q9 q10 q11 q12 q13 q14 q16; try dsimp only
     first | exact q15 | omega | simpa using q15 | simp
   · clear q1 q2 q3 q4 q5 q6 q7 q8 q9 q10 q11 q12 q13 q14 q15; try dsimp only
     first | exact q16 | omega | simpa using q16 | simp
 · exact .silent _ rfl (by simp) (by simp) (by simp) (by simp) (fun h => by first | rfl | simp at h) rfl rfl ((hd_of hqW hr (tw := none) (jw := none) (ww := false) (by simp [hdP, finP, tellP, setR, setReg]) (by simp [hdP, finP, tellP, setR, setReg]) (by simp [hdP, finP, tellP, setR, setReg])).trans (by rw [updN_eq (f := (hdP W P).tw) (by simp [hdP, e]), updN_eq (f := (hdP W P).jw) (by simp [hdP, e]), updN_eq (f := (hdP W P).ww) (by simp [hdP, e])])) rfl rfl
set_option maxHeartbeats 1000000 in
theorem work_6 (pk : PoolOk W Q b J) (h : I1 W b J B γ P) (hq : q < γ.nW) (e : (P.rs (q + 1)).pos = 6) (hc : canP (poolS W Q b J) P (fun j => (pqW 6).getD j 0) = true) : StepOk W b J B γ P (stepP (poolS W Q b J) P (q + 1) (fun j => (pqW 6).getD j 0)) := by
 have hle := h.cb.nle
 have hqW : q < W := by omega
 have hprog := (h.vw.w q hq).1
 have hpos := cw_pos hq e
 have hw2 := pk.w2
 obtain ⟨q1, q2, q3, q4, q5, q6, q7, q8, q9, q10, q11, q12, q13, q14, q15, q16⟩ := h.gn
 have hg : 1 ≤ P.gr 0 ∧ P.gr 0 ≤ 300 := by
   by_cases h6 : (P.rs 0).pos = 6
   · have := q10 h6; omega
   · have := q11 h6; omega
 have e0 : IntKind.i64.wrap (P.gr 0 + -1) = P.gr 0 - 1 := by rw [wrap_small (by omega) (by omega)]; omega
 have e1 : stepP (poolS W Q b J) P (q + 1) (fun j => (pqW 6).getD j 0) = finP { P with gr := updI P.gr 0 (P.gr 0 - 1) } (q + 1) (P.rs (q + 1)) 7 ⟨(q + 1 : Nat), 10, 0, (P.gr 0 - 1), false⟩ := by 
   rw [st_add (S := poolS W Q b J) (P := P) (k := q + 1) (f := fun j => (pqW 6).getD j 0) rfl (by show 0 ≤ IntKind.i64.wrap (P.gr 0 + -1); rw [e0]; omega)]
   show finP { P with gr := updI P.gr 0 (IntKind.i64.wrap (P.gr 0 + -1)) } (q + 1) (P.rs (q + 1)) ((P.rs (q + 1)).pos + 1) ⟨(q + 1 : Nat), 10, 0, IntKind.i64.wrap (P.gr 0 + -1), false⟩ = _
   rw [e0, e]
 rw [e1]
 have hr : ∀ j, j ≠ q + 1 → (finP { P with gr := updI P.gr 0 (P.gr 0 - 1) } (q + 1) (P.rs (q + 1)) 7 ⟨(q + 1 : Nat), 10, 0, (P.gr 0 - 1), false⟩).1.rs j = P.rs j := fun j hj => by simp [finP, tellP, setR, hj]
 have hkp : ((finP { P with gr := updI P.gr 0 (P.gr 0 - 1) } (q + 1) (P.rs (q + 1)) 7 ⟨(q + 1 : Nat), 10, 0, (P.gr 0 - 1), false⟩).1.rs (q + 1)).pos = 7 := by simp [finP, tellP, setR]
 have hkg : ((finP { P with gr := updI P.gr 0 (P.gr 0 - 1) } (q + 1) (P.rs (q + 1)) 7 ⟨(q + 1 : Nat), 10, 0, (P.gr 0 - 1), false⟩).1.rs (q + 1)).prog = 1 := by simp [finP, tellP, setR, setReg, hprog]
 have m0 := cw_move (P := P) (P' := (finP { P with gr := updI P.gr 0 (P.gr 0 - 1) } (q + 1) (P.rs (q + 1)) 7 ⟨(q + 1 : Nat), 10, 0, (P.gr 0 - 1), false⟩).1) 0 (q0 := q) (fun q' hq' => by rw [hr _ (by omega)]) γ.nW hq
 have m1 := cw_move (P := P) (P' := (finP { P with gr := updI P.gr 0 (P.gr 0 - 1) } (q + 1) (P.rs (q + 1)) 7 ⟨(q + 1 : Nat), 10, 0, (P.gr 0 - 1), false⟩).1) 1 (q0 := q) (fun q' hq' => by rw [hr _ (by omega)]) γ.nW hq
 have m2 := cw_move (P := P) (P' := (finP { P with gr := updI P.gr 0 (P.gr 0 - 1) } (q + 1) (P.rs (q + 1)) 7 ⟨(q + 1 : Nat), 10, 0, (P.gr 0 - 1), false⟩).1) 2 (q0 := q) (fun q' hq' => by rw [hr _ (by omega)]) γ.nW hq
 have m3 := cw_move (P := P) (P' := (finP { P with gr := updI P.gr 0 (P.gr 0 - 1) } (q + 1) (P.rs (q + 1)) 7 ⟨(q + 1 : Nat), 10, 0, (P.gr 0 - 1), false⟩).1) 3 (q0 := q) (fun q' hq' => by rw [hr _ (by omega)]) γ.nW hq
 have m4 := cw_move (P := P) (P' := (finP { P with gr := updI P.gr 0 (P.gr 0 - 1) } (q + 1) (P.rs (q + 1)) 7 ⟨(q + 1 : Nat), 10, 0, (P.gr 0 - 1), false⟩).1) 4 (q0 := q) (fun q' hq' => by rw [hr _ (by omega)]) γ.nW hq
 have m5 := cw_move (P := P) (P' := (finP { P with gr := updI P.gr 0 (P.gr 0 - 1) } (q + 1) (P.rs (q + 1)) 7 ⟨(q + 1 : Nat), 10, 0, (P.gr 0 - 1), false⟩).1) 5 (q0 := q) (fun q' hq' => by rw [hr _ (by omega)]) γ.nW hq
 have m6 := cw_move (P := P) (P' := (finP { P with gr := updI P.gr 0 (P.gr 0 - 1) } (q + 1) (P.rs (q + 1)) 7 ⟨(q + 1 : Nat), 10, 0, (P.gr 0 - 1), false⟩).1) 6 (q0 := q) (fun q' hq' => by rw [hr _ (by omega)]) γ.nW hq
 have m7 := cw_move (P := P) (P' := (finP { P with gr := updI P.gr 0 (P.gr 0 - 1) } (q + 1) (P.rs (q + 1)) 7 ⟨(q + 1 : Nat), 10, 0, (P.gr 0 - 1), false⟩).1) 7 (q0 := q) (fun q' hq' => by rw [hr _ (by omega)]) γ.nW hq
 have m8 := cw_move (P := P) (P' := (finP { P with gr := updI P.gr 0 (P.gr 0 - 1) } (q + 1) (P.rs (q + 1)) 7 ⟨(q + 1 : Nat), 10, 0, (P.gr 0 - 1), false⟩).1) 8 (q0 := q) (fun q' hq' => by rw [hr _ (by omega)]) γ.nW hq
 rw [e, hkp] at m0 m1 m2 m3 m4 m5 m6 m7 m8
 rw [if_neg (show ¬ (6 = 0) by decide), if_neg (show ¬ (7 = 0) by decide)] at m0
 rw [if_neg (show ¬ (6 = 1) by decide), if_neg (show ¬ (7 = 1) by decide)] at m1
 rw [if_neg (show ¬ (6 = 2) by decide), if_neg (show ¬ (7 = 2) by decide)] at m2
 rw [if_neg (show ¬ (6 = 3) by decide), if_neg (show ¬ (7 = 3) by decide)] at m3
 rw [if_neg (show ¬ (6 = 4) by decide), if_neg (show ¬ (7 = 4) by decide)] at m4
 rw [if_neg (show ¬ (6 = 5) by decide), if_neg (show ¬ (7 = 5) by decide)] at m5
 rw [if_pos rfl, if_neg (show ¬ (7 = 6) by decide)] at m6
 rw [if_neg (show ¬ (6 = 7) by decide), if_pos rfl] at m7
 rw [if_neg (show ¬ (6 = 8) by decide), if_neg (show ¬ (7 = 8) by decide)] at m8
 refine ⟨rfl, γ, ⟨h.vw.work hq hle hkg (by rw [hkp]; decide) hr rfl, by rw [hr 0 (by omega)]; exact h.cb, by rw [hr (W + 1) (by omega)]; exact h.fd, ?_⟩, ?_⟩
 · show GN W J B _ _ _ _ (cw (finP { P with gr := updI P.gr 0 (P.gr 0 - 1) } (q + 1) (P.rs (q + 1)) 7 ⟨(q + 1 : Nat), 10, 0, (P.gr 0 - 1), false⟩).1 γ.nW) _ _ _ _ _ _ _ _
   rw [hr 0 (by omega), hr (W + 1) (by omega), hr (W + 2) (by omega)]
   generalize cw (finP { P with gr := updI P.gr 0 (P.gr 0 - 1) } (q + 1) (P.rs (q + 1)) 7 ⟨(q + 1 : Nat), 10, 0, (P.gr 0 - 1), false⟩).1 γ.nW = n' at m0 m1 m2 m3 m4 m5 m6 m7 m8 ⊢
   generalize cw P γ.nW = n at *
   simp only [finP, tellP, setR, setReg, updI, updN, if_true, if_false, List.length_append, List.length_singleton, show ¬ (0 = 1) by decide, show ¬ (2 = 1) by decide, show ¬ (0 = 2) by decide, show ¬ (1 = 2) by decide, show ¬ (1 = 0) by decide, show ¬ (2 = 0) by decide]
   refine ⟨?_, ?_, ?_, ?_, ?_, ?_, ?_, ?_, ?_, ?_, ?_, ?_, ?_, ?_, ?_, ?_⟩
   · clear q2 q3 q4 q5 q6 q7 q8 q9 q10 q11 q12 q13 q14 q15 q16; try dsimp only
     first | exact q1 | omega | simpa using q1 | simp
   · clear q1 q3 q4 q5 q6 q7 q8 q9 q10 q11 q12 q13 q14 q15 q16; try dsimp only
     first | exact q2 | omega | simpa using q2 | simp
   · clear q1 q2 q4 q5 q6 q7 q8 q9 q10 q11 q12 q13 q14 q15 q16; try dsimp only
     first | exact q3 | omega | simpa using q3 | simp
   · clear q1 q2 q3 q5 q6 q7 q8 q9 q10 q11 q12 q13 q14 q15 q16; try dsimp only
     first | exact q4 | omega | simpa using q4 | simp
   · clear q1 q2 q3 q4 q6 q7 q8 q9 q10 q11 q12 q13 q14 q15 q16; try dsimp only
     first | exact q5 | omega | simpa using q5 | simp
   · clear q1 q2 q3 q4 q5 q7 q8 q9 q10 q11 q12 q13 q14 q15 q16; try dsimp only
     first | exact q6 | omega | simpa using q6 | simp
   · clear q1 q2 q3 q4 q5 q6 q8 q9 q10 q11 q12 q13 q14 q15 q16; try dsimp only
     first | exact q7 | omega | simpa using q7 | simp
   · clear q1 q2 q3 q4 q5 q6 q7 q9 q10 q11 q12 q13 q14 q15 q16; try dsimp only
     first | exact q8 | omega | simpa using q8 | simp
   · clear q1 q2 q3 q4 q5 q6 q7 q8 q10 q11 q12 q13 q14 q15 q16; try dsimp only
     first | exact q9 | omega | simpa using q9 | simp
   · clear q1 q2 q3 q4 q5 q6 q7 q8 q9 q11 q12 q13 q14 q15 q16; try dsimp only
     first | exact q10 | omega | simpa using q10 | simp
   · clear q1 q2 q3 q4 q5 q6 q7 q8 q9 q10 q12 q13 q14 q15 q16; try dsimp only
     first | exact q11 | omega | simpa using q11 | simp
   · clear q2 q3 q4 q5 q6 q7 q8 q9 q10 q11 q13 q14 q15 q16; try dsimp only
     first | exact q12 | omega | simpa using q12 | simp
   · clear q1 q2 q3 q4 q5 q6 q7 q8 q9 q10 q11 q12 q14 q15 q16; try dsimp only
     first | exact q13 | omega | simpa using q13 | simp
   · clear q1 q2 q3 q4 q5 q6 q7 q8 q9 q10 q11 q12 q13 q15 q16; try dsimp only
     first | exact q14 | omega | simpa using q14 | simp
   · clear q1 q2 q3 q4 q5 q6 q7 q8 q9 q10 q11 q12 q13 q14 q16; try dsimp only
     first | exact q15 | omega | simpa using q15 | simp
   · clear q1 q2 q3 q4 q5 q6 q7 q8 q9 q10 q11 q12 q13 q14 q15; try dsimp only
     first | exact q16 | omega | simpa using q16 | simp
 · exact .silent _ rfl (by simp) (by simp) (by simp) (by simp) (fun h => by first | rfl | simp at h) rfl rfl ((hd_of hqW hr (tw := none) (jw := none) (ww := false) (by simp [hdP, finP, tellP, setR, setReg]) (by simp [hdP, finP, tellP, setR, setReg]) (by simp [hdP, finP, tellP, setR, setReg])).trans (by rw [updN_eq (f := (hdP W P).tw) (by simp [hdP, e]), updN_eq (f := (hdP W P).jw) (by simp [hdP, e]), updN_eq (f := (hdP W P).ww) (by simp [hdP, e])])) rfl rfl
set_option maxHeartbeats 1000000 in
theorem work_7 (pk : PoolOk W Q b J) (h : I1 W b J B γ P) (hq : q < γ.nW) (e : (P.rs (q + 1)).pos = 7) (hc : canP (poolS W Q b J) P (fun j => (pqW 7).getD j 0) = true) : StepOk W b J B γ P (stepP (poolS W Q b J) P (q + 1) (fun j => (pqW 7).getD j 0)) := by
 have hle := h.cb.nle
 have hqW : q < W := by omega
 have hprog := (h.vw.w q hq).1
 have hpos := cw_pos hq e
 have hw2 := pk.w2
 obtain ⟨q1, q2, q3, q4, q5, q6, q7, q8, q9, q10, q11, q12, q13, q14, q15, q16⟩ := h.gn
 have e1 : stepP (poolS W Q b J) P (q + 1) (fun j => (pqW 7).getD j 0) = finP P (q + 1) (P.rs (q + 1)) 8 ⟨(q + 1 : Nat), 16, 0, 0, false⟩ := by rw [st_end rfl, hprog]; rfl
 rw [e1]
 have hr : ∀ j, j ≠ q + 1 → (finP P (q + 1) (P.rs (q + 1)) 8 ⟨(q + 1 : Nat), 16, 0, 0, false⟩).1.rs j = P.rs j := fun j hj => by simp [finP, tellP, setR, hj]
 have hkp : ((finP P (q + 1) (P.rs (q + 1)) 8 ⟨(q + 1 : Nat), 16, 0, 0, false⟩).1.rs (q + 1)).pos = 8 := by simp [finP, tellP, setR]
 have hkg : ((finP P (q + 1) (P.rs (q + 1)) 8 ⟨(q + 1 : Nat), 16, 0, 0, false⟩).1.rs (q + 1)).prog = 1 := by simp [finP, tellP, setR, setReg, hprog]
 have m0 := cw_move (P := P) (P' := (finP P (q + 1) (P.rs (q + 1)) 8 ⟨(q + 1 : Nat), 16, 0, 0, false⟩).1) 0 (q0 := q) (fun q' hq' => by rw [hr _ (by omega)]) γ.nW hq
 have m1 := cw_move (P := P) (P' := (finP P (q + 1) (P.rs (q + 1)) 8 ⟨(q + 1 : Nat), 16, 0, 0, false⟩).1) 1 (q0 := q) (fun q' hq' => by rw [hr _ (by omega)]) γ.nW hq
 have m2 := cw_move (P := P) (P' := (finP P (q + 1) (P.rs (q + 1)) 8 ⟨(q + 1 : Nat), 16, 0, 0, false⟩).1) 2 (q0 := q) (fun q' hq' => by rw [hr _ (by omega)]) γ.nW hq
 have m3 := cw_move (P := P) (P' := (finP P (q + 1) (P.rs (q + 1)) 8 ⟨(q + 1 : Nat), 16, 0, 0, false⟩).1) 3 (q0 := q) (fun q' hq' => by rw [hr _ (by omega)]) γ.nW hq
 have m4 := cw_move (P := P) (P' := (finP P (q + 1) (P.rs (q + 1)) 8 ⟨(q + 1 : Nat), 16, 0, 0, false⟩).1) 4 (q0 := q) (fun q' hq' => by rw [hr _ (by omega)]) γ.nW hq
 have m5 := cw_move (P := P) (P' := (finP P (q + 1) (P.rs (q + 1)) 8 ⟨(q + 1 : Nat), 16, 0, 0, false⟩).1) 5 (q0 := q) (fun q' hq' => by rw [hr _ (by omega)]) γ.nW hq
 have m6 := cw_move (P := P) (P' := (finP P (q + 1) (P.rs (q + 1)) 8 ⟨(q + 1 : Nat), 16, 0, 0, false⟩).1) 6 (q0 := q) (fun q' hq' => by rw [hr _ (by omega)]) γ.nW hq
 have m7 := cw_move (P := P) (P' := (finP P (q + 1) (P.rs (q + 1)) 8 ⟨(q + 1 : Nat), 16, 0, 0, false⟩).1) 7 (q0 := q) (fun q' hq' => by rw [hr _ (by omega)]) γ.nW hq
 have m8 := cw_move (P := P) (P' := (finP P (q + 1) (P.rs (q + 1)) 8 ⟨(q + 1 : Nat), 16, 0, 0, false⟩).1) 8 (q0 := q) (fun q' hq' => by rw [hr _ (by omega)]) γ.nW hq
 rw [e, hkp] at m0 m1 m2 m3 m4 m5 m6 m7 m8
 rw [if_neg (show ¬ (7 = 0) by decide), if_neg (show ¬ (8 = 0) by decide)] at m0
 rw [if_neg (show ¬ (7 = 1) by decide), if_neg (show ¬ (8 = 1) by decide)] at m1
 rw [if_neg (show ¬ (7 = 2) by decide), if_neg (show ¬ (8 = 2) by decide)] at m2
 rw [if_neg (show ¬ (7 = 3) by decide), if_neg (show ¬ (8 = 3) by decide)] at m3
 rw [if_neg (show ¬ (7 = 4) by decide), if_neg (show ¬ (8 = 4) by decide)] at m4
 rw [if_neg (show ¬ (7 = 5) by decide), if_neg (show ¬ (8 = 5) by decide)] at m5
 rw [if_neg (show ¬ (7 = 6) by decide), if_neg (show ¬ (8 = 6) by decide)] at m6
 rw [if_pos rfl, if_neg (show ¬ (8 = 7) by decide)] at m7
 rw [if_neg (show ¬ (7 = 8) by decide), if_pos rfl] at m8
 refine ⟨rfl, γ, ⟨h.vw.work hq hle hkg (by rw [hkp]; decide) hr rfl, by rw [hr 0 (by omega)]; exact h.cb, by rw [hr (W + 1) (by omega)]; exact h.fd, ?_⟩, ?_⟩
 · show GN W J B _ _ _ _ (cw (finP P (q + 1) (P.rs (q + 1)) 8 ⟨(q + 1 : Nat), 16, 0, 0, false⟩).1 γ.nW) _ _ _ _ _ _ _ _
   rw [hr 0 (by omega), hr (W + 1) (by omega), hr (W + 2) (by omega)]
   generalize cw (finP P (q + 1) (P.rs (q + 1)) 8 ⟨(q + 1 : Nat), 16, 0, 0, false⟩).1 γ.nW = n' at m0 m1 m2 m3 m4 m5 m6 m7 m8 ⊢
   generalize cw P γ.nW = n at *
   simp only [finP, tellP, setR, setReg, updI, updN, if_true, if_false, List.length_append, List.length_singleton, show ¬ (0 = 1) by decide, show ¬ (2 = 1) by decide, show ¬ (0 = 2) by decide, show ¬ (1 = 2) by decide, show ¬ (1 = 0) by decide, show ¬ (2 = 0) by decide]
   refine ⟨?_, ?_, ?_, ?_, ?_, ?_, ?_, ?_, ?_, ?_, ?_, ?_, ?_, ?_, ?_, ?_⟩
   · clear q2 q3 q4 q5 q6 q7 q8 q9 q10 q11 q12 q13 q14 q15 q16; try dsimp only
     first | exact q1 | omega | simpa using q1 | simp
   · clear q1 q3 q4 q5 q6 q7 q8 q9 q10 q11 q12 q13 q14 q15 q16; try dsimp only
     first | exact q2 | omega | simpa using q2 | simp
   · clear q1 q2 q4 q5 q6 q7 q8 q9 q10 q11 q12 q13 q14 q15 q16; try dsimp only
     first | exact q3 | omega | simpa using q3 | simp
   · clear q1 q2 q3 q5 q6 q7 q8 q9 q10 q11 q12 q13 q14 q15 q16; try dsimp only
     first | exact q4 | omega | simpa using q4 | simp
   · clear q1 q2 q3 q4 q6 q7 q8 q9 q10 q11 q12 q13 q14 q15 q16; try dsimp only
     first | exact q5 | omega | simpa using q5 | simp
   · clear q1 q2 q3 q4 q5 q7 q8 q9 q10 q11 q12 q13 q14 q15 q16; try dsimp only
     first | exact q6 | omega | simpa using q6 | simp
   · clear q1 q2 q3 q4 q5 q6 q8 q9 q10 q11 q12 q13 q14 q15 q16; try dsimp only
     first | exact q7 | omega | simpa using q7 | simp
   · clear q1 q2 q3 q4 q5 q6 q7 q9 q10 q11 q12 q13 q14 q15 q16; try dsimp only
     first | exact q8 | omega | simpa using q8 | simp
   · clear q1 q2 q3 q4 q5 q6 q7 q8 q10 q11 q12 q13 q14 q15 q16; try dsimp only
     first | exact q9 | omega | simpa using q9 | simp
   · clear q1 q2 q3 q4 q5 q6 q7 q8 q9 q11 q12 q13 q14 q15 q16; try dsimp only
     first | exact q10 | omega | simpa using q10 | simp
   · clear q1 q2 q3 q4 q5 q6 q7 q8 q9 q10 q12 q13 q14 q15 q16; try dsimp only
     first | exact q11 | omega | simpa using q11 | simp
   · clear q2 q3 q4 q5 q6 q7 q8 q9 q10 q11 q13 q14 q15 q16; try dsimp only
     first | exact q12 | omega | simpa using q12 | simp
   · clear q1 q2 q3 q4 q5 q6 q7 q8 q9 q10 q11 q12 q14 q15 q16; try dsimp only
     first | exact q13 | omega | simpa using q13 | simp
   · clear q1 q2 q3 q4 q5 q6 q7 q8 q9 q10 q11 q12 q13 q15 q16; try dsimp only
     first | exact q14 | omega | simpa using q14 | simp
   · clear q1 q2 q3 q4 q5 q6 q7 q8 q9 q10 q11 q12 q13 q14 q16; try dsimp only
     first | exact q15 | omega | simpa using q15 | simp
   · clear q1 q2 q3 q4 q5 q6 q7 q8 q9 q10 q11 q12 q13 q14 q15; try dsimp only
     first | exact q16 | omega | simpa using q16 | simp
 · exact .silent _ rfl (by simp) (by simp) (by simp) (by simp) (fun h => by first | rfl | simp at h) rfl rfl ((hd_of hqW hr (tw := none) (jw := none) (ww := false) (by simp [hdP, finP, tellP, setR, setReg]) (by simp [hdP, finP, tellP, setR, setReg]) (by simp [hdP, finP, tellP, setR, setReg])).trans (by rw [updN_eq (f := (hdP W P).tw) (by simp [hdP, e]), updN_eq (f := (hdP W P).jw) (by simp [hdP, e]), updN_eq (f := (hdP W P).ww) (by simp [hdP, e])])) rfl rfl
theorem step_work (pk : PoolOk W Q b J) (h : I1 W b J B γ P) (hq : q < γ.nW) (hf : instP (poolS W Q b J) (P.rs (q + 1)) = some f) (hc : canP (poolS W Q b J) P f = true) : StepOk W b J B γ P (stepP (poolS W Q b J) P (q + 1) f) := by
 obtain ⟨hp, rfl⟩ := inst_of hf
 rw [(h.vw.w q hq).1] at hp hc ⊢
 have hp' : (P.rs (q + 1)).pos < 8 := hp
 have hn : ∀ pc, (P.rs (q + 1)).pos = pc → (poolS W Q b J).q 1 (P.rs (q + 1)).pos = fun j => (pqW pc).getD j 0 := fun pc e => by rw [e]; rfl
 have hcase : (P.rs (q + 1)).pos = 0 ∨ (P.rs (q + 1)).pos = 1 ∨ (P.rs (q + 1)).pos = 2 ∨ (P.rs (q + 1)).pos = 3 ∨ (P.rs (q + 1)).pos = 4 ∨ (P.rs (q + 1)).pos = 5 ∨ (P.rs (q + 1)).pos = 6 ∨ (P.rs (q + 1)).pos = 7 := by omega
 rcases hcase with e | e | e | e | e | e | e | e <;> rw [hn _ e] at hc ⊢
 · exact work_0 pk h hq e hc
 · exact work_1 pk h hq e hc
 · exact work_2 pk h hq e hc
 · exact work_3 pk h hq e hc
 · exact work_4 pk h hq e hc
 · exact work_5 pk h hq e hc
 · exact work_6 pk h hq e hc
 · exact work_7 pk h hq e hc
theorem step_pool {k : Nat} (pk : PoolOk W Q b J) (h : I1 W b J B γ P) (hk : k < P.n) (hf : instP (poolS W Q b J) (P.rs k) = some f) (hc : canP (poolS W Q b J) P f = true) : StepOk W b J B γ P (stepP (poolS W Q b J) P k f) := by
 have hle := h.cb.nle
 by_cases h0 : k = 0
 · subst h0; exact step_comb pk h hf hc
 obtain ⟨r, rfl⟩ : ∃ r, k = r + 1 := ⟨k - 1, by omega⟩
 by_cases hr : r < γ.nW
 · exact step_work pk h hr hf hc
 · by_cases h9 : (P.rs 0).pos ≤ 9
   · have := h.vw.n9 h9; omega
   · have hnW := h.cb.nw (by omega)
     by_cases h10 : (P.rs 0).pos = 10
     · have := h.vw.n10 h10
       obtain rfl : r = W := by omega
       exact step_feed pk h (by omega) hf hc
     · have := h.vw.n11 (by omega)
       by_cases hW : r = W
       · subst hW; exact step_feed pk h (by omega) hf hc
       · obtain rfl : r = W + 1 := by omega
         exact step_clos pk h (by omega) hf hc
end
open Go.RowKit
theorem ended_iff (S : Sys) (P : PW) : ∀ m, endedN S P m = true ↔ ∀ k, k < m → instP S (P.rs k) = none
 | 0 => by simp [endedN]
 | m + 1 => by
   rw [endedN, Bool.and_eq_true, ended_iff S P m, Option.isNone_iff_eq_none]
   constructor
   · rintro ⟨h1, h2⟩ k hk
     by_cases e : k = m
     · subst e; exact h2
     · exact h1 k (by omega)
   · exact fun h => ⟨fun k hk => h k (by omega), h m (by omega)⟩
theorem ready_nil (S : Sys) (P : PW) : ∀ m, readyN S P m = [] → ∀ k, k < m → ∀ f, instP S (P.rs k) = some f → canP S P f = false
 | 0, _, k, hk, _, _ => by omega
 | m + 1, h, k, hk, f, hf => by
   rw [readyN, List.append_eq_nil_iff] at h
   by_cases e : k = m
   · subst e
     have h2 := h.2
     rw [hf] at h2
     simp only at h2
     cases hc : canP S P f with
     | false => rfl
     | true => rw [hc] at h2; simp at h2
   · exact ready_nil S P m h.1 k (by omega) f hf
section
variable {W Q b J B : Nat} {γ : Gh} {P : PW}
theorem no_true (h : true = false) {p : Prop} : p := Bool.noConfusion h
theorem blk_comb (h : I1 W b J B γ P) (hb : ∀ f, instP (poolS W Q b J) (P.rs 0) = some f → canP (poolS W Q b J) P f = false) : ((P.rs 0).pos = 11 ∧ P.cl 1 = false ∧ P.held 1 = []) ∨ (P.rs 0).pos = 15 := by
 have hle := h.cb.le
 have hi : ∀ pc, (P.rs 0).pos = pc → pc < 15 → canP (poolS W Q b J) P (fun j => (pqC W pc).getD j 0) = false := fun pc e hp => by
   refine hb _ ?_
   unfold instP
   rw [h.vw.c, e]
   exact if_pos hp
 have hcase : (P.rs 0).pos = 0 ∨ (P.rs 0).pos = 1 ∨ (P.rs 0).pos = 2 ∨ (P.rs 0).pos = 3 ∨ (P.rs 0).pos = 4 ∨ (P.rs 0).pos = 5 ∨ (P.rs 0).pos = 6 ∨ (P.rs 0).pos = 7 ∨ (P.rs 0).pos = 8 ∨ (P.rs 0).pos = 9 ∨ (P.rs 0).pos = 10 ∨ (P.rs 0).pos = 11 ∨ (P.rs 0).pos = 12 ∨ (P.rs 0).pos = 13 ∨ (P.rs 0).pos = 14 ∨ (P.rs 0).pos = 15 := by omega
 rcases hcase with e | e | e | e | e | e | e | e | e | e | e | e | e | e | e | e
 case inr.inr.inr.inr.inr.inr.inr.inr.inr.inr.inr.inl =>
   have h1 : (P.cl 1 || decide (0 < ((P.held 1).length : Int))) = false := hi 11 e (by omega)
   rw [Bool.or_eq_false_iff, decide_eq_false_iff_not] at h1
   exact .inl ⟨e, h1.1, List.eq_nil_of_length_eq_zero (by omega)⟩
 case inr.inr.inr.inr.inr.inr.inr.inr.inr.inr.inr.inr.inr.inr.inr => exact .inr e
 all_goals exact no_true (show true = false from hi _ e (by omega))
theorem blk_work (h : I1 W b J B γ P) {q : Nat} (hq : q < γ.nW) (hb : ∀ f, instP (poolS W Q b J) (P.rs (q + 1)) = some f → canP (poolS W Q b J) P f = false) :
   ((P.rs (q + 1)).pos = 0 ∧ P.cl 0 = false ∧ P.held 0 = []) ∨ ((P.rs (q + 1)).pos = 3 ∧ b ≤ (P.held 2).length) ∨ ((P.rs (q + 1)).pos = 4 ∧ Q ≤ (P.held 1).length) ∨ (P.rs (q + 1)).pos = 8 := by
 obtain ⟨hp, hle⟩ := h.vw.w q hq
 have hi : ∀ pc, (P.rs (q + 1)).pos = pc → pc < 8 → canP (poolS W Q b J) P (fun j => (pqW pc).getD j 0) = false := fun pc e hp' => by
   refine hb _ ?_
   unfold instP
   rw [hp, e]
   exact if_pos hp'
 have hcase : (P.rs (q + 1)).pos = 0 ∨ (P.rs (q + 1)).pos = 3 ∨ (P.rs (q + 1)).pos = 4 ∨ (P.rs (q + 1)).pos = 8 ∨ (P.rs (q + 1)).pos = 1 ∨ (P.rs (q + 1)).pos = 2 ∨ (P.rs (q + 1)).pos = 5 ∨ (P.rs (q + 1)).pos = 6 ∨ (P.rs (q + 1)).pos = 7 := by omega
 rcases hcase with e | e | e | e | e | e | e | e | e
 · have h1 : (P.cl 0 || decide (0 < ((P.held 0).length : Int))) = false := hi 0 e (by omega)
   rw [Bool.or_eq_false_iff, decide_eq_false_iff_not] at h1
   exact .inl ⟨e, h1.1, List.eq_nil_of_length_eq_zero (by omega)⟩
 · have h1 : (P.cl 2 || decide (((P.held 2).length : Int) < (b : Int))) = false := hi 3 e (by omega)
   rw [Bool.or_eq_false_iff, decide_eq_false_iff_not] at h1
   exact .inr (.inl ⟨e, by omega⟩)
 · have h1 : (P.cl 1 || decide (((P.held 1).length : Int) < (Q : Int))) = false := hi 4 e (by omega)
   rw [Bool.or_eq_false_iff, decide_eq_false_iff_not] at h1
   exact .inr (.inr (.inl ⟨e, by omega⟩))
 · exact .inr (.inr (.inr e))
 all_goals exact no_true (show true = false from hi _ e (by omega))
theorem blk_feed (h : I1 W b J B γ P) (h10 : 10 ≤ (P.rs 0).pos) (hb : ∀ f, instP (poolS W Q b J) (P.rs (W + 1)) = some f → canP (poolS W Q b J) P f = false) :
   ((P.rs (W + 1)).pos = 5 ∧ b ≤ (P.held 2).length) ∨ ((P.rs (W + 1)).pos = 12 ∧ P.held 2 = []) ∨ ((P.rs (W + 1)).pos = 14 ∧ Q ≤ (P.held 0).length) ∨ (P.rs (W + 1)).pos = 19 := by
 have hle := h.fd.le
 have hi : ∀ pc, (P.rs (W + 1)).pos = pc → pc < 19 → canP (poolS W Q b J) P (fun j => (pqF b J pc).getD j 0) = false := fun pc e hp' => by
   refine hb _ ?_
   unfold instP
   rw [h.vw.f h10, e]
   exact if_pos hp'
 have hcase : (P.rs (W + 1)).pos = 5 ∨ (P.rs (W + 1)).pos = 12 ∨ (P.rs (W + 1)).pos = 14 ∨ (P.rs (W + 1)).pos = 19 ∨ (P.rs (W + 1)).pos = 0 ∨ (P.rs (W + 1)).pos = 1 ∨ (P.rs (W + 1)).pos = 2 ∨ (P.rs (W + 1)).pos = 3 ∨ (P.rs (W + 1)).pos = 4 ∨ (P.rs (W + 1)).pos = 6 ∨ (P.rs (W + 1)).pos = 7 ∨ (P.rs (W + 1)).pos = 8 ∨ (P.rs (W + 1)).pos = 9 ∨ (P.rs (W + 1)).pos = 10 ∨ (P.rs (W + 1)).pos = 11 ∨ (P.rs (W + 1)).pos = 13 ∨ (P.rs (W + 1)).pos = 15 ∨ (P.rs (W + 1)).pos = 16 ∨ (P.rs (W + 1)).pos = 17 ∨ (P.rs (W + 1)).pos = 18 := by omega
 rcases hcase with e | e | e | e | e | e | e | e | e | e | e | e | e | e | e | e | e | e | e | e
 · have h1 : (P.cl 2 || decide (((P.held 2).length : Int) < (b : Int))) = false := hi 5 e (by omega)
   rw [Bool.or_eq_false_iff, decide_eq_false_iff_not] at h1
   exact .inl ⟨e, by omega⟩
 · have h1 : (P.cl 2 || decide (0 < ((P.held 2).length : Int))) = false := hi 12 e (by omega)
   rw [Bool.or_eq_false_iff, decide_eq_false_iff_not] at h1
   exact .inr (.inl ⟨e, List.eq_nil_of_length_eq_zero (by omega)⟩)
 · have h1 : (P.cl 0 || decide (((P.held 0).length : Int) < (Q : Int))) = false := hi 14 e (by omega)
   rw [Bool.or_eq_false_iff, decide_eq_false_iff_not] at h1
   exact .inr (.inr (.inl ⟨e, by omega⟩))
 · exact .inr (.inr (.inr e))
 all_goals exact no_true (show true = false from hi _ e (by omega))
theorem blk_clos (h : I1 W b J B γ P) (h11 : 11 ≤ (P.rs 0).pos) (hb : ∀ f, instP (poolS W Q b J) (P.rs (W + 2)) = some f → canP (poolS W Q b J) P f = false) :
   ((P.rs (W + 2)).pos = 0 ∧ P.gr 0 ≠ 0) ∨ (P.rs (W + 2)).pos = 3 := by
 have hle := h.gn.k3
 have hi : ∀ pc, (P.rs (W + 2)).pos = pc → pc < 3 → canP (poolS W Q b J) P (fun j => (pqK pc).getD j 0) = false := fun pc e hp' => by
   refine hb _ ?_
   unfold instP
   rw [h.vw.k h11, e]
   exact if_pos hp'
 have hcase : (P.rs (W + 2)).pos = 0 ∨ (P.rs (W + 2)).pos = 3 ∨ (P.rs (W + 2)).pos = 1 ∨ (P.rs (W + 2)).pos = 2 := by omega
 rcases hcase with e | e | e | e
 · have h1 : decide (P.gr 0 = 0) = false := hi 0 e (by omega)
   exact .inl ⟨e, by simpa using h1⟩
 · exact .inr e
 all_goals exact no_true (show true = false from hi _ e (by omega))
structure AtEnd (W : Nat) (γ : Gh) (P : PW) : Prop where
 c : (P.rs 0).pos = 15
 w : ∀ q, q < W → (P.rs (q + 1)).pos = 8
 f : (P.rs (W + 1)).pos = 19
 k : (P.rs (W + 2)).pos = 3
 n : P.n = W + 3
theorem AtEnd.ended (h : AtEnd W γ P) (hI : I1 W b J B γ P) : endedN (poolS W Q b J) P P.n = true := by
 rw [ended_iff]
 intro k hk
 have hc := h.c
 have hn := h.n
 have hnW := hI.cb.nw (by omega)
 have key : ∀ p x, (P.rs k).prog = p → (P.rs k).pos = x → (poolS W Q b J).lp p ≤ x → instP (poolS W Q b J) (P.rs k) = none := fun p x e1 e2 hl => by
   unfold instP
   rw [e1, e2]
   exact if_neg (by omega)
 by_cases h0 : k = 0
 · subst h0; exact key 0 15 hI.vw.c h.c (Nat.le_refl 15)
 obtain ⟨r, rfl⟩ : ∃ r, k = r + 1 := ⟨k - 1, by omega⟩
 by_cases h1 : r < W
 · exact key 1 8 (hI.vw.w r (by omega)).1 (h.w r h1) (Nat.le_refl 8)
 by_cases h2 : r = W
 · subst h2; exact key 2 19 (hI.vw.f (by omega)) h.f (Nat.le_refl 19)
 · obtain rfl : r = W + 1 := by omega
   exact key 3 3 (hI.vw.k (by omega)) h.k (Nat.le_refl 3)
theorem AtEnd.count (h : AtEnd W γ P) (hI : I1 W b J B γ P) : P.ev.length = B := by
 obtain ⟨q1, q2, q3, q4, q5, q6, q7, q8, q9, q10, q11, q12, q13, q14, q15, q16⟩ := hI.gn
 have hcb := hI.cb
 have hfd := hI.fd
 have hw := h.w
 rw [h.c] at hcb
 rw [h.f] at hfd
 rw [h.k] at q16
 simp only [ICb, IFd] at hcb hfd
 obtain ⟨c1, c2, c3⟩ := hcb
 rw [c1] at q16 q1
 have w8 : cw P W 8 = W := cw_all hw
 have w0 : cw P W 0 = 0 := cw_none fun q hq => by rw [hw q hq]; decide
 have w1 : cw P W 1 = 0 := cw_none fun q hq => by rw [hw q hq]; decide
 have w2 : cw P W 2 = 0 := cw_none fun q hq => by rw [hw q hq]; decide
 have w3 : cw P W 3 = 0 := cw_none fun q hq => by rw [hw q hq]; decide
 have w4 : cw P W 4 = 0 := cw_none fun q hq => by rw [hw q hq]; decide
 have w5 : cw P W 5 = 0 := cw_none fun q hq => by rw [hw q hq]; decide
 have w6 : cw P W 6 = 0 := cw_none fun q hq => by rw [hw q hq]; decide
 have w7 : cw P W 7 = 0 := cw_none fun q hq => by rw [hw q hq]; decide
 rw [c1] at q5
 omega
theorem pool_free (pk : PoolOk W Q b J) (h : I1 W b J B γ P) (hr : readyN (poolS W Q b J) P P.n = []) : AtEnd W γ P := by
 have hb := ready_nil _ _ _ hr
 obtain ⟨q1, q2, q3, q4, q5, q6, q7, q8, q9, q10, q11, q12, q13, q14, q15, q16⟩ := h.gn
 have hw1 := pk.w1
 have hq1 := pk.q1
 have hb1 := pk.b1
 have hsb := h.fd.sb
 have hpos : 0 < P.n := by
   by_cases a : (P.rs 0).pos ≤ 9
   · have := h.vw.n9 a; omega
   · by_cases a2 : (P.rs 0).pos = 10
     · have := h.vw.n10 a2; omega
     · have := h.vw.n11 (by omega); omega
 have hC := blk_comb h (hb 0 hpos)
 have h11 : 11 ≤ (P.rs 0).pos := by omega
 have hnW := h.cb.nw (by omega)
 have hn := h.vw.n11 h11
 have hWk : ∀ q, q < W → _ := fun q hq => blk_work h (show q < γ.nW by omega) (hb (q + 1) (by omega))
 have hF := blk_feed h (by omega) (hb (W + 1) (by omega))
 have hK := blk_clos h h11 (hb (W + 2) (by omega))
 have hg := q11 (by omega)
 rw [hnW] at q1 q9 q12 hg q2 q3 q5
 have no3 : ∀ q, q < W → (P.rs (q + 1)).pos = 3 → b ≤ (P.held 2).length → False := fun q hq e hl => by
   have h3 := cw_pos (P := P) hq e
   by_cases a : (P.rs (W + 1)).pos = 13 ∨ (P.rs (W + 1)).pos = 14
   · have := q2 a; omega
   · have := q3 a; omega
 rcases hC with ⟨hc, hcl, hh1⟩ | hc
 · exfalso
   have hw2 : ∀ q, q < W → ((P.rs (q + 1)).pos = 0 ∧ P.cl 0 = false ∧ P.held 0 = []) ∨ (P.rs (q + 1)).pos = 8 := fun q hq => by
     rcases hWk q hq with a | ⟨a, a2⟩ | ⟨a, a2⟩ | a
     · exact .inl a
     · exact (no3 q hq a a2).elim
     · rw [hh1] at a2; simp at a2; omega
     · exact .inr a
   by_cases hz : ∃ q, q < W ∧ (P.rs (q + 1)).pos = 0
   · obtain ⟨q, hq, hq0⟩ := hz
     obtain ⟨_, hcl0, hh0⟩ : (P.rs (q + 1)).pos = 0 ∧ P.cl 0 = false ∧ P.held 0 = [] := by
       rcases hw2 q hq with a | a
       · exact a
       · omega
     have hf18 : ¬ 18 ≤ (P.rs (W + 1)).pos := fun hl => by rw [q6.2 hl] at hcl0; cases hcl0
     have w1 : cw P W 1 = 0 := cw_none fun r hr' => by rcases hw2 r hr' with a | a <;> omega
     have w2 : cw P W 2 = 0 := cw_none fun r hr' => by rcases hw2 r hr' with a | a <;> omega
     have w3 : cw P W 3 = 0 := cw_none fun r hr' => by rcases hw2 r hr' with a | a <;> omega
     have hfd := h.fd
     rw [hh0, List.length_nil] at q2 q3
     rcases hF with ⟨a, a2⟩ | ⟨a, a2⟩ | ⟨a, a2⟩ | a
     · have := q3 (by omega)
       rw [a] at hfd
       simp only [IFd] at hfd
       omega
     · have := q3 (by omega)
       rw [a] at hfd
       simp only [IFd] at hfd
       rw [a2, List.length_nil] at this
       omega
     · rw [hh0] at a2; simp at a2; omega
     · omega
   · have w8 : cw P W 8 = W := cw_all fun q hq => by
       rcases hw2 q hq with a | a
       · exact absurd ⟨q, hq, a.1⟩ hz
       · exact a
     rcases hK with ⟨a, a2⟩ | a
     · omega
     · rw [q7.2 (by omega)] at hcl; cases hcl
 · have k2 := q14 (by omega)
   have k7 := q12 (by omega)
   have hw8 : ∀ q, q < W → (P.rs (q + 1)).pos = 8 := fun q hq => by
     have c0 : cw P W 0 = 0 := by omega
     have c3 : cw P W 3 = 0 := by omega
     have c4 : cw P W 4 = 0 := by omega
     rcases hWk q hq with a | a | a | a
     · have := cw_pos (P := P) hq a.1; omega
     · have := cw_pos (P := P) hq a.1; omega
     · have := cw_pos (P := P) hq a.1; omega
     · exact a
   have w8 : cw P W 8 = W := cw_all hw8
   have hf := q9 (by omega)
   exact ⟨hc, hw8, by omega, by omega, by omega⟩
theorem ended_at (h : I1 W b J B γ P) (pk : PoolOk W Q b J) (he : endedN (poolS W Q b J) P P.n = true) : AtEnd W γ P := by
 refine pool_free pk h ?_
 rw [ended_iff] at he
 have key : ∀ m, m ≤ P.n → readyN (poolS W Q b J) P m = [] := by
   intro m
   induction m with
   | zero => intro _; rfl
   | succ m ih => intro hm; rw [readyN, ih (by omega), he m (by omega)]; rfl
 exact key _ (Nat.le_refl _)
theorem I1.len (h : I1 W b J B γ P) : P.ev.length ≤ B := by
 have h1 := h.gn.me
 have h2 := h.cb.nle
 have h3 := h.gn.j0
 have h4 := h.fd.sb
 have h5 := h.gn.k3
 omega
theorem StepOk.ev {x : PW × Int} (h : StepOk W b J B γ P x) : x.2 = 0 ∧ ∃ γ', I1 W b J B γ' x.1 ∧ Tr W b P γ.sent γ.fed x.1 γ'.sent γ'.fed := h
theorem run_pool (pk : PoolOk W Q b J) (hB : B ≤ 40000) (picks : List Int) {Φ : Gh → PW → Prop} (hΦ : ∀ γ γ' P P', I1 W b J B γ P → I1 W b J B γ' P' → Φ γ P → Tr W b P γ.sent γ.fed P' γ'.sent γ'.fed → Φ γ' P') :
   ∀ fuel t P γ, I1 W b J B γ P → Φ γ P → P.ev.length = t → B < fuel + t → (runP (poolS W Q b J) picks fuel t P).fin = 1 ∧ (runP (poolS W Q b J) picks fuel t P).fault = 0 ∧ ∃ γ', I1 W b J B γ' (runP (poolS W Q b J) picks fuel t P).P ∧ Φ γ' (runP (poolS W Q b J) picks fuel t P).P ∧ AtEnd W γ' (runP (poolS W Q b J) picks fuel t P).P
 | 0, t, P, γ, hI, hp, ht, hf => by have := hI.len; omega
 | fuel + 1, t, P, γ, hI, hp, ht, hf => by
   unfold runP
   by_cases c1 : endedN (poolS W Q b J) P P.n = true
   · simp only [c1, if_true]
     exact ⟨trivial, trivial, γ, hI, hp, ended_at hI pk c1⟩
   · have c3 : readyN (poolS W Q b J) P P.n ≠ [] := fun hr => c1 ((pool_free pk hI hr).ended hI)
     obtain ⟨k1, f, k2, k3⟩ := picked (poolS W Q b J) P picks t c3
     generalize hk : (readyN (poolS W Q b J) P P.n).getD (pickP picks t (readyN (poolS W Q b J) P P.n).length) 0 = k at *
     obtain ⟨s1, γ', s2, s3⟩ := step_pool pk hI k1 k2 k3
     obtain ⟨e, he⟩ := stepP_ev (poolS W Q b J) P k f
     have hl : (stepP (poolS W Q b J) P k f).1.ev.length = t + 1 := by rw [he]; simp [ht]
     have hl2 := s2.len
     have c2 : ¬ 40000 ≤ t := by omega
     simp only [c1, c2, c3, if_false, Bool.false_eq_true, hk, k2]
     rw [if_pos s1]
     exact run_pool pk hB picks hΦ fuel (t + 1) _ γ' s2 (hΦ _ _ _ _ hI s2 hp s3) hl (by omega)
def gh0 (W b J : Nat) : Gh := ⟨0, 0, 0, 0, 0, 9 + 5 * W + 3 * J, 11 + 4 * b + 6 * J⟩
theorem begun_pool (hB : B = 23 + 8 * W + 4 * b + 15 * J) : I1 W b J B (gh0 W b J) begunP := by
 refine ⟨⟨rfl, fun q hq => absurd hq (Nat.not_lt_zero q), fun h => absurd h (by decide), fun h => absurd h (by decide), fun _ => rfl, fun h => absurd h (by decide), fun h => absurd h (by decide), fun _ => rfl, fun _ => rfl, fun q _ _ => rfl⟩, ⟨rfl, rfl, rfl⟩, ⟨rfl, rfl, rfl⟩, ?_⟩
 have z : ∀ p, cw begunP (gh0 W b J).nW p = 0 := fun p => cw_zero _ _
 refine ⟨?_, fun h => ?_, fun _ => ?_, rfl, ?_, ?_, ?_, rfl, fun h => ?_, fun h => ?_, fun _ => ?_, fun h => ?_, ?_, fun h => ?_, fun h => ?_, ?_⟩
 · simp only [z]; rfl
 · exact absurd (show (0 = 13 ∨ 0 = 14) from h) (by decide)
 · simp only [z]; rfl
 · simp only [z]; rfl
 · exact ⟨fun h => absurd (show false = true from h) (by decide), fun h => absurd (show 18 ≤ 0 from h) (by decide)⟩
 · exact ⟨fun h => absurd (show false = true from h) (by decide), fun h => absurd (show 2 ≤ 0 from h) (by decide)⟩
 · simp only [z] at h; exact absurd h (by decide)
 · exact absurd h (by decide)
 · simp only [z]; rfl
 · exact absurd (show 1 ≤ 0 from h) (by decide)
 · exact Nat.zero_le _
 · exact absurd (show 14 ≤ 0 from h) (by decide)
 · exact absurd (show 1 ≤ 0 from h) (by decide)
 · simp only [z]
   show 0 + (9 + 5 * W + 3 * J) + 3 * W + (3 * 0 + 8 * 0 + 7 * 0 + 6 * 0 + 5 * 0 + 4 * 0 + 2 * 0 + 0) + 6 * J + (11 + 4 * b + 6 * J) + 3 = B + 3 * 0 + 6 * 0 + 0
   omega
theorem play_pool (pk : PoolOk W Q b J) (picks : List Int) {Φ : Gh → PW → Prop} (h0 : Φ (gh0 W b J) begunP) (hΦ : ∀ γ γ' P P', I1 W b J (23 + 8 * W + 4 * b + 15 * J) γ P → I1 W b J (23 + 8 * W + 4 * b + 15 * J) γ' P' → Φ γ P → Tr W b P γ.sent γ.fed P' γ'.sent γ'.fed → Φ γ' P') :
   (playP (poolS W Q b J) picks).fin = 1 ∧ (playP (poolS W Q b J) picks).fault = 0 ∧ (playP (poolS W Q b J) picks).P.n = W + 3 ∧ (playP (poolS W Q b J) picks).P.ev.length = 23 + 8 * W + 4 * b + 15 * J ∧ ∃ γ, I1 W b J (23 + 8 * W + 4 * b + 15 * J) γ (playP (poolS W Q b J) picks).P ∧ Φ γ (playP (poolS W Q b J) picks).P ∧ AtEnd W γ (playP (poolS W Q b J) picks).P := by
 have w2 := pk.w2
 have b2 := pk.b2
 have j2 := pk.j2
 obtain ⟨h1, h2, γ, h3, h4, h5⟩ := run_pool pk (by omega) picks hΦ 40001 0 begunP (gh0 W b J) (begun_pool rfl) h0 rfl (by omega)
 exact ⟨h1, h2, h5.n, h5.count h3, γ, h3, h4, h5⟩
end
end Go.Proofs.Ytakmcpadkanggaa
