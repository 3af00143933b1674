/-
  Part 10 of what this claim rests on.
-/
import Derived.Test.YtakmcpadkanggaaRc9
namespace Go.Proofs.Ytakmcpadkanggaa
open Go.RowKit Go.Maps Go.Deep
section
variable {P : Program} {md : Region.Mode} {ops : Array Oper} {Q : Exit → Act → World → Prop} {S : World → Prop}
theorem take_load_at {K : Act → Prop} {o : Oper} {r : List Oper} {a : Act} {ad : Addr} {ty : TypeId} {cs : Array Value} {x : Operand} {d : TypeDesc} (n : Nat) (_hd : o.dst = some n)
    (hw : Region.wanted o (yielded ops a.tmps) = true) (ho : o.op = .load ty x) (hx : a.eval x = .pointer (some ad)) (hb : ∀ w, S w → ∀ j, j < cs.size → w.cell? (ad.add j) = cs[j]?)
    (hu : P.underlying ty = some d) (hd' : d.isRow = true) (hi : (P.info? ty).map (·.size) = some cs.size)
    (h : wpTake P ops S K r (a.put o.dst (.agg cs))) : wpTake P ops S K (o :: r) a :=
  take_pure hw (fun w hC => by
    have hc := hb w hC
    have hl : (loadCells ad cs.size).run P w = .ok cs w := by
      have := run_loadCells_list (P := P) w ad cs.toList (fun j v hv => by
        have hj : j < cs.size := by
          rcases Nat.lt_or_ge j cs.size with h1 | h1
          · exact h1
          · rw [List.getElem?_eq_none (by simpa using h1)] at hv; cases hv
        rw [hc j hj, ← hv, Array.getElem?_toList])
      simpa using this
    have hr : (loadVar ty ad).run P w = .ok (.agg cs) w := by
      cases hq : P.info? ty with
      | none => simp [hq] at hi
      | some i =>
        have hs : i.size = cs.size := by simpa [hq] using hi
        have hagg : (isAgg ty).run P w = .ok true w := by
          unfold isAgg
          rw [Sem.run_bind, run_underlying hu w]
          cases d <;> simp_all
        simp [loadVar, Sem.run_bind, hagg, sizeOf, typeInfo, hq, hs, hl]
    unfold execOp
    simp only [ho, hx, Instr.loadAt, Instr.sureAddr, Sem.run_bind, Sem.run_pure, Result.andThen_ok, hr]) h
end
section
variable {base b2 n r m : Nat} {W u : World} {v v' : Value} {nb cp : Nat → Nat} {F : Nat → Int → Int} {xs : List Value}
theorem grid_app (G : GridAt base W v n r nb cp F) (M : W.ownsRow b2 79 2 v' m xs) (K : Keeps W u v'.ownBlock.toList) : GridAt base u v n r nb cp F :=
  G.keeps K (fun g hg hm => by
    obtain ⟨_, _, cur, hB⟩ := gr_own G.row hg
    exact gr_ne M hB (show (25 : Nat) ≠ 79 by decide) (by simpa using hm)) (fun i hi hm => by
    obtain ⟨_, _, _, cu, hB, _⟩ := G.cl i hi
    exact gr_ne M hB (show (3 : Nat) ≠ 79 by decide) (by simpa using hm))
end
section
variable {w : World} {S : Sys} {A : Option Addr} {c : Nat} {R : Option Addr} {d n : Nat} {E : Nat → Ev} {B : Option Addr} {cb : Nat}
set_option maxRecDepth 100000 in
set_option maxHeartbeats 1000000 in
theorem rraces_bad (hS : SysIn w S A c R d) (hE : EvsAt w B n E) (most : Int) (h : ¬ (thr S E n).2.2 = 0) : Calls Try.prog 42 #[.agg (sysV S A c R d), .slice B n cb, .int .i64 most] w (RacPost (racesR S E (rmS S) n most) w) := by
  have O := Own.start w []
  have HT := Lib.hid (fun u (k : Keeps w u []) => show Calls Try.prog 29 #[.agg (sysV S A c R d), .slice B n cb] u fun e w' => e = .returned (.tuple #[.int .i64 (thr S E n).2.1, .int .i64 (thr S E n).1, .int .i64 (thr S E n).2.2]) ∧ Keeps u w' [] from by
    have hz := rvalid_any (cb := cb) (hS.kept k) (hE.kept k)
    exact hz)
  have HF := Lib.hid (show racesR S E (rmS S) n most = ([], (thr S E n).2.2) by unfold racesR; rw [if_neg h])
  generalize (thr S E n).2.2 = er at HT HF h
  generalize (thr S E n).2.1 = x1 at HT
  generalize (thr S E n).1 = x0 at HT
  have e0 : (er != 0) = true := by simpa using h
  rw [HF.out]
  clear hS hE HF
  go_enter Try.func42, Try.ntmps42
  go_wp2_with (first
    | go_big_skip
    | (refine own_box 3 (sysV S A c R d) O rfl rfl rfl rfl ?_; clear O; intro W b3 O; simp only [Act.put, List.setIfInBounds_toArray, List.set_cons_zero, List.set_cons_succ])
    | (refine own_load 18 0 O rfl rfl rfl rfl rfl Try.underlying27 rfl (by kernel_rfl) ?_; simp only [Act.put, List.setIfInBounds_toArray, List.set_cons_zero, List.set_cons_succ])
    | (go_at_call 29; refine (HT.out _ O.keep).mono ?_; rintro e W ⟨rfl, K⟩; replace O := O.keeps K; clear K))
  go_returns
  exact ⟨⟨_, rfl, racP_nil _ _⟩, O.keep⟩
set_option maxRecDepth 100000 in
set_option maxHeartbeats 1000000 in
theorem rraces_low (hS : SysIn w S A c R d) (hE : EvsAt w B n E) (most : Int) (h : (thr S E n).2.2 = 0) (h0 : most < 0) : Calls Try.prog 42 #[.agg (sysV S A c R d), .slice B n cb, .int .i64 most] w (RacPost (racesR S E (rmS S) n most) w) := by
  have O := Own.start w []
  have HT := Lib.hid (fun u (k : Keeps w u []) => show Calls Try.prog 29 #[.agg (sysV S A c R d), .slice B n cb] u fun e w' => e = .returned (.tuple #[.int .i64 (thr S E n).2.1, .int .i64 (thr S E n).1, .int .i64 0]) ∧ Keeps u w' [] from by
    have hz := rvalid_any (cb := cb) (hS.kept k) (hE.kept k)
    rw [h] at hz
    exact hz)
  have HF := Lib.hid (show racesR S E (rmS S) n most = ([], 1) by unfold racesR; rw [if_pos h, if_pos (by omega)])
  generalize (thr S E n).2.1 = x1 at HT
  generalize (thr S E n).1 = x0 at HT
  clear h
  have q1 : decide (most < 0) = true := decide_eq_true h0
  rw [HF.out]
  clear hS hE HF
  go_enter Try.func42, Try.ntmps42
  go_wp2_with (first
    | go_big_skip
    | (refine own_box 3 (sysV S A c R d) O rfl rfl rfl rfl ?_; clear O; intro W b3 O; simp only [Act.put, List.setIfInBounds_toArray, List.set_cons_zero, List.set_cons_succ])
    | (refine own_load 18 0 O rfl rfl rfl rfl rfl Try.underlying27 rfl (by kernel_rfl) ?_; simp only [Act.put, List.setIfInBounds_toArray, List.set_cons_zero, List.set_cons_succ])
    | (go_at_call 29; refine (HT.out _ O.keep).mono ?_; rintro e W ⟨rfl, K⟩; replace O := O.keeps K; clear K))
  go_returns
  exact ⟨⟨_, rfl, racP_nil _ _⟩, O.keep⟩
set_option maxRecDepth 100000 in
set_option maxHeartbeats 1000000 in
theorem rraces_high (hS : SysIn w S A c R d) (hE : EvsAt w B n E) (most : Int) (h : (thr S E n).2.2 = 0) (h0 : ¬ most < 0) (h1 : 4096 < most) : Calls Try.prog 42 #[.agg (sysV S A c R d), .slice B n cb, .int .i64 most] w (RacPost (racesR S E (rmS S) n most) w) := by
  have O := Own.start w []
  have HT := Lib.hid (fun u (k : Keeps w u []) => show Calls Try.prog 29 #[.agg (sysV S A c R d), .slice B n cb] u fun e w' => e = .returned (.tuple #[.int .i64 (thr S E n).2.1, .int .i64 (thr S E n).1, .int .i64 0]) ∧ Keeps u w' [] from by
    have hz := rvalid_any (cb := cb) (hS.kept k) (hE.kept k)
    rw [h] at hz
    exact hz)
  have HF := Lib.hid (show racesR S E (rmS S) n most = ([], 1) by unfold racesR; rw [if_pos h, if_pos (by omega)])
  generalize (thr S E n).2.1 = x1 at HT
  generalize (thr S E n).1 = x0 at HT
  clear h
  have q1 : decide (most < 0) = false := decide_eq_false h0
  have q3 : decide (4096 < most) = true := decide_eq_true h1
  rw [HF.out]
  clear hS hE HF
  go_enter Try.func42, Try.ntmps42
  go_wp2_with (first
    | go_big_skip
    | (refine own_box 3 (sysV S A c R d) O rfl rfl rfl rfl ?_; clear O; intro W b3 O; simp only [Act.put, List.setIfInBounds_toArray, List.set_cons_zero, List.set_cons_succ])
    | (refine own_load 18 0 O rfl rfl rfl rfl rfl Try.underlying27 rfl (by kernel_rfl) ?_; simp only [Act.put, List.setIfInBounds_toArray, List.set_cons_zero, List.set_cons_succ])
    | (go_at_call 29; refine (HT.out _ O.keep).mono ?_; rintro e W ⟨rfl, K⟩; replace O := O.keeps K; clear K))
  go_returns
  exact ⟨⟨_, rfl, racP_nil _ _⟩, O.keep⟩
set_option maxRecDepth 100000 in
set_option maxHeartbeats 8000000 in
theorem rraces_good (hS : SysIn w S A c R d) (hE : EvsAt w B n E) (most : Nat) (h : (thr S E n).2.2 = 0) (hm : most ≤ 4096) : Calls Try.prog 42 #[.agg (sysV S A c R d), .slice B n cb, .int .i64 (most : Int)] w (RacPost (racesR S E (rmS S) n (most : Int)) w) := by
  have O := Own.start w []
  obtain ⟨hv, hn, hok⟩ := thr_zero h
  have hl0 := stN_le E n
  obtain ⟨r, hr⟩ : ∃ r : Nat, (stN E n).r = (r : Int) := ⟨(stN E n).r.toNat, by omega⟩
  have hr6 : r ≤ 1000000 := by omega
  have HT := Lib.hid (fun u (k : Keeps w u []) => show Calls Try.prog 29 #[.agg (sysV S A c R d), .slice B n cb] u fun e w' => e = .returned (.tuple #[.int .i64 (thr S E n).2.1, .int .i64 (thr S E n).1, .int .i64 0]) ∧ Keeps u w' [] from by
    have hz := rvalid_any (cb := cb) (hS.kept k) (hE.kept k)
    rw [h] at hz
    exact hz)
  generalize (thr S E n).2.1 = x1 at HT
  generalize (thr S E n).1 = x0 at HT
  have HFL := Lib.hid (fun u (k : Keeps w u []) => (by have hz := flat_any (cb := cb) (hS.kept k) (hE.kept k) h; unfold FlatPost at hz; rw [hr, Int.toNat_natCast] at hz; exact hz : Calls Try.prog 76 #[.agg (sysV S A c R d), .slice B n cb] u fun e u' => (∃ v nb, e = .returned v ∧ GridAt u.heap.size u' v n r nb (fun _ => r) (fun i => clk E (rmS S) (i : Int))) ∧ Keeps u u' []))
  have HWI := Lib.hid (fun j (hj : j < n) => (show ∃ wi : Nat, (E j).who = (wi : Int) ∧ wi < r from ⟨(E j).who.toNat, by have := (ok_head (hok j hj)).1; omega, by
    have h1 := ok_head (hok j hj)
    have h2 := stN_r_mono E (show j ≤ n by omega)
    omega⟩))
  have HF := Lib.hid (show racesR S E (rmS S) n (most : Int) = ((raceA E (rmS S) n).take most, 0) by unfold racesR; rw [if_pos h, if_neg (by omega)]; simp)
  have HE := Lib.hid hE
  have q1 : decide ((most : Int) < 0) = false := decide_eq_false (by omega)
  have q2 : ¬ (most : Int) < 0 := by omega
  have q3 : decide ((4096 : Int) < (most : Int)) = false := decide_eq_false (by omega)
  have q4 : ¬ (4096 : Int) < (most : Int) := by omega
  rw [HF.out]
  clear hS hE HF h hok hv hr
  go_enter Try.func42, Try.ntmps42
  go_wp2_with (first
    | go_big_skip
    | (refine own_box 3 (sysV S A c R d) O rfl rfl rfl rfl ?_; clear O; intro W b3 O; simp only [Act.put, List.setIfInBounds_toArray, List.set_cons_zero, List.set_cons_succ])
    | (refine own_load 18 0 O rfl rfl rfl rfl rfl Try.underlying27 rfl (by kernel_rfl) ?_; simp only [Act.put, List.setIfInBounds_toArray, List.set_cons_zero, List.set_cons_succ])
    | (refine own_load 33 0 O rfl rfl rfl rfl rfl Try.underlying27 rfl (by kernel_rfl) ?_; simp only [Act.put, List.setIfInBounds_toArray, List.set_cons_zero, List.set_cons_succ])
    | (go_at_call 29; refine (HT.out _ O.keep).mono ?_; rintro e W ⟨rfl, K⟩; replace O := O.keeps K; clear K)
    | (go_at_call 76; obtain ⟨bs, hbs⟩ : ∃ bs, bs = W.heap.size := ⟨_, rfl⟩; refine (HFL.out _ O.keep).mono ?_; rw [← hbs]; clear hbs; rintro e W ⟨⟨v, nb, rfl, G⟩, K⟩; replace O := O.keeps K; clear K; obtain ⟨Av, cv, rfl, hnz, _⟩ := gr_shape G.row; have HNZ := Lib.hid hnz; clear hnz))
  generalize hrm : rmS S = rm at *
  have M0 : MintP 79 w.heap.size W (.slice none 0 0) ((raceA E rm 0).take most) := by
    rw [show (raceA E rm 0).take most = [] by simp [raceA]]
    exact racP_nil _ _
  go_loopg [12, 13] n (fun gg s12 s13 wr => ∃ k : Nat, k ≤ n ∧ gg = n - k ∧ s13 = .int .i64 (k : Int) ∧ Own w wr [] [(b3, 27, sysV S A c R d)] ∧ GridAt bs wr (.slice Av n cv) n r nb (fun _ => r) (fun i => clk E rm (i : Int)) ∧ MintP 79 w.heap.size wr s12 ((raceA E rm k).take most))
  case atStart => exact ⟨0, by omega, by omega, rfl, O, G, M0⟩
  case round =>
    clear O G M0
    rename World => wt
    obtain ⟨k, hk, hgk, rfl, O, G, M⟩ := hrel
    have HG1 := Lib.hid hgk
    clear hgk
    obtain ⟨Ao, co, rfl, _⟩ := gr_shape M
    have hlm : ((raceA E rm k).take most).length ≤ most := by rw [List.length_take]; omega
    obtain ⟨ln, hln⟩ : ∃ ln, ln = ((raceA E rm k).take most).length := ⟨_, rfl⟩
    rw [← hln] at hlm
    have HLN := Lib.hid hln
    have HM := Lib.hid M
    rw [← hln]
    clear M hln
    by_cases hkn : k < n
    · have y1 : decide ((k : Int) < (n : Int)) = true := decide_eq_true (by omega)
      have y2 : (k : Int) < n := by omega
      by_cases hfull : ln < most
      · have y3 : decide ((ln : Int) < (most : Int)) = true := decide_eq_true (by omega)
        have y4 : (ln : Int) < most := by omega
        go_wp2
        clear y1 y3 y4
        go_loopg [12, 14] k (fun gg s12 s14 wi => ∃ q : Nat, q ≤ k ∧ gg = k - q ∧ s14 = .int .i64 (q : Int) ∧ Own w wi [] [(b3, 27, sysV S A c R d)] ∧ GridAt bs wi (.slice Av n cv) n r nb (fun _ => r) (fun i => clk E rm (i : Int)) ∧ MintP 79 w.heap.size wi s12 ((raceA E rm k ++ raceJ E rm k q).take most))
        case atStart => exact ⟨0, by omega, by omega, rfl, O, G, by rw [show raceJ E rm k 0 = [] from rfl, List.append_nil]; have hl' := HLN.out; subst hl'; exact HM.out⟩
        case round =>
          rename Nat => lo
          clear O G HM HLN hlm hfull
          obtain ⟨q, hq, hgq, rfl, O, G, M⟩ := hrel
          have HG2 := Lib.hid hgq
          clear hgq
          obtain ⟨Aq, cq, rfl, _⟩ := gr_shape M
          have hlm : ((raceA E rm k ++ raceJ E rm k q).take most).length ≤ most := by rw [List.length_take]; omega
          obtain ⟨ln, hln⟩ : ∃ ln, ln = ((raceA E rm k ++ raceJ E rm k q).take most).length := ⟨_, rfl⟩
          have HML := Lib.hid (show wr.ownsRow w.heap.size 79 2 (.slice Aq ln cq) ln (prL ((raceA E rm k ++ raceJ E rm k q).take most)) from by have h := M; unfold MintP at h; rw [← hln] at h; exact h)
          rw [← hln] at hlm
          have HLN := Lib.hid hln
          rw [← hln]
          clear M hln
          by_cases hqk : q < k
          · have y3 : decide ((q : Int) < (k : Int)) = true := decide_eq_true (by omega)
            have y5 : (q : Int) < k := by omega
            by_cases hfull : ln < most
            · have y6 : decide ((ln : Int) < (most : Int)) = true := decide_eq_true (by omega)
              have y7 : (ln : Int) < most := by omega
              have HGK := Lib.hid (fun W (K : Keeps wr W []) => And.intro (G.new K) (gr_keeps HML.out K (by simp)))
              obtain ⟨ad, hBa, _⟩ := HE.out (by omega)
              subst hBa
              obtain ⟨av, rfl⟩ : ∃ av, Av = some av := Option.ne_none_iff_exists'.1 (fun e => by have := (HNZ.out e).1; omega)
              obtain ⟨wi, hwi, hwir⟩ := HWI.out q (by omega)
              obtain ⟨wj, hwj, hwjr⟩ := HWI.out k hkn
              obtain ⟨oi, ai, vi, si, hei⟩ : ∃ o a v s, E q = ⟨(wi : Int), o, a, v, s⟩ := ⟨(E q).op, (E q).a, (E q).v, (E q).sh, by rw [← hwi]⟩
              obtain ⟨oj, aj, vj, sj, hej⟩ : ∃ o a v s, E k = ⟨(wj : Int), o, a, v, s⟩ := ⟨(E k).op, (E k).a, (E k).v, (E k).sh, by rw [← hwj]⟩
              have HC := Lib.hid (fun W (K : Keeps w W []) => (show (∀ j, j < (evC ⟨(wi : Int), oi, ai, vi, si⟩).size → W.cell? ((ad.add (q * 5)).add j) = (evC ⟨(wi : Int), oi, ai, vi, si⟩)[j]?) ∧ (∀ j, j < (evC ⟨(wj : Int), oj, aj, vj, sj⟩).size → W.cell? ((ad.add (k * 5)).add j) = (evC ⟨(wj : Int), oj, aj, vj, sj⟩)[j]?) from by
                obtain ⟨ad', e, _, hc⟩ := (HE.out.kept K) (by omega)
                cases e
                refine ⟨fun j hj => ?_, fun j hj => ?_⟩
                · rw [Addr.add_add, hc q j (by omega) hj, hei]
                · rw [Addr.add_add, hc k j hkn hj, hej]))
              have z1 : (q : Int) < n := by omega
              have z2 : (0 : Int) ≤ q := by omega
              have z3 : (0 : Int) ≤ k := by omega
              have HEI := Lib.hid hei
              have HEJ := Lib.hid hej
              clear G hwj hei hej
              by_cases i12 : oi = 12
              · subst i12
                by_cases j12 : oj = 12
                · subst j12
                  have hF : rcB E rm q k = false := by simp [rcB, acB, HEI.out, HEJ.out]
                  have HQE := Lib.hid (show (raceA E rm k ++ raceJ E rm k (q + 1)).take most = (raceA E rm k ++ raceJ E rm k q).take most from by rw [raceJ_succ, hF, if_neg (by simp), List.append_nil])
                  clear hF
                  go_wp2
                  refine wp_held (S := fun u' => (∀ j, j < (evC ⟨(wi : Int), 12, ai, vi, si⟩).size → u'.cell? ((ad.add (q * 5)).add j) = (evC ⟨(wi : Int), 12, ai, vi, si⟩)[j]?) ∧ (∀ j, j < (evC ⟨(wj : Int), 12, aj, vj, sj⟩).size → u'.cell? ((ad.add (k * 5)).add j) = (evC ⟨(wj : Int), 12, aj, vj, sj⟩)[j]?)) 12 #[false, false, false, false, false, false, false, false, false, false, false, false] (by kernel_rfl) rfl rfl ?_
                  replace O := O.drew
                  have KW := (Keeps.refl wr []).drew
                  refine seg_take (fuel := 4) (L' := #[true, true, true, true, true, true, true, true, false, false, false, false]) (by kernel_rfl) (fun _ _ _ _ _ _ h => h) ((HC.out _ O.keep)) [0, 1, 2, 3, 4, 5, 6, 7] [_, _, _, _, _, _, _, _] _ _ rfl (by kernel_rfl) ?_
                  simp only [List.getElem_toArray, List.getElem_cons_zero, List.getElem_cons_succ]
                  repeat (first
                    | (refine take_load_at 62 rfl (by rfl) rfl rfl (fun _ h => h.1) Try.underlying37 rfl (by kernel_rfl) ?_; simp only [Act.put, List.setIfInBounds_toArray, List.set_cons_zero, List.set_cons_succ])
                    | (refine take_load_at 66 rfl (by rfl) rfl rfl (fun _ h => h.2) Try.underlying37 rfl (by kernel_rfl) ?_; simp only [Act.put, List.setIfInBounds_toArray, List.set_cons_zero, List.set_cons_succ])
                    | (refine take_pure (v := ?_) (by rfl) ?_ ?_; rotate_left; (· (intro w hSw; clear hSw; go_simp; try with_reducible rfl)); simp only [Act.put, List.setIfInBounds_toArray, List.set_cons_zero, List.set_cons_succ]))
                  refine take_done ?_
                  refine seg_two 8 9 #[true, true, true, true, true, true, true, true, true, false, false, false] #[true, true, true, true, true, true, true, true, false, true, false, false] rfl rfl (by kernel_rfl) ?_ ?_
                  · try simp only [List.getElem_toArray, List.getElem_cons_zero, List.getElem_cons_succ]
                    refine own_allocK 15 (evC ⟨0, 0, 0, 0, false⟩) O rfl rfl rfl (fun _ => by kernel_rfl) ?_; clear O; intro W b15 O K hb; have HB15 := Lib.hid (Nat.le_trans KW.size hb); replace KW := KW.trans K (by simp); clear K hb; simp only [Act.put, List.setIfInBounds_toArray, List.set_cons_zero, List.set_cons_succ]
                    (first | refine back_intro2 (HC.out _ O.keep) ?_ | refine back_intro (HC.out _ O.keep) ?_)
                    refine seg_sole 9 #[true, true, true, true, true, true, true, true, true, true, false, false] rfl (by kernel_rfl) ?_
                    try simp only [List.getElem_toArray, List.getElem_cons_zero, List.getElem_cons_succ]
                    refine own_allocK 16 (evC ⟨0, 0, 0, 0, false⟩) O rfl rfl rfl (fun _ => by kernel_rfl) ?_; clear O; intro W b16 O K hb; have HB16 := Lib.hid (Nat.le_trans KW.size hb); replace KW := KW.trans K (by simp); clear K hb; simp only [Act.put, List.setIfInBounds_toArray, List.set_cons_zero, List.set_cons_succ]
                    (first | refine back_intro2 (HC.out _ O.keep) ?_ | refine back_intro (HC.out _ O.keep) ?_)
                    refine seg_sole 10 #[true, true, true, true, true, true, true, true, true, true, true, false] rfl (by kernel_rfl) ?_
                    try simp only [List.getElem_toArray, List.getElem_cons_zero, List.getElem_cons_succ]
                    (first | refine own_store_rowK 1 (.tmp 15) (.tmp 62) O rfl rfl rfl rfl rfl rfl (by kernel_rfl) (by rfl) (evC_cell _) ?_ | refine own_store_rowK 0 (.tmp 15) (.tmp 62) O rfl rfl rfl rfl rfl rfl (by kernel_rfl) (by rfl) (evC_cell _) ?_); clear O; intro W O K; simp only [List.set_cons_zero, List.set_cons_succ] at O; replace KW := KW.trans K (fun b hb hlt => by rw [List.mem_singleton.1 hb] at hlt; have := HB15.out; omega); clear K
                    (first | refine back_intro2 (HC.out _ O.keep) ?_ | refine back_intro (HC.out _ O.keep) ?_)
                    refine seg_sole 11 #[true, true, true, true, true, true, true, true, true, true, true, true] rfl (by kernel_rfl) ?_
                    try simp only [List.getElem_toArray, List.getElem_cons_zero, List.getElem_cons_succ]
                    (first | refine own_store_rowK 1 (.tmp 16) (.tmp 66) O rfl rfl rfl rfl rfl rfl (by kernel_rfl) (by rfl) (evC_cell _) ?_ | refine own_store_rowK 0 (.tmp 16) (.tmp 66) O rfl rfl rfl rfl rfl rfl (by kernel_rfl) (by rfl) (evC_cell _) ?_); clear O; intro W O K; simp only [List.set_cons_zero, List.set_cons_succ] at O; replace KW := KW.trans K (fun b hb hlt => by rw [List.mem_singleton.1 hb] at hlt; have := HB16.out; omega); clear K
                    (first | refine back_intro2 (HC.out _ O.keep) ?_ | refine back_intro (HC.out _ O.keep) ?_)
                    refine seg_done (by kernel_rfl) ?_
                    have c15 : ∀ i : Nat, W.cell? ⟨b15, i, none⟩ = (evC ⟨(wi : Int), 12, ai, vi, si⟩)[i]? := by first | exact (O.get 1 rfl).cell | exact (O.get 0 rfl).cell
                    have c16 : ∀ i : Nat, W.cell? ⟨b16, i, none⟩ = (evC ⟨(wj : Int), 12, aj, vj, sj⟩)[i]? := by first | exact (O.get 0 rfl).cell | exact (O.get 1 rfl).cell
                    simp only [evC] at c15 c16
                    go_wp2
                    go_roundg (k - (q + 1))
                    case measure => (have := HG2.out; omega)
                    case rel => exact ⟨q + 1, by omega, rfl, by go_num, O.drop_ 2, (HGK.out _ KW).1, by rw [HQE.out]; unfold MintP; rw [← HLN.out]; exact (HGK.out _ KW).2⟩
                  · try simp only [List.getElem_toArray, List.getElem_cons_zero, List.getElem_cons_succ]
                    refine own_allocK 16 (evC ⟨0, 0, 0, 0, false⟩) O rfl rfl rfl (fun _ => by kernel_rfl) ?_; clear O; intro W b16 O K hb; have HB16 := Lib.hid (Nat.le_trans KW.size hb); replace KW := KW.trans K (by simp); clear K hb; simp only [Act.put, List.setIfInBounds_toArray, List.set_cons_zero, List.set_cons_succ]
                    (first | refine back_intro2 (HC.out _ O.keep) ?_ | refine back_intro (HC.out _ O.keep) ?_)
                    refine seg_sole 8 #[true, true, true, true, true, true, true, true, true, true, false, false] rfl (by kernel_rfl) ?_
                    try simp only [List.getElem_toArray, List.getElem_cons_zero, List.getElem_cons_succ]
                    refine own_allocK 15 (evC ⟨0, 0, 0, 0, false⟩) O rfl rfl rfl (fun _ => by kernel_rfl) ?_; clear O; intro W b15 O K hb; have HB15 := Lib.hid (Nat.le_trans KW.size hb); replace KW := KW.trans K (by simp); clear K hb; simp only [Act.put, List.setIfInBounds_toArray, List.set_cons_zero, List.set_cons_succ]
                    (first | refine back_intro2 (HC.out _ O.keep) ?_ | refine back_intro (HC.out _ O.keep) ?_)
                    refine seg_sole 10 #[true, true, true, true, true, true, true, true, true, true, true, false] rfl (by kernel_rfl) ?_
                    try simp only [List.getElem_toArray, List.getElem_cons_zero, List.getElem_cons_succ]
                    (first | refine own_store_rowK 1 (.tmp 15) (.tmp 62) O rfl rfl rfl rfl rfl rfl (by kernel_rfl) (by rfl) (evC_cell _) ?_ | refine own_store_rowK 0 (.tmp 15) (.tmp 62) O rfl rfl rfl rfl rfl rfl (by kernel_rfl) (by rfl) (evC_cell _) ?_); clear O; intro W O K; simp only [List.set_cons_zero, List.set_cons_succ] at O; replace KW := KW.trans K (fun b hb hlt => by rw [List.mem_singleton.1 hb] at hlt; have := HB15.out; omega); clear K
                    (first | refine back_intro2 (HC.out _ O.keep) ?_ | refine back_intro (HC.out _ O.keep) ?_)
                    refine seg_sole 11 #[true, true, true, true, true, true, true, true, true, true, true, true] rfl (by kernel_rfl) ?_
                    try simp only [List.getElem_toArray, List.getElem_cons_zero, List.getElem_cons_succ]
                    (first | refine own_store_rowK 1 (.tmp 16) (.tmp 66) O rfl rfl rfl rfl rfl rfl (by kernel_rfl) (by rfl) (evC_cell _) ?_ | refine own_store_rowK 0 (.tmp 16) (.tmp 66) O rfl rfl rfl rfl rfl rfl (by kernel_rfl) (by rfl) (evC_cell _) ?_); clear O; intro W O K; simp only [List.set_cons_zero, List.set_cons_succ] at O; replace KW := KW.trans K (fun b hb hlt => by rw [List.mem_singleton.1 hb] at hlt; have := HB16.out; omega); clear K
                    (first | refine back_intro2 (HC.out _ O.keep) ?_ | refine back_intro (HC.out _ O.keep) ?_)
                    refine seg_done (by kernel_rfl) ?_
                    have c15 : ∀ i : Nat, W.cell? ⟨b15, i, none⟩ = (evC ⟨(wi : Int), 12, ai, vi, si⟩)[i]? := by first | exact (O.get 1 rfl).cell | exact (O.get 0 rfl).cell
                    have c16 : ∀ i : Nat, W.cell? ⟨b16, i, none⟩ = (evC ⟨(wj : Int), 12, aj, vj, sj⟩)[i]? := by first | exact (O.get 0 rfl).cell | exact (O.get 1 rfl).cell
                    simp only [evC] at c15 c16
                    go_wp2
                    go_roundg (k - (q + 1))
                    case measure => (have := HG2.out; omega)
                    case rel => exact ⟨q + 1, by omega, rfl, by go_num, O.drop_ 2, (HGK.out _ KW).1, by rw [HQE.out]; unfold MintP; rw [← HLN.out]; exact (HGK.out _ KW).2⟩
                · by_cases j13 : oj = 13
                  · subst j13
                    by_cases haa : ai = aj
                    · subst haa
                      by_cases hww : (wi : Int) = (wj : Int)
                      · have z4 : (ai != ai) = false := by simp
                        have z5 : ((wi : Int) == (wj : Int)) = true := by simp [hww]
                        have hF : rcB E rm q k = false := by simp [rcB, acB, HEI.out, HEJ.out, hww]
                        have HQE := Lib.hid (show (raceA E rm k ++ raceJ E rm k (q + 1)).take most = (raceA E rm k ++ raceJ E rm k q).take most from by rw [raceJ_succ, hF, if_neg (by simp), List.append_nil])
                        clear hF
                        go_wp2
                        refine wp_held (S := fun u' => (∀ j, j < (evC ⟨(wi : Int), 12, ai, vi, si⟩).size → u'.cell? ((ad.add (q * 5)).add j) = (evC ⟨(wi : Int), 12, ai, vi, si⟩)[j]?) ∧ (∀ j, j < (evC ⟨(wj : Int), 13, ai, vj, sj⟩).size → u'.cell? ((ad.add (k * 5)).add j) = (evC ⟨(wj : Int), 13, ai, vj, sj⟩)[j]?)) 12 #[false, false, false, false, false, false, false, false, false, false, false, false] (by kernel_rfl) rfl rfl ?_
                        replace O := O.drew
                        have KW := (Keeps.refl wr []).drew
                        refine seg_take (fuel := 4) (L' := #[true, true, true, true, true, true, true, true, false, false, false, false]) (by kernel_rfl) (fun _ _ _ _ _ _ h => h) ((HC.out _ O.keep)) [0, 1, 2, 3, 4, 5, 6, 7] [_, _, _, _, _, _, _, _] _ _ rfl (by kernel_rfl) ?_
                        simp only [List.getElem_toArray, List.getElem_cons_zero, List.getElem_cons_succ]
                        repeat (first
                          | (refine take_load_at 62 rfl (by rfl) rfl rfl (fun _ h => h.1) Try.underlying37 rfl (by kernel_rfl) ?_; simp only [Act.put, List.setIfInBounds_toArray, List.set_cons_zero, List.set_cons_succ])
                          | (refine take_load_at 66 rfl (by rfl) rfl rfl (fun _ h => h.2) Try.underlying37 rfl (by kernel_rfl) ?_; simp only [Act.put, List.setIfInBounds_toArray, List.set_cons_zero, List.set_cons_succ])
                          | (refine take_pure (v := ?_) (by rfl) ?_ ?_; rotate_left; (· (intro w hSw; clear hSw; go_simp; try with_reducible rfl)); simp only [Act.put, List.setIfInBounds_toArray, List.set_cons_zero, List.set_cons_succ]))
                        refine take_done ?_
                        refine seg_two 8 9 #[true, true, true, true, true, true, true, true, true, false, false, false] #[true, true, true, true, true, true, true, true, false, true, false, false] rfl rfl (by kernel_rfl) ?_ ?_
                        · try simp only [List.getElem_toArray, List.getElem_cons_zero, List.getElem_cons_succ]
                          refine own_allocK 15 (evC ⟨0, 0, 0, 0, false⟩) O rfl rfl rfl (fun _ => by kernel_rfl) ?_; clear O; intro W b15 O K hb; have HB15 := Lib.hid (Nat.le_trans KW.size hb); replace KW := KW.trans K (by simp); clear K hb; simp only [Act.put, List.setIfInBounds_toArray, List.set_cons_zero, List.set_cons_succ]
                          (first | refine back_intro2 (HC.out _ O.keep) ?_ | refine back_intro (HC.out _ O.keep) ?_)
                          refine seg_sole 9 #[true, true, true, true, true, true, true, true, true, true, false, false] rfl (by kernel_rfl) ?_
                          try simp only [List.getElem_toArray, List.getElem_cons_zero, List.getElem_cons_succ]
                          refine own_allocK 16 (evC ⟨0, 0, 0, 0, false⟩) O rfl rfl rfl (fun _ => by kernel_rfl) ?_; clear O; intro W b16 O K hb; have HB16 := Lib.hid (Nat.le_trans KW.size hb); replace KW := KW.trans K (by simp); clear K hb; simp only [Act.put, List.setIfInBounds_toArray, List.set_cons_zero, List.set_cons_succ]
                          (first | refine back_intro2 (HC.out _ O.keep) ?_ | refine back_intro (HC.out _ O.keep) ?_)
                          refine seg_sole 10 #[true, true, true, true, true, true, true, true, true, true, true, false] rfl (by kernel_rfl) ?_
                          try simp only [List.getElem_toArray, List.getElem_cons_zero, List.getElem_cons_succ]
                          (first | refine own_store_rowK 1 (.tmp 15) (.tmp 62) O rfl rfl rfl rfl rfl rfl (by kernel_rfl) (by rfl) (evC_cell _) ?_ | refine own_store_rowK 0 (.tmp 15) (.tmp 62) O rfl rfl rfl rfl rfl rfl (by kernel_rfl) (by rfl) (evC_cell _) ?_); clear O; intro W O K; simp only [List.set_cons_zero, List.set_cons_succ] at O; replace KW := KW.trans K (fun b hb hlt => by rw [List.mem_singleton.1 hb] at hlt; have := HB15.out; omega); clear K
                          (first | refine back_intro2 (HC.out _ O.keep) ?_ | refine back_intro (HC.out _ O.keep) ?_)
                          refine seg_sole 11 #[true, true, true, true, true, true, true, true, true, true, true, true] rfl (by kernel_rfl) ?_
                          try simp only [List.getElem_toArray, List.getElem_cons_zero, List.getElem_cons_succ]
                          (first | refine own_store_rowK 1 (.tmp 16) (.tmp 66) O rfl rfl rfl rfl rfl rfl (by kernel_rfl) (by rfl) (evC_cell _) ?_ | refine own_store_rowK 0 (.tmp 16) (.tmp 66) O rfl rfl rfl rfl rfl rfl (by kernel_rfl) (by rfl) (evC_cell _) ?_); clear O; intro W O K; simp only [List.set_cons_zero, List.set_cons_succ] at O; replace KW := KW.trans K (fun b hb hlt => by rw [List.mem_singleton.1 hb] at hlt; have := HB16.out; omega); clear K
                          (first | refine back_intro2 (HC.out _ O.keep) ?_ | refine back_intro (HC.out _ O.keep) ?_)
                          refine seg_done (by kernel_rfl) ?_
                          have c15 : ∀ i : Nat, W.cell? ⟨b15, i, none⟩ = (evC ⟨(wi : Int), 12, ai, vi, si⟩)[i]? := by first | exact (O.get 1 rfl).cell | exact (O.get 0 rfl).cell
                          have c16 : ∀ i : Nat, W.cell? ⟨b16, i, none⟩ = (evC ⟨(wj : Int), 13, ai, vj, sj⟩)[i]? := by first | exact (O.get 0 rfl).cell | exact (O.get 1 rfl).cell
                          simp only [evC] at c15 c16
                          go_wp2
                          go_roundg (k - (q + 1))
                          case measure => (have := HG2.out; omega)
                          case rel => exact ⟨q + 1, by omega, rfl, by go_num, O.drop_ 2, (HGK.out _ KW).1, by rw [HQE.out]; unfold MintP; rw [← HLN.out]; exact (HGK.out _ KW).2⟩
                        · try simp only [List.getElem_toArray, List.getElem_cons_zero, List.getElem_cons_succ]
                          refine own_allocK 16 (evC ⟨0, 0, 0, 0, false⟩) O rfl rfl rfl (fun _ => by kernel_rfl) ?_; clear O; intro W b16 O K hb; have HB16 := Lib.hid (Nat.le_trans KW.size hb); replace KW := KW.trans K (by simp); clear K hb; simp only [Act.put, List.setIfInBounds_toArray, List.set_cons_zero, List.set_cons_succ]
                          (first | refine back_intro2 (HC.out _ O.keep) ?_ | refine back_intro (HC.out _ O.keep) ?_)
                          refine seg_sole 8 #[true, true, true, true, true, true, true, true, true, true, false, false] rfl (by kernel_rfl) ?_
                          try simp only [List.getElem_toArray, List.getElem_cons_zero, List.getElem_cons_succ]
                          refine own_allocK 15 (evC ⟨0, 0, 0, 0, false⟩) O rfl rfl rfl (fun _ => by kernel_rfl) ?_; clear O; intro W b15 O K hb; have HB15 := Lib.hid (Nat.le_trans KW.size hb); replace KW := KW.trans K (by simp); clear K hb; simp only [Act.put, List.setIfInBounds_toArray, List.set_cons_zero, List.set_cons_succ]
                          (first | refine back_intro2 (HC.out _ O.keep) ?_ | refine back_intro (HC.out _ O.keep) ?_)
                          refine seg_sole 10 #[true, true, true, true, true, true, true, true, true, true, true, false] rfl (by kernel_rfl) ?_
                          try simp only [List.getElem_toArray, List.getElem_cons_zero, List.getElem_cons_succ]
                          (first | refine own_store_rowK 1 (.tmp 15) (.tmp 62) O rfl rfl rfl rfl rfl rfl (by kernel_rfl) (by rfl) (evC_cell _) ?_ | refine own_store_rowK 0 (.tmp 15) (.tmp 62) O rfl rfl rfl rfl rfl rfl (by kernel_rfl) (by rfl) (evC_cell _) ?_); clear O; intro W O K; simp only [List.set_cons_zero, List.set_cons_succ] at O; replace KW := KW.trans K (fun b hb hlt => by rw [List.mem_singleton.1 hb] at hlt; have := HB15.out; omega); clear K
                          (first | refine back_intro2 (HC.out _ O.keep) ?_ | refine back_intro (HC.out _ O.keep) ?_)
                          refine seg_sole 11 #[true, true, true, true, true, true, true, true, true, true, true, true] rfl (by kernel_rfl) ?_
                          try simp only [List.getElem_toArray, List.getElem_cons_zero, List.getElem_cons_succ]
                          (first | refine own_store_rowK 1 (.tmp 16) (.tmp 66) O rfl rfl rfl rfl rfl rfl (by kernel_rfl) (by rfl) (evC_cell _) ?_ | refine own_store_rowK 0 (.tmp 16) (.tmp 66) O rfl rfl rfl rfl rfl rfl (by kernel_rfl) (by rfl) (evC_cell _) ?_); clear O; intro W O K; simp only [List.set_cons_zero, List.set_cons_succ] at O; replace KW := KW.trans K (fun b hb hlt => by rw [List.mem_singleton.1 hb] at hlt; have := HB16.out; omega); clear K
                          (first | refine back_intro2 (HC.out _ O.keep) ?_ | refine back_intro (HC.out _ O.keep) ?_)
                          refine seg_done (by kernel_rfl) ?_
                          have c15 : ∀ i : Nat, W.cell? ⟨b15, i, none⟩ = (evC ⟨(wi : Int), 12, ai, vi, si⟩)[i]? := by first | exact (O.get 1 rfl).cell | exact (O.get 0 rfl).cell
                          have c16 : ∀ i : Nat, W.cell? ⟨b16, i, none⟩ = (evC ⟨(wj : Int), 13, ai, vj, sj⟩)[i]? := by first | exact (O.get 0 rfl).cell | exact (O.get 1 rfl).cell
                          simp only [evC] at c15 c16
                          go_wp2
                          go_roundg (k - (q + 1))
                          case measure => (have := HG2.out; omega)
                          case rel => exact ⟨q + 1, by omega, rfl, by go_num, O.drop_ 2, (HGK.out _ KW).1, by rw [HQE.out]; unfold MintP; rw [← HLN.out]; exact (HGK.out _ KW).2⟩
                      · by_cases hle : clk E rm (q : Int) (wi : Int) ≤ clk E rm (k : Int) (wi : Int)
                        · have z4 : (ai != ai) = false := by simp
                          have z5 : ((wi : Int) == (wj : Int)) = false := by simpa using hww
                          have hF : rcB E rm q k = false := by simp [rcB, acB, HEI.out, HEJ.out, hww, hle]
                          have HQE := Lib.hid (show (raceA E rm k ++ raceJ E rm k (q + 1)).take most = (raceA E rm k ++ raceJ E rm k q).take most from by rw [raceJ_succ, hF, if_neg (by simp), List.append_nil])
                          clear hF
                          have HOR := Lib.hid (show decide (clk E rm (q : Int) (wi : Int) ≤ clk E rm (k : Int) (wi : Int)) = true from decide_eq_true hle)
                          go_wp2
                          refine wp_held (S := fun u' => (∀ j, j < (evC ⟨(wi : Int), 12, ai, vi, si⟩).size → u'.cell? ((ad.add (q * 5)).add j) = (evC ⟨(wi : Int), 12, ai, vi, si⟩)[j]?) ∧ (∀ j, j < (evC ⟨(wj : Int), 13, ai, vj, sj⟩).size → u'.cell? ((ad.add (k * 5)).add j) = (evC ⟨(wj : Int), 13, ai, vj, sj⟩)[j]?)) 12 #[false, false, false, false, false, false, false, false, false, false, false, false] (by kernel_rfl) rfl rfl ?_
                          replace O := O.drew
                          have KW := (Keeps.refl wr []).drew
                          refine seg_take (fuel := 4) (L' := #[true, true, true, true, true, true, true, true, false, false, false, false]) (by kernel_rfl) (fun _ _ _ _ _ _ h => h) ((HC.out _ O.keep)) [0, 1, 2, 3, 4, 5, 6, 7] [_, _, _, _, _, _, _, _] _ _ rfl (by kernel_rfl) ?_
                          simp only [List.getElem_toArray, List.getElem_cons_zero, List.getElem_cons_succ]
                          repeat (first
                            | (refine take_load_at 62 rfl (by rfl) rfl rfl (fun _ h => h.1) Try.underlying37 rfl (by kernel_rfl) ?_; simp only [Act.put, List.setIfInBounds_toArray, List.set_cons_zero, List.set_cons_succ])
                            | (refine take_load_at 66 rfl (by rfl) rfl rfl (fun _ h => h.2) Try.underlying37 rfl (by kernel_rfl) ?_; simp only [Act.put, List.setIfInBounds_toArray, List.set_cons_zero, List.set_cons_succ])
                            | (refine take_pure (v := ?_) (by rfl) ?_ ?_; rotate_left; (· (intro w hSw; clear hSw; go_simp; try with_reducible rfl)); simp only [Act.put, List.setIfInBounds_toArray, List.set_cons_zero, List.set_cons_succ]))
                          refine take_done ?_
                          refine seg_two 8 9 #[true, true, true, true, true, true, true, true, true, false, false, false] #[true, true, true, true, true, true, true, true, false, true, false, false] rfl rfl (by kernel_rfl) ?_ ?_
                          · try simp only [List.getElem_toArray, List.getElem_cons_zero, List.getElem_cons_succ]
                            refine own_allocK 15 (evC ⟨0, 0, 0, 0, false⟩) O rfl rfl rfl (fun _ => by kernel_rfl) ?_; clear O; intro W b15 O K hb; have HB15 := Lib.hid (Nat.le_trans KW.size hb); replace KW := KW.trans K (by simp); clear K hb; simp only [Act.put, List.setIfInBounds_toArray, List.set_cons_zero, List.set_cons_succ]
                            (first | refine back_intro2 (HC.out _ O.keep) ?_ | refine back_intro (HC.out _ O.keep) ?_)
                            refine seg_sole 9 #[true, true, true, true, true, true, true, true, true, true, false, false] rfl (by kernel_rfl) ?_
                            try simp only [List.getElem_toArray, List.getElem_cons_zero, List.getElem_cons_succ]
                            refine own_allocK 16 (evC ⟨0, 0, 0, 0, false⟩) O rfl rfl rfl (fun _ => by kernel_rfl) ?_; clear O; intro W b16 O K hb; have HB16 := Lib.hid (Nat.le_trans KW.size hb); replace KW := KW.trans K (by simp); clear K hb; simp only [Act.put, List.setIfInBounds_toArray, List.set_cons_zero, List.set_cons_succ]
                            (first | refine back_intro2 (HC.out _ O.keep) ?_ | refine back_intro (HC.out _ O.keep) ?_)
                            refine seg_sole 10 #[true, true, true, true, true, true, true, true, true, true, true, false] rfl (by kernel_rfl) ?_
                            try simp only [List.getElem_toArray, List.getElem_cons_zero, List.getElem_cons_succ]
                            (first | refine own_store_rowK 1 (.tmp 15) (.tmp 62) O rfl rfl rfl rfl rfl rfl (by kernel_rfl) (by rfl) (evC_cell _) ?_ | refine own_store_rowK 0 (.tmp 15) (.tmp 62) O rfl rfl rfl rfl rfl rfl (by kernel_rfl) (by rfl) (evC_cell _) ?_); clear O; intro W O K; simp only [List.set_cons_zero, List.set_cons_succ] at O; replace KW := KW.trans K (fun b hb hlt => by rw [List.mem_singleton.1 hb] at hlt; have := HB15.out; omega); clear K
                            (first | refine back_intro2 (HC.out _ O.keep) ?_ | refine back_intro (HC.out _ O.keep) ?_)
                            refine seg_sole 11 #[true, true, true, true, true, true, true, true, true, true, true, true] rfl (by kernel_rfl) ?_
                            try simp only [List.getElem_toArray, List.getElem_cons_zero, List.getElem_cons_succ]
                            (first | refine own_store_rowK 1 (.tmp 16) (.tmp 66) O rfl rfl rfl rfl rfl rfl (by kernel_rfl) (by rfl) (evC_cell _) ?_ | refine own_store_rowK 0 (.tmp 16) (.tmp 66) O rfl rfl rfl rfl rfl rfl (by kernel_rfl) (by rfl) (evC_cell _) ?_); clear O; intro W O K; simp only [List.set_cons_zero, List.set_cons_succ] at O; replace KW := KW.trans K (fun b hb hlt => by rw [List.mem_singleton.1 hb] at hlt; have := HB16.out; omega); clear K
                            (first | refine back_intro2 (HC.out _ O.keep) ?_ | refine back_intro (HC.out _ O.keep) ?_)
                            refine seg_done (by kernel_rfl) ?_
                            have c15 : ∀ i : Nat, W.cell? ⟨b15, i, none⟩ = (evC ⟨(wi : Int), 12, ai, vi, si⟩)[i]? := by first | exact (O.get 1 rfl).cell | exact (O.get 0 rfl).cell
                            have c16 : ∀ i : Nat, W.cell? ⟨b16, i, none⟩ = (evC ⟨(wj : Int), 13, ai, vj, sj⟩)[i]? := by first | exact (O.get 0 rfl).cell | exact (O.get 1 rfl).cell
                            simp only [evC] at c15 c16
                            go_wp2_with (go_at_call 77; refine (ordered_any (HGK.out _ KW).1 (HE.out.kept O.keep) (show q < n by omega) hkn hwi hwir hr6 hn).mono ?_; rintro e W ⟨he, K⟩; obtain rfl : e = .returned (.bool true) := he.trans (congrArg (fun b => Ending.returned (.bool b)) HOR.out); replace O := O.keeps K; replace KW := KW.trans K (by simp); clear K he c15 c16)
                            go_roundg (k - (q + 1))
                            case measure => (have := HG2.out; omega)
                            case rel => exact ⟨q + 1, by omega, rfl, by go_num, O.drop_ 2, (HGK.out _ KW).1, by rw [HQE.out]; unfold MintP; rw [← HLN.out]; exact (HGK.out _ KW).2⟩
                          · try simp only [List.getElem_toArray, List.getElem_cons_zero, List.getElem_cons_succ]
                            refine own_allocK 16 (evC ⟨0, 0, 0, 0, false⟩) O rfl rfl rfl (fun _ => by kernel_rfl) ?_; clear O; intro W b16 O K hb; have HB16 := Lib.hid (Nat.le_trans KW.size hb); replace KW := KW.trans K (by simp); clear K hb; simp only [Act.put, List.setIfInBounds_toArray, List.set_cons_zero, List.set_cons_succ]
                            (first | refine back_intro2 (HC.out _ O.keep) ?_ | refine back_intro (HC.out _ O.keep) ?_)
                            refine seg_sole 8 #[true, true, true, true, true, true, true, true, true, true, false, false] rfl (by kernel_rfl) ?_
                            try simp only [List.getElem_toArray, List.getElem_cons_zero, List.getElem_cons_succ]
                            refine own_allocK 15 (evC ⟨0, 0, 0, 0, false⟩) O rfl rfl rfl (fun _ => by kernel_rfl) ?_; clear O; intro W b15 O K hb; have HB15 := Lib.hid (Nat.le_trans KW.size hb); replace KW := KW.trans K (by simp); clear K hb; simp only [Act.put, List.setIfInBounds_toArray, List.set_cons_zero, List.set_cons_succ]
                            (first | refine back_intro2 (HC.out _ O.keep) ?_ | refine back_intro (HC.out _ O.keep) ?_)
                            refine seg_sole 10 #[true, true, true, true, true, true, true, true, true, true, true, false] rfl (by kernel_rfl) ?_
                            try simp only [List.getElem_toArray, List.getElem_cons_zero, List.getElem_cons_succ]
                            (first | refine own_store_rowK 1 (.tmp 15) (.tmp 62) O rfl rfl rfl rfl rfl rfl (by kernel_rfl) (by rfl) (evC_cell _) ?_ | refine own_store_rowK 0 (.tmp 15) (.tmp 62) O rfl rfl rfl rfl rfl rfl (by kernel_rfl) (by rfl) (evC_cell _) ?_); clear O; intro W O K; simp only [List.set_cons_zero, List.set_cons_succ] at O; replace KW := KW.trans K (fun b hb hlt => by rw [List.mem_singleton.1 hb] at hlt; have := HB15.out; omega); clear K
                            (first | refine back_intro2 (HC.out _ O.keep) ?_ | refine back_intro (HC.out _ O.keep) ?_)
                            refine seg_sole 11 #[true, true, true, true, true, true, true, true, true, true, true, true] rfl (by kernel_rfl) ?_
                            try simp only [List.getElem_toArray, List.getElem_cons_zero, List.getElem_cons_succ]
                            (first | refine own_store_rowK 1 (.tmp 16) (.tmp 66) O rfl rfl rfl rfl rfl rfl (by kernel_rfl) (by rfl) (evC_cell _) ?_ | refine own_store_rowK 0 (.tmp 16) (.tmp 66) O rfl rfl rfl rfl rfl rfl (by kernel_rfl) (by rfl) (evC_cell _) ?_); clear O; intro W O K; simp only [List.set_cons_zero, List.set_cons_succ] at O; replace KW := KW.trans K (fun b hb hlt => by rw [List.mem_singleton.1 hb] at hlt; have := HB16.out; omega); clear K
                            (first | refine back_intro2 (HC.out _ O.keep) ?_ | refine back_intro (HC.out _ O.keep) ?_)
                            refine seg_done (by kernel_rfl) ?_
                            have c15 : ∀ i : Nat, W.cell? ⟨b15, i, none⟩ = (evC ⟨(wi : Int), 12, ai, vi, si⟩)[i]? := by first | exact (O.get 1 rfl).cell | exact (O.get 0 rfl).cell
                            have c16 : ∀ i : Nat, W.cell? ⟨b16, i, none⟩ = (evC ⟨(wj : Int), 13, ai, vj, sj⟩)[i]? := by first | exact (O.get 0 rfl).cell | exact (O.get 1 rfl).cell
                            simp only [evC] at c15 c16
                            go_wp2_with (go_at_call 77; refine (ordered_any (HGK.out _ KW).1 (HE.out.kept O.keep) (show q < n by omega) hkn hwi hwir hr6 hn).mono ?_; rintro e W ⟨he, K⟩; obtain rfl : e = .returned (.bool true) := he.trans (congrArg (fun b => Ending.returned (.bool b)) HOR.out); replace O := O.keeps K; replace KW := KW.trans K (by simp); clear K he c15 c16)
                            go_roundg (k - (q + 1))
                            case measure => (have := HG2.out; omega)
                            case rel => exact ⟨q + 1, by omega, rfl, by go_num, O.drop_ 2, (HGK.out _ KW).1, by rw [HQE.out]; unfold MintP; rw [← HLN.out]; exact (HGK.out _ KW).2⟩
                        · have z4 : (ai != ai) = false := by simp
                          have z5 : ((wi : Int) == (wj : Int)) = false := by simpa using hww
                          have hF : rcB E rm q k = true := by simp [rcB, acB, HEI.out, HEJ.out, hww, hle]
                          have HQE := Lib.hid (show (raceA E rm k ++ raceJ E rm k (q + 1)).take most = (raceA E rm k ++ raceJ E rm k q).take most ++ [prR q k] from by rw [raceJ_succ, hF, if_pos rfl, ← List.append_assoc, take_snoc, if_pos ((take_len_lt _ _).1 (by rw [← HLN.out]; exact hfull))])
                          clear hF
                          have HOR := Lib.hid (show decide (clk E rm (q : Int) (wi : Int) ≤ clk E rm (k : Int) (wi : Int)) = false from decide_eq_false hle)
                          go_wp2
                          refine wp_held (S := fun u' => (∀ j, j < (evC ⟨(wi : Int), 12, ai, vi, si⟩).size → u'.cell? ((ad.add (q * 5)).add j) = (evC ⟨(wi : Int), 12, ai, vi, si⟩)[j]?) ∧ (∀ j, j < (evC ⟨(wj : Int), 13, ai, vj, sj⟩).size → u'.cell? ((ad.add (k * 5)).add j) = (evC ⟨(wj : Int), 13, ai, vj, sj⟩)[j]?)) 12 #[false, false, false, false, false, false, false, false, false, false, false, false] (by kernel_rfl) rfl rfl ?_
                          replace O := O.drew
                          have KW := (Keeps.refl wr []).drew
                          refine seg_take (fuel := 4) (L' := #[true, true, true, true, true, true, true, true, false, false, false, false]) (by kernel_rfl) (fun _ _ _ _ _ _ h => h) ((HC.out _ O.keep)) [0, 1, 2, 3, 4, 5, 6, 7] [_, _, _, _, _, _, _, _] _ _ rfl (by kernel_rfl) ?_
                          simp only [List.getElem_toArray, List.getElem_cons_zero, List.getElem_cons_succ]
                          repeat (first
                            | (refine take_load_at 62 rfl (by rfl) rfl rfl (fun _ h => h.1) Try.underlying37 rfl (by kernel_rfl) ?_; simp only [Act.put, List.setIfInBounds_toArray, List.set_cons_zero, List.set_cons_succ])
                            | (refine take_load_at 66 rfl (by rfl) rfl rfl (fun _ h => h.2) Try.underlying37 rfl (by kernel_rfl) ?_; simp only [Act.put, List.setIfInBounds_toArray, List.set_cons_zero, List.set_cons_succ])
                            | (refine take_pure (v := ?_) (by rfl) ?_ ?_; rotate_left; (· (intro w hSw; clear hSw; go_simp; try with_reducible rfl)); simp only [Act.put, List.setIfInBounds_toArray, List.set_cons_zero, List.set_cons_succ]))
                          refine take_done ?_
                          refine seg_two 8 9 #[true, true, true, true, true, true, true, true, true, false, false, false] #[true, true, true, true, true, true, true, true, false, true, false, false] rfl rfl (by kernel_rfl) ?_ ?_
                          · try simp only [List.getElem_toArray, List.getElem_cons_zero, List.getElem_cons_succ]
                            refine own_allocK 15 (evC ⟨0, 0, 0, 0, false⟩) O rfl rfl rfl (fun _ => by kernel_rfl) ?_; clear O; intro W b15 O K hb; have HB15 := Lib.hid (Nat.le_trans KW.size hb); replace KW := KW.trans K (by simp); clear K hb; simp only [Act.put, List.setIfInBounds_toArray, List.set_cons_zero, List.set_cons_succ]
                            (first | refine back_intro2 (HC.out _ O.keep) ?_ | refine back_intro (HC.out _ O.keep) ?_)
                            refine seg_sole 9 #[true, true, true, true, true, true, true, true, true, true, false, false] rfl (by kernel_rfl) ?_
                            try simp only [List.getElem_toArray, List.getElem_cons_zero, List.getElem_cons_succ]
                            refine own_allocK 16 (evC ⟨0, 0, 0, 0, false⟩) O rfl rfl rfl (fun _ => by kernel_rfl) ?_; clear O; intro W b16 O K hb; have HB16 := Lib.hid (Nat.le_trans KW.size hb); replace KW := KW.trans K (by simp); clear K hb; simp only [Act.put, List.setIfInBounds_toArray, List.set_cons_zero, List.set_cons_succ]
                            (first | refine back_intro2 (HC.out _ O.keep) ?_ | refine back_intro (HC.out _ O.keep) ?_)
                            refine seg_sole 10 #[true, true, true, true, true, true, true, true, true, true, true, false] rfl (by kernel_rfl) ?_
                            try simp only [List.getElem_toArray, List.getElem_cons_zero, List.getElem_cons_succ]
                            (first | refine own_store_rowK 1 (.tmp 15) (.tmp 62) O rfl rfl rfl rfl rfl rfl (by kernel_rfl) (by rfl) (evC_cell _) ?_ | refine own_store_rowK 0 (.tmp 15) (.tmp 62) O rfl rfl rfl rfl rfl rfl (by kernel_rfl) (by rfl) (evC_cell _) ?_); clear O; intro W O K; simp only [List.set_cons_zero, List.set_cons_succ] at O; replace KW := KW.trans K (fun b hb hlt => by rw [List.mem_singleton.1 hb] at hlt; have := HB15.out; omega); clear K
                            (first | refine back_intro2 (HC.out _ O.keep) ?_ | refine back_intro (HC.out _ O.keep) ?_)
                            refine seg_sole 11 #[true, true, true, true, true, true, true, true, true, true, true, true] rfl (by kernel_rfl) ?_
                            try simp only [List.getElem_toArray, List.getElem_cons_zero, List.getElem_cons_succ]
                            (first | refine own_store_rowK 1 (.tmp 16) (.tmp 66) O rfl rfl rfl rfl rfl rfl (by kernel_rfl) (by rfl) (evC_cell _) ?_ | refine own_store_rowK 0 (.tmp 16) (.tmp 66) O rfl rfl rfl rfl rfl rfl (by kernel_rfl) (by rfl) (evC_cell _) ?_); clear O; intro W O K; simp only [List.set_cons_zero, List.set_cons_succ] at O; replace KW := KW.trans K (fun b hb hlt => by rw [List.mem_singleton.1 hb] at hlt; have := HB16.out; omega); clear K
                            (first | refine back_intro2 (HC.out _ O.keep) ?_ | refine back_intro (HC.out _ O.keep) ?_)
                            refine seg_done (by kernel_rfl) ?_
                            have c15 : ∀ i : Nat, W.cell? ⟨b15, i, none⟩ = (evC ⟨(wi : Int), 12, ai, vi, si⟩)[i]? := by first | exact (O.get 1 rfl).cell | exact (O.get 0 rfl).cell
                            have c16 : ∀ i : Nat, W.cell? ⟨b16, i, none⟩ = (evC ⟨(wj : Int), 13, ai, vj, sj⟩)[i]? := by first | exact (O.get 0 rfl).cell | exact (O.get 1 rfl).cell
                            simp only [evC] at c15 c16
                            go_wp2_with (first
                              | (go_at_call 77; refine (ordered_any (HGK.out _ KW).1 (HE.out.kept O.keep) (show q < n by omega) hkn hwi hwir hr6 hn).mono ?_; rintro e W ⟨he, K⟩; obtain rfl : e = .returned (.bool false) := he.trans (congrArg (fun b => Ending.returned (.bool b)) HOR.out); replace O := O.keeps K; replace KW := KW.trans K (by simp); clear K he c15 c16)
                              | (refine own_litK 119 73 79 1 2 (.agg #[.int .i64 0, .int .i64 0]) _ (#[.int .i64 (q : Int), .int .i64 (k : Int)]) O rfl rfl rfl Try.underlying73 (by kernel_rfl) (by decide) (by decide) (by first | rfl | kernel_rfl) ?_; clear O; intro W gl O K hgl; replace KW := KW.trans K (by simp); clear K hgl; simp only [Act.put, List.setIfInBounds_toArray, List.set_cons_zero, List.set_cons_succ])
                              | (at_builtin; go_loud (refine gr_app (.tmp 115) (.tmp 119) rowT73 O (HGK.out _ KW).2 rfl (by simp [Value.oneCell']) rfl rfl rfl rfl (Nat.le_refl _) O.keep.size (fun z hz => ?_) (by omega) (by decide) ?_; (· (have hz2 := O.blk z (List.mem_cons_of_mem _ hz); simp only [List.mem_cons, List.not_mem_nil, or_false] at hz; rcases hz with rfl | rfl | rfl; (· exact gr_ne (HGK.out _ KW).2 hz2 (show (37 : Nat) ≠ 79 by decide)); (· exact gr_ne (HGK.out _ KW).2 hz2 (show (37 : Nat) ≠ 79 by decide)); (· exact gr_ne (HGK.out _ KW).2 hz2 (show (27 : Nat) ≠ 79 by decide)))); clear O; intro v9 W O MR K hf; have HG10 := Lib.hid (grid_app (HGK.out _ KW).1 (HGK.out _ KW).2 K); have HMR := Lib.hid MR; clear hf K MR KW; simp only [Act.put, List.setIfInBounds_toArray, List.set_cons_zero, List.set_cons_succ])))
                            go_roundg (k - (q + 1))
                            case measure => (have := HG2.out; omega)
                            case rel => exact ⟨q + 1, by omega, rfl, by go_num, O.drop_ 2, HG10.out, by rw [HQE.out]; unfold MintP; rw [prL_snoc, List.length_append, ← HLN.out]; exact HMR.out⟩
                          · try simp only [List.getElem_toArray, List.getElem_cons_zero, List.getElem_cons_succ]
                            refine own_allocK 16 (evC ⟨0, 0, 0, 0, false⟩) O rfl rfl rfl (fun _ => by kernel_rfl) ?_; clear O; intro W b16 O K hb; have HB16 := Lib.hid (Nat.le_trans KW.size hb); replace KW := KW.trans K (by simp); clear K hb; simp only [Act.put, List.setIfInBounds_toArray, List.set_cons_zero, List.set_cons_succ]
                            (first | refine back_intro2 (HC.out _ O.keep) ?_ | refine back_intro (HC.out _ O.keep) ?_)
                            refine seg_sole 8 #[true, true, true, true, true, true, true, true, true, true, false, false] rfl (by kernel_rfl) ?_
                            try simp only [List.getElem_toArray, List.getElem_cons_zero, List.getElem_cons_succ]
                            refine own_allocK 15 (evC ⟨0, 0, 0, 0, false⟩) O rfl rfl rfl (fun _ => by kernel_rfl) ?_; clear O; intro W b15 O K hb; have HB15 := Lib.hid (Nat.le_trans KW.size hb); replace KW := KW.trans K (by simp); clear K hb; simp only [Act.put, List.setIfInBounds_toArray, List.set_cons_zero, List.set_cons_succ]
                            (first | refine back_intro2 (HC.out _ O.keep) ?_ | refine back_intro (HC.out _ O.keep) ?_)
                            refine seg_sole 10 #[true, true, true, true, true, true, true, true, true, true, true, false] rfl (by kernel_rfl) ?_
                            try simp only [List.getElem_toArray, List.getElem_cons_zero, List.getElem_cons_succ]
                            (first | refine own_store_rowK 1 (.tmp 15) (.tmp 62) O rfl rfl rfl rfl rfl rfl (by kernel_rfl) (by rfl) (evC_cell _) ?_ | refine own_store_rowK 0 (.tmp 15) (.tmp 62) O rfl rfl rfl rfl rfl rfl (by kernel_rfl) (by rfl) (evC_cell _) ?_); clear O; intro W O K; simp only [List.set_cons_zero, List.set_cons_succ] at O; replace KW := KW.trans K (fun b hb hlt => by rw [List.mem_singleton.1 hb] at hlt; have := HB15.out; omega); clear K
                            (first | refine back_intro2 (HC.out _ O.keep) ?_ | refine back_intro (HC.out _ O.keep) ?_)
                            refine seg_sole 11 #[true, true, true, true, true, true, true, true, true, true, true, true] rfl (by kernel_rfl) ?_
                            try simp only [List.getElem_toArray, List.getElem_cons_zero, List.getElem_cons_succ]
                            (first | refine own_store_rowK 1 (.tmp 16) (.tmp 66) O rfl rfl rfl rfl rfl rfl (by kernel_rfl) (by rfl) (evC_cell _) ?_ | refine own_store_rowK 0 (.tmp 16) (.tmp 66) O rfl rfl rfl rfl rfl rfl (by kernel_rfl) (by rfl) (evC_cell _) ?_); clear O; intro W O K; simp only [List.set_cons_zero, List.set_cons_succ] at O; replace KW := KW.trans K (fun b hb hlt => by rw [List.mem_singleton.1 hb] at hlt; have := HB16.out; omega); clear K
                            (first | refine back_intro2 (HC.out _ O.keep) ?_ | refine back_intro (HC.out _ O.keep) ?_)
                            refine seg_done (by kernel_rfl) ?_
                            have c15 : ∀ i : Nat, W.cell? ⟨b15, i, none⟩ = (evC ⟨(wi : Int), 12, ai, vi, si⟩)[i]? := by first | exact (O.get 1 rfl).cell | exact (O.get 0 rfl).cell
                            have c16 : ∀ i : Nat, W.cell? ⟨b16, i, none⟩ = (evC ⟨(wj : Int), 13, ai, vj, sj⟩)[i]? := by first | exact (O.get 0 rfl).cell | exact (O.get 1 rfl).cell
                            simp only [evC] at c15 c16
                            go_wp2_with (first
                              | (go_at_call 77; refine (ordered_any (HGK.out _ KW).1 (HE.out.kept O.keep) (show q < n by omega) hkn hwi hwir hr6 hn).mono ?_; rintro e W ⟨he, K⟩; obtain rfl : e = .returned (.bool false) := he.trans (congrArg (fun b => Ending.returned (.bool b)) HOR.out); replace O := O.keeps K; replace KW := KW.trans K (by simp); clear K he c15 c16)
                              | (refine own_litK 119 73 79 1 2 (.agg #[.int .i64 0, .int .i64 0]) _ (#[.int .i64 (q : Int), .int .i64 (k : Int)]) O rfl rfl rfl Try.underlying73 (by kernel_rfl) (by decide) (by decide) (by first | rfl | kernel_rfl) ?_; clear O; intro W gl O K hgl; replace KW := KW.trans K (by simp); clear K hgl; simp only [Act.put, List.setIfInBounds_toArray, List.set_cons_zero, List.set_cons_succ])
                              | (at_builtin; go_loud (refine gr_app (.tmp 115) (.tmp 119) rowT73 O (HGK.out _ KW).2 rfl (by simp [Value.oneCell']) rfl rfl rfl rfl (Nat.le_refl _) O.keep.size (fun z hz => ?_) (by omega) (by decide) ?_; (· (have hz2 := O.blk z (List.mem_cons_of_mem _ hz); simp only [List.mem_cons, List.not_mem_nil, or_false] at hz; rcases hz with rfl | rfl | rfl; (· exact gr_ne (HGK.out _ KW).2 hz2 (show (37 : Nat) ≠ 79 by decide)); (· exact gr_ne (HGK.out _ KW).2 hz2 (show (37 : Nat) ≠ 79 by decide)); (· exact gr_ne (HGK.out _ KW).2 hz2 (show (27 : Nat) ≠ 79 by decide)))); clear O; intro v9 W O MR K hf; have HG10 := Lib.hid (grid_app (HGK.out _ KW).1 (HGK.out _ KW).2 K); have HMR := Lib.hid MR; clear hf K MR KW; simp only [Act.put, List.setIfInBounds_toArray, List.set_cons_zero, List.set_cons_succ])))
                            go_roundg (k - (q + 1))
                            case measure => (have := HG2.out; omega)
                            case rel => exact ⟨q + 1, by omega, rfl, by go_num, O.drop_ 2, HG10.out, by rw [HQE.out]; unfold MintP; rw [prL_snoc, List.length_append, ← HLN.out]; exact HMR.out⟩
                    · have z4 : (ai != aj) = true := by simpa using haa
                      have hF : rcB E rm q k = false := by simp [rcB, acB, HEI.out, HEJ.out, haa]
                      have HQE := Lib.hid (show (raceA E rm k ++ raceJ E rm k (q + 1)).take most = (raceA E rm k ++ raceJ E rm k q).take most from by rw [raceJ_succ, hF, if_neg (by simp), List.append_nil])
                      clear hF
                      go_wp2
                      refine wp_held (S := fun u' => (∀ j, j < (evC ⟨(wi : Int), 12, ai, vi, si⟩).size → u'.cell? ((ad.add (q * 5)).add j) = (evC ⟨(wi : Int), 12, ai, vi, si⟩)[j]?) ∧ (∀ j, j < (evC ⟨(wj : Int), 13, aj, vj, sj⟩).size → u'.cell? ((ad.add (k * 5)).add j) = (evC ⟨(wj : Int), 13, aj, vj, sj⟩)[j]?)) 12 #[false, false, false, false, false, false, false, false, false, false, false, false] (by kernel_rfl) rfl rfl ?_
                      replace O := O.drew
                      have KW := (Keeps.refl wr []).drew
                      refine seg_take (fuel := 4) (L' := #[true, true, true, true, true, true, true, true, false, false, false, false]) (by kernel_rfl) (fun _ _ _ _ _ _ h => h) ((HC.out _ O.keep)) [0, 1, 2, 3, 4, 5, 6, 7] [_, _, _, _, _, _, _, _] _ _ rfl (by kernel_rfl) ?_
                      simp only [List.getElem_toArray, List.getElem_cons_zero, List.getElem_cons_succ]
                      repeat (first
                        | (refine take_load_at 62 rfl (by rfl) rfl rfl (fun _ h => h.1) Try.underlying37 rfl (by kernel_rfl) ?_; simp only [Act.put, List.setIfInBounds_toArray, List.set_cons_zero, List.set_cons_succ])
                        | (refine take_load_at 66 rfl (by rfl) rfl rfl (fun _ h => h.2) Try.underlying37 rfl (by kernel_rfl) ?_; simp only [Act.put, List.setIfInBounds_toArray, List.set_cons_zero, List.set_cons_succ])
                        | (refine take_pure (v := ?_) (by rfl) ?_ ?_; rotate_left; (· (intro w hSw; clear hSw; go_simp; try with_reducible rfl)); simp only [Act.put, List.setIfInBounds_toArray, List.set_cons_zero, List.set_cons_succ]))
                      refine take_done ?_
                      refine seg_two 8 9 #[true, true, true, true, true, true, true, true, true, false, false, false] #[true, true, true, true, true, true, true, true, false, true, false, false] rfl rfl (by kernel_rfl) ?_ ?_
                      · try simp only [List.getElem_toArray, List.getElem_cons_zero, List.getElem_cons_succ]
                        refine own_allocK 15 (evC ⟨0, 0, 0, 0, false⟩) O rfl rfl rfl (fun _ => by kernel_rfl) ?_; clear O; intro W b15 O K hb; have HB15 := Lib.hid (Nat.le_trans KW.size hb); replace KW := KW.trans K (by simp); clear K hb; simp only [Act.put, List.setIfInBounds_toArray, List.set_cons_zero, List.set_cons_succ]
                        (first | refine back_intro2 (HC.out _ O.keep) ?_ | refine back_intro (HC.out _ O.keep) ?_)
                        refine seg_sole 9 #[true, true, true, true, true, true, true, true, true, true, false, false] rfl (by kernel_rfl) ?_
                        try simp only [List.getElem_toArray, List.getElem_cons_zero, List.getElem_cons_succ]
                        refine own_allocK 16 (evC ⟨0, 0, 0, 0, false⟩) O rfl rfl rfl (fun _ => by kernel_rfl) ?_; clear O; intro W b16 O K hb; have HB16 := Lib.hid (Nat.le_trans KW.size hb); replace KW := KW.trans K (by simp); clear K hb; simp only [Act.put, List.setIfInBounds_toArray, List.set_cons_zero, List.set_cons_succ]
                        (first | refine back_intro2 (HC.out _ O.keep) ?_ | refine back_intro (HC.out _ O.keep) ?_)
                        refine seg_sole 10 #[true, true, true, true, true, true, true, true, true, true, true, false] rfl (by kernel_rfl) ?_
                        try simp only [List.getElem_toArray, List.getElem_cons_zero, List.getElem_cons_succ]
                        (first | refine own_store_rowK 1 (.tmp 15) (.tmp 62) O rfl rfl rfl rfl rfl rfl (by kernel_rfl) (by rfl) (evC_cell _) ?_ | refine own_store_rowK 0 (.tmp 15) (.tmp 62) O rfl rfl rfl rfl rfl rfl (by kernel_rfl) (by rfl) (evC_cell _) ?_); clear O; intro W O K; simp only [List.set_cons_zero, List.set_cons_succ] at O; replace KW := KW.trans K (fun b hb hlt => by rw [List.mem_singleton.1 hb] at hlt; have := HB15.out; omega); clear K
                        (first | refine back_intro2 (HC.out _ O.keep) ?_ | refine back_intro (HC.out _ O.keep) ?_)
                        refine seg_sole 11 #[true, true, true, true, true, true, true, true, true, true, true, true] rfl (by kernel_rfl) ?_
                        try simp only [List.getElem_toArray, List.getElem_cons_zero, List.getElem_cons_succ]
                        (first | refine own_store_rowK 1 (.tmp 16) (.tmp 66) O rfl rfl rfl rfl rfl rfl (by kernel_rfl) (by rfl) (evC_cell _) ?_ | refine own_store_rowK 0 (.tmp 16) (.tmp 66) O rfl rfl rfl rfl rfl rfl (by kernel_rfl) (by rfl) (evC_cell _) ?_); clear O; intro W O K; simp only [List.set_cons_zero, List.set_cons_succ] at O; replace KW := KW.trans K (fun b hb hlt => by rw [List.mem_singleton.1 hb] at hlt; have := HB16.out; omega); clear K
                        (first | refine back_intro2 (HC.out _ O.keep) ?_ | refine back_intro (HC.out _ O.keep) ?_)
                        refine seg_done (by kernel_rfl) ?_
                        have c15 : ∀ i : Nat, W.cell? ⟨b15, i, none⟩ = (evC ⟨(wi : Int), 12, ai, vi, si⟩)[i]? := by first | exact (O.get 1 rfl).cell | exact (O.get 0 rfl).cell
                        have c16 : ∀ i : Nat, W.cell? ⟨b16, i, none⟩ = (evC ⟨(wj : Int), 13, aj, vj, sj⟩)[i]? := by first | exact (O.get 0 rfl).cell | exact (O.get 1 rfl).cell
                        simp only [evC] at c15 c16
                        go_wp2
                        go_roundg (k - (q + 1))
                        case measure => (have := HG2.out; omega)
                        case rel => exact ⟨q + 1, by omega, rfl, by go_num, O.drop_ 2, (HGK.out _ KW).1, by rw [HQE.out]; unfold MintP; rw [← HLN.out]; exact (HGK.out _ KW).2⟩
                      · try simp only [List.getElem_toArray, List.getElem_cons_zero, List.getElem_cons_succ]
                        refine own_allocK 16 (evC ⟨0, 0, 0, 0, false⟩) O rfl rfl rfl (fun _ => by kernel_rfl) ?_; clear O; intro W b16 O K hb; have HB16 := Lib.hid (Nat.le_trans KW.size hb); replace KW := KW.trans K (by simp); clear K hb; simp only [Act.put, List.setIfInBounds_toArray, List.set_cons_zero, List.set_cons_succ]
                        (first | refine back_intro2 (HC.out _ O.keep) ?_ | refine back_intro (HC.out _ O.keep) ?_)
                        refine seg_sole 8 #[true, true, true, true, true, true, true, true, true, true, false, false] rfl (by kernel_rfl) ?_
                        try simp only [List.getElem_toArray, List.getElem_cons_zero, List.getElem_cons_succ]
                        refine own_allocK 15 (evC ⟨0, 0, 0, 0, false⟩) O rfl rfl rfl (fun _ => by kernel_rfl) ?_; clear O; intro W b15 O K hb; have HB15 := Lib.hid (Nat.le_trans KW.size hb); replace KW := KW.trans K (by simp); clear K hb; simp only [Act.put, List.setIfInBounds_toArray, List.set_cons_zero, List.set_cons_succ]
                        (first | refine back_intro2 (HC.out _ O.keep) ?_ | refine back_intro (HC.out _ O.keep) ?_)
                        refine seg_sole 10 #[true, true, true, true, true, true, true, true, true, true, true, false] rfl (by kernel_rfl) ?_
                        try simp only [List.getElem_toArray, List.getElem_cons_zero, List.getElem_cons_succ]
                        (first | refine own_store_rowK 1 (.tmp 15) (.tmp 62) O rfl rfl rfl rfl rfl rfl (by kernel_rfl) (by rfl) (evC_cell _) ?_ | refine own_store_rowK 0 (.tmp 15) (.tmp 62) O rfl rfl rfl rfl rfl rfl (by kernel_rfl) (by rfl) (evC_cell _) ?_); clear O; intro W O K; simp only [List.set_cons_zero, List.set_cons_succ] at O; replace KW := KW.trans K (fun b hb hlt => by rw [List.mem_singleton.1 hb] at hlt; have := HB15.out; omega); clear K
                        (first | refine back_intro2 (HC.out _ O.keep) ?_ | refine back_intro (HC.out _ O.keep) ?_)
                        refine seg_sole 11 #[true, true, true, true, true, true, true, true, true, true, true, true] rfl (by kernel_rfl) ?_
                        try simp only [List.getElem_toArray, List.getElem_cons_zero, List.getElem_cons_succ]
                        (first | refine own_store_rowK 1 (.tmp 16) (.tmp 66) O rfl rfl rfl rfl rfl rfl (by kernel_rfl) (by rfl) (evC_cell _) ?_ | refine own_store_rowK 0 (.tmp 16) (.tmp 66) O rfl rfl rfl rfl rfl rfl (by kernel_rfl) (by rfl) (evC_cell _) ?_); clear O; intro W O K; simp only [List.set_cons_zero, List.set_cons_succ] at O; replace KW := KW.trans K (fun b hb hlt => by rw [List.mem_singleton.1 hb] at hlt; have := HB16.out; omega); clear K
                        (first | refine back_intro2 (HC.out _ O.keep) ?_ | refine back_intro (HC.out _ O.keep) ?_)
                        refine seg_done (by kernel_rfl) ?_
                        have c15 : ∀ i : Nat, W.cell? ⟨b15, i, none⟩ = (evC ⟨(wi : Int), 12, ai, vi, si⟩)[i]? := by first | exact (O.get 1 rfl).cell | exact (O.get 0 rfl).cell
                        have c16 : ∀ i : Nat, W.cell? ⟨b16, i, none⟩ = (evC ⟨(wj : Int), 13, aj, vj, sj⟩)[i]? := by first | exact (O.get 0 rfl).cell | exact (O.get 1 rfl).cell
                        simp only [evC] at c15 c16
                        go_wp2
                        go_roundg (k - (q + 1))
                        case measure => (have := HG2.out; omega)
                        case rel => exact ⟨q + 1, by omega, rfl, by go_num, O.drop_ 2, (HGK.out _ KW).1, by rw [HQE.out]; unfold MintP; rw [← HLN.out]; exact (HGK.out _ KW).2⟩
                  · have e3 : (oj != 12) = true := by simpa using j12
                    have e4 : (oj != 13) = true := by simpa using j13
                    have hF : rcB E rm q k = false := by simp [rcB, acB, HEI.out, HEJ.out, j12, j13]
                    have HQE := Lib.hid (show (raceA E rm k ++ raceJ E rm k (q + 1)).take most = (raceA E rm k ++ raceJ E rm k q).take most from by rw [raceJ_succ, hF, if_neg (by simp), List.append_nil])
                    clear hF
                    go_wp2
                    refine wp_held (S := fun u' => (∀ j, j < (evC ⟨(wi : Int), 12, ai, vi, si⟩).size → u'.cell? ((ad.add (q * 5)).add j) = (evC ⟨(wi : Int), 12, ai, vi, si⟩)[j]?) ∧ (∀ j, j < (evC ⟨(wj : Int), oj, aj, vj, sj⟩).size → u'.cell? ((ad.add (k * 5)).add j) = (evC ⟨(wj : Int), oj, aj, vj, sj⟩)[j]?)) 12 #[false, false, false, false, false, false, false, false, false, false, false, false] (by kernel_rfl) rfl rfl ?_
                    replace O := O.drew
                    have KW := (Keeps.refl wr []).drew
                    refine seg_take (fuel := 4) (L' := #[true, true, true, true, true, true, true, true, false, false, false, false]) (by kernel_rfl) (fun _ _ _ _ _ _ h => h) ((HC.out _ O.keep)) [0, 1, 2, 3, 4, 5, 6, 7] [_, _, _, _, _, _, _, _] _ _ rfl (by kernel_rfl) ?_
                    simp only [List.getElem_toArray, List.getElem_cons_zero, List.getElem_cons_succ]
                    repeat (first
                      | (refine take_load_at 62 rfl (by rfl) rfl rfl (fun _ h => h.1) Try.underlying37 rfl (by kernel_rfl) ?_; simp only [Act.put, List.setIfInBounds_toArray, List.set_cons_zero, List.set_cons_succ])
                      | (refine take_load_at 66 rfl (by rfl) rfl rfl (fun _ h => h.2) Try.underlying37 rfl (by kernel_rfl) ?_; simp only [Act.put, List.setIfInBounds_toArray, List.set_cons_zero, List.set_cons_succ])
                      | (refine take_pure (v := ?_) (by rfl) ?_ ?_; rotate_left; (· (intro w hSw; clear hSw; go_simp; try with_reducible rfl)); simp only [Act.put, List.setIfInBounds_toArray, List.set_cons_zero, List.set_cons_succ]))
                    refine take_done ?_
                    refine seg_two 8 9 #[true, true, true, true, true, true, true, true, true, false, false, false] #[true, true, true, true, true, true, true, true, false, true, false, false] rfl rfl (by kernel_rfl) ?_ ?_
                    · try simp only [List.getElem_toArray, List.getElem_cons_zero, List.getElem_cons_succ]
                      refine own_allocK 15 (evC ⟨0, 0, 0, 0, false⟩) O rfl rfl rfl (fun _ => by kernel_rfl) ?_; clear O; intro W b15 O K hb; have HB15 := Lib.hid (Nat.le_trans KW.size hb); replace KW := KW.trans K (by simp); clear K hb; simp only [Act.put, List.setIfInBounds_toArray, List.set_cons_zero, List.set_cons_succ]
                      (first | refine back_intro2 (HC.out _ O.keep) ?_ | refine back_intro (HC.out _ O.keep) ?_)
                      refine seg_sole 9 #[true, true, true, true, true, true, true, true, true, true, false, false] rfl (by kernel_rfl) ?_
                      try simp only [List.getElem_toArray, List.getElem_cons_zero, List.getElem_cons_succ]
                      refine own_allocK 16 (evC ⟨0, 0, 0, 0, false⟩) O rfl rfl rfl (fun _ => by kernel_rfl) ?_; clear O; intro W b16 O K hb; have HB16 := Lib.hid (Nat.le_trans KW.size hb); replace KW := KW.trans K (by simp); clear K hb; simp only [Act.put, List.setIfInBounds_toArray, List.set_cons_zero, List.set_cons_succ]
                      (first | refine back_intro2 (HC.out _ O.keep) ?_ | refine back_intro (HC.out _ O.keep) ?_)
                      refine seg_sole 10 #[true, true, true, true, true, true, true, true, true, true, true, false] rfl (by kernel_rfl) ?_
                      try simp only [List.getElem_toArray, List.getElem_cons_zero, List.getElem_cons_succ]
                      (first | refine own_store_rowK 1 (.tmp 15) (.tmp 62) O rfl rfl rfl rfl rfl rfl (by kernel_rfl) (by rfl) (evC_cell _) ?_ | refine own_store_rowK 0 (.tmp 15) (.tmp 62) O rfl rfl rfl rfl rfl rfl (by kernel_rfl) (by rfl) (evC_cell _) ?_); clear O; intro W O K; simp only [List.set_cons_zero, List.set_cons_succ] at O; replace KW := KW.trans K (fun b hb hlt => by rw [List.mem_singleton.1 hb] at hlt; have := HB15.out; omega); clear K
                      (first | refine back_intro2 (HC.out _ O.keep) ?_ | refine back_intro (HC.out _ O.keep) ?_)
                      refine seg_sole 11 #[true, true, true, true, true, true, true, true, true, true, true, true] rfl (by kernel_rfl) ?_
                      try simp only [List.getElem_toArray, List.getElem_cons_zero, List.getElem_cons_succ]
                      (first | refine own_store_rowK 1 (.tmp 16) (.tmp 66) O rfl rfl rfl rfl rfl rfl (by kernel_rfl) (by rfl) (evC_cell _) ?_ | refine own_store_rowK 0 (.tmp 16) (.tmp 66) O rfl rfl rfl rfl rfl rfl (by kernel_rfl) (by rfl) (evC_cell _) ?_); clear O; intro W O K; simp only [List.set_cons_zero, List.set_cons_succ] at O; replace KW := KW.trans K (fun b hb hlt => by rw [List.mem_singleton.1 hb] at hlt; have := HB16.out; omega); clear K
                      (first | refine back_intro2 (HC.out _ O.keep) ?_ | refine back_intro (HC.out _ O.keep) ?_)
                      refine seg_done (by kernel_rfl) ?_
                      have c15 : ∀ i : Nat, W.cell? ⟨b15, i, none⟩ = (evC ⟨(wi : Int), 12, ai, vi, si⟩)[i]? := by first | exact (O.get 1 rfl).cell | exact (O.get 0 rfl).cell
                      have c16 : ∀ i : Nat, W.cell? ⟨b16, i, none⟩ = (evC ⟨(wj : Int), oj, aj, vj, sj⟩)[i]? := by first | exact (O.get 0 rfl).cell | exact (O.get 1 rfl).cell
                      simp only [evC] at c15 c16
                      go_wp2
                      go_roundg (k - (q + 1))
                      case measure => (have := HG2.out; omega)
                      case rel => exact ⟨q + 1, by omega, rfl, by go_num, O.drop_ 2, (HGK.out _ KW).1, by rw [HQE.out]; unfold MintP; rw [← HLN.out]; exact (HGK.out _ KW).2⟩
                    · try simp only [List.getElem_toArray, List.getElem_cons_zero, List.getElem_cons_succ]
                      refine own_allocK 16 (evC ⟨0, 0, 0, 0, false⟩) O rfl rfl rfl (fun _ => by kernel_rfl) ?_; clear O; intro W b16 O K hb; have HB16 := Lib.hid (Nat.le_trans KW.size hb); replace KW := KW.trans K (by simp); clear K hb; simp only [Act.put, List.setIfInBounds_toArray, List.set_cons_zero, List.set_cons_succ]
                      (first | refine back_intro2 (HC.out _ O.keep) ?_ | refine back_intro (HC.out _ O.keep) ?_)
                      refine seg_sole 8 #[true, true, true, true, true, true, true, true, true, true, false, false] rfl (by kernel_rfl) ?_
                      try simp only [List.getElem_toArray, List.getElem_cons_zero, List.getElem_cons_succ]
                      refine own_allocK 15 (evC ⟨0, 0, 0, 0, false⟩) O rfl rfl rfl (fun _ => by kernel_rfl) ?_; clear O; intro W b15 O K hb; have HB15 := Lib.hid (Nat.le_trans KW.size hb); replace KW := KW.trans K (by simp); clear K hb; simp only [Act.put, List.setIfInBounds_toArray, List.set_cons_zero, List.set_cons_succ]
                      (first | refine back_intro2 (HC.out _ O.keep) ?_ | refine back_intro (HC.out _ O.keep) ?_)
                      refine seg_sole 10 #[true, true, true, true, true, true, true, true, true, true, true, false] rfl (by kernel_rfl) ?_
                      try simp only [List.getElem_toArray, List.getElem_cons_zero, List.getElem_cons_succ]
                      (first | refine own_store_rowK 1 (.tmp 15) (.tmp 62) O rfl rfl rfl rfl rfl rfl (by kernel_rfl) (by rfl) (evC_cell _) ?_ | refine own_store_rowK 0 (.tmp 15) (.tmp 62) O rfl rfl rfl rfl rfl rfl (by kernel_rfl) (by rfl) (evC_cell _) ?_); clear O; intro W O K; simp only [List.set_cons_zero, List.set_cons_succ] at O; replace KW := KW.trans K (fun b hb hlt => by rw [List.mem_singleton.1 hb] at hlt; have := HB15.out; omega); clear K
                      (first | refine back_intro2 (HC.out _ O.keep) ?_ | refine back_intro (HC.out _ O.keep) ?_)
                      refine seg_sole 11 #[true, true, true, true, true, true, true, true, true, true, true, true] rfl (by kernel_rfl) ?_
                      try simp only [List.getElem_toArray, List.getElem_cons_zero, List.getElem_cons_succ]
                      (first | refine own_store_rowK 1 (.tmp 16) (.tmp 66) O rfl rfl rfl rfl rfl rfl (by kernel_rfl) (by rfl) (evC_cell _) ?_ | refine own_store_rowK 0 (.tmp 16) (.tmp 66) O rfl rfl rfl rfl rfl rfl (by kernel_rfl) (by rfl) (evC_cell _) ?_); clear O; intro W O K; simp only [List.set_cons_zero, List.set_cons_succ] at O; replace KW := KW.trans K (fun b hb hlt => by rw [List.mem_singleton.1 hb] at hlt; have := HB16.out; omega); clear K
                      (first | refine back_intro2 (HC.out _ O.keep) ?_ | refine back_intro (HC.out _ O.keep) ?_)
                      refine seg_done (by kernel_rfl) ?_
                      have c15 : ∀ i : Nat, W.cell? ⟨b15, i, none⟩ = (evC ⟨(wi : Int), 12, ai, vi, si⟩)[i]? := by first | exact (O.get 1 rfl).cell | exact (O.get 0 rfl).cell
                      have c16 : ∀ i : Nat, W.cell? ⟨b16, i, none⟩ = (evC ⟨(wj : Int), oj, aj, vj, sj⟩)[i]? := by first | exact (O.get 0 rfl).cell | exact (O.get 1 rfl).cell
                      simp only [evC] at c15 c16
                      go_wp2
                      go_roundg (k - (q + 1))
                      case measure => (have := HG2.out; omega)
                      case rel => exact ⟨q + 1, by omega, rfl, by go_num, O.drop_ 2, (HGK.out _ KW).1, by rw [HQE.out]; unfold MintP; rw [← HLN.out]; exact (HGK.out _ KW).2⟩
              · by_cases i13 : oi = 13
                · subst i13
                  by_cases j12 : oj = 12
                  · subst j12
                    by_cases haa : ai = aj
                    · subst haa
                      by_cases hww : (wi : Int) = (wj : Int)
                      · have z4 : (ai != ai) = false := by simp
                        have z5 : ((wi : Int) == (wj : Int)) = true := by simp [hww]
                        have hF : rcB E rm q k = false := by simp [rcB, acB, HEI.out, HEJ.out, hww]
                        have HQE := Lib.hid (show (raceA E rm k ++ raceJ E rm k (q + 1)).take most = (raceA E rm k ++ raceJ E rm k q).take most from by rw [raceJ_succ, hF, if_neg (by simp), List.append_nil])
                        clear hF
                        go_wp2
                        refine wp_held (S := fun u' => (∀ j, j < (evC ⟨(wi : Int), 13, ai, vi, si⟩).size → u'.cell? ((ad.add (q * 5)).add j) = (evC ⟨(wi : Int), 13, ai, vi, si⟩)[j]?) ∧ (∀ j, j < (evC ⟨(wj : Int), 12, ai, vj, sj⟩).size → u'.cell? ((ad.add (k * 5)).add j) = (evC ⟨(wj : Int), 12, ai, vj, sj⟩)[j]?)) 12 #[false, false, false, false, false, false, false, false, false, false, false, false] (by kernel_rfl) rfl rfl ?_
                        replace O := O.drew
                        have KW := (Keeps.refl wr []).drew
                        refine seg_take (fuel := 4) (L' := #[true, true, true, true, true, true, true, true, false, false, false, false]) (by kernel_rfl) (fun _ _ _ _ _ _ h => h) ((HC.out _ O.keep)) [0, 1, 2, 3, 4, 5, 6, 7] [_, _, _, _, _, _, _, _] _ _ rfl (by kernel_rfl) ?_
                        simp only [List.getElem_toArray, List.getElem_cons_zero, List.getElem_cons_succ]
                        repeat (first
                          | (refine take_load_at 62 rfl (by rfl) rfl rfl (fun _ h => h.1) Try.underlying37 rfl (by kernel_rfl) ?_; simp only [Act.put, List.setIfInBounds_toArray, List.set_cons_zero, List.set_cons_succ])
                          | (refine take_load_at 66 rfl (by rfl) rfl rfl (fun _ h => h.2) Try.underlying37 rfl (by kernel_rfl) ?_; simp only [Act.put, List.setIfInBounds_toArray, List.set_cons_zero, List.set_cons_succ])
                          | (refine take_pure (v := ?_) (by rfl) ?_ ?_; rotate_left; (· (intro w hSw; clear hSw; go_simp; try with_reducible rfl)); simp only [Act.put, List.setIfInBounds_toArray, List.set_cons_zero, List.set_cons_succ]))
                        refine take_done ?_
                        refine seg_two 8 9 #[true, true, true, true, true, true, true, true, true, false, false, false] #[true, true, true, true, true, true, true, true, false, true, false, false] rfl rfl (by kernel_rfl) ?_ ?_
                        · try simp only [List.getElem_toArray, List.getElem_cons_zero, List.getElem_cons_succ]
                          refine own_allocK 15 (evC ⟨0, 0, 0, 0, false⟩) O rfl rfl rfl (fun _ => by kernel_rfl) ?_; clear O; intro W b15 O K hb; have HB15 := Lib.hid (Nat.le_trans KW.size hb); replace KW := KW.trans K (by simp); clear K hb; simp only [Act.put, List.setIfInBounds_toArray, List.set_cons_zero, List.set_cons_succ]
                          (first | refine back_intro2 (HC.out _ O.keep) ?_ | refine back_intro (HC.out _ O.keep) ?_)
                          refine seg_sole 9 #[true, true, true, true, true, true, true, true, true, true, false, false] rfl (by kernel_rfl) ?_
                          try simp only [List.getElem_toArray, List.getElem_cons_zero, List.getElem_cons_succ]
                          refine own_allocK 16 (evC ⟨0, 0, 0, 0, false⟩) O rfl rfl rfl (fun _ => by kernel_rfl) ?_; clear O; intro W b16 O K hb; have HB16 := Lib.hid (Nat.le_trans KW.size hb); replace KW := KW.trans K (by simp); clear K hb; simp only [Act.put, List.setIfInBounds_toArray, List.set_cons_zero, List.set_cons_succ]
                          (first | refine back_intro2 (HC.out _ O.keep) ?_ | refine back_intro (HC.out _ O.keep) ?_)
                          refine seg_sole 10 #[true, true, true, true, true, true, true, true, true, true, true, false] rfl (by kernel_rfl) ?_
                          try simp only [List.getElem_toArray, List.getElem_cons_zero, List.getElem_cons_succ]
                          (first | refine own_store_rowK 1 (.tmp 15) (.tmp 62) O rfl rfl rfl rfl rfl rfl (by kernel_rfl) (by rfl) (evC_cell _) ?_ | refine own_store_rowK 0 (.tmp 15) (.tmp 62) O rfl rfl rfl rfl rfl rfl (by kernel_rfl) (by rfl) (evC_cell _) ?_); clear O; intro W O K; simp only [List.set_cons_zero, List.set_cons_succ] at O; replace KW := KW.trans K (fun b hb hlt => by rw [List.mem_singleton.1 hb] at hlt; have := HB15.out; omega); clear K
                          (first | refine back_intro2 (HC.out _ O.keep) ?_ | refine back_intro (HC.out _ O.keep) ?_)
                          refine seg_sole 11 #[true, true, true, true, true, true, true, true, true, true, true, true] rfl (by kernel_rfl) ?_
                          try simp only [List.getElem_toArray, List.getElem_cons_zero, List.getElem_cons_succ]
                          (first | refine own_store_rowK 1 (.tmp 16) (.tmp 66) O rfl rfl rfl rfl rfl rfl (by kernel_rfl) (by rfl) (evC_cell _) ?_ | refine own_store_rowK 0 (.tmp 16) (.tmp 66) O rfl rfl rfl rfl rfl rfl (by kernel_rfl) (by rfl) (evC_cell _) ?_); clear O; intro W O K; simp only [List.set_cons_zero, List.set_cons_succ] at O; replace KW := KW.trans K (fun b hb hlt => by rw [List.mem_singleton.1 hb] at hlt; have := HB16.out; omega); clear K
                          (first | refine back_intro2 (HC.out _ O.keep) ?_ | refine back_intro (HC.out _ O.keep) ?_)
                          refine seg_done (by kernel_rfl) ?_
                          have c15 : ∀ i : Nat, W.cell? ⟨b15, i, none⟩ = (evC ⟨(wi : Int), 13, ai, vi, si⟩)[i]? := by first | exact (O.get 1 rfl).cell | exact (O.get 0 rfl).cell
                          have c16 : ∀ i : Nat, W.cell? ⟨b16, i, none⟩ = (evC ⟨(wj : Int), 12, ai, vj, sj⟩)[i]? := by first | exact (O.get 0 rfl).cell | exact (O.get 1 rfl).cell
                          simp only [evC] at c15 c16
                          go_wp2
                          go_roundg (k - (q + 1))
                          case measure => (have := HG2.out; omega)
                          case rel => exact ⟨q + 1, by omega, rfl, by go_num, O.drop_ 2, (HGK.out _ KW).1, by rw [HQE.out]; unfold MintP; rw [← HLN.out]; exact (HGK.out _ KW).2⟩
                        · try simp only [List.getElem_toArray, List.getElem_cons_zero, List.getElem_cons_succ]
                          refine own_allocK 16 (evC ⟨0, 0, 0, 0, false⟩) O rfl rfl rfl (fun _ => by kernel_rfl) ?_; clear O; intro W b16 O K hb; have HB16 := Lib.hid (Nat.le_trans KW.size hb); replace KW := KW.trans K (by simp); clear K hb; simp only [Act.put, List.setIfInBounds_toArray, List.set_cons_zero, List.set_cons_succ]
                          (first | refine back_intro2 (HC.out _ O.keep) ?_ | refine back_intro (HC.out _ O.keep) ?_)
                          refine seg_sole 8 #[true, true, true, true, true, true, true, true, true, true, false, false] rfl (by kernel_rfl) ?_
                          try simp only [List.getElem_toArray, List.getElem_cons_zero, List.getElem_cons_succ]
                          refine own_allocK 15 (evC ⟨0, 0, 0, 0, false⟩) O rfl rfl rfl (fun _ => by kernel_rfl) ?_; clear O; intro W b15 O K hb; have HB15 := Lib.hid (Nat.le_trans KW.size hb); replace KW := KW.trans K (by simp); clear K hb; simp only [Act.put, List.setIfInBounds_toArray, List.set_cons_zero, List.set_cons_succ]
                          (first | refine back_intro2 (HC.out _ O.keep) ?_ | refine back_intro (HC.out _ O.keep) ?_)
                          refine seg_sole 10 #[true, true, true, true, true, true, true, true, true, true, true, false] rfl (by kernel_rfl) ?_
                          try simp only [List.getElem_toArray, List.getElem_cons_zero, List.getElem_cons_succ]
                          (first | refine own_store_rowK 1 (.tmp 15) (.tmp 62) O rfl rfl rfl rfl rfl rfl (by kernel_rfl) (by rfl) (evC_cell _) ?_ | refine own_store_rowK 0 (.tmp 15) (.tmp 62) O rfl rfl rfl rfl rfl rfl (by kernel_rfl) (by rfl) (evC_cell _) ?_); clear O; intro W O K; simp only [List.set_cons_zero, List.set_cons_succ] at O; replace KW := KW.trans K (fun b hb hlt => by rw [List.mem_singleton.1 hb] at hlt; have := HB15.out; omega); clear K
                          (first | refine back_intro2 (HC.out _ O.keep) ?_ | refine back_intro (HC.out _ O.keep) ?_)
                          refine seg_sole 11 #[true, true, true, true, true, true, true, true, true, true, true, true] rfl (by kernel_rfl) ?_
                          try simp only [List.getElem_toArray, List.getElem_cons_zero, List.getElem_cons_succ]
                          (first | refine own_store_rowK 1 (.tmp 16) (.tmp 66) O rfl rfl rfl rfl rfl rfl (by kernel_rfl) (by rfl) (evC_cell _) ?_ | refine own_store_rowK 0 (.tmp 16) (.tmp 66) O rfl rfl rfl rfl rfl rfl (by kernel_rfl) (by rfl) (evC_cell _) ?_); clear O; intro W O K; simp only [List.set_cons_zero, List.set_cons_succ] at O; replace KW := KW.trans K (fun b hb hlt => by rw [List.mem_singleton.1 hb] at hlt; have := HB16.out; omega); clear K
                          (first | refine back_intro2 (HC.out _ O.keep) ?_ | refine back_intro (HC.out _ O.keep) ?_)
                          refine seg_done (by kernel_rfl) ?_
                          have c15 : ∀ i : Nat, W.cell? ⟨b15, i, none⟩ = (evC ⟨(wi : Int), 13, ai, vi, si⟩)[i]? := by first | exact (O.get 1 rfl).cell | exact (O.get 0 rfl).cell
                          have c16 : ∀ i : Nat, W.cell? ⟨b16, i, none⟩ = (evC ⟨(wj : Int), 12, ai, vj, sj⟩)[i]? := by first | exact (O.get 0 rfl).cell | exact (O.get 1 rfl).cell
                          simp only [evC] at c15 c16
                          go_wp2
                          go_roundg (k - (q + 1))
                          case measure => (have := HG2.out; omega)
                          case rel => exact ⟨q + 1, by omega, rfl, by go_num, O.drop_ 2, (HGK.out _ KW).1, by rw [HQE.out]; unfold MintP; rw [← HLN.out]; exact (HGK.out _ KW).2⟩
                      · by_cases hle : clk E rm (q : Int) (wi : Int) ≤ clk E rm (k : Int) (wi : Int)
                        · have z4 : (ai != ai) = false := by simp
                          have z5 : ((wi : Int) == (wj : Int)) = false := by simpa using hww
                          have hF : rcB E rm q k = false := by simp [rcB, acB, HEI.out, HEJ.out, hww, hle]
                          have HQE := Lib.hid (show (raceA E rm k ++ raceJ E rm k (q + 1)).take most = (raceA E rm k ++ raceJ E rm k q).take most from by rw [raceJ_succ, hF, if_neg (by simp), List.append_nil])
                          clear hF
                          have HOR := Lib.hid (show decide (clk E rm (q : Int) (wi : Int) ≤ clk E rm (k : Int) (wi : Int)) = true from decide_eq_true hle)
                          go_wp2
                          refine wp_held (S := fun u' => (∀ j, j < (evC ⟨(wi : Int), 13, ai, vi, si⟩).size → u'.cell? ((ad.add (q * 5)).add j) = (evC ⟨(wi : Int), 13, ai, vi, si⟩)[j]?) ∧ (∀ j, j < (evC ⟨(wj : Int), 12, ai, vj, sj⟩).size → u'.cell? ((ad.add (k * 5)).add j) = (evC ⟨(wj : Int), 12, ai, vj, sj⟩)[j]?)) 12 #[false, false, false, false, false, false, false, false, false, false, false, false] (by kernel_rfl) rfl rfl ?_
                          replace O := O.drew
                          have KW := (Keeps.refl wr []).drew
                          refine seg_take (fuel := 4) (L' := #[true, true, true, true, true, true, true, true, false, false, false, false]) (by kernel_rfl) (fun _ _ _ _ _ _ h => h) ((HC.out _ O.keep)) [0, 1, 2, 3, 4, 5, 6, 7] [_, _, _, _, _, _, _, _] _ _ rfl (by kernel_rfl) ?_
                          simp only [List.getElem_toArray, List.getElem_cons_zero, List.getElem_cons_succ]
                          repeat (first
                            | (refine take_load_at 62 rfl (by rfl) rfl rfl (fun _ h => h.1) Try.underlying37 rfl (by kernel_rfl) ?_; simp only [Act.put, List.setIfInBounds_toArray, List.set_cons_zero, List.set_cons_succ])
                            | (refine take_load_at 66 rfl (by rfl) rfl rfl (fun _ h => h.2) Try.underlying37 rfl (by kernel_rfl) ?_; simp only [Act.put, List.setIfInBounds_toArray, List.set_cons_zero, List.set_cons_succ])
                            | (refine take_pure (v := ?_) (by rfl) ?_ ?_; rotate_left; (· (intro w hSw; clear hSw; go_simp; try with_reducible rfl)); simp only [Act.put, List.setIfInBounds_toArray, List.set_cons_zero, List.set_cons_succ]))
                          refine take_done ?_
                          refine seg_two 8 9 #[true, true, true, true, true, true, true, true, true, false, false, false] #[true, true, true, true, true, true, true, true, false, true, false, false] rfl rfl (by kernel_rfl) ?_ ?_
                          · try simp only [List.getElem_toArray, List.getElem_cons_zero, List.getElem_cons_succ]
                            refine own_allocK 15 (evC ⟨0, 0, 0, 0, false⟩) O rfl rfl rfl (fun _ => by kernel_rfl) ?_; clear O; intro W b15 O K hb; have HB15 := Lib.hid (Nat.le_trans KW.size hb); replace KW := KW.trans K (by simp); clear K hb; simp only [Act.put, List.setIfInBounds_toArray, List.set_cons_zero, List.set_cons_succ]
                            (first | refine back_intro2 (HC.out _ O.keep) ?_ | refine back_intro (HC.out _ O.keep) ?_)
                            refine seg_sole 9 #[true, true, true, true, true, true, true, true, true, true, false, false] rfl (by kernel_rfl) ?_
                            try simp only [List.getElem_toArray, List.getElem_cons_zero, List.getElem_cons_succ]
                            refine own_allocK 16 (evC ⟨0, 0, 0, 0, false⟩) O rfl rfl rfl (fun _ => by kernel_rfl) ?_; clear O; intro W b16 O K hb; have HB16 := Lib.hid (Nat.le_trans KW.size hb); replace KW := KW.trans K (by simp); clear K hb; simp only [Act.put, List.setIfInBounds_toArray, List.set_cons_zero, List.set_cons_succ]
                            (first | refine back_intro2 (HC.out _ O.keep) ?_ | refine back_intro (HC.out _ O.keep) ?_)
                            refine seg_sole 10 #[true, true, true, true, true, true, true, true, true, true, true, false] rfl (by kernel_rfl) ?_
                            try simp only [List.getElem_toArray, List.getElem_cons_zero, List.getElem_cons_succ]
                            (first | refine own_store_rowK 1 (.tmp 15) (.tmp 62) O rfl rfl rfl rfl rfl rfl (by kernel_rfl) (by rfl) (evC_cell _) ?_ | refine own_store_rowK 0 (.tmp 15) (.tmp 62) O rfl rfl rfl rfl rfl rfl (by kernel_rfl) (by rfl) (evC_cell _) ?_); clear O; intro W O K; simp only [List.set_cons_zero, List.set_cons_succ] at O; replace KW := KW.trans K (fun b hb hlt => by rw [List.mem_singleton.1 hb] at hlt; have := HB15.out; omega); clear K
                            (first | refine back_intro2 (HC.out _ O.keep) ?_ | refine back_intro (HC.out _ O.keep) ?_)
                            refine seg_sole 11 #[true, true, true, true, true, true, true, true, true, true, true, true] rfl (by kernel_rfl) ?_
                            try simp only [List.getElem_toArray, List.getElem_cons_zero, List.getElem_cons_succ]
                            (first | refine own_store_rowK 1 (.tmp 16) (.tmp 66) O rfl rfl rfl rfl rfl rfl (by kernel_rfl) (by rfl) (evC_cell _) ?_ | refine own_store_rowK 0 (.tmp 16) (.tmp 66) O rfl rfl rfl rfl rfl rfl (by kernel_rfl) (by rfl) (evC_cell _) ?_); clear O; intro W O K; simp only [List.set_cons_zero, List.set_cons_succ] at O; replace KW := KW.trans K (fun b hb hlt => by rw [List.mem_singleton.1 hb] at hlt; have := HB16.out; omega); clear K
                            (first | refine back_intro2 (HC.out _ O.keep) ?_ | refine back_intro (HC.out _ O.keep) ?_)
                            refine seg_done (by kernel_rfl) ?_
                            have c15 : ∀ i : Nat, W.cell? ⟨b15, i, none⟩ = (evC ⟨(wi : Int), 13, ai, vi, si⟩)[i]? := by first | exact (O.get 1 rfl).cell | exact (O.get 0 rfl).cell
                            have c16 : ∀ i : Nat, W.cell? ⟨b16, i, none⟩ = (evC ⟨(wj : Int), 12, ai, vj, sj⟩)[i]? := by first | exact (O.get 0 rfl).cell | exact (O.get 1 rfl).cell
                            simp only [evC] at c15 c16
                            go_wp2_with (go_at_call 77; refine (ordered_any (HGK.out _ KW).1 (HE.out.kept O.keep) (show q < n by omega) hkn hwi hwir hr6 hn).mono ?_; rintro e W ⟨he, K⟩; obtain rfl : e = .returned (.bool true) := he.trans (congrArg (fun b => Ending.returned (.bool b)) HOR.out); replace O := O.keeps K; replace KW := KW.trans K (by simp); clear K he c15 c16)
                            go_roundg (k - (q + 1))
                            case measure => (have := HG2.out; omega)
                            case rel => exact ⟨q + 1, by omega, rfl, by go_num, O.drop_ 2, (HGK.out _ KW).1, by rw [HQE.out]; unfold MintP; rw [← HLN.out]; exact (HGK.out _ KW).2⟩
                          · try simp only [List.getElem_toArray, List.getElem_cons_zero, List.getElem_cons_succ]
                            refine own_allocK 16 (evC ⟨0, 0, 0, 0, false⟩) O rfl rfl rfl (fun _ => by kernel_rfl) ?_; clear O; intro W b16 O K hb; have HB16 := Lib.hid (Nat.le_trans KW.size hb); replace KW := KW.trans K (by simp); clear K hb; simp only [Act.put, List.setIfInBounds_toArray, List.set_cons_zero, List.set_cons_succ]
                            (first | refine back_intro2 (HC.out _ O.keep) ?_ | refine back_intro (HC.out _ O.keep) ?_)
                            refine seg_sole 8 #[true, true, true, true, true, true, true, true, true, true, false, false] rfl (by kernel_rfl) ?_
                            try simp only [List.getElem_toArray, List.getElem_cons_zero, List.getElem_cons_succ]
                            refine own_allocK 15 (evC ⟨0, 0, 0, 0, false⟩) O rfl rfl rfl (fun _ => by kernel_rfl) ?_; clear O; intro W b15 O K hb; have HB15 := Lib.hid (Nat.le_trans KW.size hb); replace KW := KW.trans K (by simp); clear K hb; simp only [Act.put, List.setIfInBounds_toArray, List.set_cons_zero, List.set_cons_succ]
                            (first | refine back_intro2 (HC.out _ O.keep) ?_ | refine back_intro (HC.out _ O.keep) ?_)
                            refine seg_sole 10 #[true, true, true, true, true, true, true, true, true, true, true, false] rfl (by kernel_rfl) ?_
                            try simp only [List.getElem_toArray, List.getElem_cons_zero, List.getElem_cons_succ]
                            (first | refine own_store_rowK 1 (.tmp 15) (.tmp 62) O rfl rfl rfl rfl rfl rfl (by kernel_rfl) (by rfl) (evC_cell _) ?_ | refine own_store_rowK 0 (.tmp 15) (.tmp 62) O rfl rfl rfl rfl rfl rfl (by kernel_rfl) (by rfl) (evC_cell _) ?_); clear O; intro W O K; simp only [List.set_cons_zero, List.set_cons_succ] at O; replace KW := KW.trans K (fun b hb hlt => by rw [List.mem_singleton.1 hb] at hlt; have := HB15.out; omega); clear K
                            (first | refine back_intro2 (HC.out _ O.keep) ?_ | refine back_intro (HC.out _ O.keep) ?_)
                            refine seg_sole 11 #[true, true, true, true, true, true, true, true, true, true, true, true] rfl (by kernel_rfl) ?_
                            try simp only [List.getElem_toArray, List.getElem_cons_zero, List.getElem_cons_succ]
                            (first | refine own_store_rowK 1 (.tmp 16) (.tmp 66) O rfl rfl rfl rfl rfl rfl (by kernel_rfl) (by rfl) (evC_cell _) ?_ | refine own_store_rowK 0 (.tmp 16) (.tmp 66) O rfl rfl rfl rfl rfl rfl (by kernel_rfl) (by rfl) (evC_cell _) ?_); clear O; intro W O K; simp only [List.set_cons_zero, List.set_cons_succ] at O; replace KW := KW.trans K (fun b hb hlt => by rw [List.mem_singleton.1 hb] at hlt; have := HB16.out; omega); clear K
                            (first | refine back_intro2 (HC.out _ O.keep) ?_ | refine back_intro (HC.out _ O.keep) ?_)
                            refine seg_done (by kernel_rfl) ?_
                            have c15 : ∀ i : Nat, W.cell? ⟨b15, i, none⟩ = (evC ⟨(wi : Int), 13, ai, vi, si⟩)[i]? := by first | exact (O.get 1 rfl).cell | exact (O.get 0 rfl).cell
                            have c16 : ∀ i : Nat, W.cell? ⟨b16, i, none⟩ = (evC ⟨(wj : Int), 12, ai, vj, sj⟩)[i]? := by first | exact (O.get 0 rfl).cell | exact (O.get 1 rfl).cell
                            simp only [evC] at c15 c16
                            go_wp2_with (go_at_call 77; refine (ordered_any (HGK.out _ KW).1 (HE.out.kept O.keep) (show q < n by omega) hkn hwi hwir hr6 hn).mono ?_; rintro e W ⟨he, K⟩; obtain rfl : e = .returned (.bool true) := he.trans (congrArg (fun b => Ending.returned (.bool b)) HOR.out); replace O := O.keeps K; replace KW := KW.trans K (by simp); clear K he c15 c16)
                            go_roundg (k - (q + 1))
                            case measure => (have := HG2.out; omega)
                            case rel => exact ⟨q + 1, by omega, rfl, by go_num, O.drop_ 2, (HGK.out _ KW).1, by rw [HQE.out]; unfold MintP; rw [← HLN.out]; exact (HGK.out _ KW).2⟩
                        · have z4 : (ai != ai) = false := by simp
                          have z5 : ((wi : Int) == (wj : Int)) = false := by simpa using hww
                          have hF : rcB E rm q k = true := by simp [rcB, acB, HEI.out, HEJ.out, hww, hle]
                          have HQE := Lib.hid (show (raceA E rm k ++ raceJ E rm k (q + 1)).take most = (raceA E rm k ++ raceJ E rm k q).take most ++ [prR q k] from by rw [raceJ_succ, hF, if_pos rfl, ← List.append_assoc, take_snoc, if_pos ((take_len_lt _ _).1 (by rw [← HLN.out]; exact hfull))])
                          clear hF
                          have HOR := Lib.hid (show decide (clk E rm (q : Int) (wi : Int) ≤ clk E rm (k : Int) (wi : Int)) = false from decide_eq_false hle)
                          go_wp2
                          refine wp_held (S := fun u' => (∀ j, j < (evC ⟨(wi : Int), 13, ai, vi, si⟩).size → u'.cell? ((ad.add (q * 5)).add j) = (evC ⟨(wi : Int), 13, ai, vi, si⟩)[j]?) ∧ (∀ j, j < (evC ⟨(wj : Int), 12, ai, vj, sj⟩).size → u'.cell? ((ad.add (k * 5)).add j) = (evC ⟨(wj : Int), 12, ai, vj, sj⟩)[j]?)) 12 #[false, false, false, false, false, false, false, false, false, false, false, false] (by kernel_rfl) rfl rfl ?_
                          replace O := O.drew
                          have KW := (Keeps.refl wr []).drew
                          refine seg_take (fuel := 4) (L' := #[true, true, true, true, true, true, true, true, false, false, false, false]) (by kernel_rfl) (fun _ _ _ _ _ _ h => h) ((HC.out _ O.keep)) [0, 1, 2, 3, 4, 5, 6, 7] [_, _, _, _, _, _, _, _] _ _ rfl (by kernel_rfl) ?_
                          simp only [List.getElem_toArray, List.getElem_cons_zero, List.getElem_cons_succ]
                          repeat (first
                            | (refine take_load_at 62 rfl (by rfl) rfl rfl (fun _ h => h.1) Try.underlying37 rfl (by kernel_rfl) ?_; simp only [Act.put, List.setIfInBounds_toArray, List.set_cons_zero, List.set_cons_succ])
                            | (refine take_load_at 66 rfl (by rfl) rfl rfl (fun _ h => h.2) Try.underlying37 rfl (by kernel_rfl) ?_; simp only [Act.put, List.setIfInBounds_toArray, List.set_cons_zero, List.set_cons_succ])
                            | (refine take_pure (v := ?_) (by rfl) ?_ ?_; rotate_left; (· (intro w hSw; clear hSw; go_simp; try with_reducible rfl)); simp only [Act.put, List.setIfInBounds_toArray, List.set_cons_zero, List.set_cons_succ]))
                          refine take_done ?_
                          refine seg_two 8 9 #[true, true, true, true, true, true, true, true, true, false, false, false] #[true, true, true, true, true, true, true, true, false, true, false, false] rfl rfl (by kernel_rfl) ?_ ?_
                          · try simp only [List.getElem_toArray, List.getElem_cons_zero, List.getElem_cons_succ]
                            refine own_allocK 15 (evC ⟨0, 0, 0, 0, false⟩) O rfl rfl rfl (fun _ => by kernel_rfl) ?_; clear O; intro W b15 O K hb; have HB15 := Lib.hid (Nat.le_trans KW.size hb); replace KW := KW.trans K (by simp); clear K hb; simp only [Act.put, List.setIfInBounds_toArray, List.set_cons_zero, List.set_cons_succ]
                            (first | refine back_intro2 (HC.out _ O.keep) ?_ | refine back_intro (HC.out _ O.keep) ?_)
                            refine seg_sole 9 #[true, true, true, true, true, true, true, true, true, true, false, false] rfl (by kernel_rfl) ?_
                            try simp only [List.getElem_toArray, List.getElem_cons_zero, List.getElem_cons_succ]
                            refine own_allocK 16 (evC ⟨0, 0, 0, 0, false⟩) O rfl rfl rfl (fun _ => by kernel_rfl) ?_; clear O; intro W b16 O K hb; have HB16 := Lib.hid (Nat.le_trans KW.size hb); replace KW := KW.trans K (by simp); clear K hb; simp only [Act.put, List.setIfInBounds_toArray, List.set_cons_zero, List.set_cons_succ]
                            (first | refine back_intro2 (HC.out _ O.keep) ?_ | refine back_intro (HC.out _ O.keep) ?_)
                            refine seg_sole 10 #[true, true, true, true, true, true, true, true, true, true, true, false] rfl (by kernel_rfl) ?_
                            try simp only [List.getElem_toArray, List.getElem_cons_zero, List.getElem_cons_succ]
                            (first | refine own_store_rowK 1 (.tmp 15) (.tmp 62) O rfl rfl rfl rfl rfl rfl (by kernel_rfl) (by rfl) (evC_cell _) ?_ | refine own_store_rowK 0 (.tmp 15) (.tmp 62) O rfl rfl rfl rfl rfl rfl (by kernel_rfl) (by rfl) (evC_cell _) ?_); clear O; intro W O K; simp only [List.set_cons_zero, List.set_cons_succ] at O; replace KW := KW.trans K (fun b hb hlt => by rw [List.mem_singleton.1 hb] at hlt; have := HB15.out; omega); clear K
                            (first | refine back_intro2 (HC.out _ O.keep) ?_ | refine back_intro (HC.out _ O.keep) ?_)
                            refine seg_sole 11 #[true, true, true, true, true, true, true, true, true, true, true, true] rfl (by kernel_rfl) ?_
                            try simp only [List.getElem_toArray, List.getElem_cons_zero, List.getElem_cons_succ]
                            (first | refine own_store_rowK 1 (.tmp 16) (.tmp 66) O rfl rfl rfl rfl rfl rfl (by kernel_rfl) (by rfl) (evC_cell _) ?_ | refine own_store_rowK 0 (.tmp 16) (.tmp 66) O rfl rfl rfl rfl rfl rfl (by kernel_rfl) (by rfl) (evC_cell _) ?_); clear O; intro W O K; simp only [List.set_cons_zero, List.set_cons_succ] at O; replace KW := KW.trans K (fun b hb hlt => by rw [List.mem_singleton.1 hb] at hlt; have := HB16.out; omega); clear K
                            (first | refine back_intro2 (HC.out _ O.keep) ?_ | refine back_intro (HC.out _ O.keep) ?_)
                            refine seg_done (by kernel_rfl) ?_
                            have c15 : ∀ i : Nat, W.cell? ⟨b15, i, none⟩ = (evC ⟨(wi : Int), 13, ai, vi, si⟩)[i]? := by first | exact (O.get 1 rfl).cell | exact (O.get 0 rfl).cell
                            have c16 : ∀ i : Nat, W.cell? ⟨b16, i, none⟩ = (evC ⟨(wj : Int), 12, ai, vj, sj⟩)[i]? := by first | exact (O.get 0 rfl).cell | exact (O.get 1 rfl).cell
                            simp only [evC] at c15 c16
                            go_wp2_with (first
                              | (go_at_call 77; refine (ordered_any (HGK.out _ KW).1 (HE.out.kept O.keep) (show q < n by omega) hkn hwi hwir hr6 hn).mono ?_; rintro e W ⟨he, K⟩; obtain rfl : e = .returned (.bool false) := he.trans (congrArg (fun b => Ending.returned (.bool b)) HOR.out); replace O := O.keeps K; replace KW := KW.trans K (by simp); clear K he c15 c16)
                              | (refine own_litK 119 73 79 1 2 (.agg #[.int .i64 0, .int .i64 0]) _ (#[.int .i64 (q : Int), .int .i64 (k : Int)]) O rfl rfl rfl Try.underlying73 (by kernel_rfl) (by decide) (by decide) (by first | rfl | kernel_rfl) ?_; clear O; intro W gl O K hgl; replace KW := KW.trans K (by simp); clear K hgl; simp only [Act.put, List.setIfInBounds_toArray, List.set_cons_zero, List.set_cons_succ])
                              | (at_builtin; go_loud (refine gr_app (.tmp 115) (.tmp 119) rowT73 O (HGK.out _ KW).2 rfl (by simp [Value.oneCell']) rfl rfl rfl rfl (Nat.le_refl _) O.keep.size (fun z hz => ?_) (by omega) (by decide) ?_; (· (have hz2 := O.blk z (List.mem_cons_of_mem _ hz); simp only [List.mem_cons, List.not_mem_nil, or_false] at hz; rcases hz with rfl | rfl | rfl; (· exact gr_ne (HGK.out _ KW).2 hz2 (show (37 : Nat) ≠ 79 by decide)); (· exact gr_ne (HGK.out _ KW).2 hz2 (show (37 : Nat) ≠ 79 by decide)); (· exact gr_ne (HGK.out _ KW).2 hz2 (show (27 : Nat) ≠ 79 by decide)))); clear O; intro v9 W O MR K hf; have HG10 := Lib.hid (grid_app (HGK.out _ KW).1 (HGK.out _ KW).2 K); have HMR := Lib.hid MR; clear hf K MR KW; simp only [Act.put, List.setIfInBounds_toArray, List.set_cons_zero, List.set_cons_succ])))
                            go_roundg (k - (q + 1))
                            case measure => (have := HG2.out; omega)
                            case rel => exact ⟨q + 1, by omega, rfl, by go_num, O.drop_ 2, HG10.out, by rw [HQE.out]; unfold MintP; rw [prL_snoc, List.length_append, ← HLN.out]; exact HMR.out⟩
                          · try simp only [List.getElem_toArray, List.getElem_cons_zero, List.getElem_cons_succ]
                            refine own_allocK 16 (evC ⟨0, 0, 0, 0, false⟩) O rfl rfl rfl (fun _ => by kernel_rfl) ?_; clear O; intro W b16 O K hb; have HB16 := Lib.hid (Nat.le_trans KW.size hb); replace KW := KW.trans K (by simp); clear K hb; simp only [Act.put, List.setIfInBounds_toArray, List.set_cons_zero, List.set_cons_succ]
                            (first | refine back_intro2 (HC.out _ O.keep) ?_ | refine back_intro (HC.out _ O.keep) ?_)
                            refine seg_sole 8 #[true, true, true, true, true, true, true, true, true, true, false, false] rfl (by kernel_rfl) ?_
                            try simp only [List.getElem_toArray, List.getElem_cons_zero, List.getElem_cons_succ]
                            refine own_allocK 15 (evC ⟨0, 0, 0, 0, false⟩) O rfl rfl rfl (fun _ => by kernel_rfl) ?_; clear O; intro W b15 O K hb; have HB15 := Lib.hid (Nat.le_trans KW.size hb); replace KW := KW.trans K (by simp); clear K hb; simp only [Act.put, List.setIfInBounds_toArray, List.set_cons_zero, List.set_cons_succ]
                            (first | refine back_intro2 (HC.out _ O.keep) ?_ | refine back_intro (HC.out _ O.keep) ?_)
                            refine seg_sole 10 #[true, true, true, true, true, true, true, true, true, true, true, false] rfl (by kernel_rfl) ?_
                            try simp only [List.getElem_toArray, List.getElem_cons_zero, List.getElem_cons_succ]
                            (first | refine own_store_rowK 1 (.tmp 15) (.tmp 62) O rfl rfl rfl rfl rfl rfl (by kernel_rfl) (by rfl) (evC_cell _) ?_ | refine own_store_rowK 0 (.tmp 15) (.tmp 62) O rfl rfl rfl rfl rfl rfl (by kernel_rfl) (by rfl) (evC_cell _) ?_); clear O; intro W O K; simp only [List.set_cons_zero, List.set_cons_succ] at O; replace KW := KW.trans K (fun b hb hlt => by rw [List.mem_singleton.1 hb] at hlt; have := HB15.out; omega); clear K
                            (first | refine back_intro2 (HC.out _ O.keep) ?_ | refine back_intro (HC.out _ O.keep) ?_)
                            refine seg_sole 11 #[true, true, true, true, true, true, true, true, true, true, true, true] rfl (by kernel_rfl) ?_
                            try simp only [List.getElem_toArray, List.getElem_cons_zero, List.getElem_cons_succ]
                            (first | refine own_store_rowK 1 (.tmp 16) (.tmp 66) O rfl rfl rfl rfl rfl rfl (by kernel_rfl) (by rfl) (evC_cell _) ?_ | refine own_store_rowK 0 (.tmp 16) (.tmp 66) O rfl rfl rfl rfl rfl rfl (by kernel_rfl) (by rfl) (evC_cell _) ?_); clear O; intro W O K; simp only [List.set_cons_zero, List.set_cons_succ] at O; replace KW := KW.trans K (fun b hb hlt => by rw [List.mem_singleton.1 hb] at hlt; have := HB16.out; omega); clear K
                            (first | refine back_intro2 (HC.out _ O.keep) ?_ | refine back_intro (HC.out _ O.keep) ?_)
                            refine seg_done (by kernel_rfl) ?_
                            have c15 : ∀ i : Nat, W.cell? ⟨b15, i, none⟩ = (evC ⟨(wi : Int), 13, ai, vi, si⟩)[i]? := by first | exact (O.get 1 rfl).cell | exact (O.get 0 rfl).cell
                            have c16 : ∀ i : Nat, W.cell? ⟨b16, i, none⟩ = (evC ⟨(wj : Int), 12, ai, vj, sj⟩)[i]? := by first | exact (O.get 0 rfl).cell | exact (O.get 1 rfl).cell
                            simp only [evC] at c15 c16
                            go_wp2_with (first
                              | (go_at_call 77; refine (ordered_any (HGK.out _ KW).1 (HE.out.kept O.keep) (show q < n by omega) hkn hwi hwir hr6 hn).mono ?_; rintro e W ⟨he, K⟩; obtain rfl : e = .returned (.bool false) := he.trans (congrArg (fun b => Ending.returned (.bool b)) HOR.out); replace O := O.keeps K; replace KW := KW.trans K (by simp); clear K he c15 c16)
                              | (refine own_litK 119 73 79 1 2 (.agg #[.int .i64 0, .int .i64 0]) _ (#[.int .i64 (q : Int), .int .i64 (k : Int)]) O rfl rfl rfl Try.underlying73 (by kernel_rfl) (by decide) (by decide) (by first | rfl | kernel_rfl) ?_; clear O; intro W gl O K hgl; replace KW := KW.trans K (by simp); clear K hgl; simp only [Act.put, List.setIfInBounds_toArray, List.set_cons_zero, List.set_cons_succ])
                              | (at_builtin; go_loud (refine gr_app (.tmp 115) (.tmp 119) rowT73 O (HGK.out _ KW).2 rfl (by simp [Value.oneCell']) rfl rfl rfl rfl (Nat.le_refl _) O.keep.size (fun z hz => ?_) (by omega) (by decide) ?_; (· (have hz2 := O.blk z (List.mem_cons_of_mem _ hz); simp only [List.mem_cons, List.not_mem_nil, or_false] at hz; rcases hz with rfl | rfl | rfl; (· exact gr_ne (HGK.out _ KW).2 hz2 (show (37 : Nat) ≠ 79 by decide)); (· exact gr_ne (HGK.out _ KW).2 hz2 (show (37 : Nat) ≠ 79 by decide)); (· exact gr_ne (HGK.out _ KW).2 hz2 (show (27 : Nat) ≠ 79 by decide)))); clear O; intro v9 W O MR K hf; have HG10 := Lib.hid (grid_app (HGK.out _ KW).1 (HGK.out _ KW).2 K); have HMR := Lib.hid MR; clear hf K MR KW; simp only [Act.put, List.setIfInBounds_toArray, List.set_cons_zero, List.set_cons_succ])))
                            go_roundg (k - (q + 1))
                            case measure => (have := HG2.out; omega)
                            case rel => exact ⟨q + 1, by omega, rfl, by go_num, O.drop_ 2, HG10.out, by rw [HQE.out]; unfold MintP; rw [prL_snoc, List.length_append, ← HLN.out]; exact HMR.out⟩
                    · have z4 : (ai != aj) = true := by simpa using haa
                      have hF : rcB E rm q k = false := by simp [rcB, acB, HEI.out, HEJ.out, haa]
                      have HQE := Lib.hid (show (raceA E rm k ++ raceJ E rm k (q + 1)).take most = (raceA E rm k ++ raceJ E rm k q).take most from by rw [raceJ_succ, hF, if_neg (by simp), List.append_nil])
                      clear hF
                      go_wp2
                      refine wp_held (S := fun u' => (∀ j, j < (evC ⟨(wi : Int), 13, ai, vi, si⟩).size → u'.cell? ((ad.add (q * 5)).add j) = (evC ⟨(wi : Int), 13, ai, vi, si⟩)[j]?) ∧ (∀ j, j < (evC ⟨(wj : Int), 12, aj, vj, sj⟩).size → u'.cell? ((ad.add (k * 5)).add j) = (evC ⟨(wj : Int), 12, aj, vj, sj⟩)[j]?)) 12 #[false, false, false, false, false, false, false, false, false, false, false, false] (by kernel_rfl) rfl rfl ?_
                      replace O := O.drew
                      have KW := (Keeps.refl wr []).drew
                      refine seg_take (fuel := 4) (L' := #[true, true, true, true, true, true, true, true, false, false, false, false]) (by kernel_rfl) (fun _ _ _ _ _ _ h => h) ((HC.out _ O.keep)) [0, 1, 2, 3, 4, 5, 6, 7] [_, _, _, _, _, _, _, _] _ _ rfl (by kernel_rfl) ?_
                      simp only [List.getElem_toArray, List.getElem_cons_zero, List.getElem_cons_succ]
                      repeat (first
                        | (refine take_load_at 62 rfl (by rfl) rfl rfl (fun _ h => h.1) Try.underlying37 rfl (by kernel_rfl) ?_; simp only [Act.put, List.setIfInBounds_toArray, List.set_cons_zero, List.set_cons_succ])
                        | (refine take_load_at 66 rfl (by rfl) rfl rfl (fun _ h => h.2) Try.underlying37 rfl (by kernel_rfl) ?_; simp only [Act.put, List.setIfInBounds_toArray, List.set_cons_zero, List.set_cons_succ])
                        | (refine take_pure (v := ?_) (by rfl) ?_ ?_; rotate_left; (· (intro w hSw; clear hSw; go_simp; try with_reducible rfl)); simp only [Act.put, List.setIfInBounds_toArray, List.set_cons_zero, List.set_cons_succ]))
                      refine take_done ?_
                      refine seg_two 8 9 #[true, true, true, true, true, true, true, true, true, false, false, false] #[true, true, true, true, true, true, true, true, false, true, false, false] rfl rfl (by kernel_rfl) ?_ ?_
                      · try simp only [List.getElem_toArray, List.getElem_cons_zero, List.getElem_cons_succ]
                        refine own_allocK 15 (evC ⟨0, 0, 0, 0, false⟩) O rfl rfl rfl (fun _ => by kernel_rfl) ?_; clear O; intro W b15 O K hb; have HB15 := Lib.hid (Nat.le_trans KW.size hb); replace KW := KW.trans K (by simp); clear K hb; simp only [Act.put, List.setIfInBounds_toArray, List.set_cons_zero, List.set_cons_succ]
                        (first | refine back_intro2 (HC.out _ O.keep) ?_ | refine back_intro (HC.out _ O.keep) ?_)
                        refine seg_sole 9 #[true, true, true, true, true, true, true, true, true, true, false, false] rfl (by kernel_rfl) ?_
                        try simp only [List.getElem_toArray, List.getElem_cons_zero, List.getElem_cons_succ]
                        refine own_allocK 16 (evC ⟨0, 0, 0, 0, false⟩) O rfl rfl rfl (fun _ => by kernel_rfl) ?_; clear O; intro W b16 O K hb; have HB16 := Lib.hid (Nat.le_trans KW.size hb); replace KW := KW.trans K (by simp); clear K hb; simp only [Act.put, List.setIfInBounds_toArray, List.set_cons_zero, List.set_cons_succ]
                        (first | refine back_intro2 (HC.out _ O.keep) ?_ | refine back_intro (HC.out _ O.keep) ?_)
                        refine seg_sole 10 #[true, true, true, true, true, true, true, true, true, true, true, false] rfl (by kernel_rfl) ?_
                        try simp only [List.getElem_toArray, List.getElem_cons_zero, List.getElem_cons_succ]
                        (first | refine own_store_rowK 1 (.tmp 15) (.tmp 62) O rfl rfl rfl rfl rfl rfl (by kernel_rfl) (by rfl) (evC_cell _) ?_ | refine own_store_rowK 0 (.tmp 15) (.tmp 62) O rfl rfl rfl rfl rfl rfl (by kernel_rfl) (by rfl) (evC_cell _) ?_); clear O; intro W O K; simp only [List.set_cons_zero, List.set_cons_succ] at O; replace KW := KW.trans K (fun b hb hlt => by rw [List.mem_singleton.1 hb] at hlt; have := HB15.out; omega); clear K
                        (first | refine back_intro2 (HC.out _ O.keep) ?_ | refine back_intro (HC.out _ O.keep) ?_)
                        refine seg_sole 11 #[true, true, true, true, true, true, true, true, true, true, true, true] rfl (by kernel_rfl) ?_
                        try simp only [List.getElem_toArray, List.getElem_cons_zero, List.getElem_cons_succ]
                        (first | refine own_store_rowK 1 (.tmp 16) (.tmp 66) O rfl rfl rfl rfl rfl rfl (by kernel_rfl) (by rfl) (evC_cell _) ?_ | refine own_store_rowK 0 (.tmp 16) (.tmp 66) O rfl rfl rfl rfl rfl rfl (by kernel_rfl) (by rfl) (evC_cell _) ?_); clear O; intro W O K; simp only [List.set_cons_zero, List.set_cons_succ] at O; replace KW := KW.trans K (fun b hb hlt => by rw [List.mem_singleton.1 hb] at hlt; have := HB16.out; omega); clear K
                        (first | refine back_intro2 (HC.out _ O.keep) ?_ | refine back_intro (HC.out _ O.keep) ?_)
                        refine seg_done (by kernel_rfl) ?_
                        have c15 : ∀ i : Nat, W.cell? ⟨b15, i, none⟩ = (evC ⟨(wi : Int), 13, ai, vi, si⟩)[i]? := by first | exact (O.get 1 rfl).cell | exact (O.get 0 rfl).cell
                        have c16 : ∀ i : Nat, W.cell? ⟨b16, i, none⟩ = (evC ⟨(wj : Int), 12, aj, vj, sj⟩)[i]? := by first | exact (O.get 0 rfl).cell | exact (O.get 1 rfl).cell
                        simp only [evC] at c15 c16
                        go_wp2
                        go_roundg (k - (q + 1))
                        case measure => (have := HG2.out; omega)
                        case rel => exact ⟨q + 1, by omega, rfl, by go_num, O.drop_ 2, (HGK.out _ KW).1, by rw [HQE.out]; unfold MintP; rw [← HLN.out]; exact (HGK.out _ KW).2⟩
                      · try simp only [List.getElem_toArray, List.getElem_cons_zero, List.getElem_cons_succ]
                        refine own_allocK 16 (evC ⟨0, 0, 0, 0, false⟩) O rfl rfl rfl (fun _ => by kernel_rfl) ?_; clear O; intro W b16 O K hb; have HB16 := Lib.hid (Nat.le_trans KW.size hb); replace KW := KW.trans K (by simp); clear K hb; simp only [Act.put, List.setIfInBounds_toArray, List.set_cons_zero, List.set_cons_succ]
                        (first | refine back_intro2 (HC.out _ O.keep) ?_ | refine back_intro (HC.out _ O.keep) ?_)
                        refine seg_sole 8 #[true, true, true, true, true, true, true, true, true, true, false, false] rfl (by kernel_rfl) ?_
                        try simp only [List.getElem_toArray, List.getElem_cons_zero, List.getElem_cons_succ]
                        refine own_allocK 15 (evC ⟨0, 0, 0, 0, false⟩) O rfl rfl rfl (fun _ => by kernel_rfl) ?_; clear O; intro W b15 O K hb; have HB15 := Lib.hid (Nat.le_trans KW.size hb); replace KW := KW.trans K (by simp); clear K hb; simp only [Act.put, List.setIfInBounds_toArray, List.set_cons_zero, List.set_cons_succ]
                        (first | refine back_intro2 (HC.out _ O.keep) ?_ | refine back_intro (HC.out _ O.keep) ?_)
                        refine seg_sole 10 #[true, true, true, true, true, true, true, true, true, true, true, false] rfl (by kernel_rfl) ?_
                        try simp only [List.getElem_toArray, List.getElem_cons_zero, List.getElem_cons_succ]
                        (first | refine own_store_rowK 1 (.tmp 15) (.tmp 62) O rfl rfl rfl rfl rfl rfl (by kernel_rfl) (by rfl) (evC_cell _) ?_ | refine own_store_rowK 0 (.tmp 15) (.tmp 62) O rfl rfl rfl rfl rfl rfl (by kernel_rfl) (by rfl) (evC_cell _) ?_); clear O; intro W O K; simp only [List.set_cons_zero, List.set_cons_succ] at O; replace KW := KW.trans K (fun b hb hlt => by rw [List.mem_singleton.1 hb] at hlt; have := HB15.out; omega); clear K
                        (first | refine back_intro2 (HC.out _ O.keep) ?_ | refine back_intro (HC.out _ O.keep) ?_)
                        refine seg_sole 11 #[true, true, true, true, true, true, true, true, true, true, true, true] rfl (by kernel_rfl) ?_
                        try simp only [List.getElem_toArray, List.getElem_cons_zero, List.getElem_cons_succ]
                        (first | refine own_store_rowK 1 (.tmp 16) (.tmp 66) O rfl rfl rfl rfl rfl rfl (by kernel_rfl) (by rfl) (evC_cell _) ?_ | refine own_store_rowK 0 (.tmp 16) (.tmp 66) O rfl rfl rfl rfl rfl rfl (by kernel_rfl) (by rfl) (evC_cell _) ?_); clear O; intro W O K; simp only [List.set_cons_zero, List.set_cons_succ] at O; replace KW := KW.trans K (fun b hb hlt => by rw [List.mem_singleton.1 hb] at hlt; have := HB16.out; omega); clear K
                        (first | refine back_intro2 (HC.out _ O.keep) ?_ | refine back_intro (HC.out _ O.keep) ?_)
                        refine seg_done (by kernel_rfl) ?_
                        have c15 : ∀ i : Nat, W.cell? ⟨b15, i, none⟩ = (evC ⟨(wi : Int), 13, ai, vi, si⟩)[i]? := by first | exact (O.get 1 rfl).cell | exact (O.get 0 rfl).cell
                        have c16 : ∀ i : Nat, W.cell? ⟨b16, i, none⟩ = (evC ⟨(wj : Int), 12, aj, vj, sj⟩)[i]? := by first | exact (O.get 0 rfl).cell | exact (O.get 1 rfl).cell
                        simp only [evC] at c15 c16
                        go_wp2
                        go_roundg (k - (q + 1))
                        case measure => (have := HG2.out; omega)
                        case rel => exact ⟨q + 1, by omega, rfl, by go_num, O.drop_ 2, (HGK.out _ KW).1, by rw [HQE.out]; unfold MintP; rw [← HLN.out]; exact (HGK.out _ KW).2⟩
                  · by_cases j13 : oj = 13
                    · subst j13
                      by_cases haa : ai = aj
                      · subst haa
                        by_cases hww : (wi : Int) = (wj : Int)
                        · have z4 : (ai != ai) = false := by simp
                          have z5 : ((wi : Int) == (wj : Int)) = true := by simp [hww]
                          have hF : rcB E rm q k = false := by simp [rcB, acB, HEI.out, HEJ.out, hww]
                          have HQE := Lib.hid (show (raceA E rm k ++ raceJ E rm k (q + 1)).take most = (raceA E rm k ++ raceJ E rm k q).take most from by rw [raceJ_succ, hF, if_neg (by simp), List.append_nil])
                          clear hF
                          go_wp2
                          refine wp_held (S := fun u' => (∀ j, j < (evC ⟨(wi : Int), 13, ai, vi, si⟩).size → u'.cell? ((ad.add (q * 5)).add j) = (evC ⟨(wi : Int), 13, ai, vi, si⟩)[j]?) ∧ (∀ j, j < (evC ⟨(wj : Int), 13, ai, vj, sj⟩).size → u'.cell? ((ad.add (k * 5)).add j) = (evC ⟨(wj : Int), 13, ai, vj, sj⟩)[j]?)) 12 #[false, false, false, false, false, false, false, false, false, false, false, false] (by kernel_rfl) rfl rfl ?_
                          replace O := O.drew
                          have KW := (Keeps.refl wr []).drew
                          refine seg_take (fuel := 4) (L' := #[true, true, true, true, true, true, true, true, false, false, false, false]) (by kernel_rfl) (fun _ _ _ _ _ _ h => h) ((HC.out _ O.keep)) [0, 1, 2, 3, 4, 5, 6, 7] [_, _, _, _, _, _, _, _] _ _ rfl (by kernel_rfl) ?_
                          simp only [List.getElem_toArray, List.getElem_cons_zero, List.getElem_cons_succ]
                          repeat (first
                            | (refine take_load_at 62 rfl (by rfl) rfl rfl (fun _ h => h.1) Try.underlying37 rfl (by kernel_rfl) ?_; simp only [Act.put, List.setIfInBounds_toArray, List.set_cons_zero, List.set_cons_succ])
                            | (refine take_load_at 66 rfl (by rfl) rfl rfl (fun _ h => h.2) Try.underlying37 rfl (by kernel_rfl) ?_; simp only [Act.put, List.setIfInBounds_toArray, List.set_cons_zero, List.set_cons_succ])
                            | (refine take_pure (v := ?_) (by rfl) ?_ ?_; rotate_left; (· (intro w hSw; clear hSw; go_simp; try with_reducible rfl)); simp only [Act.put, List.setIfInBounds_toArray, List.set_cons_zero, List.set_cons_succ]))
                          refine take_done ?_
                          refine seg_two 8 9 #[true, true, true, true, true, true, true, true, true, false, false, false] #[true, true, true, true, true, true, true, true, false, true, false, false] rfl rfl (by kernel_rfl) ?_ ?_
                          · try simp only [List.getElem_toArray, List.getElem_cons_zero, List.getElem_cons_succ]
                            refine own_allocK 15 (evC ⟨0, 0, 0, 0, false⟩) O rfl rfl rfl (fun _ => by kernel_rfl) ?_; clear O; intro W b15 O K hb; have HB15 := Lib.hid (Nat.le_trans KW.size hb); replace KW := KW.trans K (by simp); clear K hb; simp only [Act.put, List.setIfInBounds_toArray, List.set_cons_zero, List.set_cons_succ]
                            (first | refine back_intro2 (HC.out _ O.keep) ?_ | refine back_intro (HC.out _ O.keep) ?_)
                            refine seg_sole 9 #[true, true, true, true, true, true, true, true, true, true, false, false] rfl (by kernel_rfl) ?_
                            try simp only [List.getElem_toArray, List.getElem_cons_zero, List.getElem_cons_succ]
                            refine own_allocK 16 (evC ⟨0, 0, 0, 0, false⟩) O rfl rfl rfl (fun _ => by kernel_rfl) ?_; clear O; intro W b16 O K hb; have HB16 := Lib.hid (Nat.le_trans KW.size hb); replace KW := KW.trans K (by simp); clear K hb; simp only [Act.put, List.setIfInBounds_toArray, List.set_cons_zero, List.set_cons_succ]
                            (first | refine back_intro2 (HC.out _ O.keep) ?_ | refine back_intro (HC.out _ O.keep) ?_)
                            refine seg_sole 10 #[true, true, true, true, true, true, true, true, true, true, true, false] rfl (by kernel_rfl) ?_
                            try simp only [List.getElem_toArray, List.getElem_cons_zero, List.getElem_cons_succ]
                            (first | refine own_store_rowK 1 (.tmp 15) (.tmp 62) O rfl rfl rfl rfl rfl rfl (by kernel_rfl) (by rfl) (evC_cell _) ?_ | refine own_store_rowK 0 (.tmp 15) (.tmp 62) O rfl rfl rfl rfl rfl rfl (by kernel_rfl) (by rfl) (evC_cell _) ?_); clear O; intro W O K; simp only [List.set_cons_zero, List.set_cons_succ] at O; replace KW := KW.trans K (fun b hb hlt => by rw [List.mem_singleton.1 hb] at hlt; have := HB15.out; omega); clear K
                            (first | refine back_intro2 (HC.out _ O.keep) ?_ | refine back_intro (HC.out _ O.keep) ?_)
                            refine seg_sole 11 #[true, true, true, true, true, true, true, true, true, true, true, true] rfl (by kernel_rfl) ?_
                            try simp only [List.getElem_toArray, List.getElem_cons_zero, List.getElem_cons_succ]
                            (first | refine own_store_rowK 1 (.tmp 16) (.tmp 66) O rfl rfl rfl rfl rfl rfl (by kernel_rfl) (by rfl) (evC_cell _) ?_ | refine own_store_rowK 0 (.tmp 16) (.tmp 66) O rfl rfl rfl rfl rfl rfl (by kernel_rfl) (by rfl) (evC_cell _) ?_); clear O; intro W O K; simp only [List.set_cons_zero, List.set_cons_succ] at O; replace KW := KW.trans K (fun b hb hlt => by rw [List.mem_singleton.1 hb] at hlt; have := HB16.out; omega); clear K
                            (first | refine back_intro2 (HC.out _ O.keep) ?_ | refine back_intro (HC.out _ O.keep) ?_)
                            refine seg_done (by kernel_rfl) ?_
                            have c15 : ∀ i : Nat, W.cell? ⟨b15, i, none⟩ = (evC ⟨(wi : Int), 13, ai, vi, si⟩)[i]? := by first | exact (O.get 1 rfl).cell | exact (O.get 0 rfl).cell
                            have c16 : ∀ i : Nat, W.cell? ⟨b16, i, none⟩ = (evC ⟨(wj : Int), 13, ai, vj, sj⟩)[i]? := by first | exact (O.get 0 rfl).cell | exact (O.get 1 rfl).cell
                            simp only [evC] at c15 c16
                            go_wp2
                            go_roundg (k - (q + 1))
                            case measure => (have := HG2.out; omega)
                            case rel => exact ⟨q + 1, by omega, rfl, by go_num, O.drop_ 2, (HGK.out _ KW).1, by rw [HQE.out]; unfold MintP; rw [← HLN.out]; exact (HGK.out _ KW).2⟩
                          · try simp only [List.getElem_toArray, List.getElem_cons_zero, List.getElem_cons_succ]
                            refine own_allocK 16 (evC ⟨0, 0, 0, 0, false⟩) O rfl rfl rfl (fun _ => by kernel_rfl) ?_; clear O; intro W b16 O K hb; have HB16 := Lib.hid (Nat.le_trans KW.size hb); replace KW := KW.trans K (by simp); clear K hb; simp only [Act.put, List.setIfInBounds_toArray, List.set_cons_zero, List.set_cons_succ]
                            (first | refine back_intro2 (HC.out _ O.keep) ?_ | refine back_intro (HC.out _ O.keep) ?_)
                            refine seg_sole 8 #[true, true, true, true, true, true, true, true, true, true, false, false] rfl (by kernel_rfl) ?_
                            try simp only [List.getElem_toArray, List.getElem_cons_zero, List.getElem_cons_succ]
                            refine own_allocK 15 (evC ⟨0, 0, 0, 0, false⟩) O rfl rfl rfl (fun _ => by kernel_rfl) ?_; clear O; intro W b15 O K hb; have HB15 := Lib.hid (Nat.le_trans KW.size hb); replace KW := KW.trans K (by simp); clear K hb; simp only [Act.put, List.setIfInBounds_toArray, List.set_cons_zero, List.set_cons_succ]
                            (first | refine back_intro2 (HC.out _ O.keep) ?_ | refine back_intro (HC.out _ O.keep) ?_)
                            refine seg_sole 10 #[true, true, true, true, true, true, true, true, true, true, true, false] rfl (by kernel_rfl) ?_
                            try simp only [List.getElem_toArray, List.getElem_cons_zero, List.getElem_cons_succ]
                            (first | refine own_store_rowK 1 (.tmp 15) (.tmp 62) O rfl rfl rfl rfl rfl rfl (by kernel_rfl) (by rfl) (evC_cell _) ?_ | refine own_store_rowK 0 (.tmp 15) (.tmp 62) O rfl rfl rfl rfl rfl rfl (by kernel_rfl) (by rfl) (evC_cell _) ?_); clear O; intro W O K; simp only [List.set_cons_zero, List.set_cons_succ] at O; replace KW := KW.trans K (fun b hb hlt => by rw [List.mem_singleton.1 hb] at hlt; have := HB15.out; omega); clear K
                            (first | refine back_intro2 (HC.out _ O.keep) ?_ | refine back_intro (HC.out _ O.keep) ?_)
                            refine seg_sole 11 #[true, true, true, true, true, true, true, true, true, true, true, true] rfl (by kernel_rfl) ?_
                            try simp only [List.getElem_toArray, List.getElem_cons_zero, List.getElem_cons_succ]
                            (first | refine own_store_rowK 1 (.tmp 16) (.tmp 66) O rfl rfl rfl rfl rfl rfl (by kernel_rfl) (by rfl) (evC_cell _) ?_ | refine own_store_rowK 0 (.tmp 16) (.tmp 66) O rfl rfl rfl rfl rfl rfl (by kernel_rfl) (by rfl) (evC_cell _) ?_); clear O; intro W O K; simp only [List.set_cons_zero, List.set_cons_succ] at O; replace KW := KW.trans K (fun b hb hlt => by rw [List.mem_singleton.1 hb] at hlt; have := HB16.out; omega); clear K
                            (first | refine back_intro2 (HC.out _ O.keep) ?_ | refine back_intro (HC.out _ O.keep) ?_)
                            refine seg_done (by kernel_rfl) ?_
                            have c15 : ∀ i : Nat, W.cell? ⟨b15, i, none⟩ = (evC ⟨(wi : Int), 13, ai, vi, si⟩)[i]? := by first | exact (O.get 1 rfl).cell | exact (O.get 0 rfl).cell
                            have c16 : ∀ i : Nat, W.cell? ⟨b16, i, none⟩ = (evC ⟨(wj : Int), 13, ai, vj, sj⟩)[i]? := by first | exact (O.get 0 rfl).cell | exact (O.get 1 rfl).cell
                            simp only [evC] at c15 c16
                            go_wp2
                            go_roundg (k - (q + 1))
                            case measure => (have := HG2.out; omega)
                            case rel => exact ⟨q + 1, by omega, rfl, by go_num, O.drop_ 2, (HGK.out _ KW).1, by rw [HQE.out]; unfold MintP; rw [← HLN.out]; exact (HGK.out _ KW).2⟩
                        · by_cases hle : clk E rm (q : Int) (wi : Int) ≤ clk E rm (k : Int) (wi : Int)
                          · have z4 : (ai != ai) = false := by simp
                            have z5 : ((wi : Int) == (wj : Int)) = false := by simpa using hww
                            have hF : rcB E rm q k = false := by simp [rcB, acB, HEI.out, HEJ.out, hww, hle]
                            have HQE := Lib.hid (show (raceA E rm k ++ raceJ E rm k (q + 1)).take most = (raceA E rm k ++ raceJ E rm k q).take most from by rw [raceJ_succ, hF, if_neg (by simp), List.append_nil])
                            clear hF
                            have HOR := Lib.hid (show decide (clk E rm (q : Int) (wi : Int) ≤ clk E rm (k : Int) (wi : Int)) = true from decide_eq_true hle)
                            go_wp2
                            refine wp_held (S := fun u' => (∀ j, j < (evC ⟨(wi : Int), 13, ai, vi, si⟩).size → u'.cell? ((ad.add (q * 5)).add j) = (evC ⟨(wi : Int), 13, ai, vi, si⟩)[j]?) ∧ (∀ j, j < (evC ⟨(wj : Int), 13, ai, vj, sj⟩).size → u'.cell? ((ad.add (k * 5)).add j) = (evC ⟨(wj : Int), 13, ai, vj, sj⟩)[j]?)) 12 #[false, false, false, false, false, false, false, false, false, false, false, false] (by kernel_rfl) rfl rfl ?_
                            replace O := O.drew
                            have KW := (Keeps.refl wr []).drew
                            refine seg_take (fuel := 4) (L' := #[true, true, true, true, true, true, true, true, false, false, false, false]) (by kernel_rfl) (fun _ _ _ _ _ _ h => h) ((HC.out _ O.keep)) [0, 1, 2, 3, 4, 5, 6, 7] [_, _, _, _, _, _, _, _] _ _ rfl (by kernel_rfl) ?_
                            simp only [List.getElem_toArray, List.getElem_cons_zero, List.getElem_cons_succ]
                            repeat (first
                              | (refine take_load_at 62 rfl (by rfl) rfl rfl (fun _ h => h.1) Try.underlying37 rfl (by kernel_rfl) ?_; simp only [Act.put, List.setIfInBounds_toArray, List.set_cons_zero, List.set_cons_succ])
                              | (refine take_load_at 66 rfl (by rfl) rfl rfl (fun _ h => h.2) Try.underlying37 rfl (by kernel_rfl) ?_; simp only [Act.put, List.setIfInBounds_toArray, List.set_cons_zero, List.set_cons_succ])
                              | (refine take_pure (v := ?_) (by rfl) ?_ ?_; rotate_left; (· (intro w hSw; clear hSw; go_simp; try with_reducible rfl)); simp only [Act.put, List.setIfInBounds_toArray, List.set_cons_zero, List.set_cons_succ]))
                            refine take_done ?_
                            refine seg_two 8 9 #[true, true, true, true, true, true, true, true, true, false, false, false] #[true, true, true, true, true, true, true, true, false, true, false, false] rfl rfl (by kernel_rfl) ?_ ?_
                            · try simp only [List.getElem_toArray, List.getElem_cons_zero, List.getElem_cons_succ]
                              refine own_allocK 15 (evC ⟨0, 0, 0, 0, false⟩) O rfl rfl rfl (fun _ => by kernel_rfl) ?_; clear O; intro W b15 O K hb; have HB15 := Lib.hid (Nat.le_trans KW.size hb); replace KW := KW.trans K (by simp); clear K hb; simp only [Act.put, List.setIfInBounds_toArray, List.set_cons_zero, List.set_cons_succ]
                              (first | refine back_intro2 (HC.out _ O.keep) ?_ | refine back_intro (HC.out _ O.keep) ?_)
                              refine seg_sole 9 #[true, true, true, true, true, true, true, true, true, true, false, false] rfl (by kernel_rfl) ?_
                              try simp only [List.getElem_toArray, List.getElem_cons_zero, List.getElem_cons_succ]
                              refine own_allocK 16 (evC ⟨0, 0, 0, 0, false⟩) O rfl rfl rfl (fun _ => by kernel_rfl) ?_; clear O; intro W b16 O K hb; have HB16 := Lib.hid (Nat.le_trans KW.size hb); replace KW := KW.trans K (by simp); clear K hb; simp only [Act.put, List.setIfInBounds_toArray, List.set_cons_zero, List.set_cons_succ]
                              (first | refine back_intro2 (HC.out _ O.keep) ?_ | refine back_intro (HC.out _ O.keep) ?_)
                              refine seg_sole 10 #[true, true, true, true, true, true, true, true, true, true, true, false] rfl (by kernel_rfl) ?_
                              try simp only [List.getElem_toArray, List.getElem_cons_zero, List.getElem_cons_succ]
                              (first | refine own_store_rowK 1 (.tmp 15) (.tmp 62) O rfl rfl rfl rfl rfl rfl (by kernel_rfl) (by rfl) (evC_cell _) ?_ | refine own_store_rowK 0 (.tmp 15) (.tmp 62) O rfl rfl rfl rfl rfl rfl (by kernel_rfl) (by rfl) (evC_cell _) ?_); clear O; intro W O K; simp only [List.set_cons_zero, List.set_cons_succ] at O; replace KW := KW.trans K (fun b hb hlt => by rw [List.mem_singleton.1 hb] at hlt; have := HB15.out; omega); clear K
                              (first | refine back_intro2 (HC.out _ O.keep) ?_ | refine back_intro (HC.out _ O.keep) ?_)
                              refine seg_sole 11 #[true, true, true, true, true, true, true, true, true, true, true, true] rfl (by kernel_rfl) ?_
                              try simp only [List.getElem_toArray, List.getElem_cons_zero, List.getElem_cons_succ]
                              (first | refine own_store_rowK 1 (.tmp 16) (.tmp 66) O rfl rfl rfl rfl rfl rfl (by kernel_rfl) (by rfl) (evC_cell _) ?_ | refine own_store_rowK 0 (.tmp 16) (.tmp 66) O rfl rfl rfl rfl rfl rfl (by kernel_rfl) (by rfl) (evC_cell _) ?_); clear O; intro W O K; simp only [List.set_cons_zero, List.set_cons_succ] at O; replace KW := KW.trans K (fun b hb hlt => by rw [List.mem_singleton.1 hb] at hlt; have := HB16.out; omega); clear K
                              (first | refine back_intro2 (HC.out _ O.keep) ?_ | refine back_intro (HC.out _ O.keep) ?_)
                              refine seg_done (by kernel_rfl) ?_
                              have c15 : ∀ i : Nat, W.cell? ⟨b15, i, none⟩ = (evC ⟨(wi : Int), 13, ai, vi, si⟩)[i]? := by first | exact (O.get 1 rfl).cell | exact (O.get 0 rfl).cell
                              have c16 : ∀ i : Nat, W.cell? ⟨b16, i, none⟩ = (evC ⟨(wj : Int), 13, ai, vj, sj⟩)[i]? := by first | exact (O.get 0 rfl).cell | exact (O.get 1 rfl).cell
                              simp only [evC] at c15 c16
                              go_wp2_with (go_at_call 77; refine (ordered_any (HGK.out _ KW).1 (HE.out.kept O.keep) (show q < n by omega) hkn hwi hwir hr6 hn).mono ?_; rintro e W ⟨he, K⟩; obtain rfl : e = .returned (.bool true) := he.trans (congrArg (fun b => Ending.returned (.bool b)) HOR.out); replace O := O.keeps K; replace KW := KW.trans K (by simp); clear K he c15 c16)
                              go_roundg (k - (q + 1))
                              case measure => (have := HG2.out; omega)
                              case rel => exact ⟨q + 1, by omega, rfl, by go_num, O.drop_ 2, (HGK.out _ KW).1, by rw [HQE.out]; unfold MintP; rw [← HLN.out]; exact (HGK.out _ KW).2⟩
                            · try simp only [List.getElem_toArray, List.getElem_cons_zero, List.getElem_cons_succ]
                              refine own_allocK 16 (evC ⟨0, 0, 0, 0, false⟩) O rfl rfl rfl (fun _ => by kernel_rfl) ?_; clear O; intro W b16 O K hb; have HB16 := Lib.hid (Nat.le_trans KW.size hb); replace KW := KW.trans K (by simp); clear K hb; simp only [Act.put, List.setIfInBounds_toArray, List.set_cons_zero, List.set_cons_succ]
                              (first | refine back_intro2 (HC.out _ O.keep) ?_ | refine back_intro (HC.out _ O.keep) ?_)
                              refine seg_sole 8 #[true, true, true, true, true, true, true, true, true, true, false, false] rfl (by kernel_rfl) ?_
                              try simp only [List.getElem_toArray, List.getElem_cons_zero, List.getElem_cons_succ]
                              refine own_allocK 15 (evC ⟨0, 0, 0, 0, false⟩) O rfl rfl rfl (fun _ => by kernel_rfl) ?_; clear O; intro W b15 O K hb; have HB15 := Lib.hid (Nat.le_trans KW.size hb); replace KW := KW.trans K (by simp); clear K hb; simp only [Act.put, List.setIfInBounds_toArray, List.set_cons_zero, List.set_cons_succ]
                              (first | refine back_intro2 (HC.out _ O.keep) ?_ | refine back_intro (HC.out _ O.keep) ?_)
                              refine seg_sole 10 #[true, true, true, true, true, true, true, true, true, true, true, false] rfl (by kernel_rfl) ?_
                              try simp only [List.getElem_toArray, List.getElem_cons_zero, List.getElem_cons_succ]
                              (first | refine own_store_rowK 1 (.tmp 15) (.tmp 62) O rfl rfl rfl rfl rfl rfl (by kernel_rfl) (by rfl) (evC_cell _) ?_ | refine own_store_rowK 0 (.tmp 15) (.tmp 62) O rfl rfl rfl rfl rfl rfl (by kernel_rfl) (by rfl) (evC_cell _) ?_); clear O; intro W O K; simp only [List.set_cons_zero, List.set_cons_succ] at O; replace KW := KW.trans K (fun b hb hlt => by rw [List.mem_singleton.1 hb] at hlt; have := HB15.out; omega); clear K
                              (first | refine back_intro2 (HC.out _ O.keep) ?_ | refine back_intro (HC.out _ O.keep) ?_)
                              refine seg_sole 11 #[true, true, true, true, true, true, true, true, true, true, true, true] rfl (by kernel_rfl) ?_
                              try simp only [List.getElem_toArray, List.getElem_cons_zero, List.getElem_cons_succ]
                              (first | refine own_store_rowK 1 (.tmp 16) (.tmp 66) O rfl rfl rfl rfl rfl rfl (by kernel_rfl) (by rfl) (evC_cell _) ?_ | refine own_store_rowK 0 (.tmp 16) (.tmp 66) O rfl rfl rfl rfl rfl rfl (by kernel_rfl) (by rfl) (evC_cell _) ?_); clear O; intro W O K; simp only [List.set_cons_zero, List.set_cons_succ] at O; replace KW := KW.trans K (fun b hb hlt => by rw [List.mem_singleton.1 hb] at hlt; have := HB16.out; omega); clear K
                              (first | refine back_intro2 (HC.out _ O.keep) ?_ | refine back_intro (HC.out _ O.keep) ?_)
                              refine seg_done (by kernel_rfl) ?_
                              have c15 : ∀ i : Nat, W.cell? ⟨b15, i, none⟩ = (evC ⟨(wi : Int), 13, ai, vi, si⟩)[i]? := by first | exact (O.get 1 rfl).cell | exact (O.get 0 rfl).cell
                              have c16 : ∀ i : Nat, W.cell? ⟨b16, i, none⟩ = (evC ⟨(wj : Int), 13, ai, vj, sj⟩)[i]? := by first | exact (O.get 0 rfl).cell | exact (O.get 1 rfl).cell
                              simp only [evC] at c15 c16
                              go_wp2_with (go_at_call 77; refine (ordered_any (HGK.out _ KW).1 (HE.out.kept O.keep) (show q < n by omega) hkn hwi hwir hr6 hn).mono ?_; rintro e W ⟨he, K⟩; obtain rfl : e = .returned (.bool true) := he.trans (congrArg (fun b => Ending.returned (.bool b)) HOR.out); replace O := O.keeps K; replace KW := KW.trans K (by simp); clear K he c15 c16)
                              go_roundg (k - (q + 1))
                              case measure => (have := HG2.out; omega)
                              case rel => exact ⟨q + 1, by omega, rfl, by go_num, O.drop_ 2, (HGK.out _ KW).1, by rw [HQE.out]; unfold MintP; rw [← HLN.out]; exact (HGK.out _ KW).2⟩
                          · have z4 : (ai != ai) = false := by simp
                            have z5 : ((wi : Int) == (wj : Int)) = false := by simpa using hww
                            have hF : rcB E rm q k = true := by simp [rcB, acB, HEI.out, HEJ.out, hww, hle]
                            have HQE := Lib.hid (show (raceA E rm k ++ raceJ E rm k (q + 1)).take most = (raceA E rm k ++ raceJ E rm k q).take most ++ [prR q k] from by rw [raceJ_succ, hF, if_pos rfl, ← List.append_assoc, take_snoc, if_pos ((take_len_lt _ _).1 (by rw [← HLN.out]; exact hfull))])
                            clear hF
                            have HOR := Lib.hid (show decide (clk E rm (q : Int) (wi : Int) ≤ clk E rm (k : Int) (wi : Int)) = false from decide_eq_false hle)
                            go_wp2
                            refine wp_held (S := fun u' => (∀ j, j < (evC ⟨(wi : Int), 13, ai, vi, si⟩).size → u'.cell? ((ad.add (q * 5)).add j) = (evC ⟨(wi : Int), 13, ai, vi, si⟩)[j]?) ∧ (∀ j, j < (evC ⟨(wj : Int), 13, ai, vj, sj⟩).size → u'.cell? ((ad.add (k * 5)).add j) = (evC ⟨(wj : Int), 13, ai, vj, sj⟩)[j]?)) 12 #[false, false, false, false, false, false, false, false, false, false, false, false] (by kernel_rfl) rfl rfl ?_
                            replace O := O.drew
                            have KW := (Keeps.refl wr []).drew
                            refine seg_take (fuel := 4) (L' := #[true, true, true, true, true, true, true, true, false, false, false, false]) (by kernel_rfl) (fun _ _ _ _ _ _ h => h) ((HC.out _ O.keep)) [0, 1, 2, 3, 4, 5, 6, 7] [_, _, _, _, _, _, _, _] _ _ rfl (by kernel_rfl) ?_
                            simp only [List.getElem_toArray, List.getElem_cons_zero, List.getElem_cons_succ]
                            repeat (first
                              | (refine take_load_at 62 rfl (by rfl) rfl rfl (fun _ h => h.1) Try.underlying37 rfl (by kernel_rfl) ?_; simp only [Act.put, List.setIfInBounds_toArray, List.set_cons_zero, List.set_cons_succ])
                              | (refine take_load_at 66 rfl (by rfl) rfl rfl (fun _ h => h.2) Try.underlying37 rfl (by kernel_rfl) ?_; simp only [Act.put, List.setIfInBounds_toArray, List.set_cons_zero, List.set_cons_succ])
                              | (refine take_pure (v := ?_) (by rfl) ?_ ?_; rotate_left; (· (intro w hSw; clear hSw; go_simp; try with_reducible rfl)); simp only [Act.put, List.setIfInBounds_toArray, List.set_cons_zero, List.set_cons_succ]))
                            refine take_done ?_
                            refine seg_two 8 9 #[true, true, true, true, true, true, true, true, true, false, false, false] #[true, true, true, true, true, true, true, true, false, true, false, false] rfl rfl (by kernel_rfl) ?_ ?_
                            · try simp only [List.getElem_toArray, List.getElem_cons_zero, List.getElem_cons_succ]
                              refine own_allocK 15 (evC ⟨0, 0, 0, 0, false⟩) O rfl rfl rfl (fun _ => by kernel_rfl) ?_; clear O; intro W b15 O K hb; have HB15 := Lib.hid (Nat.le_trans KW.size hb); replace KW := KW.trans K (by simp); clear K hb; simp only [Act.put, List.setIfInBounds_toArray, List.set_cons_zero, List.set_cons_succ]
                              (first | refine back_intro2 (HC.out _ O.keep) ?_ | refine back_intro (HC.out _ O.keep) ?_)
                              refine seg_sole 9 #[true, true, true, true, true, true, true, true, true, true, false, false] rfl (by kernel_rfl) ?_
                              try simp only [List.getElem_toArray, List.getElem_cons_zero, List.getElem_cons_succ]
                              refine own_allocK 16 (evC ⟨0, 0, 0, 0, false⟩) O rfl rfl rfl (fun _ => by kernel_rfl) ?_; clear O; intro W b16 O K hb; have HB16 := Lib.hid (Nat.le_trans KW.size hb); replace KW := KW.trans K (by simp); clear K hb; simp only [Act.put, List.setIfInBounds_toArray, List.set_cons_zero, List.set_cons_succ]
                              (first | refine back_intro2 (HC.out _ O.keep) ?_ | refine back_intro (HC.out _ O.keep) ?_)
                              refine seg_sole 10 #[true, true, true, true, true, true, true, true, true, true, true, false] rfl (by kernel_rfl) ?_
                              try simp only [List.getElem_toArray, List.getElem_cons_zero, List.getElem_cons_succ]
                              (first | refine own_store_rowK 1 (.tmp 15) (.tmp 62) O rfl rfl rfl rfl rfl rfl (by kernel_rfl) (by rfl) (evC_cell _) ?_ | refine own_store_rowK 0 (.tmp 15) (.tmp 62) O rfl rfl rfl rfl rfl rfl (by kernel_rfl) (by rfl) (evC_cell _) ?_); clear O; intro W O K; simp only [List.set_cons_zero, List.set_cons_succ] at O; replace KW := KW.trans K (fun b hb hlt => by rw [List.mem_singleton.1 hb] at hlt; have := HB15.out; omega); clear K
                              (first | refine back_intro2 (HC.out _ O.keep) ?_ | refine back_intro (HC.out _ O.keep) ?_)
                              refine seg_sole 11 #[true, true, true, true, true, true, true, true, true, true, true, true] rfl (by kernel_rfl) ?_
                              try simp only [List.getElem_toArray, List.getElem_cons_zero, List.getElem_cons_succ]
                              (first | refine own_store_rowK 1 (.tmp 16) (.tmp 66) O rfl rfl rfl rfl rfl rfl (by kernel_rfl) (by rfl) (evC_cell _) ?_ | refine own_store_rowK 0 (.tmp 16) (.tmp 66) O rfl rfl rfl rfl rfl rfl (by kernel_rfl) (by rfl) (evC_cell _) ?_); clear O; intro W O K; simp only [List.set_cons_zero, List.set_cons_succ] at O; replace KW := KW.trans K (fun b hb hlt => by rw [List.mem_singleton.1 hb] at hlt; have := HB16.out; omega); clear K
                              (first | refine back_intro2 (HC.out _ O.keep) ?_ | refine back_intro (HC.out _ O.keep) ?_)
                              refine seg_done (by kernel_rfl) ?_
                              have c15 : ∀ i : Nat, W.cell? ⟨b15, i, none⟩ = (evC ⟨(wi : Int), 13, ai, vi, si⟩)[i]? := by first | exact (O.get 1 rfl).cell | exact (O.get 0 rfl).cell
                              have c16 : ∀ i : Nat, W.cell? ⟨b16, i, none⟩ = (evC ⟨(wj : Int), 13, ai, vj, sj⟩)[i]? := by first | exact (O.get 0 rfl).cell | exact (O.get 1 rfl).cell
                              simp only [evC] at c15 c16
                              go_wp2_with (first
                                | (go_at_call 77; refine (ordered_any (HGK.out _ KW).1 (HE.out.kept O.keep) (show q < n by omega) hkn hwi hwir hr6 hn).mono ?_; rintro e W ⟨he, K⟩; obtain rfl : e = .returned (.bool false) := he.trans (congrArg (fun b => Ending.returned (.bool b)) HOR.out); replace O := O.keeps K; replace KW := KW.trans K (by simp); clear K he c15 c16)
                                | (refine own_litK 119 73 79 1 2 (.agg #[.int .i64 0, .int .i64 0]) _ (#[.int .i64 (q : Int), .int .i64 (k : Int)]) O rfl rfl rfl Try.underlying73 (by kernel_rfl) (by decide) (by decide) (by first | rfl | kernel_rfl) ?_; clear O; intro W gl O K hgl; replace KW := KW.trans K (by simp); clear K hgl; simp only [Act.put, List.setIfInBounds_toArray, List.set_cons_zero, List.set_cons_succ])
                                | (at_builtin; go_loud (refine gr_app (.tmp 115) (.tmp 119) rowT73 O (HGK.out _ KW).2 rfl (by simp [Value.oneCell']) rfl rfl rfl rfl (Nat.le_refl _) O.keep.size (fun z hz => ?_) (by omega) (by decide) ?_; (· (have hz2 := O.blk z (List.mem_cons_of_mem _ hz); simp only [List.mem_cons, List.not_mem_nil, or_false] at hz; rcases hz with rfl | rfl | rfl; (· exact gr_ne (HGK.out _ KW).2 hz2 (show (37 : Nat) ≠ 79 by decide)); (· exact gr_ne (HGK.out _ KW).2 hz2 (show (37 : Nat) ≠ 79 by decide)); (· exact gr_ne (HGK.out _ KW).2 hz2 (show (27 : Nat) ≠ 79 by decide)))); clear O; intro v9 W O MR K hf; have HG10 := Lib.hid (grid_app (HGK.out _ KW).1 (HGK.out _ KW).2 K); have HMR := Lib.hid MR; clear hf K MR KW; simp only [Act.put, List.setIfInBounds_toArray, List.set_cons_zero, List.set_cons_succ])))
                              go_roundg (k - (q + 1))
                              case measure => (have := HG2.out; omega)
                              case rel => exact ⟨q + 1, by omega, rfl, by go_num, O.drop_ 2, HG10.out, by rw [HQE.out]; unfold MintP; rw [prL_snoc, List.length_append, ← HLN.out]; exact HMR.out⟩
                            · try simp only [List.getElem_toArray, List.getElem_cons_zero, List.getElem_cons_succ]
                              refine own_allocK 16 (evC ⟨0, 0, 0, 0, false⟩) O rfl rfl rfl (fun _ => by kernel_rfl) ?_; clear O; intro W b16 O K hb; have HB16 := Lib.hid (Nat.le_trans KW.size hb); replace KW := KW.trans K (by simp); clear K hb; simp only [Act.put, List.setIfInBounds_toArray, List.set_cons_zero, List.set_cons_succ]
                              (first | refine back_intro2 (HC.out _ O.keep) ?_ | refine back_intro (HC.out _ O.keep) ?_)
                              refine seg_sole 8 #[true, true, true, true, true, true, true, true, true, true, false, false] rfl (by kernel_rfl) ?_
                              try simp only [List.getElem_toArray, List.getElem_cons_zero, List.getElem_cons_succ]
                              refine own_allocK 15 (evC ⟨0, 0, 0, 0, false⟩) O rfl rfl rfl (fun _ => by kernel_rfl) ?_; clear O; intro W b15 O K hb; have HB15 := Lib.hid (Nat.le_trans KW.size hb); replace KW := KW.trans K (by simp); clear K hb; simp only [Act.put, List.setIfInBounds_toArray, List.set_cons_zero, List.set_cons_succ]
                              (first | refine back_intro2 (HC.out _ O.keep) ?_ | refine back_intro (HC.out _ O.keep) ?_)
                              refine seg_sole 10 #[true, true, true, true, true, true, true, true, true, true, true, false] rfl (by kernel_rfl) ?_
                              try simp only [List.getElem_toArray, List.getElem_cons_zero, List.getElem_cons_succ]
                              (first | refine own_store_rowK 1 (.tmp 15) (.tmp 62) O rfl rfl rfl rfl rfl rfl (by kernel_rfl) (by rfl) (evC_cell _) ?_ | refine own_store_rowK 0 (.tmp 15) (.tmp 62) O rfl rfl rfl rfl rfl rfl (by kernel_rfl) (by rfl) (evC_cell _) ?_); clear O; intro W O K; simp only [List.set_cons_zero, List.set_cons_succ] at O; replace KW := KW.trans K (fun b hb hlt => by rw [List.mem_singleton.1 hb] at hlt; have := HB15.out; omega); clear K
                              (first | refine back_intro2 (HC.out _ O.keep) ?_ | refine back_intro (HC.out _ O.keep) ?_)
                              refine seg_sole 11 #[true, true, true, true, true, true, true, true, true, true, true, true] rfl (by kernel_rfl) ?_
                              try simp only [List.getElem_toArray, List.getElem_cons_zero, List.getElem_cons_succ]
                              (first | refine own_store_rowK 1 (.tmp 16) (.tmp 66) O rfl rfl rfl rfl rfl rfl (by kernel_rfl) (by rfl) (evC_cell _) ?_ | refine own_store_rowK 0 (.tmp 16) (.tmp 66) O rfl rfl rfl rfl rfl rfl (by kernel_rfl) (by rfl) (evC_cell _) ?_); clear O; intro W O K; simp only [List.set_cons_zero, List.set_cons_succ] at O; replace KW := KW.trans K (fun b hb hlt => by rw [List.mem_singleton.1 hb] at hlt; have := HB16.out; omega); clear K
                              (first | refine back_intro2 (HC.out _ O.keep) ?_ | refine back_intro (HC.out _ O.keep) ?_)
                              refine seg_done (by kernel_rfl) ?_
                              have c15 : ∀ i : Nat, W.cell? ⟨b15, i, none⟩ = (evC ⟨(wi : Int), 13, ai, vi, si⟩)[i]? := by first | exact (O.get 1 rfl).cell | exact (O.get 0 rfl).cell
                              have c16 : ∀ i : Nat, W.cell? ⟨b16, i, none⟩ = (evC ⟨(wj : Int), 13, ai, vj, sj⟩)[i]? := by first | exact (O.get 0 rfl).cell | exact (O.get 1 rfl).cell
                              simp only [evC] at c15 c16
                              go_wp2_with (first
                                | (go_at_call 77; refine (ordered_any (HGK.out _ KW).1 (HE.out.kept O.keep) (show q < n by omega) hkn hwi hwir hr6 hn).mono ?_; rintro e W ⟨he, K⟩; obtain rfl : e = .returned (.bool false) := he.trans (congrArg (fun b => Ending.returned (.bool b)) HOR.out); replace O := O.keeps K; replace KW := KW.trans K (by simp); clear K he c15 c16)
                                | (refine own_litK 119 73 79 1 2 (.agg #[.int .i64 0, .int .i64 0]) _ (#[.int .i64 (q : Int), .int .i64 (k : Int)]) O rfl rfl rfl Try.underlying73 (by kernel_rfl) (by decide) (by decide) (by first | rfl | kernel_rfl) ?_; clear O; intro W gl O K hgl; replace KW := KW.trans K (by simp); clear K hgl; simp only [Act.put, List.setIfInBounds_toArray, List.set_cons_zero, List.set_cons_succ])
                                | (at_builtin; go_loud (refine gr_app (.tmp 115) (.tmp 119) rowT73 O (HGK.out _ KW).2 rfl (by simp [Value.oneCell']) rfl rfl rfl rfl (Nat.le_refl _) O.keep.size (fun z hz => ?_) (by omega) (by decide) ?_; (· (have hz2 := O.blk z (List.mem_cons_of_mem _ hz); simp only [List.mem_cons, List.not_mem_nil, or_false] at hz; rcases hz with rfl | rfl | rfl; (· exact gr_ne (HGK.out _ KW).2 hz2 (show (37 : Nat) ≠ 79 by decide)); (· exact gr_ne (HGK.out _ KW).2 hz2 (show (37 : Nat) ≠ 79 by decide)); (· exact gr_ne (HGK.out _ KW).2 hz2 (show (27 : Nat) ≠ 79 by decide)))); clear O; intro v9 W O MR K hf; have HG10 := Lib.hid (grid_app (HGK.out _ KW).1 (HGK.out _ KW).2 K); have HMR := Lib.hid MR; clear hf K MR KW; simp only [Act.put, List.setIfInBounds_toArray, List.set_cons_zero, List.set_cons_succ])))
                              go_roundg (k - (q + 1))
                              case measure => (have := HG2.out; omega)
                              case rel => exact ⟨q + 1, by omega, rfl, by go_num, O.drop_ 2, HG10.out, by rw [HQE.out]; unfold MintP; rw [prL_snoc, List.length_append, ← HLN.out]; exact HMR.out⟩
                      · have z4 : (ai != aj) = true := by simpa using haa
                        have hF : rcB E rm q k = false := by simp [rcB, acB, HEI.out, HEJ.out, haa]
                        have HQE := Lib.hid (show (raceA E rm k ++ raceJ E rm k (q + 1)).take most = (raceA E rm k ++ raceJ E rm k q).take most from by rw [raceJ_succ, hF, if_neg (by simp), List.append_nil])
                        clear hF
                        go_wp2
                        refine wp_held (S := fun u' => (∀ j, j < (evC ⟨(wi : Int), 13, ai, vi, si⟩).size → u'.cell? ((ad.add (q * 5)).add j) = (evC ⟨(wi : Int), 13, ai, vi, si⟩)[j]?) ∧ (∀ j, j < (evC ⟨(wj : Int), 13, aj, vj, sj⟩).size → u'.cell? ((ad.add (k * 5)).add j) = (evC ⟨(wj : Int), 13, aj, vj, sj⟩)[j]?)) 12 #[false, false, false, false, false, false, false, false, false, false, false, false] (by kernel_rfl) rfl rfl ?_
                        replace O := O.drew
                        have KW := (Keeps.refl wr []).drew
                        refine seg_take (fuel := 4) (L' := #[true, true, true, true, true, true, true, true, false, false, false, false]) (by kernel_rfl) (fun _ _ _ _ _ _ h => h) ((HC.out _ O.keep)) [0, 1, 2, 3, 4, 5, 6, 7] [_, _, _, _, _, _, _, _] _ _ rfl (by kernel_rfl) ?_
                        simp only [List.getElem_toArray, List.getElem_cons_zero, List.getElem_cons_succ]
                        repeat (first
                          | (refine take_load_at 62 rfl (by rfl) rfl rfl (fun _ h => h.1) Try.underlying37 rfl (by kernel_rfl) ?_; simp only [Act.put, List.setIfInBounds_toArray, List.set_cons_zero, List.set_cons_succ])
                          | (refine take_load_at 66 rfl (by rfl) rfl rfl (fun _ h => h.2) Try.underlying37 rfl (by kernel_rfl) ?_; simp only [Act.put, List.setIfInBounds_toArray, List.set_cons_zero, List.set_cons_succ])
                          | (refine take_pure (v := ?_) (by rfl) ?_ ?_; rotate_left; (· (intro w hSw; clear hSw; go_simp; try with_reducible rfl)); simp only [Act.put, List.setIfInBounds_toArray, List.set_cons_zero, List.set_cons_succ]))
                        refine take_done ?_
                        refine seg_two 8 9 #[true, true, true, true, true, true, true, true, true, false, false, false] #[true, true, true, true, true, true, true, true, false, true, false, false] rfl rfl (by kernel_rfl) ?_ ?_
                        · try simp only [List.getElem_toArray, List.getElem_cons_zero, List.getElem_cons_succ]
                          refine own_allocK 15 (evC ⟨0, 0, 0, 0, false⟩) O rfl rfl rfl (fun _ => by kernel_rfl) ?_; clear O; intro W b15 O K hb; have HB15 := Lib.hid (Nat.le_trans KW.size hb); replace KW := KW.trans K (by simp); clear K hb; simp only [Act.put, List.setIfInBounds_toArray, List.set_cons_zero, List.set_cons_succ]
                          (first | refine back_intro2 (HC.out _ O.keep) ?_ | refine back_intro (HC.out _ O.keep) ?_)
                          refine seg_sole 9 #[true, true, true, true, true, true, true, true, true, true, false, false] rfl (by kernel_rfl) ?_
                          try simp only [List.getElem_toArray, List.getElem_cons_zero, List.getElem_cons_succ]
                          refine own_allocK 16 (evC ⟨0, 0, 0, 0, false⟩) O rfl rfl rfl (fun _ => by kernel_rfl) ?_; clear O; intro W b16 O K hb; have HB16 := Lib.hid (Nat.le_trans KW.size hb); replace KW := KW.trans K (by simp); clear K hb; simp only [Act.put, List.setIfInBounds_toArray, List.set_cons_zero, List.set_cons_succ]
                          (first | refine back_intro2 (HC.out _ O.keep) ?_ | refine back_intro (HC.out _ O.keep) ?_)
                          refine seg_sole 10 #[true, true, true, true, true, true, true, true, true, true, true, false] rfl (by kernel_rfl) ?_
                          try simp only [List.getElem_toArray, List.getElem_cons_zero, List.getElem_cons_succ]
                          (first | refine own_store_rowK 1 (.tmp 15) (.tmp 62) O rfl rfl rfl rfl rfl rfl (by kernel_rfl) (by rfl) (evC_cell _) ?_ | refine own_store_rowK 0 (.tmp 15) (.tmp 62) O rfl rfl rfl rfl rfl rfl (by kernel_rfl) (by rfl) (evC_cell _) ?_); clear O; intro W O K; simp only [List.set_cons_zero, List.set_cons_succ] at O; replace KW := KW.trans K (fun b hb hlt => by rw [List.mem_singleton.1 hb] at hlt; have := HB15.out; omega); clear K
                          (first | refine back_intro2 (HC.out _ O.keep) ?_ | refine back_intro (HC.out _ O.keep) ?_)
                          refine seg_sole 11 #[true, true, true, true, true, true, true, true, true, true, true, true] rfl (by kernel_rfl) ?_
                          try simp only [List.getElem_toArray, List.getElem_cons_zero, List.getElem_cons_succ]
                          (first | refine own_store_rowK 1 (.tmp 16) (.tmp 66) O rfl rfl rfl rfl rfl rfl (by kernel_rfl) (by rfl) (evC_cell _) ?_ | refine own_store_rowK 0 (.tmp 16) (.tmp 66) O rfl rfl rfl rfl rfl rfl (by kernel_rfl) (by rfl) (evC_cell _) ?_); clear O; intro W O K; simp only [List.set_cons_zero, List.set_cons_succ] at O; replace KW := KW.trans K (fun b hb hlt => by rw [List.mem_singleton.1 hb] at hlt; have := HB16.out; omega); clear K
                          (first | refine back_intro2 (HC.out _ O.keep) ?_ | refine back_intro (HC.out _ O.keep) ?_)
                          refine seg_done (by kernel_rfl) ?_
                          have c15 : ∀ i : Nat, W.cell? ⟨b15, i, none⟩ = (evC ⟨(wi : Int), 13, ai, vi, si⟩)[i]? := by first | exact (O.get 1 rfl).cell | exact (O.get 0 rfl).cell
                          have c16 : ∀ i : Nat, W.cell? ⟨b16, i, none⟩ = (evC ⟨(wj : Int), 13, aj, vj, sj⟩)[i]? := by first | exact (O.get 0 rfl).cell | exact (O.get 1 rfl).cell
                          simp only [evC] at c15 c16
                          go_wp2
                          go_roundg (k - (q + 1))
                          case measure => (have := HG2.out; omega)
                          case rel => exact ⟨q + 1, by omega, rfl, by go_num, O.drop_ 2, (HGK.out _ KW).1, by rw [HQE.out]; unfold MintP; rw [← HLN.out]; exact (HGK.out _ KW).2⟩
                        · try simp only [List.getElem_toArray, List.getElem_cons_zero, List.getElem_cons_succ]
                          refine own_allocK 16 (evC ⟨0, 0, 0, 0, false⟩) O rfl rfl rfl (fun _ => by kernel_rfl) ?_; clear O; intro W b16 O K hb; have HB16 := Lib.hid (Nat.le_trans KW.size hb); replace KW := KW.trans K (by simp); clear K hb; simp only [Act.put, List.setIfInBounds_toArray, List.set_cons_zero, List.set_cons_succ]
                          (first | refine back_intro2 (HC.out _ O.keep) ?_ | refine back_intro (HC.out _ O.keep) ?_)
                          refine seg_sole 8 #[true, true, true, true, true, true, true, true, true, true, false, false] rfl (by kernel_rfl) ?_
                          try simp only [List.getElem_toArray, List.getElem_cons_zero, List.getElem_cons_succ]
                          refine own_allocK 15 (evC ⟨0, 0, 0, 0, false⟩) O rfl rfl rfl (fun _ => by kernel_rfl) ?_; clear O; intro W b15 O K hb; have HB15 := Lib.hid (Nat.le_trans KW.size hb); replace KW := KW.trans K (by simp); clear K hb; simp only [Act.put, List.setIfInBounds_toArray, List.set_cons_zero, List.set_cons_succ]
                          (first | refine back_intro2 (HC.out _ O.keep) ?_ | refine back_intro (HC.out _ O.keep) ?_)
                          refine seg_sole 10 #[true, true, true, true, true, true, true, true, true, true, true, false] rfl (by kernel_rfl) ?_
                          try simp only [List.getElem_toArray, List.getElem_cons_zero, List.getElem_cons_succ]
                          (first | refine own_store_rowK 1 (.tmp 15) (.tmp 62) O rfl rfl rfl rfl rfl rfl (by kernel_rfl) (by rfl) (evC_cell _) ?_ | refine own_store_rowK 0 (.tmp 15) (.tmp 62) O rfl rfl rfl rfl rfl rfl (by kernel_rfl) (by rfl) (evC_cell _) ?_); clear O; intro W O K; simp only [List.set_cons_zero, List.set_cons_succ] at O; replace KW := KW.trans K (fun b hb hlt => by rw [List.mem_singleton.1 hb] at hlt; have := HB15.out; omega); clear K
                          (first | refine back_intro2 (HC.out _ O.keep) ?_ | refine back_intro (HC.out _ O.keep) ?_)
                          refine seg_sole 11 #[true, true, true, true, true, true, true, true, true, true, true, true] rfl (by kernel_rfl) ?_
                          try simp only [List.getElem_toArray, List.getElem_cons_zero, List.getElem_cons_succ]
                          (first | refine own_store_rowK 1 (.tmp 16) (.tmp 66) O rfl rfl rfl rfl rfl rfl (by kernel_rfl) (by rfl) (evC_cell _) ?_ | refine own_store_rowK 0 (.tmp 16) (.tmp 66) O rfl rfl rfl rfl rfl rfl (by kernel_rfl) (by rfl) (evC_cell _) ?_); clear O; intro W O K; simp only [List.set_cons_zero, List.set_cons_succ] at O; replace KW := KW.trans K (fun b hb hlt => by rw [List.mem_singleton.1 hb] at hlt; have := HB16.out; omega); clear K
                          (first | refine back_intro2 (HC.out _ O.keep) ?_ | refine back_intro (HC.out _ O.keep) ?_)
                          refine seg_done (by kernel_rfl) ?_
                          have c15 : ∀ i : Nat, W.cell? ⟨b15, i, none⟩ = (evC ⟨(wi : Int), 13, ai, vi, si⟩)[i]? := by first | exact (O.get 1 rfl).cell | exact (O.get 0 rfl).cell
                          have c16 : ∀ i : Nat, W.cell? ⟨b16, i, none⟩ = (evC ⟨(wj : Int), 13, aj, vj, sj⟩)[i]? := by first | exact (O.get 0 rfl).cell | exact (O.get 1 rfl).cell
                          simp only [evC] at c15 c16
                          go_wp2
                          go_roundg (k - (q + 1))
                          case measure => (have := HG2.out; omega)
                          case rel => exact ⟨q + 1, by omega, rfl, by go_num, O.drop_ 2, (HGK.out _ KW).1, by rw [HQE.out]; unfold MintP; rw [← HLN.out]; exact (HGK.out _ KW).2⟩
                    · have e3 : (oj != 12) = true := by simpa using j12
                      have e4 : (oj != 13) = true := by simpa using j13
                      have hF : rcB E rm q k = false := by simp [rcB, acB, HEI.out, HEJ.out, j12, j13]
                      have HQE := Lib.hid (show (raceA E rm k ++ raceJ E rm k (q + 1)).take most = (raceA E rm k ++ raceJ E rm k q).take most from by rw [raceJ_succ, hF, if_neg (by simp), List.append_nil])
                      clear hF
                      go_wp2
                      refine wp_held (S := fun u' => (∀ j, j < (evC ⟨(wi : Int), 13, ai, vi, si⟩).size → u'.cell? ((ad.add (q * 5)).add j) = (evC ⟨(wi : Int), 13, ai, vi, si⟩)[j]?) ∧ (∀ j, j < (evC ⟨(wj : Int), oj, aj, vj, sj⟩).size → u'.cell? ((ad.add (k * 5)).add j) = (evC ⟨(wj : Int), oj, aj, vj, sj⟩)[j]?)) 12 #[false, false, false, false, false, false, false, false, false, false, false, false] (by kernel_rfl) rfl rfl ?_
                      replace O := O.drew
                      have KW := (Keeps.refl wr []).drew
                      refine seg_take (fuel := 4) (L' := #[true, true, true, true, true, true, true, true, false, false, false, false]) (by kernel_rfl) (fun _ _ _ _ _ _ h => h) ((HC.out _ O.keep)) [0, 1, 2, 3, 4, 5, 6, 7] [_, _, _, _, _, _, _, _] _ _ rfl (by kernel_rfl) ?_
                      simp only [List.getElem_toArray, List.getElem_cons_zero, List.getElem_cons_succ]
                      repeat (first
                        | (refine take_load_at 62 rfl (by rfl) rfl rfl (fun _ h => h.1) Try.underlying37 rfl (by kernel_rfl) ?_; simp only [Act.put, List.setIfInBounds_toArray, List.set_cons_zero, List.set_cons_succ])
                        | (refine take_load_at 66 rfl (by rfl) rfl rfl (fun _ h => h.2) Try.underlying37 rfl (by kernel_rfl) ?_; simp only [Act.put, List.setIfInBounds_toArray, List.set_cons_zero, List.set_cons_succ])
                        | (refine take_pure (v := ?_) (by rfl) ?_ ?_; rotate_left; (· (intro w hSw; clear hSw; go_simp; try with_reducible rfl)); simp only [Act.put, List.setIfInBounds_toArray, List.set_cons_zero, List.set_cons_succ]))
                      refine take_done ?_
                      refine seg_two 8 9 #[true, true, true, true, true, true, true, true, true, false, false, false] #[true, true, true, true, true, true, true, true, false, true, false, false] rfl rfl (by kernel_rfl) ?_ ?_
                      · try simp only [List.getElem_toArray, List.getElem_cons_zero, List.getElem_cons_succ]
                        refine own_allocK 15 (evC ⟨0, 0, 0, 0, false⟩) O rfl rfl rfl (fun _ => by kernel_rfl) ?_; clear O; intro W b15 O K hb; have HB15 := Lib.hid (Nat.le_trans KW.size hb); replace KW := KW.trans K (by simp); clear K hb; simp only [Act.put, List.setIfInBounds_toArray, List.set_cons_zero, List.set_cons_succ]
                        (first | refine back_intro2 (HC.out _ O.keep) ?_ | refine back_intro (HC.out _ O.keep) ?_)
                        refine seg_sole 9 #[true, true, true, true, true, true, true, true, true, true, false, false] rfl (by kernel_rfl) ?_
                        try simp only [List.getElem_toArray, List.getElem_cons_zero, List.getElem_cons_succ]
                        refine own_allocK 16 (evC ⟨0, 0, 0, 0, false⟩) O rfl rfl rfl (fun _ => by kernel_rfl) ?_; clear O; intro W b16 O K hb; have HB16 := Lib.hid (Nat.le_trans KW.size hb); replace KW := KW.trans K (by simp); clear K hb; simp only [Act.put, List.setIfInBounds_toArray, List.set_cons_zero, List.set_cons_succ]
                        (first | refine back_intro2 (HC.out _ O.keep) ?_ | refine back_intro (HC.out _ O.keep) ?_)
                        refine seg_sole 10 #[true, true, true, true, true, true, true, true, true, true, true, false] rfl (by kernel_rfl) ?_
                        try simp only [List.getElem_toArray, List.getElem_cons_zero, List.getElem_cons_succ]
                        (first | refine own_store_rowK 1 (.tmp 15) (.tmp 62) O rfl rfl rfl rfl rfl rfl (by kernel_rfl) (by rfl) (evC_cell _) ?_ | refine own_store_rowK 0 (.tmp 15) (.tmp 62) O rfl rfl rfl rfl rfl rfl (by kernel_rfl) (by rfl) (evC_cell _) ?_); clear O; intro W O K; simp only [List.set_cons_zero, List.set_cons_succ] at O; replace KW := KW.trans K (fun b hb hlt => by rw [List.mem_singleton.1 hb] at hlt; have := HB15.out; omega); clear K
                        (first | refine back_intro2 (HC.out _ O.keep) ?_ | refine back_intro (HC.out _ O.keep) ?_)
                        refine seg_sole 11 #[true, true, true, true, true, true, true, true, true, true, true, true] rfl (by kernel_rfl) ?_
                        try simp only [List.getElem_toArray, List.getElem_cons_zero, List.getElem_cons_succ]
                        (first | refine own_store_rowK 1 (.tmp 16) (.tmp 66) O rfl rfl rfl rfl rfl rfl (by kernel_rfl) (by rfl) (evC_cell _) ?_ | refine own_store_rowK 0 (.tmp 16) (.tmp 66) O rfl rfl rfl rfl rfl rfl (by kernel_rfl) (by rfl) (evC_cell _) ?_); clear O; intro W O K; simp only [List.set_cons_zero, List.set_cons_succ] at O; replace KW := KW.trans K (fun b hb hlt => by rw [List.mem_singleton.1 hb] at hlt; have := HB16.out; omega); clear K
                        (first | refine back_intro2 (HC.out _ O.keep) ?_ | refine back_intro (HC.out _ O.keep) ?_)
                        refine seg_done (by kernel_rfl) ?_
                        have c15 : ∀ i : Nat, W.cell? ⟨b15, i, none⟩ = (evC ⟨(wi : Int), 13, ai, vi, si⟩)[i]? := by first | exact (O.get 1 rfl).cell | exact (O.get 0 rfl).cell
                        have c16 : ∀ i : Nat, W.cell? ⟨b16, i, none⟩ = (evC ⟨(wj : Int), oj, aj, vj, sj⟩)[i]? := by first | exact (O.get 0 rfl).cell | exact (O.get 1 rfl).cell
                        simp only [evC] at c15 c16
                        go_wp2
                        go_roundg (k - (q + 1))
                        case measure => (have := HG2.out; omega)
                        case rel => exact ⟨q + 1, by omega, rfl, by go_num, O.drop_ 2, (HGK.out _ KW).1, by rw [HQE.out]; unfold MintP; rw [← HLN.out]; exact (HGK.out _ KW).2⟩
                      · try simp only [List.getElem_toArray, List.getElem_cons_zero, List.getElem_cons_succ]
                        refine own_allocK 16 (evC ⟨0, 0, 0, 0, false⟩) O rfl rfl rfl (fun _ => by kernel_rfl) ?_; clear O; intro W b16 O K hb; have HB16 := Lib.hid (Nat.le_trans KW.size hb); replace KW := KW.trans K (by simp); clear K hb; simp only [Act.put, List.setIfInBounds_toArray, List.set_cons_zero, List.set_cons_succ]
                        (first | refine back_intro2 (HC.out _ O.keep) ?_ | refine back_intro (HC.out _ O.keep) ?_)
                        refine seg_sole 8 #[true, true, true, true, true, true, true, true, true, true, false, false] rfl (by kernel_rfl) ?_
                        try simp only [List.getElem_toArray, List.getElem_cons_zero, List.getElem_cons_succ]
                        refine own_allocK 15 (evC ⟨0, 0, 0, 0, false⟩) O rfl rfl rfl (fun _ => by kernel_rfl) ?_; clear O; intro W b15 O K hb; have HB15 := Lib.hid (Nat.le_trans KW.size hb); replace KW := KW.trans K (by simp); clear K hb; simp only [Act.put, List.setIfInBounds_toArray, List.set_cons_zero, List.set_cons_succ]
                        (first | refine back_intro2 (HC.out _ O.keep) ?_ | refine back_intro (HC.out _ O.keep) ?_)
                        refine seg_sole 10 #[true, true, true, true, true, true, true, true, true, true, true, false] rfl (by kernel_rfl) ?_
                        try simp only [List.getElem_toArray, List.getElem_cons_zero, List.getElem_cons_succ]
                        (first | refine own_store_rowK 1 (.tmp 15) (.tmp 62) O rfl rfl rfl rfl rfl rfl (by kernel_rfl) (by rfl) (evC_cell _) ?_ | refine own_store_rowK 0 (.tmp 15) (.tmp 62) O rfl rfl rfl rfl rfl rfl (by kernel_rfl) (by rfl) (evC_cell _) ?_); clear O; intro W O K; simp only [List.set_cons_zero, List.set_cons_succ] at O; replace KW := KW.trans K (fun b hb hlt => by rw [List.mem_singleton.1 hb] at hlt; have := HB15.out; omega); clear K
                        (first | refine back_intro2 (HC.out _ O.keep) ?_ | refine back_intro (HC.out _ O.keep) ?_)
                        refine seg_sole 11 #[true, true, true, true, true, true, true, true, true, true, true, true] rfl (by kernel_rfl) ?_
                        try simp only [List.getElem_toArray, List.getElem_cons_zero, List.getElem_cons_succ]
                        (first | refine own_store_rowK 1 (.tmp 16) (.tmp 66) O rfl rfl rfl rfl rfl rfl (by kernel_rfl) (by rfl) (evC_cell _) ?_ | refine own_store_rowK 0 (.tmp 16) (.tmp 66) O rfl rfl rfl rfl rfl rfl (by kernel_rfl) (by rfl) (evC_cell _) ?_); clear O; intro W O K; simp only [List.set_cons_zero, List.set_cons_succ] at O; replace KW := KW.trans K (fun b hb hlt => by rw [List.mem_singleton.1 hb] at hlt; have := HB16.out; omega); clear K
                        (first | refine back_intro2 (HC.out _ O.keep) ?_ | refine back_intro (HC.out _ O.keep) ?_)
                        refine seg_done (by kernel_rfl) ?_
                        have c15 : ∀ i : Nat, W.cell? ⟨b15, i, none⟩ = (evC ⟨(wi : Int), 13, ai, vi, si⟩)[i]? := by first | exact (O.get 1 rfl).cell | exact (O.get 0 rfl).cell
                        have c16 : ∀ i : Nat, W.cell? ⟨b16, i, none⟩ = (evC ⟨(wj : Int), oj, aj, vj, sj⟩)[i]? := by first | exact (O.get 0 rfl).cell | exact (O.get 1 rfl).cell
                        simp only [evC] at c15 c16
                        go_wp2
                        go_roundg (k - (q + 1))
                        case measure => (have := HG2.out; omega)
                        case rel => exact ⟨q + 1, by omega, rfl, by go_num, O.drop_ 2, (HGK.out _ KW).1, by rw [HQE.out]; unfold MintP; rw [← HLN.out]; exact (HGK.out _ KW).2⟩
                · have e1 : (oi != 12) = true := by simpa using i12
                  have e2 : (oi != 13) = true := by simpa using i13
                  have hF : rcB E rm q k = false := by simp [rcB, acB, HEI.out, HEJ.out, i12, i13]
                  have HQE := Lib.hid (show (raceA E rm k ++ raceJ E rm k (q + 1)).take most = (raceA E rm k ++ raceJ E rm k q).take most from by rw [raceJ_succ, hF, if_neg (by simp), List.append_nil])
                  clear hF
                  go_wp2
                  refine wp_held (S := fun u' => (∀ j, j < (evC ⟨(wi : Int), oi, ai, vi, si⟩).size → u'.cell? ((ad.add (q * 5)).add j) = (evC ⟨(wi : Int), oi, ai, vi, si⟩)[j]?) ∧ (∀ j, j < (evC ⟨(wj : Int), oj, aj, vj, sj⟩).size → u'.cell? ((ad.add (k * 5)).add j) = (evC ⟨(wj : Int), oj, aj, vj, sj⟩)[j]?)) 12 #[false, false, false, false, false, false, false, false, false, false, false, false] (by kernel_rfl) rfl rfl ?_
                  replace O := O.drew
                  have KW := (Keeps.refl wr []).drew
                  refine seg_take (fuel := 4) (L' := #[true, true, true, true, true, true, true, true, false, false, false, false]) (by kernel_rfl) (fun _ _ _ _ _ _ h => h) ((HC.out _ O.keep)) [0, 1, 2, 3, 4, 5, 6, 7] [_, _, _, _, _, _, _, _] _ _ rfl (by kernel_rfl) ?_
                  simp only [List.getElem_toArray, List.getElem_cons_zero, List.getElem_cons_succ]
                  repeat (first
                    | (refine take_load_at 62 rfl (by rfl) rfl rfl (fun _ h => h.1) Try.underlying37 rfl (by kernel_rfl) ?_; simp only [Act.put, List.setIfInBounds_toArray, List.set_cons_zero, List.set_cons_succ])
                    | (refine take_load_at 66 rfl (by rfl) rfl rfl (fun _ h => h.2) Try.underlying37 rfl (by kernel_rfl) ?_; simp only [Act.put, List.setIfInBounds_toArray, List.set_cons_zero, List.set_cons_succ])
                    | (refine take_pure (v := ?_) (by rfl) ?_ ?_; rotate_left; (· (intro w hSw; clear hSw; go_simp; try with_reducible rfl)); simp only [Act.put, List.setIfInBounds_toArray, List.set_cons_zero, List.set_cons_succ]))
                  refine take_done ?_
                  refine seg_two 8 9 #[true, true, true, true, true, true, true, true, true, false, false, false] #[true, true, true, true, true, true, true, true, false, true, false, false] rfl rfl (by kernel_rfl) ?_ ?_
                  · try simp only [List.getElem_toArray, List.getElem_cons_zero, List.getElem_cons_succ]
                    refine own_allocK 15 (evC ⟨0, 0, 0, 0, false⟩) O rfl rfl rfl (fun _ => by kernel_rfl) ?_; clear O; intro W b15 O K hb; have HB15 := Lib.hid (Nat.le_trans KW.size hb); replace KW := KW.trans K (by simp); clear K hb; simp only [Act.put, List.setIfInBounds_toArray, List.set_cons_zero, List.set_cons_succ]
                    (first | refine back_intro2 (HC.out _ O.keep) ?_ | refine back_intro (HC.out _ O.keep) ?_)
                    refine seg_sole 9 #[true, true, true, true, true, true, true, true, true, true, false, false] rfl (by kernel_rfl) ?_
                    try simp only [List.getElem_toArray, List.getElem_cons_zero, List.getElem_cons_succ]
                    refine own_allocK 16 (evC ⟨0, 0, 0, 0, false⟩) O rfl rfl rfl (fun _ => by kernel_rfl) ?_; clear O; intro W b16 O K hb; have HB16 := Lib.hid (Nat.le_trans KW.size hb); replace KW := KW.trans K (by simp); clear K hb; simp only [Act.put, List.setIfInBounds_toArray, List.set_cons_zero, List.set_cons_succ]
                    (first | refine back_intro2 (HC.out _ O.keep) ?_ | refine back_intro (HC.out _ O.keep) ?_)
                    refine seg_sole 10 #[true, true, true, true, true, true, true, true, true, true, true, false] rfl (by kernel_rfl) ?_
                    try simp only [List.getElem_toArray, List.getElem_cons_zero, List.getElem_cons_succ]
                    (first | refine own_store_rowK 1 (.tmp 15) (.tmp 62) O rfl rfl rfl rfl rfl rfl (by kernel_rfl) (by rfl) (evC_cell _) ?_ | refine own_store_rowK 0 (.tmp 15) (.tmp 62) O rfl rfl rfl rfl rfl rfl (by kernel_rfl) (by rfl) (evC_cell _) ?_); clear O; intro W O K; simp only [List.set_cons_zero, List.set_cons_succ] at O; replace KW := KW.trans K (fun b hb hlt => by rw [List.mem_singleton.1 hb] at hlt; have := HB15.out; omega); clear K
                    (first | refine back_intro2 (HC.out _ O.keep) ?_ | refine back_intro (HC.out _ O.keep) ?_)
                    refine seg_sole 11 #[true, true, true, true, true, true, true, true, true, true, true, true] rfl (by kernel_rfl) ?_
                    try simp only [List.getElem_toArray, List.getElem_cons_zero, List.getElem_cons_succ]
                    (first | refine own_store_rowK 1 (.tmp 16) (.tmp 66) O rfl rfl rfl rfl rfl rfl (by kernel_rfl) (by rfl) (evC_cell _) ?_ | refine own_store_rowK 0 (.tmp 16) (.tmp 66) O rfl rfl rfl rfl rfl rfl (by kernel_rfl) (by rfl) (evC_cell _) ?_); clear O; intro W O K; simp only [List.set_cons_zero, List.set_cons_succ] at O; replace KW := KW.trans K (fun b hb hlt => by rw [List.mem_singleton.1 hb] at hlt; have := HB16.out; omega); clear K
                    (first | refine back_intro2 (HC.out _ O.keep) ?_ | refine back_intro (HC.out _ O.keep) ?_)
                    refine seg_done (by kernel_rfl) ?_
                    have c15 : ∀ i : Nat, W.cell? ⟨b15, i, none⟩ = (evC ⟨(wi : Int), oi, ai, vi, si⟩)[i]? := by first | exact (O.get 1 rfl).cell | exact (O.get 0 rfl).cell
                    have c16 : ∀ i : Nat, W.cell? ⟨b16, i, none⟩ = (evC ⟨(wj : Int), oj, aj, vj, sj⟩)[i]? := by first | exact (O.get 0 rfl).cell | exact (O.get 1 rfl).cell
                    simp only [evC] at c15 c16
                    go_wp2
                    go_roundg (k - (q + 1))
                    case measure => (have := HG2.out; omega)
                    case rel => exact ⟨q + 1, by omega, rfl, by go_num, O.drop_ 2, (HGK.out _ KW).1, by rw [HQE.out]; unfold MintP; rw [← HLN.out]; exact (HGK.out _ KW).2⟩
                  · try simp only [List.getElem_toArray, List.getElem_cons_zero, List.getElem_cons_succ]
                    refine own_allocK 16 (evC ⟨0, 0, 0, 0, false⟩) O rfl rfl rfl (fun _ => by kernel_rfl) ?_; clear O; intro W b16 O K hb; have HB16 := Lib.hid (Nat.le_trans KW.size hb); replace KW := KW.trans K (by simp); clear K hb; simp only [Act.put, List.setIfInBounds_toArray, List.set_cons_zero, List.set_cons_succ]
                    (first | refine back_intro2 (HC.out _ O.keep) ?_ | refine back_intro (HC.out _ O.keep) ?_)
                    refine seg_sole 8 #[true, true, true, true, true, true, true, true, true, true, false, false] rfl (by kernel_rfl) ?_
                    try simp only [List.getElem_toArray, List.getElem_cons_zero, List.getElem_cons_succ]
                    refine own_allocK 15 (evC ⟨0, 0, 0, 0, false⟩) O rfl rfl rfl (fun _ => by kernel_rfl) ?_; clear O; intro W b15 O K hb; have HB15 := Lib.hid (Nat.le_trans KW.size hb); replace KW := KW.trans K (by simp); clear K hb; simp only [Act.put, List.setIfInBounds_toArray, List.set_cons_zero, List.set_cons_succ]
                    (first | refine back_intro2 (HC.out _ O.keep) ?_ | refine back_intro (HC.out _ O.keep) ?_)
                    refine seg_sole 10 #[true, true, true, true, true, true, true, true, true, true, true, false] rfl (by kernel_rfl) ?_
                    try simp only [List.getElem_toArray, List.getElem_cons_zero, List.getElem_cons_succ]
                    (first | refine own_store_rowK 1 (.tmp 15) (.tmp 62) O rfl rfl rfl rfl rfl rfl (by kernel_rfl) (by rfl) (evC_cell _) ?_ | refine own_store_rowK 0 (.tmp 15) (.tmp 62) O rfl rfl rfl rfl rfl rfl (by kernel_rfl) (by rfl) (evC_cell _) ?_); clear O; intro W O K; simp only [List.set_cons_zero, List.set_cons_succ] at O; replace KW := KW.trans K (fun b hb hlt => by rw [List.mem_singleton.1 hb] at hlt; have := HB15.out; omega); clear K
                    (first | refine back_intro2 (HC.out _ O.keep) ?_ | refine back_intro (HC.out _ O.keep) ?_)
                    refine seg_sole 11 #[true, true, true, true, true, true, true, true, true, true, true, true] rfl (by kernel_rfl) ?_
                    try simp only [List.getElem_toArray, List.getElem_cons_zero, List.getElem_cons_succ]
                    (first | refine own_store_rowK 1 (.tmp 16) (.tmp 66) O rfl rfl rfl rfl rfl rfl (by kernel_rfl) (by rfl) (evC_cell _) ?_ | refine own_store_rowK 0 (.tmp 16) (.tmp 66) O rfl rfl rfl rfl rfl rfl (by kernel_rfl) (by rfl) (evC_cell _) ?_); clear O; intro W O K; simp only [List.set_cons_zero, List.set_cons_succ] at O; replace KW := KW.trans K (fun b hb hlt => by rw [List.mem_singleton.1 hb] at hlt; have := HB16.out; omega); clear K
                    (first | refine back_intro2 (HC.out _ O.keep) ?_ | refine back_intro (HC.out _ O.keep) ?_)
                    refine seg_done (by kernel_rfl) ?_
                    have c15 : ∀ i : Nat, W.cell? ⟨b15, i, none⟩ = (evC ⟨(wi : Int), oi, ai, vi, si⟩)[i]? := by first | exact (O.get 1 rfl).cell | exact (O.get 0 rfl).cell
                    have c16 : ∀ i : Nat, W.cell? ⟨b16, i, none⟩ = (evC ⟨(wj : Int), oj, aj, vj, sj⟩)[i]? := by first | exact (O.get 0 rfl).cell | exact (O.get 1 rfl).cell
                    simp only [evC] at c15 c16
                    go_wp2
                    go_roundg (k - (q + 1))
                    case measure => (have := HG2.out; omega)
                    case rel => exact ⟨q + 1, by omega, rfl, by go_num, O.drop_ 2, (HGK.out _ KW).1, by rw [HQE.out]; unfold MintP; rw [← HLN.out]; exact (HGK.out _ KW).2⟩
            · have y6 : decide ((ln : Int) < (most : Int)) = false := decide_eq_false (by omega)
              have y7 : ¬ (ln : Int) < most := by omega
              go_wp2
              go_roundg (n - (k + 1))
              case measure => (have := HG1.out; omega)
              case rel =>
                refine ⟨k + 1, by omega, rfl, by go_num, O, G, ?_⟩
                have hp := race_pre (E := E) (rm := rm) (q := q) (j := k) (n := k + 1) (by omega) (by omega)
                have hx : ¬ (raceA E rm k ++ raceJ E rm k q).length < most := fun h => hfull (by rw [HLN.out]; exact (take_len_lt _ _).2 h)
                rw [take_pre hp (by omega)]
                have hh := HML.out
                unfold MintP
                rw [← HLN.out]
                exact hh
          · obtain rfl : k = q := by omega
            have y3 : decide ((k : Int) < (k : Int)) = false := decide_eq_false (by omega)
            go_wp2
            go_roundg (n - (k + 1))
            case measure => (have := HG1.out; omega)
            case rel =>
              refine ⟨k + 1, by omega, rfl, by go_num, O, G, ?_⟩
              have hh := HML.out
              show MintP 79 _ _ _ ((raceA E rm k ++ raceJ E rm k k).take most)
              unfold MintP
              rw [← HLN.out]
              exact hh
      · have y3 : decide ((ln : Int) < (most : Int)) = false := decide_eq_false (by omega)
        have y4 : ¬ (ln : Int) < most := by omega
        go_wp2
        go_returns
        refine ⟨⟨_, rfl, ?_⟩, O.keep⟩
        show MintP 79 _ _ _ ((raceA E rm n).take most)
        have hx : ¬ (raceA E rm k).length < most := fun h => hfull (by rw [HLN.out]; exact (take_len_lt _ _).2 h)
        rw [take_pre (raceA_pre k n (by omega)) (by omega), HLN.out]
        exact HM.out
    · obtain rfl : n = k := by omega
      have y1 : decide ((n : Int) < (n : Int)) = false := decide_eq_false (by omega)
      go_wp2
      go_returns
      refine ⟨⟨_, rfl, ?_⟩, O.keep⟩
      show MintP 79 _ _ _ ((raceA E rm n).take most)
      rw [HLN.out]
      exact HM.out
theorem rraces_any (hS : SysIn w S A c R d) (hE : EvsAt w B n E) (most : Int) : Calls Try.prog 42 #[.agg (sysV S A c R d), .slice B n cb, .int .i64 most] w (RacPost (racesR S E (rmS S) n most) w) := by
  by_cases h : (thr S E n).2.2 = 0
  · by_cases h0 : most < 0
    · exact rraces_low hS hE most h h0
    · by_cases h1 : 4096 < most
      · exact rraces_high hS hE most h h0 h1
      · obtain ⟨m, rfl⟩ : ∃ m : Nat, most = (m : Int) := ⟨most.toNat, by omega⟩
        exact rraces_good hS hE m h (by omega)
  · exact rraces_bad hS hE most h
end
end Go.Proofs.Ytakmcpadkanggaa
