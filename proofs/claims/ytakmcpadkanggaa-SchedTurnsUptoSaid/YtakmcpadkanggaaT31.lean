/-
  One step on channels, locks and groups (sched's shared).
-/
import Derived.Test.YtakmcpadkanggaaT30
import Derived.Test.YtakmcpadkanggaaHeld2
namespace Go.Proofs.Ytakmcpadkanggaa
open Go.RowKit Go.Maps Go.Deep

theorem HRow.head {base : Nat} {W : World} {g off n c : Nat} {x : Int} {l : List Int} (h : HRow base W (.slice (some ⟨g, off, none⟩) n c) (x :: l)) : W.cell? ⟨g, off, none⟩ = some (.int .i64 x) := by
  rcases h with ⟨h, h'⟩ | ⟨g', off', cap, cur, h, hb, hB, h1, h2, h3, h4⟩
  · cases h'
  · injection h with e1 e2 e3
    injection e1 with e1
    injection e1 with e1 e4
    subst e1 e4
    rw [hB.cell]
    exact h4 0 (by simp)
theorem HRow.pop_sh_6a {base : Nat} {W : World} {g off c : Nat} {x : Int} {l : List Int} (hc : c = 1) (h : HRow base W (.slice (some ⟨g, off, none⟩) (l.length + 1) c) (x :: l)) : HRow base W (.slice (some ⟨g, off, none⟩) l.length 0) l := by
  have := HRow.pop h
  rw [if_pos hc] at this
  subst hc
  exact this
theorem HRow.pop_sh_6b {base : Nat} {W : World} {g off c : Nat} {x : Int} {l : List Int} (hc : 1 < c) (h : HRow base W (.slice (some ⟨g, off, none⟩) (l.length + 1) c) (x :: l)) : HRow base W (.slice (some ⟨g, off + 1, none⟩) l.length (c - 1)) l := by
  have := HRow.pop h
  rw [if_neg (by omega)] at this
  simpa [Addr.add_mid] using this
section
variable {w W : World} {L Lr : List Ent} {y : Ly} {nr gw n cw k pw pe pt pi aN : Nat} {cur : Array Value} {evs : Value} {E : List Ev} {hv : Nat → Value} {held : Nat → List Int} {cl : Nat → Bool} {lk : Int → Bool} {gr : Int → Int} {ci : Array Value} {f2 f3 v0 on on2 : Int} {bN nn : Nat} {rs : Nat → Rn}

set_option maxRecDepth 100000 in
set_option maxHeartbeats 1000000 in
theorem sh_8  (M : OM w W ((pt, 1, #[Value.func (.func 105) #[] #[.pointer (some ⟨pw, 0, none⟩), .pointer (some ⟨pe, 0, none⟩)]]) :: (pe, 37, evC ⟨k, 8, aN, 0, false⟩) :: (pi, 99, ci) :: (pw, 104, #[.pointer (some ⟨y.wp, 0, none⟩)]) :: (y.wp, 110, wpC y nr gw n cw evs) :: (gw, 174, cur) :: (y.bp, 186, pipesA nr hv cl) :: (y.bl, 4, arrB y.lk lk) :: (y.bg, 3, arrI y.gr gr) :: Lr) ⟨evs, E, nr, hv, held⟩) (ha : aN < y.lk) : Calls Try.prog 108 #[.pointer (some ⟨y.wp, 0, none⟩), .pointer (some ⟨gw, k * 10, none⟩), .agg #[Value.int .i64 8, .int .i64 (aN : Int), .int .i64 (f2 : Int), .int .i64 (f3 : Int)], .pointer (some ⟨pe, 0, none⟩), .int .i64 on, .func (.func 106) #[] #[.pointer (some ⟨pt, 0, none⟩)]] W fun ev W' => ev = (.returned (.int .i64 on)) ∧ OM w W' ((pt, 1, #[Value.func (.func 105) #[] #[.pointer (some ⟨pw, 0, none⟩), .pointer (some ⟨pe, 0, none⟩)]]) :: (pe, 37, evC ⟨k, 8, aN, 0, false⟩) :: (pi, 99, ci) :: (pw, 104, #[.pointer (some ⟨y.wp, 0, none⟩)]) :: (y.wp, 110, wpC y nr gw n cw evs) :: (gw, 174, cur) :: (y.bp, 186, pipesA nr hv cl) :: (y.bl, 4, arrB y.lk (updI lk aN true)) :: (y.bg, 3, arrI y.gr gr) :: Lr) ⟨evs, E, nr, hv, held⟩ := by
  have g1 : (aN : Int) < y.lk := by omega
  have g2 : (0 : Int) ≤ aN := by omega
  have HA := Lib.hid ha
  clear ha
  go_enter Try.func108, Try.ntmps108
  go_wp2_with (first
    | go_big_skip
    | (refine om_box 8 #[Value.int .i64 8, .int .i64 (aN : Int), .int .i64 (f2 : Int), .int .i64 (f3 : Int)] M rfl rfl rfl rfl ?_; clear M; intro V p8 M; simp only [Act.put, List.setIfInBounds_toArray, List.set_cons_zero, List.set_cons_succ]; have c0 : V.cell? ⟨p8, 0, none⟩ = some (.int .i64 8) := (M.own.get 0 rfl).cell 0))
  have cw : ∀ (p : Later V) i, p.1.cell? ⟨y.wp, i, none⟩ = #[Value.pointer (some ⟨y.ps, 0, none⟩), .slice (some ⟨gw, 0, none⟩) n cw, .slice (some ⟨y.bp, 0, none⟩) nr nr, .slice (some ⟨y.bl, 0, none⟩) y.lk y.lk, .slice (some ⟨y.bg, 0, none⟩) y.gr y.gr, .slice (some ⟨y.bc, 0, none⟩) y.ce y.ce, evs][i]? := Later.cell (M.get 5 rfl)
  have ci : ∀ (p : Later V) i, p.1.cell? ⟨p8, i, none⟩ = #[Value.int .i64 8, .int .i64 (aN : Int), .int .i64 (f2 : Int), .int .i64 (f3 : Int)][i]? := Later.cell (M.get 0 rfl)
  have ak := add_zero_ y.bl aN
  refine wp_quiet_tail_later 7 (by kernel_rfl) (by kernel_rfl) ?_
  simp only [List.take, List.drop]
  repeat (first
    | go_big_quiet_skip
    | go_big_quiet_step (fail))
  refine wpQuiet_nil ?_
  intro _ hw
  obtain ⟨p', rfl⟩ := hw
  replace M := M.keeps p'.2
  clear c0 cw ci ak
  generalize p'.1 = V at M ⊢
  go_wp2_with (first
    | go_big_skip
    | (refine at_store (.tmp 131) (.const (.bool true)) rfl ?_; refine om_store 8 aN (.bool true) (.tmp 131) (.const (.bool true)) M rfl rfl rfl rfl rfl rfl (by rw [arrB_size]; exact HA.out) rfl rfl (by kernel_rfl) (arrB_set _ _ _ _) ?_; clear M; intro V M; simp only [List.set_cons_zero, List.set_cons_succ] at M))
  go_ret
  exact ⟨rfl, M.drop_ 1⟩

set_option maxRecDepth 100000 in
set_option maxHeartbeats 1000000 in
theorem sh_9t  (M : OM w W ((pt, 1, #[Value.func (.func 105) #[] #[.pointer (some ⟨pw, 0, none⟩), .pointer (some ⟨pe, 0, none⟩)]]) :: (pe, 37, evC ⟨k, 9, aN, 0, false⟩) :: (pi, 99, ci) :: (pw, 104, #[.pointer (some ⟨y.wp, 0, none⟩)]) :: (y.wp, 110, wpC y nr gw n cw evs) :: (gw, 174, cur) :: (y.bp, 186, pipesA nr hv cl) :: (y.bl, 4, arrB y.lk lk) :: (y.bg, 3, arrI y.gr gr) :: Lr) ⟨evs, E, nr, hv, held⟩) (ha : aN < y.lk) (hcl : lk aN = true) : Calls Try.prog 108 #[.pointer (some ⟨y.wp, 0, none⟩), .pointer (some ⟨gw, k * 10, none⟩), .agg #[Value.int .i64 9, .int .i64 (aN : Int), .int .i64 (f2 : Int), .int .i64 (f3 : Int)], .pointer (some ⟨pe, 0, none⟩), .int .i64 on, .func (.func 106) #[] #[.pointer (some ⟨pt, 0, none⟩)]] W fun ev W' => ev = (.returned (.int .i64 on)) ∧ OM w W' ((pt, 1, #[Value.func (.func 105) #[] #[.pointer (some ⟨pw, 0, none⟩), .pointer (some ⟨pe, 0, none⟩)]]) :: (pe, 37, evC ⟨k, 9, aN, 0, false⟩) :: (pi, 99, ci) :: (pw, 104, #[.pointer (some ⟨y.wp, 0, none⟩)]) :: (y.wp, 110, wpC y nr gw n cw evs) :: (gw, 174, cur) :: (y.bp, 186, pipesA nr hv cl) :: (y.bl, 4, arrB y.lk (updI lk aN false)) :: (y.bg, 3, arrI y.gr gr) :: Lr) ⟨evs, E, nr, hv, held⟩ := by
  have g1 : (aN : Int) < y.lk := by omega
  have g2 : (0 : Int) ≤ aN := by omega
  have HA := Lib.hid ha
  have HCL := Lib.hid hcl
  clear ha hcl
  go_enter Try.func108, Try.ntmps108
  go_wp2_with (first
    | go_big_skip
    | (refine om_box 8 #[Value.int .i64 9, .int .i64 (aN : Int), .int .i64 (f2 : Int), .int .i64 (f3 : Int)] M rfl rfl rfl rfl ?_; clear M; intro V p8 M; simp only [Act.put, List.setIfInBounds_toArray, List.set_cons_zero, List.set_cons_succ]; have c0 : V.cell? ⟨p8, 0, none⟩ = some (.int .i64 9) := (M.own.get 0 rfl).cell 0))
  have cw : ∀ (p : Later V) i, p.1.cell? ⟨y.wp, i, none⟩ = #[Value.pointer (some ⟨y.ps, 0, none⟩), .slice (some ⟨gw, 0, none⟩) n cw, .slice (some ⟨y.bp, 0, none⟩) nr nr, .slice (some ⟨y.bl, 0, none⟩) y.lk y.lk, .slice (some ⟨y.bg, 0, none⟩) y.gr y.gr, .slice (some ⟨y.bc, 0, none⟩) y.ce y.ce, evs][i]? := Later.cell (M.get 5 rfl)
  have ci : ∀ (p : Later V) i, p.1.cell? ⟨p8, i, none⟩ = #[Value.int .i64 9, .int .i64 (aN : Int), .int .i64 (f2 : Int), .int .i64 (f3 : Int)][i]? := Later.cell (M.get 0 rfl)
  have cp : ∀ p : Later V, p.1.cell? ⟨y.bl, aN, none⟩ = some (.bool true) := fun p => (Later.cell (M.get 8 rfl) p _).trans ((arrB_get _ _ _ HA.out).trans (by rw [HCL.out]))
  have ak := add_zero_ y.bl aN
  refine wp_quiet_later (by kernel_rfl) (by kernel_rfl) ?_
  repeat (first
    | go_big_quiet_skip
    | go_big_quiet_step (fail))
  refine wpQuiet_nil ?_
  intro _ hw
  obtain ⟨p', rfl⟩ := hw
  replace M := M.keeps p'.2
  clear cw ci cp
  generalize p'.1 = V at M ⊢
  go_wp2_with (first | go_big_skip)
  have cw : ∀ (p : Later V) i, p.1.cell? ⟨y.wp, i, none⟩ = #[Value.pointer (some ⟨y.ps, 0, none⟩), .slice (some ⟨gw, 0, none⟩) n cw, .slice (some ⟨y.bp, 0, none⟩) nr nr, .slice (some ⟨y.bl, 0, none⟩) y.lk y.lk, .slice (some ⟨y.bg, 0, none⟩) y.gr y.gr, .slice (some ⟨y.bc, 0, none⟩) y.ce y.ce, evs][i]? := Later.cell (M.get 5 rfl)
  have ci : ∀ (p : Later V) i, p.1.cell? ⟨p8, i, none⟩ = #[Value.int .i64 9, .int .i64 (aN : Int), .int .i64 (f2 : Int), .int .i64 (f3 : Int)][i]? := Later.cell (M.get 0 rfl)
  refine wp_quiet_tail_later 7 (by kernel_rfl) (by kernel_rfl) ?_
  simp only [List.take, List.drop]
  repeat (first
    | go_big_quiet_skip
    | go_big_quiet_step (fail))
  refine wpQuiet_nil ?_
  intro _ hw
  obtain ⟨p', rfl⟩ := hw
  replace M := M.keeps p'.2
  clear c0 cw ci ak
  generalize p'.1 = V at M ⊢
  go_wp2_with (first
    | go_big_skip
    | (refine at_store (.tmp 151) (.const (.bool false)) rfl ?_; refine om_store 8 aN (.bool false) (.tmp 151) (.const (.bool false)) M rfl rfl rfl rfl rfl rfl (by rw [arrB_size]; exact HA.out) rfl rfl (by kernel_rfl) (arrB_set _ _ _ _) ?_; clear M; intro V M; simp only [List.set_cons_zero, List.set_cons_succ] at M))
  go_ret
  exact ⟨rfl, M.drop_ 1⟩

set_option maxRecDepth 100000 in
set_option maxHeartbeats 1000000 in
theorem sh_9f  (M : OM w W ((pt, 1, #[Value.func (.func 105) #[] #[.pointer (some ⟨pw, 0, none⟩), .pointer (some ⟨pe, 0, none⟩)]]) :: (pe, 37, evC ⟨k, 9, aN, 0, false⟩) :: (pi, 99, ci) :: (pw, 104, #[.pointer (some ⟨y.wp, 0, none⟩)]) :: (y.wp, 110, wpC y nr gw n cw evs) :: (gw, 174, cur) :: (y.bp, 186, pipesA nr hv cl) :: (y.bl, 4, arrB y.lk lk) :: (y.bg, 3, arrI y.gr gr) :: Lr) ⟨evs, E, nr, hv, held⟩) (hn : E.length ≤ 100000) (ha : aN < y.lk) (hcl : lk aN = false) : Calls Try.prog 108 #[.pointer (some ⟨y.wp, 0, none⟩), .pointer (some ⟨gw, k * 10, none⟩), .agg #[Value.int .i64 9, .int .i64 (aN : Int), .int .i64 (f2 : Int), .int .i64 (f3 : Int)], .pointer (some ⟨pe, 0, none⟩), .int .i64 on, .func (.func 106) #[] #[.pointer (some ⟨pt, 0, none⟩)]] W fun ev W' => ev = (.panicked [{ v := .iface 22 (.int .i64 133), recovered := false }]) ∧ ∃ v', OM w W' ((pt, 1, #[Value.func (.func 105) #[] #[.pointer (some ⟨pw, 0, none⟩), .pointer (some ⟨pe, 0, none⟩)]]) :: (pe, 37, evC ⟨k, 9, aN, 0, false⟩) :: (pi, 99, ci) :: (pw, 104, #[.pointer (some ⟨y.wp, 0, none⟩)]) :: (y.wp, 110, wpC y nr gw n cw v') :: (gw, 174, cur) :: (y.bp, 186, pipesA nr hv cl) :: (y.bl, 4, arrB y.lk lk) :: (y.bg, 3, arrI y.gr gr) :: Lr) ⟨v', E ++ [⟨k, 9, aN, 0, false⟩], nr, hv, held⟩ := by
  have g1 : (aN : Int) < y.lk := by omega
  have g2 : (0 : Int) ≤ aN := by omega
  have HA := Lib.hid ha
  have HCL := Lib.hid hcl
  clear ha hcl
  go_enter Try.func108, Try.ntmps108
  go_wp2_with (first
    | go_big_skip
    | (refine om_box 8 #[Value.int .i64 9, .int .i64 (aN : Int), .int .i64 (f2 : Int), .int .i64 (f3 : Int)] M rfl rfl rfl rfl ?_; clear M; intro V p8 M; simp only [Act.put, List.setIfInBounds_toArray, List.set_cons_zero, List.set_cons_succ]; have c0 : V.cell? ⟨p8, 0, none⟩ = some (.int .i64 9) := (M.own.get 0 rfl).cell 0))
  have cw : ∀ (p : Later V) i, p.1.cell? ⟨y.wp, i, none⟩ = #[Value.pointer (some ⟨y.ps, 0, none⟩), .slice (some ⟨gw, 0, none⟩) n cw, .slice (some ⟨y.bp, 0, none⟩) nr nr, .slice (some ⟨y.bl, 0, none⟩) y.lk y.lk, .slice (some ⟨y.bg, 0, none⟩) y.gr y.gr, .slice (some ⟨y.bc, 0, none⟩) y.ce y.ce, evs][i]? := Later.cell (M.get 5 rfl)
  have ci : ∀ (p : Later V) i, p.1.cell? ⟨p8, i, none⟩ = #[Value.int .i64 9, .int .i64 (aN : Int), .int .i64 (f2 : Int), .int .i64 (f3 : Int)][i]? := Later.cell (M.get 0 rfl)
  have cp : ∀ p : Later V, p.1.cell? ⟨y.bl, aN, none⟩ = some (.bool false) := fun p => (Later.cell (M.get 8 rfl) p _).trans ((arrB_get _ _ _ HA.out).trans (by rw [HCL.out]))
  have ak := add_zero_ y.bl aN
  refine wp_quiet_later (by kernel_rfl) (by kernel_rfl) ?_
  repeat (first
    | go_big_quiet_skip
    | go_big_quiet_step (fail))
  refine wpQuiet_nil ?_
  intro _ hw
  obtain ⟨p', rfl⟩ := hw
  replace M := M.keeps p'.2
  clear c0 cw ci cp ak
  generalize p'.1 = V at M ⊢
  go_wp2_with (first
    | go_big_skip
    | (go_at_call 106; refine (fail_any M ⟨k, 9, aN, 0, false⟩ (i := 4) (j := 2) (k := 5) (m := 1) rfl rfl rfl rfl hn 133).mono ?_; rintro ev V ⟨rfl, v', M⟩; have HM := Lib.hid M; clear M))
  first | exact ⟨rfl, _, HM.out.drop_ 1⟩ | exact ⟨rfl, rfl, _, HM.out.drop_ 1⟩ | exact ⟨_, rfl, _, HM.out.drop_ 1⟩

set_option maxRecDepth 100000 in
set_option maxHeartbeats 1000000 in
theorem sh_7o  (M : OM w W ((pt, 1, #[Value.func (.func 105) #[] #[.pointer (some ⟨pw, 0, none⟩), .pointer (some ⟨pe, 0, none⟩)]]) :: (pe, 37, evC ⟨k, 7, aN, 0, false⟩) :: (pi, 99, ci) :: (pw, 104, #[.pointer (some ⟨y.wp, 0, none⟩)]) :: (y.wp, 110, wpC y nr gw n cw evs) :: (gw, 174, cur) :: (y.bp, 186, pipesA nr hv cl) :: (y.bl, 4, arrB y.lk lk) :: (y.bg, 3, arrI y.gr gr) :: Lr) ⟨evs, E, nr, hv, held⟩) (ha : aN < nr) (hcl : cl aN = false) : Calls Try.prog 108 #[.pointer (some ⟨y.wp, 0, none⟩), .pointer (some ⟨gw, k * 10, none⟩), .agg #[Value.int .i64 7, .int .i64 (aN : Int), .int .i64 (f2 : Int), .int .i64 (f3 : Int)], .pointer (some ⟨pe, 0, none⟩), .int .i64 on, .func (.func 106) #[] #[.pointer (some ⟨pt, 0, none⟩)]] W fun ev W' => ev = (.returned (.int .i64 on)) ∧ OM w W' ((pt, 1, #[Value.func (.func 105) #[] #[.pointer (some ⟨pw, 0, none⟩), .pointer (some ⟨pe, 0, none⟩)]]) :: (pe, 37, evC ⟨k, 7, aN, 0, false⟩) :: (pi, 99, ci) :: (pw, 104, #[.pointer (some ⟨y.wp, 0, none⟩)]) :: (y.wp, 110, wpC y nr gw n cw evs) :: (gw, 174, cur) :: (y.bp, 186, pipesA nr hv (updN cl aN true)) :: (y.bl, 4, arrB y.lk lk) :: (y.bg, 3, arrI y.gr gr) :: Lr) ⟨evs, E, nr, hv, held⟩ := by
  have g1 : (aN : Int) < nr := by omega
  have g2 : (0 : Int) ≤ aN := by omega
  have HA := Lib.hid ha
  have HCL := Lib.hid hcl
  clear ha hcl
  go_enter Try.func108, Try.ntmps108
  go_wp2_with (first
    | go_big_skip
    | (refine om_box 8 #[Value.int .i64 7, .int .i64 (aN : Int), .int .i64 (f2 : Int), .int .i64 (f3 : Int)] M rfl rfl rfl rfl ?_; clear M; intro V p8 M; simp only [Act.put, List.setIfInBounds_toArray, List.set_cons_zero, List.set_cons_succ]; have c0 : V.cell? ⟨p8, 0, none⟩ = some (.int .i64 7) := (M.own.get 0 rfl).cell 0))
  have cw : ∀ (p : Later V) i, p.1.cell? ⟨y.wp, i, none⟩ = #[Value.pointer (some ⟨y.ps, 0, none⟩), .slice (some ⟨gw, 0, none⟩) n cw, .slice (some ⟨y.bp, 0, none⟩) nr nr, .slice (some ⟨y.bl, 0, none⟩) y.lk y.lk, .slice (some ⟨y.bg, 0, none⟩) y.gr y.gr, .slice (some ⟨y.bc, 0, none⟩) y.ce y.ce, evs][i]? := Later.cell (M.get 5 rfl)
  have ci : ∀ (p : Later V) i, p.1.cell? ⟨p8, i, none⟩ = #[Value.int .i64 7, .int .i64 (aN : Int), .int .i64 (f2 : Int), .int .i64 (f3 : Int)][i]? := Later.cell (M.get 0 rfl)
  have cp : ∀ p : Later V, p.1.cell? ⟨y.bp, aN * 2 + 1, none⟩ = some (.bool false) := fun p => (Later.cell (M.get 7 rfl) p _).trans ((pipesA_cl _ _ _ _ HA.out).trans (by rw [HCL.out]))
  have ak := add_zero_ y.bp (aN * 2)
  refine wp_quiet_later (by kernel_rfl) (by kernel_rfl) ?_
  repeat (first
    | go_big_quiet_skip
    | go_big_quiet_step (fail))
  refine wpQuiet_nil ?_
  intro _ hw
  obtain ⟨p', rfl⟩ := hw
  replace M := M.keeps p'.2
  clear cw ci cp
  generalize p'.1 = V at M ⊢
  go_wp2_with (first | go_big_skip)
  have cw : ∀ (p : Later V) i, p.1.cell? ⟨y.wp, i, none⟩ = #[Value.pointer (some ⟨y.ps, 0, none⟩), .slice (some ⟨gw, 0, none⟩) n cw, .slice (some ⟨y.bp, 0, none⟩) nr nr, .slice (some ⟨y.bl, 0, none⟩) y.lk y.lk, .slice (some ⟨y.bg, 0, none⟩) y.gr y.gr, .slice (some ⟨y.bc, 0, none⟩) y.ce y.ce, evs][i]? := Later.cell (M.get 5 rfl)
  have ci : ∀ (p : Later V) i, p.1.cell? ⟨p8, i, none⟩ = #[Value.int .i64 7, .int .i64 (aN : Int), .int .i64 (f2 : Int), .int .i64 (f3 : Int)][i]? := Later.cell (M.get 0 rfl)
  refine wp_quiet_tail_later 8 (by kernel_rfl) (by kernel_rfl) ?_
  simp only [List.take, List.drop]
  repeat (first
    | go_big_quiet_skip
    | go_big_quiet_step (fail))
  refine wpQuiet_nil ?_
  intro _ hw
  obtain ⟨p', rfl⟩ := hw
  replace M := M.keeps p'.2
  clear c0 cw ci ak
  generalize p'.1 = V at M ⊢
  go_wp2_with (first
    | go_big_skip
    | (refine at_store (.tmp 122) (.const (.bool true)) rfl ?_; refine om_store 7 (aN * 2 + 1) (.bool true) (.tmp 122) (.const (.bool true)) M rfl rfl rfl rfl rfl rfl (by have := HA.out; rw [pipesA_size]; omega) rfl rfl (by kernel_rfl) (pipesA_setC _ _ _ _ _) ?_; clear M; intro V M; simp only [List.set_cons_zero, List.set_cons_succ] at M))
  go_ret
  exact ⟨rfl, M.drop_ 1⟩

set_option maxRecDepth 100000 in
set_option maxHeartbeats 1000000 in
theorem sh_7c  (M : OM w W ((pt, 1, #[Value.func (.func 105) #[] #[.pointer (some ⟨pw, 0, none⟩), .pointer (some ⟨pe, 0, none⟩)]]) :: (pe, 37, evC ⟨k, 7, aN, 0, false⟩) :: (pi, 99, ci) :: (pw, 104, #[.pointer (some ⟨y.wp, 0, none⟩)]) :: (y.wp, 110, wpC y nr gw n cw evs) :: (gw, 174, cur) :: (y.bp, 186, pipesA nr hv cl) :: (y.bl, 4, arrB y.lk lk) :: (y.bg, 3, arrI y.gr gr) :: Lr) ⟨evs, E, nr, hv, held⟩) (hn : E.length ≤ 100000) (ha : aN < nr) (hcl : cl aN = true) : Calls Try.prog 108 #[.pointer (some ⟨y.wp, 0, none⟩), .pointer (some ⟨gw, k * 10, none⟩), .agg #[Value.int .i64 7, .int .i64 (aN : Int), .int .i64 (f2 : Int), .int .i64 (f3 : Int)], .pointer (some ⟨pe, 0, none⟩), .int .i64 on, .func (.func 106) #[] #[.pointer (some ⟨pt, 0, none⟩)]] W fun ev W' => ev = (.panicked [{ v := .iface 22 (.int .i64 132), recovered := false }]) ∧ ∃ v', OM w W' ((pt, 1, #[Value.func (.func 105) #[] #[.pointer (some ⟨pw, 0, none⟩), .pointer (some ⟨pe, 0, none⟩)]]) :: (pe, 37, evC ⟨k, 7, aN, 0, false⟩) :: (pi, 99, ci) :: (pw, 104, #[.pointer (some ⟨y.wp, 0, none⟩)]) :: (y.wp, 110, wpC y nr gw n cw v') :: (gw, 174, cur) :: (y.bp, 186, pipesA nr hv cl) :: (y.bl, 4, arrB y.lk lk) :: (y.bg, 3, arrI y.gr gr) :: Lr) ⟨v', E ++ [⟨k, 7, aN, 0, false⟩], nr, hv, held⟩ := by
  have g1 : (aN : Int) < nr := by omega
  have g2 : (0 : Int) ≤ aN := by omega
  have HA := Lib.hid ha
  have HCL := Lib.hid hcl
  clear ha hcl
  go_enter Try.func108, Try.ntmps108
  go_wp2_with (first
    | go_big_skip
    | (refine om_box 8 #[Value.int .i64 7, .int .i64 (aN : Int), .int .i64 (f2 : Int), .int .i64 (f3 : Int)] M rfl rfl rfl rfl ?_; clear M; intro V p8 M; simp only [Act.put, List.setIfInBounds_toArray, List.set_cons_zero, List.set_cons_succ]; have c0 : V.cell? ⟨p8, 0, none⟩ = some (.int .i64 7) := (M.own.get 0 rfl).cell 0))
  have cw : ∀ (p : Later V) i, p.1.cell? ⟨y.wp, i, none⟩ = #[Value.pointer (some ⟨y.ps, 0, none⟩), .slice (some ⟨gw, 0, none⟩) n cw, .slice (some ⟨y.bp, 0, none⟩) nr nr, .slice (some ⟨y.bl, 0, none⟩) y.lk y.lk, .slice (some ⟨y.bg, 0, none⟩) y.gr y.gr, .slice (some ⟨y.bc, 0, none⟩) y.ce y.ce, evs][i]? := Later.cell (M.get 5 rfl)
  have ci : ∀ (p : Later V) i, p.1.cell? ⟨p8, i, none⟩ = #[Value.int .i64 7, .int .i64 (aN : Int), .int .i64 (f2 : Int), .int .i64 (f3 : Int)][i]? := Later.cell (M.get 0 rfl)
  have cp : ∀ p : Later V, p.1.cell? ⟨y.bp, aN * 2 + 1, none⟩ = some (.bool true) := fun p => (Later.cell (M.get 7 rfl) p _).trans ((pipesA_cl _ _ _ _ HA.out).trans (by rw [HCL.out]))
  have ak := add_zero_ y.bp (aN * 2)
  refine wp_quiet_later (by kernel_rfl) (by kernel_rfl) ?_
  repeat (first
    | go_big_quiet_skip
    | go_big_quiet_step (fail))
  refine wpQuiet_nil ?_
  intro _ hw
  obtain ⟨p', rfl⟩ := hw
  replace M := M.keeps p'.2
  clear c0 cw ci cp ak
  generalize p'.1 = V at M ⊢
  go_wp2_with (first
    | go_big_skip
    | (go_at_call 106; refine (fail_any M ⟨k, 7, aN, 0, false⟩ (i := 4) (j := 2) (k := 5) (m := 1) rfl rfl rfl rfl hn 132).mono ?_; rintro ev V ⟨rfl, v', M⟩; have HM := Lib.hid M; clear M))
  first | exact ⟨rfl, _, HM.out.drop_ 1⟩ | exact ⟨rfl, rfl, _, HM.out.drop_ 1⟩ | exact ⟨_, rfl, _, HM.out.drop_ 1⟩

set_option maxRecDepth 100000 in
set_option maxHeartbeats 1000000 in
theorem sh_10n  (M : OM w W ((pt, 1, #[Value.func (.func 105) #[] #[.pointer (some ⟨pw, 0, none⟩), .pointer (some ⟨pe, 0, none⟩)]]) :: (pe, 37, evC ⟨k, 10, aN, 0, false⟩) :: (pi, 99, ci) :: (pw, 104, #[.pointer (some ⟨y.wp, 0, none⟩)]) :: (y.wp, 110, wpC y nr gw n cw evs) :: (gw, 174, cur) :: (y.bp, 186, pipesA nr hv cl) :: (y.bl, 4, arrB y.lk lk) :: (y.bg, 3, arrI y.gr gr) :: Lr) ⟨evs, E, nr, hv, held⟩) (ha : aN < y.gr) {s : Int} (hs : IntKind.i64.wrap (gr aN + f2) = s) (hcl : ¬ s < 0) : Calls Try.prog 108 #[.pointer (some ⟨y.wp, 0, none⟩), .pointer (some ⟨gw, k * 10, none⟩), .agg #[Value.int .i64 10, .int .i64 (aN : Int), .int .i64 (f2 : Int), .int .i64 (f3 : Int)], .pointer (some ⟨pe, 0, none⟩), .int .i64 on, .func (.func 106) #[] #[.pointer (some ⟨pt, 0, none⟩)]] W fun ev W' => ev = (.returned (.int .i64 on)) ∧ OM w W' ((pt, 1, #[Value.func (.func 105) #[] #[.pointer (some ⟨pw, 0, none⟩), .pointer (some ⟨pe, 0, none⟩)]]) :: (pe, 37, evC ⟨k, 10, aN, s, false⟩) :: (pi, 99, ci) :: (pw, 104, #[.pointer (some ⟨y.wp, 0, none⟩)]) :: (y.wp, 110, wpC y nr gw n cw evs) :: (gw, 174, cur) :: (y.bp, 186, pipesA nr hv cl) :: (y.bl, 4, arrB y.lk lk) :: (y.bg, 3, arrI y.gr (updI gr aN s)) :: Lr) ⟨evs, E, nr, hv, held⟩ := by
  have g3 : ¬ s < 0 := hcl
  have g1 : (aN : Int) < y.gr := by omega
  have g2 : (0 : Int) ≤ aN := by omega
  have HA := Lib.hid ha
  have HCL := Lib.hid hcl
  clear ha hcl
  go_enter Try.func108, Try.ntmps108
  go_wp2_with (first
    | go_big_skip
    | (refine om_box 8 #[Value.int .i64 10, .int .i64 (aN : Int), .int .i64 (f2 : Int), .int .i64 (f3 : Int)] M rfl rfl rfl rfl ?_; clear M; intro V p8 M; simp only [Act.put, List.setIfInBounds_toArray, List.set_cons_zero, List.set_cons_succ]; have c0 : V.cell? ⟨p8, 0, none⟩ = some (.int .i64 10) := (M.own.get 0 rfl).cell 0))
  have cw : ∀ (p : Later V) i, p.1.cell? ⟨y.wp, i, none⟩ = #[Value.pointer (some ⟨y.ps, 0, none⟩), .slice (some ⟨gw, 0, none⟩) n cw, .slice (some ⟨y.bp, 0, none⟩) nr nr, .slice (some ⟨y.bl, 0, none⟩) y.lk y.lk, .slice (some ⟨y.bg, 0, none⟩) y.gr y.gr, .slice (some ⟨y.bc, 0, none⟩) y.ce y.ce, evs][i]? := Later.cell (M.get 5 rfl)
  have ci : ∀ (p : Later V) i, p.1.cell? ⟨p8, i, none⟩ = #[Value.int .i64 10, .int .i64 (aN : Int), .int .i64 (f2 : Int), .int .i64 (f3 : Int)][i]? := Later.cell (M.get 0 rfl)
  have cg : ∀ p : Later V, p.1.cell? ⟨y.bg, aN, none⟩ = some (.int .i64 (gr aN)) := fun p => (Later.cell (M.get 9 rfl) p _).trans (arrI_get _ _ _ HA.out)
  have ak := add_zero_ y.bg aN
  refine wp_quiet_tail_later 14 (by kernel_rfl) (by kernel_rfl) ?_
  simp only [List.take, List.drop]
  repeat (first
    | go_big_quiet_skip
    | go_big_quiet_step (fail))
  refine wpQuiet_nil ?_
  intro _ hw
  obtain ⟨p', rfl⟩ := hw
  replace M := M.keeps p'.2
  clear cw ci cg
  generalize p'.1 = V at M ⊢
  go_wp2_with (first
    | go_big_skip
    | (refine at_store (.tmp 167) (.tmp 165) rfl ?_; refine om_store 2 3 (.int .i64 s) (.tmp 167) (.tmp 165) M rfl rfl rfl rfl rfl rfl (by show 3 < 5; omega) rfl rfl (by kernel_rfl) (cs' := evC ⟨k, 10, aN, s, false⟩) rfl ?_; clear M; intro V M; simp only [List.set_cons_zero, List.set_cons_succ] at M; have ce0 : V.cell? ⟨pe, 3, none⟩ = some (.int .i64 s) := (M.get 2 rfl).cell 3))
  have cw : ∀ (p : Later V) i, p.1.cell? ⟨y.wp, i, none⟩ = #[Value.pointer (some ⟨y.ps, 0, none⟩), .slice (some ⟨gw, 0, none⟩) n cw, .slice (some ⟨y.bp, 0, none⟩) nr nr, .slice (some ⟨y.bl, 0, none⟩) y.lk y.lk, .slice (some ⟨y.bg, 0, none⟩) y.gr y.gr, .slice (some ⟨y.bc, 0, none⟩) y.ce y.ce, evs][i]? := Later.cell (M.get 5 rfl)
  have ci : ∀ (p : Later V) i, p.1.cell? ⟨p8, i, none⟩ = #[Value.int .i64 10, .int .i64 (aN : Int), .int .i64 (f2 : Int), .int .i64 (f3 : Int)][i]? := Later.cell (M.get 0 rfl)
  have ce : ∀ (p : Later V) i, p.1.cell? ⟨pe, i, none⟩ = #[Value.int .i64 (k : Int), .int .i64 10, .int .i64 (aN : Int), .int .i64 s, .bool false][i]? := Later.cell (M.get 2 rfl)
  refine wp_quiet_tail_later 11 (by kernel_rfl) (by kernel_rfl) ?_
  simp only [List.take, List.drop]
  repeat (first
    | go_big_quiet_skip
    | go_big_quiet_step (fail))
  refine wpQuiet_nil ?_
  intro _ hw
  obtain ⟨p', rfl⟩ := hw
  replace M := M.keeps p'.2
  clear c0 cw ci ce ce0 ak
  generalize p'.1 = V at M ⊢
  go_wp2_with (first
    | go_big_skip
    | (refine at_store (.tmp 185) (.tmp 184) rfl ?_; refine om_store 9 aN (.int .i64 s) (.tmp 185) (.tmp 184) M rfl rfl rfl rfl rfl rfl (by rw [arrI_size]; exact HA.out) rfl rfl (by kernel_rfl) (arrI_set _ _ _ _) ?_; clear M; intro V M; simp only [List.set_cons_zero, List.set_cons_succ] at M))
  go_ret
  exact ⟨rfl, M.drop_ 1⟩

set_option maxRecDepth 100000 in
set_option maxHeartbeats 1000000 in
theorem sh_10g  (M : OM w W ((pt, 1, #[Value.func (.func 105) #[] #[.pointer (some ⟨pw, 0, none⟩), .pointer (some ⟨pe, 0, none⟩)]]) :: (pe, 37, evC ⟨k, 10, aN, 0, false⟩) :: (pi, 99, ci) :: (pw, 104, #[.pointer (some ⟨y.wp, 0, none⟩)]) :: (y.wp, 110, wpC y nr gw n cw evs) :: (gw, 174, cur) :: (y.bp, 186, pipesA nr hv cl) :: (y.bl, 4, arrB y.lk lk) :: (y.bg, 3, arrI y.gr gr) :: Lr) ⟨evs, E, nr, hv, held⟩) (hn : E.length ≤ 100000) (ha : aN < y.gr) {s : Int} (hs : IntKind.i64.wrap (gr aN + f2) = s) (hcl : s < 0) : Calls Try.prog 108 #[.pointer (some ⟨y.wp, 0, none⟩), .pointer (some ⟨gw, k * 10, none⟩), .agg #[Value.int .i64 10, .int .i64 (aN : Int), .int .i64 (f2 : Int), .int .i64 (f3 : Int)], .pointer (some ⟨pe, 0, none⟩), .int .i64 on, .func (.func 106) #[] #[.pointer (some ⟨pt, 0, none⟩)]] W fun ev W' => ev = (.panicked [{ v := .iface 22 (.int .i64 134), recovered := false }]) ∧ ∃ v', OM w W' ((pt, 1, #[Value.func (.func 105) #[] #[.pointer (some ⟨pw, 0, none⟩), .pointer (some ⟨pe, 0, none⟩)]]) :: (pe, 37, evC ⟨k, 10, aN, s, false⟩) :: (pi, 99, ci) :: (pw, 104, #[.pointer (some ⟨y.wp, 0, none⟩)]) :: (y.wp, 110, wpC y nr gw n cw v') :: (gw, 174, cur) :: (y.bp, 186, pipesA nr hv cl) :: (y.bl, 4, arrB y.lk lk) :: (y.bg, 3, arrI y.gr gr) :: Lr) ⟨v', E ++ [⟨k, 10, aN, s, false⟩], nr, hv, held⟩ := by
  have g3 : s < 0 := hcl
  have g1 : (aN : Int) < y.gr := by omega
  have g2 : (0 : Int) ≤ aN := by omega
  have HA := Lib.hid ha
  have HCL := Lib.hid hcl
  clear ha hcl
  go_enter Try.func108, Try.ntmps108
  go_wp2_with (first
    | go_big_skip
    | (refine om_box 8 #[Value.int .i64 10, .int .i64 (aN : Int), .int .i64 (f2 : Int), .int .i64 (f3 : Int)] M rfl rfl rfl rfl ?_; clear M; intro V p8 M; simp only [Act.put, List.setIfInBounds_toArray, List.set_cons_zero, List.set_cons_succ]; have c0 : V.cell? ⟨p8, 0, none⟩ = some (.int .i64 10) := (M.own.get 0 rfl).cell 0))
  have cw : ∀ (p : Later V) i, p.1.cell? ⟨y.wp, i, none⟩ = #[Value.pointer (some ⟨y.ps, 0, none⟩), .slice (some ⟨gw, 0, none⟩) n cw, .slice (some ⟨y.bp, 0, none⟩) nr nr, .slice (some ⟨y.bl, 0, none⟩) y.lk y.lk, .slice (some ⟨y.bg, 0, none⟩) y.gr y.gr, .slice (some ⟨y.bc, 0, none⟩) y.ce y.ce, evs][i]? := Later.cell (M.get 5 rfl)
  have ci : ∀ (p : Later V) i, p.1.cell? ⟨p8, i, none⟩ = #[Value.int .i64 10, .int .i64 (aN : Int), .int .i64 (f2 : Int), .int .i64 (f3 : Int)][i]? := Later.cell (M.get 0 rfl)
  have cg : ∀ p : Later V, p.1.cell? ⟨y.bg, aN, none⟩ = some (.int .i64 (gr aN)) := fun p => (Later.cell (M.get 9 rfl) p _).trans (arrI_get _ _ _ HA.out)
  have ak := add_zero_ y.bg aN
  refine wp_quiet_tail_later 14 (by kernel_rfl) (by kernel_rfl) ?_
  simp only [List.take, List.drop]
  repeat (first
    | go_big_quiet_skip
    | go_big_quiet_step (fail))
  refine wpQuiet_nil ?_
  intro _ hw
  obtain ⟨p', rfl⟩ := hw
  replace M := M.keeps p'.2
  clear c0 cw ci cg ak
  generalize p'.1 = V at M ⊢
  go_wp2_with (first
    | go_big_skip
    | (refine at_store (.tmp 167) (.tmp 165) rfl ?_; refine om_store 2 3 (.int .i64 s) (.tmp 167) (.tmp 165) M rfl rfl rfl rfl rfl rfl (by show 3 < 5; omega) rfl rfl (by kernel_rfl) (cs' := evC ⟨k, 10, aN, s, false⟩) rfl ?_; clear M; intro V M; simp only [List.set_cons_zero, List.set_cons_succ] at M; have ce0 : V.cell? ⟨pe, 3, none⟩ = some (.int .i64 s) := (M.get 2 rfl).cell 3)
    | (go_at_call 106; refine (fail_any M ⟨k, 10, aN, s, false⟩ (i := 4) (j := 2) (k := 5) (m := 1) rfl rfl rfl rfl hn 134).mono ?_; rintro ev V ⟨rfl, v', M⟩; have HM := Lib.hid M; clear M))
  first | exact ⟨rfl, _, HM.out.drop_ 1⟩ | exact ⟨rfl, rfl, _, HM.out.drop_ 1⟩ | exact ⟨_, rfl, _, HM.out.drop_ 1⟩

set_option maxRecDepth 100000 in
set_option maxHeartbeats 1000000 in
theorem sh_11  (M : OM w W ((pt, 1, #[Value.func (.func 105) #[] #[.pointer (some ⟨pw, 0, none⟩), .pointer (some ⟨pe, 0, none⟩)]]) :: (pe, 37, evC ⟨k, 11, aN, 0, false⟩) :: (pi, 99, ci) :: (pw, 104, #[.pointer (some ⟨y.wp, 0, none⟩)]) :: (y.wp, 110, wpC y nr gw n cw evs) :: (gw, 174, cur) :: (y.bp, 186, pipesA nr hv cl) :: (y.bl, 4, arrB y.lk lk) :: (y.bg, 3, arrI y.gr gr) :: Lr) ⟨evs, E, nr, hv, held⟩)  : Calls Try.prog 108 #[.pointer (some ⟨y.wp, 0, none⟩), .pointer (some ⟨gw, k * 10, none⟩), .agg #[Value.int .i64 11, .int .i64 (aN : Int), .int .i64 (f2 : Int), .int .i64 (f3 : Int)], .pointer (some ⟨pe, 0, none⟩), .int .i64 on, .func (.func 106) #[] #[.pointer (some ⟨pt, 0, none⟩)]] W fun ev W' => ev = (.returned (.int .i64 on)) ∧ OM w W' ((pt, 1, #[Value.func (.func 105) #[] #[.pointer (some ⟨pw, 0, none⟩), .pointer (some ⟨pe, 0, none⟩)]]) :: (pe, 37, evC ⟨k, 11, aN, 0, false⟩) :: (pi, 99, ci) :: (pw, 104, #[.pointer (some ⟨y.wp, 0, none⟩)]) :: (y.wp, 110, wpC y nr gw n cw evs) :: (gw, 174, cur) :: (y.bp, 186, pipesA nr hv cl) :: (y.bl, 4, arrB y.lk lk) :: (y.bg, 3, arrI y.gr gr) :: Lr) ⟨evs, E, nr, hv, held⟩ := by
  go_enter Try.func108, Try.ntmps108
  go_wp2_with (first
    | go_big_skip
    | (refine om_box 8 #[Value.int .i64 11, .int .i64 (aN : Int), .int .i64 (f2 : Int), .int .i64 (f3 : Int)] M rfl rfl rfl rfl ?_; clear M; intro V p8 M; simp only [Act.put, List.setIfInBounds_toArray, List.set_cons_zero, List.set_cons_succ]; have c0 : V.cell? ⟨p8, 0, none⟩ = some (.int .i64 11) := (M.own.get 0 rfl).cell 0))
  go_ret
  exact ⟨rfl, M.drop_ 1⟩

set_option maxRecDepth 100000 in
set_option maxHeartbeats 1000000 in
theorem sh_5c  (M : OM w W ((pt, 1, #[Value.func (.func 105) #[] #[.pointer (some ⟨pw, 0, none⟩), .pointer (some ⟨pe, 0, none⟩)]]) :: (pe, 37, evC ⟨k, 5, aN, 0, false⟩) :: (pi, 99, ci) :: (pw, 104, #[.pointer (some ⟨y.wp, 0, none⟩)]) :: (y.wp, 110, wpC y nr gw n cw evs) :: (gw, 174, cur) :: (y.bp, 186, pipesA nr hv cl) :: (y.bl, 4, arrB y.lk lk) :: (y.bg, 3, arrI y.gr gr) :: Lr) ⟨evs, E, nr, hv, held⟩) (hn : E.length ≤ 100000) (ha : aN < nr) (hb : bN < 8) (hr : cur[k * 10 + 2 + bN]? = some (.int .i64 v0)) (hcl : cl aN = true) : Calls Try.prog 108 #[.pointer (some ⟨y.wp, 0, none⟩), .pointer (some ⟨gw, k * 10, none⟩), .agg #[Value.int .i64 5, .int .i64 (aN : Int), .int .i64 (bN : Int), .int .i64 (f3 : Int)], .pointer (some ⟨pe, 0, none⟩), .int .i64 on, .func (.func 106) #[] #[.pointer (some ⟨pt, 0, none⟩)]] W fun ev W' => ev = (.panicked [{ v := .iface 22 (.int .i64 131), recovered := false }]) ∧ ∃ v', OM w W' ((pt, 1, #[Value.func (.func 105) #[] #[.pointer (some ⟨pw, 0, none⟩), .pointer (some ⟨pe, 0, none⟩)]]) :: (pe, 37, evC ⟨k, 5, aN, v0, false⟩) :: (pi, 99, ci) :: (pw, 104, #[.pointer (some ⟨y.wp, 0, none⟩)]) :: (y.wp, 110, wpC y nr gw n cw v') :: (gw, 174, cur) :: (y.bp, 186, pipesA nr hv cl) :: (y.bl, 4, arrB y.lk lk) :: (y.bg, 3, arrI y.gr gr) :: Lr) ⟨v', E ++ [⟨k, 5, aN, v0, false⟩], nr, hv, held⟩ := by
  have g1 : (aN : Int) < nr := by omega
  have g2 : (0 : Int) ≤ aN := by omega
  have HA := Lib.hid ha
  have HCL := Lib.hid hcl
  clear ha hcl
  have g3 : (bN : Int) < 8 := by omega
  have g4 : (0 : Int) ≤ bN := by omega
  have HR := Lib.hid hr
  clear hr hb
  go_enter Try.func108, Try.ntmps108
  go_wp2_with (first
    | go_big_skip
    | (refine om_box 8 #[Value.int .i64 5, .int .i64 (aN : Int), .int .i64 (bN : Int), .int .i64 (f3 : Int)] M rfl rfl rfl rfl ?_; clear M; intro V p8 M; simp only [Act.put, List.setIfInBounds_toArray, List.set_cons_zero, List.set_cons_succ]; have c0 : V.cell? ⟨p8, 0, none⟩ = some (.int .i64 5) := (M.own.get 0 rfl).cell 0))
  have cw : ∀ (p : Later V) i, p.1.cell? ⟨y.wp, i, none⟩ = #[Value.pointer (some ⟨y.ps, 0, none⟩), .slice (some ⟨gw, 0, none⟩) n cw, .slice (some ⟨y.bp, 0, none⟩) nr nr, .slice (some ⟨y.bl, 0, none⟩) y.lk y.lk, .slice (some ⟨y.bg, 0, none⟩) y.gr y.gr, .slice (some ⟨y.bc, 0, none⟩) y.ce y.ce, evs][i]? := Later.cell (M.get 5 rfl)
  have ci : ∀ (p : Later V) i, p.1.cell? ⟨p8, i, none⟩ = #[Value.int .i64 5, .int .i64 (aN : Int), .int .i64 (bN : Int), .int .i64 (f3 : Int)][i]? := Later.cell (M.get 0 rfl)
  have ak := add_zero_ y.bp (aN * 2)
  refine wp_quiet_later (by kernel_rfl) (by kernel_rfl) ?_
  repeat (first
    | go_big_quiet_skip
    | go_big_quiet_step (fail))
  refine wpQuiet_nil ?_
  intro _ hw
  obtain ⟨p', rfl⟩ := hw
  replace M := M.keeps p'.2
  clear cw ci
  generalize p'.1 = V at M ⊢
  go_wp2_with (first | go_big_skip)
  have ci : ∀ (p : Later V) i, p.1.cell? ⟨p8, i, none⟩ = #[Value.int .i64 5, .int .i64 (aN : Int), .int .i64 (bN : Int), .int .i64 (f3 : Int)][i]? := Later.cell (M.get 0 rfl)
  have cr : ∀ p : Later V, p.1.cell? ⟨gw, k * 10 + 2 + bN, none⟩ = some (.int .i64 v0) := fun p => (Later.cell (M.get 6 rfl) p _).trans HR.out
  refine wp_quiet_tail_later 10 (by kernel_rfl) (by kernel_rfl) ?_
  simp only [List.take, List.drop]
  repeat (first
    | go_big_quiet_skip
    | go_big_quiet_step (fail))
  refine wpQuiet_nil ?_
  intro _ hw
  obtain ⟨p', rfl⟩ := hw
  replace M := M.keeps p'.2
  clear ci cr
  generalize p'.1 = V at M ⊢
  go_wp2_with (first
    | go_big_skip
    | (refine at_store (.tmp 35) (.tmp 33) rfl ?_; refine om_store 2 3 (.int .i64 v0) (.tmp 35) (.tmp 33) M rfl rfl rfl rfl rfl rfl (by show 3 < 5; omega) rfl rfl (by kernel_rfl) (cs' := evC ⟨k, 5, aN, v0, false⟩) rfl ?_; clear M; intro V M; simp only [List.set_cons_zero, List.set_cons_succ] at M; have cp0 : V.cell? ⟨y.bp, aN * 2 + 1, none⟩ = some (.bool true) := ((M.get 7 rfl).cell _).trans ((pipesA_cl _ _ _ _ HA.out).trans (by rw [HCL.out])))
    | (go_at_call 106; refine (fail_any M ⟨k, 5, aN, v0, false⟩ (i := 4) (j := 2) (k := 5) (m := 1) rfl rfl rfl rfl hn 131).mono ?_; rintro ev V ⟨rfl, v', M⟩; have HM := Lib.hid M; clear M))
  first | exact ⟨rfl, _, HM.out.drop_ 1⟩ | exact ⟨rfl, rfl, _, HM.out.drop_ 1⟩ | exact ⟨_, rfl, _, HM.out.drop_ 1⟩

set_option maxRecDepth 100000 in
set_option maxHeartbeats 1000000 in
theorem sh_5o  (M : OM w W ((pt, 1, #[Value.func (.func 105) #[] #[.pointer (some ⟨pw, 0, none⟩), .pointer (some ⟨pe, 0, none⟩)]]) :: (pe, 37, evC ⟨k, 5, aN, 0, false⟩) :: (pi, 99, ci) :: (pw, 104, #[.pointer (some ⟨y.wp, 0, none⟩)]) :: (y.wp, 110, wpC y nr gw n cw evs) :: (gw, 174, cur) :: (y.bp, 186, pipesA nr hv cl) :: (y.bl, 4, arrB y.lk lk) :: (y.bg, 3, arrI y.gr gr) :: Lr) ⟨evs, E, nr, hv, held⟩) (hl : (held aN).length ≤ 1000000) (ha : aN < nr) (hb : bN < 8) (hr : cur[k * 10 + 2 + bN]? = some (.int .i64 v0)) (hcl : cl aN = false) : Calls Try.prog 108 #[.pointer (some ⟨y.wp, 0, none⟩), .pointer (some ⟨gw, k * 10, none⟩), .agg #[Value.int .i64 5, .int .i64 (aN : Int), .int .i64 (bN : Int), .int .i64 (f3 : Int)], .pointer (some ⟨pe, 0, none⟩), .int .i64 on, .func (.func 106) #[] #[.pointer (some ⟨pt, 0, none⟩)]] W fun ev W' => ev = (.returned (.int .i64 on)) ∧ ∃ v', OM w W' ((pt, 1, #[Value.func (.func 105) #[] #[.pointer (some ⟨pw, 0, none⟩), .pointer (some ⟨pe, 0, none⟩)]]) :: (pe, 37, evC ⟨k, 5, aN, v0, false⟩) :: (pi, 99, ci) :: (pw, 104, #[.pointer (some ⟨y.wp, 0, none⟩)]) :: (y.wp, 110, wpC y nr gw n cw evs) :: (gw, 174, cur) :: (y.bp, 186, pipesA nr (updN hv aN v') cl) :: (y.bl, 4, arrB y.lk lk) :: (y.bg, 3, arrI y.gr gr) :: Lr) ⟨evs, E, nr, updN hv aN v', updN held aN (held aN ++ [v0])⟩ := by
  have g1 : (aN : Int) < nr := by omega
  have g2 : (0 : Int) ≤ aN := by omega
  have HA := Lib.hid ha
  have HCL := Lib.hid hcl
  clear ha hcl
  have g3 : (bN : Int) < 8 := by omega
  have g4 : (0 : Int) ≤ bN := by omega
  have HR := Lib.hid hr
  have HL := Lib.hid hl
  clear hr hb hl
  go_enter Try.func108, Try.ntmps108
  go_wp2_with (first
    | go_big_skip
    | (refine om_box 8 #[Value.int .i64 5, .int .i64 (aN : Int), .int .i64 (bN : Int), .int .i64 (f3 : Int)] M rfl rfl rfl rfl ?_; clear M; intro V p8 M; simp only [Act.put, List.setIfInBounds_toArray, List.set_cons_zero, List.set_cons_succ]; have c0 : V.cell? ⟨p8, 0, none⟩ = some (.int .i64 5) := (M.own.get 0 rfl).cell 0))
  have cw : ∀ (p : Later V) i, p.1.cell? ⟨y.wp, i, none⟩ = #[Value.pointer (some ⟨y.ps, 0, none⟩), .slice (some ⟨gw, 0, none⟩) n cw, .slice (some ⟨y.bp, 0, none⟩) nr nr, .slice (some ⟨y.bl, 0, none⟩) y.lk y.lk, .slice (some ⟨y.bg, 0, none⟩) y.gr y.gr, .slice (some ⟨y.bc, 0, none⟩) y.ce y.ce, evs][i]? := Later.cell (M.get 5 rfl)
  have ci : ∀ (p : Later V) i, p.1.cell? ⟨p8, i, none⟩ = #[Value.int .i64 5, .int .i64 (aN : Int), .int .i64 (bN : Int), .int .i64 (f3 : Int)][i]? := Later.cell (M.get 0 rfl)
  have ak := add_zero_ y.bp (aN * 2)
  refine wp_quiet_later (by kernel_rfl) (by kernel_rfl) ?_
  repeat (first
    | go_big_quiet_skip
    | go_big_quiet_step (fail))
  refine wpQuiet_nil ?_
  intro _ hw
  obtain ⟨p', rfl⟩ := hw
  replace M := M.keeps p'.2
  clear cw ci
  generalize p'.1 = V at M ⊢
  go_wp2_with (first | go_big_skip)
  have ci : ∀ (p : Later V) i, p.1.cell? ⟨p8, i, none⟩ = #[Value.int .i64 5, .int .i64 (aN : Int), .int .i64 (bN : Int), .int .i64 (f3 : Int)][i]? := Later.cell (M.get 0 rfl)
  have cr : ∀ p : Later V, p.1.cell? ⟨gw, k * 10 + 2 + bN, none⟩ = some (.int .i64 v0) := fun p => (Later.cell (M.get 6 rfl) p _).trans HR.out
  refine wp_quiet_tail_later 10 (by kernel_rfl) (by kernel_rfl) ?_
  simp only [List.take, List.drop]
  repeat (first
    | go_big_quiet_skip
    | go_big_quiet_step (fail))
  refine wpQuiet_nil ?_
  intro _ hw
  obtain ⟨p', rfl⟩ := hw
  replace M := M.keeps p'.2
  clear ci cr
  generalize p'.1 = V at M ⊢
  go_wp2_with (first
    | go_big_skip
    | (refine at_store (.tmp 35) (.tmp 33) rfl ?_; refine om_store 2 3 (.int .i64 v0) (.tmp 35) (.tmp 33) M rfl rfl rfl rfl rfl rfl (by show 3 < 5; omega) rfl rfl (by kernel_rfl) (cs' := evC ⟨k, 5, aN, v0, false⟩) rfl ?_; clear M; intro V M; simp only [List.set_cons_zero, List.set_cons_succ] at M; have cp0 : V.cell? ⟨y.bp, aN * 2 + 1, none⟩ = some (.bool false) := ((M.get 7 rfl).cell _).trans ((pipesA_cl _ _ _ _ HA.out).trans (by rw [HCL.out]))))
  have HQ := Lib.hid (show ∀ u, Own w u [] ((p8, 99, #[Value.int .i64 5, .int .i64 (aN : Int), .int .i64 (bN : Int), .int .i64 (f3 : Int)]) :: (pt, 1, #[Value.func (.func 105) #[] #[.pointer (some ⟨pw, 0, none⟩), .pointer (some ⟨pe, 0, none⟩)]]) :: (pe, 37, evC ⟨k, 5, aN, v0, false⟩) :: (pi, 99, ci) :: (pw, 104, #[.pointer (some ⟨y.wp, 0, none⟩)]) :: (y.wp, 110, wpC y nr gw n cw evs) :: (gw, 174, cur) :: (y.bp, 186, pipesA nr hv cl) :: (y.bl, 4, arrB y.lk lk) :: (y.bg, 3, arrI y.gr gr) :: Lr) → u.cell? ⟨y.bp, aN * 2, none⟩ = some (hv aN) ∧ u.cell? ⟨pe, 3, none⟩ = some (.int .i64 v0) from fun u O => ⟨((O.get 7 rfl).cell _).trans (pipesA_hv _ _ _ _ HA.out), (O.get 2 rfl).cell 3⟩)
  refine wp_headH (S := fun u => Own w u [] ((p8, 99, #[Value.int .i64 5, .int .i64 (aN : Int), .int .i64 (bN : Int), .int .i64 (f3 : Int)]) :: (pt, 1, #[Value.func (.func 105) #[] #[.pointer (some ⟨pw, 0, none⟩), .pointer (some ⟨pe, 0, none⟩)]]) :: (pe, 37, evC ⟨k, 5, aN, v0, false⟩) :: (pi, 99, ci) :: (pw, 104, #[.pointer (some ⟨y.wp, 0, none⟩)]) :: (y.wp, 110, wpC y nr gw n cw evs) :: (gw, 174, cur) :: (y.bp, 186, pipesA nr hv cl) :: (y.bl, 4, arrB y.lk lk) :: (y.bg, 3, arrI y.gr gr) :: Lr)) 11 (by kernel_rfl) (by kernel_rfl) ?_
  replace M := M.keeps (Keeps.refl _ _).drew
  clear cp0
  refine ah_take (f := 2) (L' := #[true, true, true, true, true, true, true, true, true, false, false, false, false, false]) (by first | exact M.own | exact M.own.drop_ 1) [0, 1, 2, 3, 4, 5, 6, 7, 8] [_, _, _, _, _, _, _, _, _] _ _ rfl (by decide) (by kernel_rfl) ?_
  simp only [List.getElem_toArray, List.getElem_cons_zero, List.getElem_cons_succ]
  repeat (first
    | (refine take_pure (v := ?_) (by rfl) ?_ ?_; rotate_left; (· (intro w hSw; have q := HQ.out _ hSw; have q1 := q.1; have q2 := q.2; clear hSw q; go_simp; try with_reducible rfl)); simp only [Act.put, List.setIfInBounds_toArray, List.set_cons_zero, List.set_cons_succ]))
  refine takeA_done ?_
  refine ah_sole 9 #[true, true, true, true, true, true, true, true, true, true, false, false, false, false] rfl (by decide) (by kernel_rfl) ?_
  try simp only [List.getElem_toArray, List.getElem_cons_zero, List.getElem_cons_succ]
  go_wp2_with (refine om_lit_int 51 v0 M rfl rfl rfl rfl ?_; clear M; intro V gl M; simp only [Act.put, List.setIfInBounds_toArray, List.set_cons_zero, List.set_cons_succ])
  (first | refine backA_intro2 (by first | exact M.own | exact M.own.drop_ 1) ?_ | refine backA_intro (by first | exact M.own | exact M.own.drop_ 1) ?_)
  refine ah_sole 10 #[true, true, true, true, true, true, true, true, true, true, true, false, false, false] rfl (by decide) (by kernel_rfl) ?_
  try simp only [List.getElem_toArray, List.getElem_cons_zero, List.getElem_cons_succ]
  go_wp2_with (at_builtin; refine om_push v0 gl aN (.tmp 46) (.tmp 51) M rfl rfl HA.out rfl rfl HL.out ?_; clear M; intro A' m' c' V M; simp only [Act.put, List.setIfInBounds_toArray, List.set_cons_zero, List.set_cons_succ])
  (first | refine backA_intro2 (by first | exact M.own | exact M.own.drop_ 1) ?_ | refine backA_intro (by first | exact M.own | exact M.own.drop_ 1) ?_)
  refine ah_tail (by kernel_rfl) ?_
  try simp only [List.drop]
  go_wp2_with (first
    | go_big_skip
    | (refine at_store (.tmp 54) (.tmp 52) rfl ?_; refine om_store 7 (aN * 2) (.slice A' m' c') (.tmp 54) (.tmp 52) M rfl rfl rfl rfl rfl rfl (by have := HA.out; rw [pipesA_size]; omega) rfl rfl (by kernel_rfl) (pipesA_setH _ _ _ _ _) ?_; clear M; intro V M; simp only [List.set_cons_zero, List.set_cons_succ] at M))
  refine np_intro ?_
  go_wp2
  go_ret
  exact ⟨rfl, _, M.drop_ 1⟩

set_option maxRecDepth 100000 in
set_option maxHeartbeats 1000000 in
theorem sh_6n  (M : OM w W ((pt, 1, #[Value.func (.func 105) #[] #[.pointer (some ⟨pw, 0, none⟩), .pointer (some ⟨pe, 0, none⟩)]]) :: (pe, 37, evC ⟨k, 6, aN, 0, false⟩) :: (pi, 99, ci) :: (pw, 104, #[.pointer (some ⟨y.wp, 0, none⟩)]) :: (y.wp, 110, wpC y nr gw n cw evs) :: (gw, 174, cur) :: (y.bp, 186, pipesA nr hv cl) :: (y.bl, 4, arrB y.lk lk) :: (y.bg, 3, arrI y.gr gr) :: Lr) ⟨evs, E, nr, hv, held⟩) {A0 : Option Addr} {c1 : Nat} (hh : hv aN = .slice A0 0 c1) (ha : aN < nr) : Calls Try.prog 108 #[.pointer (some ⟨y.wp, 0, none⟩), .pointer (some ⟨gw, k * 10, none⟩), .agg #[Value.int .i64 6, .int .i64 (aN : Int), .int .i64 (f2 : Int), .int .i64 (on2 : Int)], .pointer (some ⟨pe, 0, none⟩), .int .i64 on, .func (.func 106) #[] #[.pointer (some ⟨pt, 0, none⟩)]] W fun ev W' => ev = (.returned (.int .i64 on2)) ∧ OM w W' ((pt, 1, #[Value.func (.func 105) #[] #[.pointer (some ⟨pw, 0, none⟩), .pointer (some ⟨pe, 0, none⟩)]]) :: (pe, 37, evC ⟨k, 6, aN, 0, true⟩) :: (pi, 99, ci) :: (pw, 104, #[.pointer (some ⟨y.wp, 0, none⟩)]) :: (y.wp, 110, wpC y nr gw n cw evs) :: (gw, 174, cur) :: (y.bp, 186, pipesA nr hv cl) :: (y.bl, 4, arrB y.lk lk) :: (y.bg, 3, arrI y.gr gr) :: Lr) ⟨evs, E, nr, hv, held⟩ := by
  have g1 : (aN : Int) < nr := by omega
  have g2 : (0 : Int) ≤ aN := by omega
  have HA := Lib.hid ha
  have HH := Lib.hid hh
  clear ha hh
  go_enter Try.func108, Try.ntmps108
  go_wp2_with (first
    | go_big_skip
    | (refine om_box 8 #[Value.int .i64 6, .int .i64 (aN : Int), .int .i64 (f2 : Int), .int .i64 (on2 : Int)] M rfl rfl rfl rfl ?_; clear M; intro V p8 M; simp only [Act.put, List.setIfInBounds_toArray, List.set_cons_zero, List.set_cons_succ]; have c0 : V.cell? ⟨p8, 0, none⟩ = some (.int .i64 6) := (M.own.get 0 rfl).cell 0))
  have cw : ∀ (p : Later V) i, p.1.cell? ⟨y.wp, i, none⟩ = #[Value.pointer (some ⟨y.ps, 0, none⟩), .slice (some ⟨gw, 0, none⟩) n cw, .slice (some ⟨y.bp, 0, none⟩) nr nr, .slice (some ⟨y.bl, 0, none⟩) y.lk y.lk, .slice (some ⟨y.bg, 0, none⟩) y.gr y.gr, .slice (some ⟨y.bc, 0, none⟩) y.ce y.ce, evs][i]? := Later.cell (M.get 5 rfl)
  have ci : ∀ (p : Later V) i, p.1.cell? ⟨p8, i, none⟩ = #[Value.int .i64 6, .int .i64 (aN : Int), .int .i64 (f2 : Int), .int .i64 (on2 : Int)][i]? := Later.cell (M.get 0 rfl)
  have ak := add_zero_ y.bp (aN * 2)
  refine wp_quiet_later (by kernel_rfl) (by kernel_rfl) ?_
  repeat (first
    | go_big_quiet_skip
    | go_big_quiet_step (fail))
  refine wpQuiet_nil ?_
  intro _ hw
  obtain ⟨p', rfl⟩ := hw
  replace M := M.keeps p'.2
  clear cw ci
  generalize p'.1 = V at M ⊢
  have ch0 : V.cell? ⟨y.bp, aN * 2, none⟩ = some (.slice A0 0 c1) := ((M.get 7 rfl).cell _).trans ((pipesA_hv _ _ _ _ HA.out).trans (by rw [HH.out]))
  have ci0 : V.cell? ⟨p8, 3, none⟩ = some (.int .i64 on2) := (M.get 0 rfl).cell 3
  clear c0
  go_wp2_with (first
    | go_big_skip
    | (refine at_store (.tmp 72) (.const (.bool true)) rfl ?_; refine om_store 2 4 (.bool true) (.tmp 72) (.const (.bool true)) M rfl rfl rfl rfl rfl rfl (by show 4 < 5; omega) rfl rfl (by kernel_rfl) (cs' := evC ⟨k, 6, aN, 0, true⟩) rfl ?_; clear M ci0; intro V M; simp only [List.set_cons_zero, List.set_cons_succ] at M; have ci0 : V.cell? ⟨p8, 3, none⟩ = some (.int .i64 on2) := (M.get 0 rfl).cell 3))
  go_ret
  exact ⟨rfl, M.drop_ 1⟩

set_option maxRecDepth 100000 in
set_option maxHeartbeats 1000000 in
theorem sh_6a  (M : OM w W ((pt, 1, #[Value.func (.func 105) #[] #[.pointer (some ⟨pw, 0, none⟩), .pointer (some ⟨pe, 0, none⟩)]]) :: (pe, 37, evC ⟨k, 6, aN, 0, false⟩) :: (pi, 99, ci) :: (pw, 104, #[.pointer (some ⟨y.wp, 0, none⟩)]) :: (y.wp, 110, wpC y nr gw n cw evs) :: (gw, 174, cur) :: (y.bp, 186, pipesA nr hv cl) :: (y.bl, 4, arrB y.lk lk) :: (y.bg, 3, arrI y.gr gr) :: Lr) ⟨evs, E, nr, hv, held⟩) {g off cc : Nat} {x : Int} {l : List Int} (hh : hv aN = .slice (some ⟨g, off, none⟩) (l.length + 1) cc) (hx : held aN = x :: l) (hc : cc = 1) (ha : aN < nr) (hb : bN < 8) (hk : k < nn) (hC : WhoC cur nn rs) : Calls Try.prog 108 #[.pointer (some ⟨y.wp, 0, none⟩), .pointer (some ⟨gw, k * 10, none⟩), .agg #[Value.int .i64 6, .int .i64 (aN : Int), .int .i64 (bN : Int), .int .i64 (f3 : Int)], .pointer (some ⟨pe, 0, none⟩), .int .i64 on, .func (.func 106) #[] #[.pointer (some ⟨pt, 0, none⟩)]] W fun ev W' => ev = (.returned (.int .i64 on)) ∧ ∃ v' cur', WhoC cur' nn (fun j => if j = k then setReg (rs k) bN x else rs j) ∧ cur'.size = cur.size ∧ OM w W' ((pt, 1, #[Value.func (.func 105) #[] #[.pointer (some ⟨pw, 0, none⟩), .pointer (some ⟨pe, 0, none⟩)]]) :: (pe, 37, evC ⟨k, 6, aN, x, false⟩) :: (pi, 99, ci) :: (pw, 104, #[.pointer (some ⟨y.wp, 0, none⟩)]) :: (y.wp, 110, wpC y nr gw n cw evs) :: (gw, 174, cur') :: (y.bp, 186, pipesA nr (updN hv aN v') cl) :: (y.bl, 4, arrB y.lk lk) :: (y.bg, 3, arrI y.gr gr) :: Lr) ⟨evs, E, nr, updN hv aN v', updN held aN l⟩ := by
  have g1 : (aN : Int) < nr := by omega
  have g2 : (0 : Int) ≤ aN := by omega
  have g3 : (bN : Int) < 8 := by omega
  have g4 : (0 : Int) ≤ bN := by omega
  have g5 : (0 : Int) < (l.length + 1 : Nat) := by omega
  have HA := Lib.hid ha
  have HH := Lib.hid hh
  have HX := Lib.hid hx
  have HK := Lib.hid hk
  have HB := Lib.hid hb
  have HC := Lib.hid hC
  clear ha hh hx hb hk hC
  go_enter Try.func108, Try.ntmps108
  go_wp2_with (first
    | go_big_skip
    | (refine om_box 8 #[Value.int .i64 6, .int .i64 (aN : Int), .int .i64 (bN : Int), .int .i64 (f3 : Int)] M rfl rfl rfl rfl ?_; clear M; intro V p8 M; simp only [Act.put, List.setIfInBounds_toArray, List.set_cons_zero, List.set_cons_succ]; have c0 : V.cell? ⟨p8, 0, none⟩ = some (.int .i64 6) := (M.own.get 0 rfl).cell 0))
  have cw : ∀ (p : Later V) i, p.1.cell? ⟨y.wp, i, none⟩ = #[Value.pointer (some ⟨y.ps, 0, none⟩), .slice (some ⟨gw, 0, none⟩) n cw, .slice (some ⟨y.bp, 0, none⟩) nr nr, .slice (some ⟨y.bl, 0, none⟩) y.lk y.lk, .slice (some ⟨y.bg, 0, none⟩) y.gr y.gr, .slice (some ⟨y.bc, 0, none⟩) y.ce y.ce, evs][i]? := Later.cell (M.get 5 rfl)
  have ci : ∀ (p : Later V) i, p.1.cell? ⟨p8, i, none⟩ = #[Value.int .i64 6, .int .i64 (aN : Int), .int .i64 (bN : Int), .int .i64 (f3 : Int)][i]? := Later.cell (M.get 0 rfl)
  have ak := add_zero_ y.bp (aN * 2)
  refine wp_quiet_later (by kernel_rfl) (by kernel_rfl) ?_
  repeat (first
    | go_big_quiet_skip
    | go_big_quiet_step (fail))
  refine wpQuiet_nil ?_
  intro _ hw
  obtain ⟨p', rfl⟩ := hw
  replace M := M.keeps p'.2
  clear cw ci
  generalize p'.1 = V at M ⊢
  have HQ := Lib.hid (show HRow w.heap.size V (.slice (some ⟨g, off, none⟩) (l.length + 1) cc) (x :: l) from by have h : HRow w.heap.size V (hv aN) (held aN) := M.hr aN HA.out; rw [HX.out] at h; rw [HH.out] at h; exact h)
  have ch0 : V.cell? ⟨y.bp, aN * 2, none⟩ = some (.slice (some ⟨g, off, none⟩) (l.length + 1) cc) := ((M.get 7 rfl).cell _).trans ((pipesA_hv _ _ _ _ HA.out).trans (by rw [HH.out]))
  have cx : V.cell? ⟨g, off, none⟩ = some (.int .i64 x) := HRow.head HQ.out
  clear c0
  go_wp2_with (first
    | go_big_skip
    | (refine at_store (.tmp 83) (.tmp 81) rfl ?_; refine om_store 2 3 (.int .i64 x) (.tmp 83) (.tmp 81) M rfl rfl rfl rfl rfl rfl (by show 3 < 5; omega) rfl rfl (by kernel_rfl) (cs' := evC ⟨k, 6, aN, x, false⟩) rfl ?_; clear M ch0 cx HQ; intro V M; simp only [List.set_cons_zero, List.set_cons_succ] at M))
  have ci : ∀ (p : Later V) i, p.1.cell? ⟨p8, i, none⟩ = #[Value.int .i64 6, .int .i64 (aN : Int), .int .i64 (bN : Int), .int .i64 (f3 : Int)][i]? := Later.cell (M.get 0 rfl)
  have ce : ∀ (p : Later V) i, p.1.cell? ⟨pe, i, none⟩ = #[Value.int .i64 (k : Int), .int .i64 6, .int .i64 (aN : Int), .int .i64 x, .bool false][i]? := Later.cell (M.get 2 rfl)
  refine wp_quiet_tail_later 10 (by kernel_rfl) (by kernel_rfl) ?_
  simp only [List.take, List.drop]
  repeat (first
    | go_big_quiet_skip
    | go_big_quiet_step (fail))
  refine wpQuiet_nil ?_
  intro _ hw
  obtain ⟨p', rfl⟩ := hw
  replace M := M.keeps p'.2
  clear ci ce
  generalize p'.1 = V at M ⊢
  have g6 := hc
  have HC6 := Lib.hid hc
  clear hc
  go_wp2_with (first
    | go_big_skip
    | (refine at_store (.tmp 93) (.tmp 90) rfl ?_; refine om_store 6 (k * 10 + 2 + bN) (.int .i64 x) (.tmp 93) (.tmp 90) M rfl rfl rfl rfl rfl rfl (by have := HC.out.lt HK.out (f := 2 + bN) (by have := HB.out; omega); omega) rfl rfl (by kernel_rfl) rfl ?_; clear M; intro V M; simp only [List.set_cons_zero, List.set_cons_succ] at M; have ch0 : V.cell? ⟨y.bp, aN * 2, none⟩ = some (.slice (some ⟨g, off, none⟩) (l.length + 1) cc) := ((M.get 7 rfl).cell _).trans ((pipesA_hv _ _ _ _ HA.out).trans (by rw [HH.out])); have HQ := Lib.hid (show HRow w.heap.size V (.slice (some ⟨g, off, none⟩) (l.length + 1) cc) (x :: l) from by have h : HRow w.heap.size V (hv aN) (held aN) := M.hr aN HA.out; rw [HX.out] at h; rw [HH.out] at h; exact h))
    | (refine at_store (.tmp 101) (.tmp 99) rfl ?_; refine om_store 7 (aN * 2) (.slice (some ⟨g, off, none⟩) l.length 0) (.tmp 101) (.tmp 99) (M.pop HA.out (HRow.pop_sh_6a HC6.out HQ.out) (by show _ = (hv aN).ownBlock; rw [HH.out]; rfl)) rfl rfl rfl rfl rfl rfl (by have := HA.out; rw [pipesA_size]; omega) rfl rfl (by kernel_rfl) (pipesA_setH _ _ _ _ _) ?_; clear M; intro V M; simp only [List.set_cons_zero, List.set_cons_succ] at M))
  go_ret
  exact ⟨rfl, _, _, HC.out.set_reg _ HK.out HB.out, by simp, M.drop_ 1⟩

set_option maxRecDepth 100000 in
set_option maxHeartbeats 1000000 in
theorem sh_6b  (M : OM w W ((pt, 1, #[Value.func (.func 105) #[] #[.pointer (some ⟨pw, 0, none⟩), .pointer (some ⟨pe, 0, none⟩)]]) :: (pe, 37, evC ⟨k, 6, aN, 0, false⟩) :: (pi, 99, ci) :: (pw, 104, #[.pointer (some ⟨y.wp, 0, none⟩)]) :: (y.wp, 110, wpC y nr gw n cw evs) :: (gw, 174, cur) :: (y.bp, 186, pipesA nr hv cl) :: (y.bl, 4, arrB y.lk lk) :: (y.bg, 3, arrI y.gr gr) :: Lr) ⟨evs, E, nr, hv, held⟩) {g off cc : Nat} {x : Int} {l : List Int} (hh : hv aN = .slice (some ⟨g, off, none⟩) (l.length + 1) cc) (hx : held aN = x :: l) (hc : 1 < cc) (ha : aN < nr) (hb : bN < 8) (hk : k < nn) (hC : WhoC cur nn rs) : Calls Try.prog 108 #[.pointer (some ⟨y.wp, 0, none⟩), .pointer (some ⟨gw, k * 10, none⟩), .agg #[Value.int .i64 6, .int .i64 (aN : Int), .int .i64 (bN : Int), .int .i64 (f3 : Int)], .pointer (some ⟨pe, 0, none⟩), .int .i64 on, .func (.func 106) #[] #[.pointer (some ⟨pt, 0, none⟩)]] W fun ev W' => ev = (.returned (.int .i64 on)) ∧ ∃ v' cur', WhoC cur' nn (fun j => if j = k then setReg (rs k) bN x else rs j) ∧ cur'.size = cur.size ∧ OM w W' ((pt, 1, #[Value.func (.func 105) #[] #[.pointer (some ⟨pw, 0, none⟩), .pointer (some ⟨pe, 0, none⟩)]]) :: (pe, 37, evC ⟨k, 6, aN, x, false⟩) :: (pi, 99, ci) :: (pw, 104, #[.pointer (some ⟨y.wp, 0, none⟩)]) :: (y.wp, 110, wpC y nr gw n cw evs) :: (gw, 174, cur') :: (y.bp, 186, pipesA nr (updN hv aN v') cl) :: (y.bl, 4, arrB y.lk lk) :: (y.bg, 3, arrI y.gr gr) :: Lr) ⟨evs, E, nr, updN hv aN v', updN held aN l⟩ := by
  have g1 : (aN : Int) < nr := by omega
  have g2 : (0 : Int) ≤ aN := by omega
  have g3 : (bN : Int) < 8 := by omega
  have g4 : (0 : Int) ≤ bN := by omega
  have g5 : (0 : Int) < (l.length + 1 : Nat) := by omega
  have HA := Lib.hid ha
  have HH := Lib.hid hh
  have HX := Lib.hid hx
  have HK := Lib.hid hk
  have HB := Lib.hid hb
  have HC := Lib.hid hC
  clear ha hh hx hb hk hC
  go_enter Try.func108, Try.ntmps108
  go_wp2_with (first
    | go_big_skip
    | (refine om_box 8 #[Value.int .i64 6, .int .i64 (aN : Int), .int .i64 (bN : Int), .int .i64 (f3 : Int)] M rfl rfl rfl rfl ?_; clear M; intro V p8 M; simp only [Act.put, List.setIfInBounds_toArray, List.set_cons_zero, List.set_cons_succ]; have c0 : V.cell? ⟨p8, 0, none⟩ = some (.int .i64 6) := (M.own.get 0 rfl).cell 0))
  have cw : ∀ (p : Later V) i, p.1.cell? ⟨y.wp, i, none⟩ = #[Value.pointer (some ⟨y.ps, 0, none⟩), .slice (some ⟨gw, 0, none⟩) n cw, .slice (some ⟨y.bp, 0, none⟩) nr nr, .slice (some ⟨y.bl, 0, none⟩) y.lk y.lk, .slice (some ⟨y.bg, 0, none⟩) y.gr y.gr, .slice (some ⟨y.bc, 0, none⟩) y.ce y.ce, evs][i]? := Later.cell (M.get 5 rfl)
  have ci : ∀ (p : Later V) i, p.1.cell? ⟨p8, i, none⟩ = #[Value.int .i64 6, .int .i64 (aN : Int), .int .i64 (bN : Int), .int .i64 (f3 : Int)][i]? := Later.cell (M.get 0 rfl)
  have ak := add_zero_ y.bp (aN * 2)
  refine wp_quiet_later (by kernel_rfl) (by kernel_rfl) ?_
  repeat (first
    | go_big_quiet_skip
    | go_big_quiet_step (fail))
  refine wpQuiet_nil ?_
  intro _ hw
  obtain ⟨p', rfl⟩ := hw
  replace M := M.keeps p'.2
  clear cw ci
  generalize p'.1 = V at M ⊢
  have HQ := Lib.hid (show HRow w.heap.size V (.slice (some ⟨g, off, none⟩) (l.length + 1) cc) (x :: l) from by have h : HRow w.heap.size V (hv aN) (held aN) := M.hr aN HA.out; rw [HX.out] at h; rw [HH.out] at h; exact h)
  have ch0 : V.cell? ⟨y.bp, aN * 2, none⟩ = some (.slice (some ⟨g, off, none⟩) (l.length + 1) cc) := ((M.get 7 rfl).cell _).trans ((pipesA_hv _ _ _ _ HA.out).trans (by rw [HH.out]))
  have cx : V.cell? ⟨g, off, none⟩ = some (.int .i64 x) := HRow.head HQ.out
  clear c0
  go_wp2_with (first
    | go_big_skip
    | (refine at_store (.tmp 83) (.tmp 81) rfl ?_; refine om_store 2 3 (.int .i64 x) (.tmp 83) (.tmp 81) M rfl rfl rfl rfl rfl rfl (by show 3 < 5; omega) rfl rfl (by kernel_rfl) (cs' := evC ⟨k, 6, aN, x, false⟩) rfl ?_; clear M ch0 cx HQ; intro V M; simp only [List.set_cons_zero, List.set_cons_succ] at M))
  have ci : ∀ (p : Later V) i, p.1.cell? ⟨p8, i, none⟩ = #[Value.int .i64 6, .int .i64 (aN : Int), .int .i64 (bN : Int), .int .i64 (f3 : Int)][i]? := Later.cell (M.get 0 rfl)
  have ce : ∀ (p : Later V) i, p.1.cell? ⟨pe, i, none⟩ = #[Value.int .i64 (k : Int), .int .i64 6, .int .i64 (aN : Int), .int .i64 x, .bool false][i]? := Later.cell (M.get 2 rfl)
  refine wp_quiet_tail_later 10 (by kernel_rfl) (by kernel_rfl) ?_
  simp only [List.take, List.drop]
  repeat (first
    | go_big_quiet_skip
    | go_big_quiet_step (fail))
  refine wpQuiet_nil ?_
  intro _ hw
  obtain ⟨p', rfl⟩ := hw
  replace M := M.keeps p'.2
  clear ci ce
  generalize p'.1 = V at M ⊢
  have g6 := hc
  have HC6 := Lib.hid hc
  clear hc
  go_wp2_with (first
    | go_big_skip
    | (refine at_store (.tmp 93) (.tmp 90) rfl ?_; refine om_store 6 (k * 10 + 2 + bN) (.int .i64 x) (.tmp 93) (.tmp 90) M rfl rfl rfl rfl rfl rfl (by have := HC.out.lt HK.out (f := 2 + bN) (by have := HB.out; omega); omega) rfl rfl (by kernel_rfl) rfl ?_; clear M; intro V M; simp only [List.set_cons_zero, List.set_cons_succ] at M; have ch0 : V.cell? ⟨y.bp, aN * 2, none⟩ = some (.slice (some ⟨g, off, none⟩) (l.length + 1) cc) := ((M.get 7 rfl).cell _).trans ((pipesA_hv _ _ _ _ HA.out).trans (by rw [HH.out])); have HQ := Lib.hid (show HRow w.heap.size V (.slice (some ⟨g, off, none⟩) (l.length + 1) cc) (x :: l) from by have h : HRow w.heap.size V (hv aN) (held aN) := M.hr aN HA.out; rw [HX.out] at h; rw [HH.out] at h; exact h))
    | (refine at_store (.tmp 101) (.tmp 99) rfl ?_; refine om_store 7 (aN * 2) (.slice (some ⟨g, off + 1, none⟩) l.length (cc - 1)) (.tmp 101) (.tmp 99) (M.pop HA.out (HRow.pop_sh_6b HC6.out HQ.out) (by show _ = (hv aN).ownBlock; rw [HH.out]; rfl)) rfl rfl rfl rfl rfl rfl (by have := HA.out; rw [pipesA_size]; omega) rfl rfl (by kernel_rfl) (pipesA_setH _ _ _ _ _) ?_; clear M; intro V M; simp only [List.set_cons_zero, List.set_cons_succ] at M))
  go_ret
  exact ⟨rfl, _, _, HC.out.set_reg _ HK.out HB.out, by simp, M.drop_ 1⟩

end
end Go.Proofs.Ytakmcpadkanggaa
