/-
 Part 9 of what this claim rests on.
-/
import Derived.Test.YtakmcpadkanggaaOd8
namespace Go.Proofs.Ytakmcpadkanggaa
open Go.RowKit Go.Maps Go.Deep
theorem HRow.head {base : Nat} {W : World} {g off n c : Nat} {x : Int} {l : List Int} (h : HRow base W (.slice (some ⟨g, off, none⟩) n c) (x :: l)) : W.cell? ⟨g, off, none⟩ = some (.int .i64 x) := by
 rcases h with ⟨h, h'⟩ | ⟨g', off', cap, cur, h, hb, hB, h1, h2, h3, h4⟩
 · cases h'
 · injection h with e1 e2 e3
   injection e1 with e1
   injection e1 with e1 e4
   subst e1 e4
   rw [hB.cell]
   exact h4 0 (by simp)
theorem HRow.pop_sh_6a {base : Nat} {W : World} {g off c : Nat} {x : Int} {l : List Int} (hc : c = 1) (h : HRow base W (.slice (some ⟨g, off, none⟩) (l.length + 1) c) (x :: l)) : HRow base W (.slice (some ⟨g, off, none⟩) l.length 0) l := by
 have := HRow.pop h
 rw [if_pos hc] at this
 subst hc
 exact this
theorem HRow.pop_sh_6b {base : Nat} {W : World} {g off c : Nat} {x : Int} {l : List Int} (hc : 1 < c) (h : HRow base W (.slice (some ⟨g, off, none⟩) (l.length + 1) c) (x :: l)) : HRow base W (.slice (some ⟨g, off + 1, none⟩) l.length (c - 1)) l := by
 have := HRow.pop h
 rw [if_neg (by omega)] at this
 simpa [Addr.add_mid] using this
section
variable {w W : World} {L Lr : List Ent} {y : Ly} {nr gw n cw k pw pe pt pi aN : Nat} {cur : Array Value} {evs : Value} {E : List Ev} {hv : Nat → Value} {held : Nat → List Int} {cl : Nat → Bool} {lk : Int → Bool} {gr : Int → Int} {ci : Array Value} {f2 f3 v0 on on2 : Int} {bN nn : Nat} {rs : Nat → Rn}
set_option maxRecDepth 100000 in
set_option maxHeartbeats 1000000 in
theorem sh_8  (M : OM w W ((pt, 1, #[Value.func (.func 105) #[] #[.pointer (some ⟨pw, 0, none⟩), .pointer (some ⟨pe, 0, none⟩)]]) :: (pe, 37, evC ⟨k, 8, aN, 0, false⟩) :: (pi, 99, ci) :: (pw, 104, #[.pointer (some ⟨y.wp, 0, none⟩)]) :: (y.wp, 110, wpC y nr gw n cw evs) :: (gw, 174, cur) :: (y.bp, 186, pipesA nr hv cl) :: (y.bl, 4, arrB y.lk lk) :: (y.bg, 3, arrI y.gr gr) :: Lr) ⟨evs, E, nr, hv, held⟩) (ha : aN < y.lk) : Calls Try.prog 108 #[.pointer (some ⟨y.wp, 0, none⟩), .pointer (some ⟨gw, k * 10, none⟩), .agg #[Value.int .i64 8, .int .i64 (aN : Int), .int .i64 (f2 : Int), .int .i64 (f3 : Int)], .pointer (some ⟨pe, 0, none⟩), .int .i64 on, .func (.func 106) #[] #[.pointer (some ⟨pt, 0, none⟩)]] W fun ev W' => ev = (.returned (.int .i64 on)) ∧ OM w W' ((pt, 1, #[Value.func (.func 105) #[] #[.pointer (some ⟨pw, 0, none⟩), .pointer (some ⟨pe, 0, none⟩)]]) :: (pe, 37, evC ⟨k, 8, aN, 0, false⟩) :: (pi, 99, ci) :: (pw, 104, #[.pointer (some ⟨y.wp, 0, none⟩)]) :: (y.wp, 110, wpC y nr gw n cw evs) :: (gw, 174, cur) :: (y.bp, 186, pipesA nr hv cl) :: (y.bl, 4, arrB y.lk (updI lk aN true)) :: (y.bg, 3, arrI y.gr gr) :: Lr) ⟨evs, E, nr, hv, held⟩ := by
 have g1 : (aN : Int) < y.lk := by omega
 have g2 : (0 : Int) ≤ aN := by omega
 have HA := Lib.hid ha
 clear ha
 go_enter Try.func108, Try.ntmps108
 go_wp2_with (first
   | go_big_skip
   | (refine om_box 8 #[Value.int .i64 8, .int .i64 (aN : Int), .int .i64 (f2 : Int), .int .i64 (f3 : Int)] M rfl rfl rfl rfl ?_; clear M; intro V p8 M; simp only [Act.put, kA, kZ, kS]; have c0 : V.cell? ⟨p8, 0, none⟩ = some (.int .i64 8) := (M.own.get 0 rfl).cell 0))
 have cw : ∀ (p : Later V) i, p.1.cell? ⟨y.wp, i, none⟩ = #[Value.pointer (some ⟨y.ps, 0, none⟩), .slice (some ⟨gw, 0, none⟩) n cw, .slice (some ⟨y.bp, 0, none⟩) nr nr, .slice (some ⟨y.bl, 0, none⟩) y.lk y.lk, .slice (some ⟨y.bg, 0, none⟩) y.gr y.gr, .slice (some ⟨y.bc, 0, none⟩) y.ce y.ce, evs][i]? := Later.cell (M.get 5 rfl)
 have ci : ∀ (p : Later V) i, p.1.cell? ⟨p8, i, none⟩ = #[Value.int .i64 8, .int .i64 (aN : Int), .int .i64 (f2 : Int), .int .i64 (f3 : Int)][i]? := Later.cell (M.get 0 rfl)
 have ak := add_zero_ y.bl aN
 refine wp_quiet_tail_later 7 (by kernel_rfl) (by kernel_rfl) ?_
 simp only [List.take, List.drop]
 repeat (first | go_big_quiet_skip | go_big_quiet_step (fail))
 refine kq fun p' => ?_
 replace M := M.keeps p'.2
 clear c0 cw ci ak
 generalize p'.1 = V at M ⊢
 go_wp2_with (first
   | go_big_skip
   | (refine at_store (.tmp 131) (.const (.bool true)) rfl ?_; refine om_store 8 aN (.bool true) (.tmp 131) (.const (.bool true)) M rfl rfl rfl rfl rfl rfl (by rw [arrB_size]; exact HA.out) rfl rfl (by kernel_rfl) (arrB_set _ _ _ _) ?_; clear M; intro V M; simp only [kZ, kS] at M))
 go_ret
 exact ⟨rfl, M.drop_ 1⟩
set_option maxRecDepth 100000 in
set_option maxHeartbeats 1000000 in
theorem sh_9t  (M : OM w W ((pt, 1, #[Value.func (.func 105) #[] #[.pointer (some ⟨pw, 0, none⟩), .pointer (some ⟨pe, 0, none⟩)]]) :: (pe, 37, evC ⟨k, 9, aN, 0, false⟩) :: (pi, 99, ci) :: (pw, 104, #[.pointer (some ⟨y.wp, 0, none⟩)]) :: (y.wp, 110, wpC y nr gw n cw evs) :: (gw, 174, cur) :: (y.bp, 186, pipesA nr hv cl) :: (y.bl, 4, arrB y.lk lk) :: (y.bg, 3, arrI y.gr gr) :: Lr) ⟨evs, E, nr, hv, held⟩) (ha : aN < y.lk) (hcl : lk aN = true) : Calls Try.prog 108 #[.pointer (some ⟨y.wp, 0, none⟩), .pointer (some ⟨gw, k * 10, none⟩), .agg #[Value.int .i64 9, .int .i64 (aN : Int), .int .i64 (f2 : Int), .int .i64 (f3 : Int)], .pointer (some ⟨pe, 0, none⟩), .int .i64 on, .func (.func 106) #[] #[.pointer (some ⟨pt, 0, none⟩)]] W fun ev W' => ev = (.returned (.int .i64 on)) ∧ OM w W' ((pt, 1, #[Value.func (.func 105) #[] #[.pointer (some ⟨pw, 0, none⟩), .pointer (some ⟨pe, 0, none⟩)]]) :: (pe, 37, evC ⟨k, 9, aN, 0, false⟩) :: (pi, 99, ci) :: (pw, 104, #[.pointer (some ⟨y.wp, 0, none⟩)]) :: (y.wp, 110, wpC y nr gw n cw evs) :: (gw, 174, cur) :: (y.bp, 186, pipesA nr hv cl) :: (y.bl, 4, arrB y.lk (updI lk aN false)) :: (y.bg, 3, arrI y.gr gr) :: Lr) ⟨evs, E, nr, hv, held⟩ := by
 have g1 : (aN : Int) < y.lk := by omega
 have g2 : (0 : Int) ≤ aN := by omega
 have HA := Lib.hid ha
 have HCL := Lib.hid hcl
 clear ha hcl
 go_enter Try.func108, Try.ntmps108
 go_wp2_with (first
   | go_big_skip
   | (refine om_box 8 #[Value.int .i64 9, .int .i64 (aN : Int), .int .i64 (f2 : Int), .int .i64 (f3 : Int)] M rfl rfl rfl rfl ?_; clear M; intro V p8 M; simp only [Act.put, kA, kZ, kS]; have c0 : V.cell? ⟨p8, 0, none⟩ = some (.int .i64 9) := (M.own.get 0 rfl).cell 0))
 have cw : ∀ (p : Later V) i, p.1.cell? ⟨y.wp, i, none⟩ = #[Value.pointer (some ⟨y.ps, 0, none⟩), .slice (some ⟨gw, 0, none⟩) n cw, .slice (some ⟨y.bp, 0, none⟩) nr nr, .slice (some ⟨y.bl, 0, none⟩) y.lk y.lk, .slice (some ⟨y.bg, 0, none⟩) y.gr y.gr, .slice (some ⟨y.bc, 0, none⟩) y.ce y.ce, evs][i]? := Later.cell (M.get 5 rfl)
 have ci : ∀ (p : Later V) i, p.1.cell? ⟨p8, i, none⟩ = #[Value.int .i64 9, .int .i64 (aN : Int), .int .i64 (f2 : Int), .int .i64 (f3 : Int)][i]? := Later.cell (M.get 0 rfl)
 have cp : ∀ p : Later V, p.1.cell? ⟨y.bl, aN, none⟩ = some (.bool true) := fun p => (Later.cell (M.get 8 rfl) p _).trans ((arrB_get _ _ _ HA.out).trans (by rw [HCL.out]))
 have ak := add_zero_ y.bl aN
 refine wp_quiet_later (by kernel_rfl) (by kernel_rfl) ?_
 repeat (first | go_big_quiet_skip | go_big_quiet_step (fail))
 refine kq fun p' => ?_
 replace M := M.keeps p'.2
 clear cw ci cp
 generalize p'.1 = V at M ⊢
 go_wp2_with (first | go_big_skip)
 have cw : ∀ (p : Later V) i, p.1.cell? ⟨y.wp, i, none⟩ = #[Value.pointer (some ⟨y.ps, 0, none⟩), .slice (some ⟨gw, 0, none⟩) n cw, .slice (some ⟨y.bp, 0, none⟩) nr nr, .slice (some ⟨y.bl, 0, none⟩) y.lk y.lk, .slice (some ⟨y.bg, 0, none⟩) y.gr y.gr, .slice (some ⟨y.bc, 0, none⟩) y.ce y.ce, evs][i]? := Later.cell (M.get 5 rfl)
 have ci : ∀ (p : Later V) i, p.1.cell? ⟨p8, i, none⟩ = #[Value.int .i64 9, .int .i64 (aN : Int), .int .i64 (f2 : Int), .int .i64 (f3 : Int)][i]? := Later.cell (M.get 0 rfl)
 refine wp_quiet_tail_later 7 (by kernel_rfl) (by kernel_rfl) ?_
 simp only [List.take, List.drop]
 repeat (first | go_big_quiet_skip | go_big_quiet_step (fail))
 refine kq fun p' => ?_
 replace M := M.keeps p'.2
 clear c0 cw ci ak
 generalize p'.1 = V at M ⊢
 go_wp2_with (first
   | go_big_skip
   | (refine at_store (.tmp 151) (.const (.bool false)) rfl ?_; refine om_store 8 aN (.bool false) (.tmp 151) (.const (.bool false)) M rfl rfl rfl rfl rfl rfl (by rw [arrB_size]; exact HA.out) rfl rfl (by kernel_rfl) (arrB_set _ _ _ _) ?_; clear M; intro V M; simp only [kZ, kS] at M))
 go_ret
 exact ⟨rfl, M.drop_ 1⟩
set_option maxRecDepth 100000 in
set_option maxHeartbeats 1000000 in
theorem sh_9f  (M : OM w W ((pt, 1, #[Value.func (.func 105) #[] #[.pointer (some ⟨pw, 0, none⟩), .pointer (some ⟨pe, 0, none⟩)]]) :: (pe, 37, evC ⟨k, 9, aN, 0, false⟩) :: (pi, 99, ci) :: (pw, 104, #[.pointer (some ⟨y.wp, 0, none⟩)]) :: (y.wp, 110, wpC y nr gw n cw evs) :: (gw, 174, cur) :: (y.bp, 186, pipesA nr hv cl) :: (y.bl, 4, arrB y.lk lk) :: (y.bg, 3, arrI y.gr gr) :: Lr) ⟨evs, E, nr, hv, held⟩) (hn : E.length ≤ 100000) (ha : aN < y.lk) (hcl : lk aN = false) : Calls Try.prog 108 #[.pointer (some ⟨y.wp, 0, none⟩), .pointer (some ⟨gw, k * 10, none⟩), .agg #[Value.int .i64 9, .int .i64 (aN : Int), .int .i64 (f2 : Int), .int .i64 (f3 : Int)], .pointer (some ⟨pe, 0, none⟩), .int .i64 on, .func (.func 106) #[] #[.pointer (some ⟨pt, 0, none⟩)]] W fun ev W' => ev = (.panicked [{ v := .iface 22 (.int .i64 133), recovered := false }]) ∧ ∃ v', OM w W' ((pt, 1, #[Value.func (.func 105) #[] #[.pointer (some ⟨pw, 0, none⟩), .pointer (some ⟨pe, 0, none⟩)]]) :: (pe, 37, evC ⟨k, 9, aN, 0, false⟩) :: (pi, 99, ci) :: (pw, 104, #[.pointer (some ⟨y.wp, 0, none⟩)]) :: (y.wp, 110, wpC y nr gw n cw v') :: (gw, 174, cur) :: (y.bp, 186, pipesA nr hv cl) :: (y.bl, 4, arrB y.lk lk) :: (y.bg, 3, arrI y.gr gr) :: Lr) ⟨v', E ++ [⟨k, 9, aN, 0, false⟩], nr, hv, held⟩ := by
 have g1 : (aN : Int) < y.lk := by omega
 have g2 : (0 : Int) ≤ aN := by omega
 have HA := Lib.hid ha
 have HCL := Lib.hid hcl
 clear ha hcl
 go_enter Try.func108, Try.ntmps108
 go_wp2_with (first
   | go_big_skip
   | (refine om_box 8 #[Value.int .i64 9, .int .i64 (aN : Int), .int .i64 (f2 : Int), .int .i64 (f3 : Int)] M rfl rfl rfl rfl ?_; clear M; intro V p8 M; simp only [Act.put, kA, kZ, kS]; have c0 : V.cell? ⟨p8, 0, none⟩ = some (.int .i64 9) := (M.own.get 0 rfl).cell 0))
 have cw : ∀ (p : Later V) i, p.1.cell? ⟨y.wp, i, none⟩ = #[Value.pointer (some ⟨y.ps, 0, none⟩), .slice (some ⟨gw, 0, none⟩) n cw, .slice (some ⟨y.bp, 0, none⟩) nr nr, .slice (some ⟨y.bl, 0, none⟩) y.lk y.lk, .slice (some ⟨y.bg, 0, none⟩) y.gr y.gr, .slice (some ⟨y.bc, 0, none⟩) y.ce y.ce, evs][i]? := Later.cell (M.get 5 rfl)
 have ci : ∀ (p : Later V) i, p.1.cell? ⟨p8, i, none⟩ = #[Value.int .i64 9, .int .i64 (aN : Int), .int .i64 (f2 : Int), .int .i64 (f3 : Int)][i]? := Later.cell (M.get 0 rfl)
 have cp : ∀ p : Later V, p.1.cell? ⟨y.bl, aN, none⟩ = some (.bool false) := fun p => (Later.cell (M.get 8 rfl) p _).trans ((arrB_get _ _ _ HA.out).trans (by rw [HCL.out]))
 have ak := add_zero_ y.bl aN
 refine wp_quiet_later (by kernel_rfl) (by kernel_rfl) ?_
 repeat (first | go_big_quiet_skip | go_big_quiet_step (fail))
 refine kq fun p' => ?_
 replace M := M.keeps p'.2
 clear c0 cw ci cp ak
 generalize p'.1 = V at M ⊢
 go_wp2_with (first
   | go_big_skip
   | (go_at_call 106; refine (fail_any M ⟨k, 9, aN, 0, false⟩ (i := 4) (j := 2) (k := 5) (m := 1) rfl rfl rfl rfl hn 133).mono ?_; rintro ev V ⟨rfl, v', M⟩; have HM := Lib.hid M; clear M))
 first | exact ⟨rfl, _, HM.out.drop_ 1⟩ | exact ⟨rfl, rfl, _, HM.out.drop_ 1⟩ | exact ⟨_, rfl, _, HM.out.drop_ 1⟩
set_option maxRecDepth 100000 in
set_option maxHeartbeats 1000000 in
theorem sh_7o  (M : OM w W ((pt, 1, #[Value.func (.func 105) #[] #[.pointer (some ⟨pw, 0, none⟩), .pointer (some ⟨pe, 0, none⟩)]]) :: (pe, 37, evC ⟨k, 7, aN, 0, false⟩) :: (pi, 99, ci) :: (pw, 104, #[.pointer (some ⟨y.wp, 0, none⟩)]) :: (y.wp, 110, wpC y nr gw n cw evs) :: (gw, 174, cur) :: (y.bp, 186, pipesA nr hv cl) :: (y.bl, 4, arrB y.lk lk) :: (y.bg, 3, arrI y.gr gr) :: Lr) ⟨evs, E, nr, hv, held⟩) (ha : aN < nr) (hcl : cl aN = false) : Calls Try.prog 108 #[.pointer (some ⟨y.wp, 0, none⟩), .pointer (some ⟨gw, k * 10, none⟩), .agg #[Value.int .i64 7, .int .i64 (aN : Int), .int .i64 (f2 : Int), .int .i64 (f3 : Int)], .pointer (some ⟨pe, 0, none⟩), .int .i64 on, .func (.func 106) #[] #[.pointer (some ⟨pt, 0, none⟩)]] W fun ev W' => ev = (.returned (.int .i64 on)) ∧ OM w W' ((pt, 1, #[Value.func (.func 105) #[] #[.pointer (some ⟨pw, 0, none⟩), .pointer (some ⟨pe, 0, none⟩)]]) :: (pe, 37, evC ⟨k, 7, aN, 0, false⟩) :: (pi, 99, ci) :: (pw, 104, #[.pointer (some ⟨y.wp, 0, none⟩)]) :: (y.wp, 110, wpC y nr gw n cw evs) :: (gw, 174, cur) :: (y.bp, 186, pipesA nr hv (updN cl aN true)) :: (y.bl, 4, arrB y.lk lk) :: (y.bg, 3, arrI y.gr gr) :: Lr) ⟨evs, E, nr, hv, held⟩ := by
 have g1 : (aN : Int) < nr := by omega
 have g2 : (0 : Int) ≤ aN := by omega
 have HA := Lib.hid ha
 have HCL := Lib.hid hcl
 clear ha hcl
 go_enter Try.func108, Try.ntmps108
 go_wp2_with (first
   | go_big_skip
   | (refine om_box 8 #[Value.int .i64 7, .int .i64 (aN : Int), .int .i64 (f2 : Int), .int .i64 (f3 : Int)] M rfl rfl rfl rfl ?_; clear M; intro V p8 M; simp only [Act.put, kA, kZ, kS]; have c0 : V.cell? ⟨p8, 0, none⟩ = some (.int .i64 7) := (M.own.get 0 rfl).cell 0))
 have cw : ∀ (p : Later V) i, p.1.cell? ⟨y.wp, i, none⟩ = #[Value.pointer (some ⟨y.ps, 0, none⟩), .slice (some ⟨gw, 0, none⟩) n cw, .slice (some ⟨y.bp, 0, none⟩) nr nr, .slice (some ⟨y.bl, 0, none⟩) y.lk y.lk, .slice (some ⟨y.bg, 0, none⟩) y.gr y.gr, .slice (some ⟨y.bc, 0, none⟩) y.ce y.ce, evs][i]? := Later.cell (M.get 5 rfl)
 have ci : ∀ (p : Later V) i, p.1.cell? ⟨p8, i, none⟩ = #[Value.int .i64 7, .int .i64 (aN : Int), .int .i64 (f2 : Int), .int .i64 (f3 : Int)][i]? := Later.cell (M.get 0 rfl)
 have cp : ∀ p : Later V, p.1.cell? ⟨y.bp, aN * 2 + 1, none⟩ = some (.bool false) := fun p => (Later.cell (M.get 7 rfl) p _).trans ((pipesA_cl _ _ _ _ HA.out).trans (by rw [HCL.out]))
 have ak := add_zero_ y.bp (aN * 2)
 refine wp_quiet_later (by kernel_rfl) (by kernel_rfl) ?_
 repeat (first | go_big_quiet_skip | go_big_quiet_step (fail))
 refine kq fun p' => ?_
 replace M := M.keeps p'.2
 clear cw ci cp
 generalize p'.1 = V at M ⊢
 go_wp2_with (first | go_big_skip)
 have cw : ∀ (p : Later V) i, p.1.cell? ⟨y.wp, i, none⟩ = #[Value.pointer (some ⟨y.ps, 0, none⟩), .slice (some ⟨gw, 0, none⟩) n cw, .slice (some ⟨y.bp, 0, none⟩) nr nr, .slice (some ⟨y.bl, 0, none⟩) y.lk y.lk, .slice (some ⟨y.bg, 0, none⟩) y.gr y.gr, .slice (some ⟨y.bc, 0, none⟩) y.ce y.ce, evs][i]? := Later.cell (M.get 5 rfl)
 have ci : ∀ (p : Later V) i, p.1.cell? ⟨p8, i, none⟩ = #[Value.int .i64 7, .int .i64 (aN : Int), .int .i64 (f2 : Int), .int .i64 (f3 : Int)][i]? := Later.cell (M.get 0 rfl)
 refine wp_quiet_tail_later 8 (by kernel_rfl) (by kernel_rfl) ?_
 simp only [List.take, List.drop]
 repeat (first | go_big_quiet_skip | go_big_quiet_step (fail))
 refine kq fun p' => ?_
 replace M := M.keeps p'.2
 clear c0 cw ci ak
 generalize p'.1 = V at M ⊢
 go_wp2_with (first
   | go_big_skip
   | (refine at_store (.tmp 122) (.const (.bool true)) rfl ?_; refine om_store 7 (aN * 2 + 1) (.bool true) (.tmp 122) (.const (.bool true)) M rfl rfl rfl rfl rfl rfl (by have := HA.out; rw [pipesA_size]; omega) rfl rfl (by kernel_rfl) (pipesA_setC _ _ _ _ _) ?_; clear M; intro V M; simp only [kZ, kS] at M))
 go_ret
 exact ⟨rfl, M.drop_ 1⟩
set_option maxRecDepth 100000 in
set_option maxHeartbeats 1000000 in
theorem sh_7c  (M : OM w W ((pt, 1, #[Value.func (.func 105) #[] #[.pointer (some ⟨pw, 0, none⟩), .pointer (some ⟨pe, 0, none⟩)]]) :: (pe, 37, evC ⟨k, 7, aN, 0, false⟩) :: (pi, 99, ci) :: (pw, 104, #[.pointer (some ⟨y.wp, 0, none⟩)]) :: (y.wp, 110, wpC y nr gw n cw evs) :: (gw, 174, cur) :: (y.bp, 186, pipesA nr hv cl) :: (y.bl, 4, arrB y.lk lk) :: (y.bg, 3, arrI y.gr gr) :: Lr) ⟨evs, E, nr, hv, held⟩) (hn : E.length ≤ 100000) (ha : aN < nr) (hcl : cl aN = true) : Calls Try.prog 108 #[.pointer (some ⟨y.wp, 0, none⟩), .pointer (some ⟨gw, k * 10, none⟩), .agg #[Value.int .i64 7, .int .i64 (aN : Int), .int .i64 (f2 : Int), .int .i64 (f3 : Int)], .pointer (some ⟨pe, 0, none⟩), .int .i64 on, .func (.func 106) #[] #[.pointer (some ⟨pt, 0, none⟩)]] W fun ev W' => ev = (.panicked [{ v := .iface 22 (.int .i64 132), recovered := false }]) ∧ ∃ v', OM w W' ((pt, 1, #[Value.func (.func 105) #[] #[.pointer (some ⟨pw, 0, none⟩), .pointer (some ⟨pe, 0, none⟩)]]) :: (pe, 37, evC ⟨k, 7, aN, 0, false⟩) :: (pi, 99, ci) :: (pw, 104, #[.pointer (some ⟨y.wp, 0, none⟩)]) :: (y.wp, 110, wpC y nr gw n cw v') :: (gw, 174, cur) :: (y.bp, 186, pipesA nr hv cl) :: (y.bl, 4, arrB y.lk lk) :: (y.bg, 3, arrI y.gr gr) :: Lr) ⟨v', E ++ [⟨k, 7, aN, 0, false⟩], nr, hv, held⟩ := by
 have g1 : (aN : Int) < nr := by omega
 have g2 : (0 : Int) ≤ aN := by omega
 have HA := Lib.hid ha
 have HCL := Lib.hid hcl
 clear ha hcl
 go_enter Try.func108, Try.ntmps108
 go_wp2_with (first
   | go_big_skip
   | (refine om_box 8 #[Value.int .i64 7, .int .i64 (aN : Int), .int .i64 (f2 : Int), .int .i64 (f3 : Int)] M rfl rfl rfl rfl ?_; clear M; intro V p8 M; simp only [Act.put, kA, kZ, kS]; have c0 : V.cell? ⟨p8, 0, none⟩ = some (.int .i64 7) := (M.own.get 0 rfl).cell 0))
 have cw : ∀ (p : Later V) i, p.1.cell? ⟨y.wp, i, none⟩ = #[Value.pointer (some ⟨y.ps, 0, none⟩), .slice (some ⟨gw, 0, none⟩) n cw, .slice (some ⟨y.bp, 0, none⟩) nr nr, .slice (some ⟨y.bl, 0, none⟩) y.lk y.lk, .slice (some ⟨y.bg, 0, none⟩) y.gr y.gr, .slice (some ⟨y.bc, 0, none⟩) y.ce y.ce, evs][i]? := Later.cell (M.get 5 rfl)
 have ci : ∀ (p : Later V) i, p.1.cell? ⟨p8, i, none⟩ = #[Value.int .i64 7, .int .i64 (aN : Int), .int .i64 (f2 : Int), .int .i64 (f3 : Int)][i]? := Later.cell (M.get 0 rfl)
 have cp : ∀ p : Later V, p.1.cell? ⟨y.bp, aN * 2 + 1, none⟩ = some (.bool true) := fun p => (Later.cell (M.get 7 rfl) p _).trans ((pipesA_cl _ _ _ _ HA.out).trans (by rw [HCL.out]))
 have ak := add_zero_ y.bp (aN * 2)
 refine wp_quiet_later (by kernel_rfl) (by kernel_rfl) ?_
 repeat (first | go_big_quiet_skip | go_big_quiet_step (fail))
 refine kq fun p' => ?_
 replace M := M.keeps p'.2
 clear c0 cw ci cp ak
 generalize p'.1 = V at M ⊢
 go_wp2_with (first
   | go_big_skip
   | (go_at_call 106; refine (fail_any M ⟨k, 7, aN, 0, false⟩ (i := 4) (j := 2) (k := 5) (m := 1) rfl rfl rfl rfl hn 132).mono ?_; rintro ev V ⟨rfl, v', M⟩; have HM := Lib.hid M; clear M))
 first | exact ⟨rfl, _, HM.out.drop_ 1⟩ | exact ⟨rfl, rfl, _, HM.out.drop_ 1⟩ | exact ⟨_, rfl, _, HM.out.drop_ 1⟩
set_option maxRecDepth 100000 in
set_option maxHeartbeats 1000000 in
theorem sh_10n  (M : OM w W ((pt, 1, #[Value.func (.func 105) #[] #[.pointer (some ⟨pw, 0, none⟩), .pointer (some ⟨pe, 0, none⟩)]]) :: (pe, 37, evC ⟨k, 10, aN, 0, false⟩) :: (pi, 99, ci) :: (pw, 104, #[.pointer (some ⟨y.wp, 0, none⟩)]) :: (y.wp, 110, wpC y nr gw n cw evs) :: (gw, 174, cur) :: (y.bp, 186, pipesA nr hv cl) :: (y.bl, 4, arrB y.lk lk) :: (y.bg, 3, arrI y.gr gr) :: Lr) ⟨evs, E, nr, hv, held⟩) (ha : aN < y.gr) {s : Int} (hs : IntKind.i64.wrap (gr aN + f2) = s) (hcl : ¬ s < 0) : Calls Try.prog 108 #[.pointer (some ⟨y.wp, 0, none⟩), .pointer (some ⟨gw, k * 10, none⟩), .agg #[Value.int .i64 10, .int .i64 (aN : Int), .int .i64 (f2 : Int), .int .i64 (f3 : Int)], .pointer (some ⟨pe, 0, none⟩), .int .i64 on, .func (.func 106) #[] #[.pointer (some ⟨pt, 0, none⟩)]] W fun ev W' => ev = (.returned (.int .i64 on)) ∧ OM w W' ((pt, 1, #[Value.func (.func 105) #[] #[.pointer (some ⟨pw, 0, none⟩), .pointer (some ⟨pe, 0, none⟩)]]) :: (pe, 37, evC ⟨k, 10, aN, s, false⟩) :: (pi, 99, ci) :: (pw, 104, #[.pointer (some ⟨y.wp, 0, none⟩)]) :: (y.wp, 110, wpC y nr gw n cw evs) :: (gw, 174, cur) :: (y.bp, 186, pipesA nr hv cl) :: (y.bl, 4, arrB y.lk lk) :: (y.bg, 3, arrI y.gr (updI gr aN s)) :: Lr) ⟨evs, E, nr, hv, held⟩ := by
 have g3 : ¬ s < 0 := hcl
 have g1 : (aN : Int) < y.gr := by omega
 have g2 : (0 : Int) ≤ aN := by omega
 have HA := Lib.hid ha
 have HCL := Lib.hid hcl
 clear ha hcl
 go_enter Try.func108, Try.ntmps108
 go_wp2_with (first
   | go_big_skip
   | (refine om_box 8 #[Value.int .i64 10, .int .i64 (aN : Int), .int .i64 (f2 : Int), .int .i64 (f3 : Int)] M rfl rfl rfl rfl ?_; clear M; intro V p8 M; simp only [Act.put, kA, kZ, kS]; have c0 : V.cell? ⟨p8, 0, none⟩ = some (.int .i64 10) := (M.own.get 0 rfl).cell 0))
 have cw : ∀ (p : Later V) i, p.1.cell? ⟨y.wp, i, none⟩ = #[Value.pointer (some ⟨y.ps, 0, none⟩), .slice (some ⟨gw, 0, none⟩) n cw, .slice (some ⟨y.bp, 0, none⟩) nr nr, .slice (some ⟨y.bl, 0, none⟩) y.lk y.lk, .slice (some ⟨y.bg, 0, none⟩) y.gr y.gr, .slice (some ⟨y.bc, 0, none⟩) y.ce y.ce, evs][i]? := Later.cell (M.get 5 rfl)
 have ci : ∀ (p : Later V) i, p.1.cell? ⟨p8, i, none⟩ = #[Value.int .i64 10, .int .i64 (aN : Int), .int .i64 (f2 : Int), .int .i64 (f3 : Int)][i]? := Later.cell (M.get 0 rfl)
 have cg : ∀ p : Later V, p.1.cell? ⟨y.bg, aN, none⟩ = some (.int .i64 (gr aN)) := fun p => (Later.cell (M.get 9 rfl) p _).trans (arrI_get _ _ _ HA.out)
 have ak := add_zero_ y.bg aN
 refine wp_quiet_tail_later 14 (by kernel_rfl) (by kernel_rfl) ?_
 simp only [List.take, List.drop]
 repeat (first | go_big_quiet_skip | go_big_quiet_step (fail))
 refine kq fun p' => ?_
 replace M := M.keeps p'.2
 clear cw ci cg
 generalize p'.1 = V at M ⊢
 go_wp2_with (first
   | go_big_skip
   | (refine at_store (.tmp 167) (.tmp 165) rfl ?_; refine om_store 2 3 (.int .i64 s) (.tmp 167) (.tmp 165) M rfl rfl rfl rfl rfl rfl (by show 3 < 5; omega) rfl rfl (by kernel_rfl) (cs' := evC ⟨k, 10, aN, s, false⟩) rfl ?_; clear M; intro V M; simp only [kZ, kS] at M; have ce0 : V.cell? ⟨pe, 3, none⟩ = some (.int .i64 s) := (M.get 2 rfl).cell 3))
 have cw : ∀ (p : Later V) i, p.1.cell? ⟨y.wp, i, none⟩ = #[Value.pointer (some ⟨y.ps, 0, none⟩), .slice (some ⟨gw, 0, none⟩) n cw, .slice (some ⟨y.bp, 0, none⟩) nr nr, .slice (some ⟨y.bl, 0, none⟩) y.lk y.lk, .slice (some ⟨y.bg, 0, none⟩) y.gr y.gr, .slice (some ⟨y.bc, 0, none⟩) y.ce y.ce, evs][i]? := Later.cell (M.get 5 rfl)
 have ci : ∀ (p : Later V) i, p.1.cell? ⟨p8, i, none⟩ = #[Value.int .i64 10, .int .i64 (aN : Int), .int .i64 (f2 : Int), .int .i64 (f3 : Int)][i]? := Later.cell (M.get 0 rfl)
 have ce : ∀ (p : Later V) i, p.1.cell? ⟨pe, i, none⟩ = #[Value.int .i64 (k : Int), .int .i64 10, .int .i64 (aN : Int), .int .i64 s, .bool false][i]? := Later.cell (M.get 2 rfl)
 refine wp_quiet_tail_later 11 (by kernel_rfl) (by kernel_rfl) ?_
 simp only [List.take, List.drop]
 repeat (first | go_big_quiet_skip | go_big_quiet_step (fail))
 refine kq fun p' => ?_
 replace M := M.keeps p'.2
 clear c0 cw ci ce ce0 ak
 generalize p'.1 = V at M ⊢
 go_wp2_with (first
   | go_big_skip
   | (refine at_store (.tmp 185) (.tmp 184) rfl ?_; refine om_store 9 aN (.int .i64 s) (.tmp 185) (.tmp 184) M rfl rfl rfl rfl rfl rfl (by rw [arrI_size]; exact HA.out) rfl rfl (by kernel_rfl) (arrI_set _ _ _ _) ?_; clear M; intro V M; simp only [kZ, kS] at M))
 go_ret
 exact ⟨rfl, M.drop_ 1⟩
set_option maxRecDepth 100000 in
set_option maxHeartbeats 1000000 in
theorem sh_10g  (M : OM w W ((pt, 1, #[Value.func (.func 105) #[] #[.pointer (some ⟨pw, 0, none⟩), .pointer (some ⟨pe, 0, none⟩)]]) :: (pe, 37, evC ⟨k, 10, aN, 0, false⟩) :: (pi, 99, ci) :: (pw, 104, #[.pointer (some ⟨y.wp, 0, none⟩)]) :: (y.wp, 110, wpC y nr gw n cw evs) :: (gw, 174, cur) :: (y.bp, 186, pipesA nr hv cl) :: (y.bl, 4, arrB y.lk lk) :: (y.bg, 3, arrI y.gr gr) :: Lr) ⟨evs, E, nr, hv, held⟩) (hn : E.length ≤ 100000) (ha : aN < y.gr) {s : Int} (hs : IntKind.i64.wrap (gr aN + f2) = s) (hcl : s < 0) : Calls Try.prog 108 #[.pointer (some ⟨y.wp, 0, none⟩), .pointer (some ⟨gw, k * 10, none⟩), .agg #[Value.int .i64 10, .int .i64 (aN : Int), .int .i64 (f2 : Int), .int .i64 (f3 : Int)], .pointer (some ⟨pe, 0, none⟩), .int .i64 on, .func (.func 106) #[] #[.pointer (some ⟨pt, 0, none⟩)]] W fun ev W' => ev = (.panicked [{ v := .iface 22 (.int .i64 134), recovered := false }]) ∧ ∃ v', OM w W' ((pt, 1, #[Value.func (.func 105) #[] #[.pointer (some ⟨pw, 0, none⟩), .pointer (some ⟨pe, 0, none⟩)]]) :: (pe, 37, evC ⟨k, 10, aN, s, false⟩) :: (pi, 99, ci) :: (pw, 104, #[.pointer (some ⟨y.wp, 0, none⟩)]) :: (y.wp, 110, wpC y nr gw n cw v') :: (gw, 174, cur) :: (y.bp, 186, pipesA nr hv cl) :: (y.bl, 4, arrB y.lk lk) :: (y.bg, 3, arrI y.gr gr) :: Lr) ⟨v', E ++ [⟨k, 10, aN, s, false⟩], nr, hv, held⟩ := by
 have g3 : s < 0 := hcl
 have g1 : (aN : Int) < y.gr := by omega
 have g2 : (0 : Int) ≤ aN := by omega
 have HA := Lib.hid ha
 have HCL := Lib.hid hcl
 clear ha hcl
 go_enter Try.func108, Try.ntmps108
 go_wp2_with (first
   | go_big_skip
   | (refine om_box 8 #[Value.int .i64 10, .int .i64 (aN : Int), .int .i64 (f2 : Int), .int .i64 (f3 : Int)] M rfl rfl rfl rfl ?_; clear M; intro V p8 M; simp only [Act.put, kA, kZ, kS]; have c0 : V.cell? ⟨p8, 0, none⟩ = some (.int .i64 10) := (M.own.get 0 rfl).cell 0))
 have cw : ∀ (p : Later V) i, p.1.cell? ⟨y.wp, i, none⟩ = #[Value.pointer (some ⟨y.ps, 0, none⟩), .slice (some ⟨gw, 0, none⟩) n cw, .slice (some ⟨y.bp, 0, none⟩) nr nr, .slice (some ⟨y.bl, 0, none⟩) y.lk y.lk, .slice (some ⟨y.bg, 0, none⟩) y.gr y.gr, .slice (some ⟨y.bc, 0, none⟩) y.ce y.ce, evs][i]? := Later.cell (M.get 5 rfl)
 have ci : ∀ (p : Later V) i, p.1.cell? ⟨p8, i, none⟩ = #[Value.int .i64 10, .int .i64 (aN : Int), .int .i64 (f2 : Int), .int .i64 (f3 : Int)][i]? := Later.cell (M.get 0 rfl)
 have cg : ∀ p : Later V, p.1.cell? ⟨y.bg, aN, none⟩ = some (.int .i64 (gr aN)) := fun p => (Later.cell (M.get 9 rfl) p _).trans (arrI_get _ _ _ HA.out)
 have ak := add_zero_ y.bg aN
 refine wp_quiet_tail_later 14 (by kernel_rfl) (by kernel_rfl) ?_
 simp only [List.take, List.drop]
 repeat (first | go_big_quiet_skip | go_big_quiet_step (fail))
 refine kq fun p' => ?_
 replace M := M.keeps p'.2
 clear c0 cw ci cg ak
 generalize p'.1 = V at M ⊢
 go_wp2_with (first
   | go_big_skip
   | (refine at_store (.tmp 167) (.tmp 165) rfl ?_; refine om_store 2 3 (.int .i64 s) (.tmp 167) (.tmp 165) M rfl rfl rfl rfl rfl rfl (by show 3 < 5; omega) rfl rfl (by kernel_rfl) (cs' := evC ⟨k, 10, aN, s, false⟩) rfl ?_; clear M; intro V M; simp only [kZ, kS] at M; have ce0 : V.cell? ⟨pe, 3, none⟩ = some (.int .i64 s) := (M.get 2 rfl).cell 3)
   | (go_at_call 106; refine (fail_any M ⟨k, 10, aN, s, false⟩ (i := 4) (j := 2) (k := 5) (m := 1) rfl rfl rfl rfl hn 134).mono ?_; rintro ev V ⟨rfl, v', M⟩; have HM := Lib.hid M; clear M))
 first | exact ⟨rfl, _, HM.out.drop_ 1⟩ | exact ⟨rfl, rfl, _, HM.out.drop_ 1⟩ | exact ⟨_, rfl, _, HM.out.drop_ 1⟩
set_option maxRecDepth 100000 in
set_option maxHeartbeats 1000000 in
theorem sh_11  (M : OM w W ((pt, 1, #[Value.func (.func 105) #[] #[.pointer (some ⟨pw, 0, none⟩), .pointer (some ⟨pe, 0, none⟩)]]) :: (pe, 37, evC ⟨k, 11, aN, 0, false⟩) :: (pi, 99, ci) :: (pw, 104, #[.pointer (some ⟨y.wp, 0, none⟩)]) :: (y.wp, 110, wpC y nr gw n cw evs) :: (gw, 174, cur) :: (y.bp, 186, pipesA nr hv cl) :: (y.bl, 4, arrB y.lk lk) :: (y.bg, 3, arrI y.gr gr) :: Lr) ⟨evs, E, nr, hv, held⟩)  : Calls Try.prog 108 #[.pointer (some ⟨y.wp, 0, none⟩), .pointer (some ⟨gw, k * 10, none⟩), .agg #[Value.int .i64 11, .int .i64 (aN : Int), .int .i64 (f2 : Int), .int .i64 (f3 : Int)], .pointer (some ⟨pe, 0, none⟩), .int .i64 on, .func (.func 106) #[] #[.pointer (some ⟨pt, 0, none⟩)]] W fun ev W' => ev = (.returned (.int .i64 on)) ∧ OM w W' ((pt, 1, #[Value.func (.func 105) #[] #[.pointer (some ⟨pw, 0, none⟩), .pointer (some ⟨pe, 0, none⟩)]]) :: (pe, 37, evC ⟨k, 11, aN, 0, false⟩) :: (pi, 99, ci) :: (pw, 104, #[.pointer (some ⟨y.wp, 0, none⟩)]) :: (y.wp, 110, wpC y nr gw n cw evs) :: (gw, 174, cur) :: (y.bp, 186, pipesA nr hv cl) :: (y.bl, 4, arrB y.lk lk) :: (y.bg, 3, arrI y.gr gr) :: Lr) ⟨evs, E, nr, hv, held⟩ := by
 go_enter Try.func108, Try.ntmps108
 go_wp2_with (first
   | go_big_skip
   | (refine om_box 8 #[Value.int .i64 11, .int .i64 (aN : Int), .int .i64 (f2 : Int), .int .i64 (f3 : Int)] M rfl rfl rfl rfl ?_; clear M; intro V p8 M; simp only [Act.put, kA, kZ, kS]; have c0 : V.cell? ⟨p8, 0, none⟩ = some (.int .i64 11) := (M.own.get 0 rfl).cell 0))
 go_ret
 exact ⟨rfl, M.drop_ 1⟩
set_option maxRecDepth 100000 in
set_option maxHeartbeats 1000000 in
theorem sh_5c  (M : OM w W ((pt, 1, #[Value.func (.func 105) #[] #[.pointer (some ⟨pw, 0, none⟩), .pointer (some ⟨pe, 0, none⟩)]]) :: (pe, 37, evC ⟨k, 5, aN, 0, false⟩) :: (pi, 99, ci) :: (pw, 104, #[.pointer (some ⟨y.wp, 0, none⟩)]) :: (y.wp, 110, wpC y nr gw n cw evs) :: (gw, 174, cur) :: (y.bp, 186, pipesA nr hv cl) :: (y.bl, 4, arrB y.lk lk) :: (y.bg, 3, arrI y.gr gr) :: Lr) ⟨evs, E, nr, hv, held⟩) (hn : E.length ≤ 100000) (ha : aN < nr) (hb : bN < 8) (hr : cur[k * 10 + 2 + bN]? = some (.int .i64 v0)) (hcl : cl aN = true) : Calls Try.prog 108 #[.pointer (some ⟨y.wp, 0, none⟩), .pointer (some ⟨gw, k * 10, none⟩), .agg #[Value.int .i64 5, .int .i64 (aN : Int), .int .i64 (bN : Int), .int .i64 (f3 : Int)], .pointer (some ⟨pe, 0, none⟩), .int .i64 on, .func (.func 106) #[] #[.pointer (some ⟨pt, 0, none⟩)]] W fun ev W' => ev = (.panicked [{ v := .iface 22 (.int .i64 131), recovered := false }]) ∧ ∃ v', OM w W' ((pt, 1, #[Value.func (.func 105) #[] #[.pointer (some ⟨pw, 0, none⟩), .pointer (some ⟨pe, 0, none⟩)]]) :: (pe, 37, evC ⟨k, 5, aN, v0, false⟩) :: (pi, 99, ci) :: (pw, 104, #[.pointer (some ⟨y.wp, 0, none⟩)]) :: (y.wp, 110, wpC y nr gw n cw v') :: (gw, 174, cur) :: (y.bp, 186, pipesA nr hv cl) :: (y.bl, 4, arrB y.lk lk) :: (y.bg, 3, arrI y.gr gr) :: Lr) ⟨v', E ++ [⟨k, 5, aN, v0, false⟩], nr, hv, held⟩ := by
 have g1 : (aN : Int) < nr := by omega
 have g2 : (0 : Int) ≤ aN := by omega
 have HA := Lib.hid ha
 have HCL := Lib.hid hcl
 clear ha hcl
 have g3 : (bN : Int) < 8 := by omega
 have g4 : (0 : Int) ≤ bN := by omega
 have HR := Lib.hid hr
 clear hr hb
 go_enter Try.func108, Try.ntmps108
 go_wp2_with (first
   | go_big_skip
   | (refine om_box 8 #[Value.int .i64 5, .int .i64 (aN : Int), .int .i64 (bN : Int), .int .i64 (f3 : Int)] M rfl rfl rfl rfl ?_; clear M; intro V p8 M; simp only [Act.put, kA, kZ, kS]; have c0 : V.cell? ⟨p8, 0, none⟩ = some (.int .i64 5) := (M.own.get 0 rfl).cell 0))
 have cw : ∀ (p : Later V) i, p.1.cell? ⟨y.wp, i, none⟩ = #[Value.pointer (some ⟨y.ps, 0, none⟩), .slice (some ⟨gw, 0, none⟩) n cw, .slice (some ⟨y.bp, 0, none⟩) nr nr, .slice (some ⟨y.bl, 0, none⟩) y.lk y.lk, .slice (some ⟨y.bg, 0, none⟩) y.gr y.gr, .slice (some ⟨y.bc, 0, none⟩) y.ce y.ce, evs][i]? := Later.cell (M.get 5 rfl)
 have ci : ∀ (p : Later V) i, p.1.cell? ⟨p8, i, none⟩ = #[Value.int .i64 5, .int .i64 (aN : Int), .int .i64 (bN : Int), .int .i64 (f3 : Int)][i]? := Later.cell (M.get 0 rfl)
 have ak := add_zero_ y.bp (aN * 2)
 refine wp_quiet_later (by kernel_rfl) (by kernel_rfl) ?_
 repeat (first | go_big_quiet_skip | go_big_quiet_step (fail))
 refine kq fun p' => ?_
 replace M := M.keeps p'.2
 clear cw ci
 generalize p'.1 = V at M ⊢
 go_wp2_with (first | go_big_skip)
 have ci : ∀ (p : Later V) i, p.1.cell? ⟨p8, i, none⟩ = #[Value.int .i64 5, .int .i64 (aN : Int), .int .i64 (bN : Int), .int .i64 (f3 : Int)][i]? := Later.cell (M.get 0 rfl)
 have cr : ∀ p : Later V, p.1.cell? ⟨gw, k * 10 + 2 + bN, none⟩ = some (.int .i64 v0) := fun p => (Later.cell (M.get 6 rfl) p _).trans HR.out
 refine wp_quiet_tail_later 10 (by kernel_rfl) (by kernel_rfl) ?_
 simp only [List.take, List.drop]
 repeat (first | go_big_quiet_skip | go_big_quiet_step (fail))
 refine kq fun p' => ?_
 replace M := M.keeps p'.2
 clear ci cr
 generalize p'.1 = V at M ⊢
 go_wp2_with (first
   | go_big_skip
   | (refine at_store (.tmp 35) (.tmp 33) rfl ?_; refine om_store 2 3 (.int .i64 v0) (.tmp 35) (.tmp 33) M rfl rfl rfl rfl rfl rfl (by show 3 < 5; omega) rfl rfl (by kernel_rfl) (cs' := evC ⟨k, 5, aN, v0, false⟩) rfl ?_; clear M; intro V M; simp only [kZ, kS] at M; have cp0 : V.cell? ⟨y.bp, aN * 2 + 1, none⟩ = some (.bool true) := ((M.get 7 rfl).cell _).trans ((pipesA_cl _ _ _ _ HA.out).trans (by rw [HCL.out])))
   | (go_at_call 106; refine (fail_any M ⟨k, 5, aN, v0, false⟩ (i := 4) (j := 2) (k := 5) (m := 1) rfl rfl rfl rfl hn 131).mono ?_; rintro ev V ⟨rfl, v', M⟩; have HM := Lib.hid M; clear M))
 first | exact ⟨rfl, _, HM.out.drop_ 1⟩ | exact ⟨rfl, rfl, _, HM.out.drop_ 1⟩ | exact ⟨_, rfl, _, HM.out.drop_ 1⟩
set_option maxRecDepth 100000 in
set_option maxHeartbeats 1000000 in
theorem sh_5o  (M : OM w W ((pt, 1, #[Value.func (.func 105) #[] #[.pointer (some ⟨pw, 0, none⟩), .pointer (some ⟨pe, 0, none⟩)]]) :: (pe, 37, evC ⟨k, 5, aN, 0, false⟩) :: (pi, 99, ci) :: (pw, 104, #[.pointer (some ⟨y.wp, 0, none⟩)]) :: (y.wp, 110, wpC y nr gw n cw evs) :: (gw, 174, cur) :: (y.bp, 186, pipesA nr hv cl) :: (y.bl, 4, arrB y.lk lk) :: (y.bg, 3, arrI y.gr gr) :: Lr) ⟨evs, E, nr, hv, held⟩) (hl : (held aN).length ≤ 1000000) (ha : aN < nr) (hb : bN < 8) (hr : cur[k * 10 + 2 + bN]? = some (.int .i64 v0)) (hcl : cl aN = false) : Calls Try.prog 108 #[.pointer (some ⟨y.wp, 0, none⟩), .pointer (some ⟨gw, k * 10, none⟩), .agg #[Value.int .i64 5, .int .i64 (aN : Int), .int .i64 (bN : Int), .int .i64 (f3 : Int)], .pointer (some ⟨pe, 0, none⟩), .int .i64 on, .func (.func 106) #[] #[.pointer (some ⟨pt, 0, none⟩)]] W fun ev W' => ev = (.returned (.int .i64 on)) ∧ ∃ v', OM w W' ((pt, 1, #[Value.func (.func 105) #[] #[.pointer (some ⟨pw, 0, none⟩), .pointer (some ⟨pe, 0, none⟩)]]) :: (pe, 37, evC ⟨k, 5, aN, v0, false⟩) :: (pi, 99, ci) :: (pw, 104, #[.pointer (some ⟨y.wp, 0, none⟩)]) :: (y.wp, 110, wpC y nr gw n cw evs) :: (gw, 174, cur) :: (y.bp, 186, pipesA nr (updN hv aN v') cl) :: (y.bl, 4, arrB y.lk lk) :: (y.bg, 3, arrI y.gr gr) :: Lr) ⟨evs, E, nr, updN hv aN v', updN held aN (held aN ++ [v0])⟩ := by
 have g1 : (aN : Int) < nr := by omega
 have g2 : (0 : Int) ≤ aN := by omega
 have HA := Lib.hid ha
 have HCL := Lib.hid hcl
 clear ha hcl
 have g3 : (bN : Int) < 8 := by omega
 have g4 : (0 : Int) ≤ bN := by omega
 have HR := Lib.hid hr
 have HL := Lib.hid hl
 clear hr hb hl
 go_enter Try.func108, Try.ntmps108
 go_wp2_with (first
   | go_big_skip
   | (refine om_box 8 #[Value.int .i64 5, .int .i64 (aN : Int), .int .i64 (bN : Int), .int .i64 (f3 : Int)] M rfl rfl rfl rfl ?_; clear M; intro V p8 M; simp only [Act.put, kA, kZ, kS]; have c0 : V.cell? ⟨p8, 0, none⟩ = some (.int .i64 5) := (M.own.get 0 rfl).cell 0))
 have cw : ∀ (p : Later V) i, p.1.cell? ⟨y.wp, i, none⟩ = #[Value.pointer (some ⟨y.ps, 0, none⟩), .slice (some ⟨gw, 0, none⟩) n cw, .slice (some ⟨y.bp, 0, none⟩) nr nr, .slice (some ⟨y.bl, 0, none⟩) y.lk y.lk, .slice (some ⟨y.bg, 0, none⟩) y.gr y.gr, .slice (some ⟨y.bc, 0, none⟩) y.ce y.ce, evs][i]? := Later.cell (M.get 5 rfl)
 have ci : ∀ (p : Later V) i, p.1.cell? ⟨p8, i, none⟩ = #[Value.int .i64 5, .int .i64 (aN : Int), .int .i64 (bN : Int), .int .i64 (f3 : Int)][i]? := Later.cell (M.get 0 rfl)
 have ak := add_zero_ y.bp (aN * 2)
 refine wp_quiet_later (by kernel_rfl) (by kernel_rfl) ?_
 repeat (first | go_big_quiet_skip | go_big_quiet_step (fail))
 refine kq fun p' => ?_
 replace M := M.keeps p'.2
 clear cw ci
 generalize p'.1 = V at M ⊢
 go_wp2_with (first | go_big_skip)
 have ci : ∀ (p : Later V) i, p.1.cell? ⟨p8, i, none⟩ = #[Value.int .i64 5, .int .i64 (aN : Int), .int .i64 (bN : Int), .int .i64 (f3 : Int)][i]? := Later.cell (M.get 0 rfl)
 have cr : ∀ p : Later V, p.1.cell? ⟨gw, k * 10 + 2 + bN, none⟩ = some (.int .i64 v0) := fun p => (Later.cell (M.get 6 rfl) p _).trans HR.out
 refine wp_quiet_tail_later 10 (by kernel_rfl) (by kernel_rfl) ?_
 simp only [List.take, List.drop]
 repeat (first | go_big_quiet_skip | go_big_quiet_step (fail))
 refine kq fun p' => ?_
 replace M := M.keeps p'.2
 clear ci cr
 generalize p'.1 = V at M ⊢
 go_wp2_with (first
   | go_big_skip
   | (refine at_store (.tmp 35) (.tmp 33) rfl ?_; refine om_store 2 3 (.int .i64 v0) (.tmp 35) (.tmp 33) M rfl rfl rfl rfl rfl rfl (by show 3 < 5; omega) rfl rfl (by kernel_rfl) (cs' := evC ⟨k, 5, aN, v0, false⟩) rfl ?_; clear M; intro V M; simp only [kZ, kS] at M; have cp0 : V.cell? ⟨y.bp, aN * 2 + 1, none⟩ = some (.bool false) := ((M.get 7 rfl).cell _).trans ((pipesA_cl _ _ _ _ HA.out).trans (by rw [HCL.out]))))
 have HQ := Lib.hid (show ∀ u, Own w u [] ((p8, 99, #[Value.int .i64 5, .int .i64 (aN : Int), .int .i64 (bN : Int), .int .i64 (f3 : Int)]) :: (pt, 1, #[Value.func (.func 105) #[] #[.pointer (some ⟨pw, 0, none⟩), .pointer (some ⟨pe, 0, none⟩)]]) :: (pe, 37, evC ⟨k, 5, aN, v0, false⟩) :: (pi, 99, ci) :: (pw, 104, #[.pointer (some ⟨y.wp, 0, none⟩)]) :: (y.wp, 110, wpC y nr gw n cw evs) :: (gw, 174, cur) :: (y.bp, 186, pipesA nr hv cl) :: (y.bl, 4, arrB y.lk lk) :: (y.bg, 3, arrI y.gr gr) :: Lr) → u.cell? ⟨y.bp, aN * 2, none⟩ = some (hv aN) ∧ u.cell? ⟨pe, 3, none⟩ = some (.int .i64 v0) from fun u O => ⟨((O.get 7 rfl).cell _).trans (pipesA_hv _ _ _ _ HA.out), (O.get 2 rfl).cell 3⟩)
 refine wp_headH (S := fun u => Own w u [] ((p8, 99, #[Value.int .i64 5, .int .i64 (aN : Int), .int .i64 (bN : Int), .int .i64 (f3 : Int)]) :: (pt, 1, #[Value.func (.func 105) #[] #[.pointer (some ⟨pw, 0, none⟩), .pointer (some ⟨pe, 0, none⟩)]]) :: (pe, 37, evC ⟨k, 5, aN, v0, false⟩) :: (pi, 99, ci) :: (pw, 104, #[.pointer (some ⟨y.wp, 0, none⟩)]) :: (y.wp, 110, wpC y nr gw n cw evs) :: (gw, 174, cur) :: (y.bp, 186, pipesA nr hv cl) :: (y.bl, 4, arrB y.lk lk) :: (y.bg, 3, arrI y.gr gr) :: Lr)) 11 (by kernel_rfl) (by kernel_rfl) ?_
 replace M := M.keeps (Keeps.refl _ _).drew
 clear cp0
 refine ah_take (f := 2) (L' := #[true, true, true, true, true, true, true, true, true, false, false, false, false, false]) (by first | exact M.own | exact M.own.drop_ 1) [0, 1, 2, 3, 4, 5, 6, 7, 8] [_, _, _, _, _, _, _, _, _] _ _ rfl (by decide) (by kernel_rfl) ?_
 simp only [List.getElem_toArray, List.getElem_cons_zero, List.getElem_cons_succ]
 repeat (first
   | (refine take_pure (v := ?_) (by rfl) ?_ ?_; rotate_left; (· (intro w hSw; have q := HQ.out _ hSw; have q1 := q.1; have q2 := q.2; clear hSw q; go_simp; try with_reducible rfl)); simp only [Act.put, kA, kZ, kS]))
 refine takeA_done ?_
 refine ah_sole 9 #[true, true, true, true, true, true, true, true, true, true, false, false, false, false] rfl (by decide) (by kernel_rfl) ?_
 try simp only [List.getElem_toArray, List.getElem_cons_zero, List.getElem_cons_succ]
 go_wp2_with (refine om_lit_int 51 v0 M rfl rfl rfl rfl ?_; clear M; intro V gl M; simp only [Act.put, kA, kZ, kS])
 (first | refine backA_intro2 (by first | exact M.own | exact M.own.drop_ 1) ?_ | refine backA_intro (by first | exact M.own | exact M.own.drop_ 1) ?_)
 refine ah_sole 10 #[true, true, true, true, true, true, true, true, true, true, true, false, false, false] rfl (by decide) (by kernel_rfl) ?_
 try simp only [List.getElem_toArray, List.getElem_cons_zero, List.getElem_cons_succ]
 go_wp2_with (at_builtin; refine om_push v0 gl aN (.tmp 46) (.tmp 51) M rfl rfl HA.out rfl rfl HL.out ?_; clear M; intro A' m' c' V M; simp only [Act.put, kA, kZ, kS])
 (first | refine backA_intro2 (by first | exact M.own | exact M.own.drop_ 1) ?_ | refine backA_intro (by first | exact M.own | exact M.own.drop_ 1) ?_)
 refine ah_tail (by kernel_rfl) ?_
 try simp only [List.drop]
 go_wp2_with (first
   | go_big_skip
   | (refine at_store (.tmp 54) (.tmp 52) rfl ?_; refine om_store 7 (aN * 2) (.slice A' m' c') (.tmp 54) (.tmp 52) M rfl rfl rfl rfl rfl rfl (by have := HA.out; rw [pipesA_size]; omega) rfl rfl (by kernel_rfl) (pipesA_setH _ _ _ _ _) ?_; clear M; intro V M; simp only [kZ, kS] at M))
 refine np_intro ?_
 go_wp2
 go_ret
 exact ⟨rfl, _, M.drop_ 1⟩
set_option maxRecDepth 100000 in
set_option maxHeartbeats 1000000 in
theorem sh_6n  (M : OM w W ((pt, 1, #[Value.func (.func 105) #[] #[.pointer (some ⟨pw, 0, none⟩), .pointer (some ⟨pe, 0, none⟩)]]) :: (pe, 37, evC ⟨k, 6, aN, 0, false⟩) :: (pi, 99, ci) :: (pw, 104, #[.pointer (some ⟨y.wp, 0, none⟩)]) :: (y.wp, 110, wpC y nr gw n cw evs) :: (gw, 174, cur) :: (y.bp, 186, pipesA nr hv cl) :: (y.bl, 4, arrB y.lk lk) :: (y.bg, 3, arrI y.gr gr) :: Lr) ⟨evs, E, nr, hv, held⟩) {A0 : Option Addr} {c1 : Nat} (hh : hv aN = .slice A0 0 c1) (ha : aN < nr) : Calls Try.prog 108 #[.pointer (some ⟨y.wp, 0, none⟩), .pointer (some ⟨gw, k * 10, none⟩), .agg #[Value.int .i64 6, .int .i64 (aN : Int), .int .i64 (f2 : Int), .int .i64 (on2 : Int)], .pointer (some ⟨pe, 0, none⟩), .int .i64 on, .func (.func 106) #[] #[.pointer (some ⟨pt, 0, none⟩)]] W fun ev W' => ev = (.returned (.int .i64 on2)) ∧ OM w W' ((pt, 1, #[Value.func (.func 105) #[] #[.pointer (some ⟨pw, 0, none⟩), .pointer (some ⟨pe, 0, none⟩)]]) :: (pe, 37, evC ⟨k, 6, aN, 0, true⟩) :: (pi, 99, ci) :: (pw, 104, #[.pointer (some ⟨y.wp, 0, none⟩)]) :: (y.wp, 110, wpC y nr gw n cw evs) :: (gw, 174, cur) :: (y.bp, 186, pipesA nr hv cl) :: (y.bl, 4, arrB y.lk lk) :: (y.bg, 3, arrI y.gr gr) :: Lr) ⟨evs, E, nr, hv, held⟩ := by
 have g1 : (aN : Int) < nr := by omega
 have g2 : (0 : Int) ≤ aN := by omega
 have HA := Lib.hid ha
 have HH := Lib.hid hh
 clear ha hh
 go_enter Try.func108, Try.ntmps108
 go_wp2_with (first
   | go_big_skip
   | (refine om_box 8 #[Value.int .i64 6, .int .i64 (aN : Int), .int .i64 (f2 : Int), .int .i64 (on2 : Int)] M rfl rfl rfl rfl ?_; clear M; intro V p8 M; simp only [Act.put, kA, kZ, kS]; have c0 : V.cell? ⟨p8, 0, none⟩ = some (.int .i64 6) := (M.own.get 0 rfl).cell 0))
 have cw : ∀ (p : Later V) i, p.1.cell? ⟨y.wp, i, none⟩ = #[Value.pointer (some ⟨y.ps, 0, none⟩), .slice (some ⟨gw, 0, none⟩) n cw, .slice (some ⟨y.bp, 0, none⟩) nr nr, .slice (some ⟨y.bl, 0, none⟩) y.lk y.lk, .slice (some ⟨y.bg, 0, none⟩) y.gr y.gr, .slice (some ⟨y.bc, 0, none⟩) y.ce y.ce, evs][i]? := Later.cell (M.get 5 rfl)
 have ci : ∀ (p : Later V) i, p.1.cell? ⟨p8, i, none⟩ = #[Value.int .i64 6, .int .i64 (aN : Int), .int .i64 (f2 : Int), .int .i64 (on2 : Int)][i]? := Later.cell (M.get 0 rfl)
 have ak := add_zero_ y.bp (aN * 2)
 refine wp_quiet_later (by kernel_rfl) (by kernel_rfl) ?_
 repeat (first | go_big_quiet_skip | go_big_quiet_step (fail))
 refine kq fun p' => ?_
 replace M := M.keeps p'.2
 clear cw ci
 generalize p'.1 = V at M ⊢
 have ch0 : V.cell? ⟨y.bp, aN * 2, none⟩ = some (.slice A0 0 c1) := ((M.get 7 rfl).cell _).trans ((pipesA_hv _ _ _ _ HA.out).trans (by rw [HH.out]))
 have ci0 : V.cell? ⟨p8, 3, none⟩ = some (.int .i64 on2) := (M.get 0 rfl).cell 3
 clear c0
 go_wp2_with (first
   | go_big_skip
   | (refine at_store (.tmp 72) (.const (.bool true)) rfl ?_; refine om_store 2 4 (.bool true) (.tmp 72) (.const (.bool true)) M rfl rfl rfl rfl rfl rfl (by show 4 < 5; omega) rfl rfl (by kernel_rfl) (cs' := evC ⟨k, 6, aN, 0, true⟩) rfl ?_; clear M ci0; intro V M; simp only [kZ, kS] at M; have ci0 : V.cell? ⟨p8, 3, none⟩ = some (.int .i64 on2) := (M.get 0 rfl).cell 3))
 go_ret
 exact ⟨rfl, M.drop_ 1⟩
set_option maxRecDepth 100000 in
set_option maxHeartbeats 1000000 in
theorem sh_6a  (M : OM w W ((pt, 1, #[Value.func (.func 105) #[] #[.pointer (some ⟨pw, 0, none⟩), .pointer (some ⟨pe, 0, none⟩)]]) :: (pe, 37, evC ⟨k, 6, aN, 0, false⟩) :: (pi, 99, ci) :: (pw, 104, #[.pointer (some ⟨y.wp, 0, none⟩)]) :: (y.wp, 110, wpC y nr gw n cw evs) :: (gw, 174, cur) :: (y.bp, 186, pipesA nr hv cl) :: (y.bl, 4, arrB y.lk lk) :: (y.bg, 3, arrI y.gr gr) :: Lr) ⟨evs, E, nr, hv, held⟩) {g off cc : Nat} {x : Int} {l : List Int} (hh : hv aN = .slice (some ⟨g, off, none⟩) (l.length + 1) cc) (hx : held aN = x :: l) (hc : cc = 1) (ha : aN < nr) (hb : bN < 8) (hk : k < nn) (hC : WhoC cur nn rs) : Calls Try.prog 108 #[.pointer (some ⟨y.wp, 0, none⟩), .pointer (some ⟨gw, k * 10, none⟩), .agg #[Value.int .i64 6, .int .i64 (aN : Int), .int .i64 (bN : Int), .int .i64 (f3 : Int)], .pointer (some ⟨pe, 0, none⟩), .int .i64 on, .func (.func 106) #[] #[.pointer (some ⟨pt, 0, none⟩)]] W fun ev W' => ev = (.returned (.int .i64 on)) ∧ ∃ v' cur', WhoC cur' nn (fun j => if j = k then setReg (rs k) bN x else rs j) ∧ cur'.size = cur.size ∧ OM w W' ((pt, 1, #[Value.func (.func 105) #[] #[.pointer (some ⟨pw, 0, none⟩), .pointer (some ⟨pe, 0, none⟩)]]) :: (pe, 37, evC ⟨k, 6, aN, x, false⟩) :: (pi, 99, ci) :: (pw, 104, #[.pointer (some ⟨y.wp, 0, none⟩)]) :: (y.wp, 110, wpC y nr gw n cw evs) :: (gw, 174, cur') :: (y.bp, 186, pipesA nr (updN hv aN v') cl) :: (y.bl, 4, arrB y.lk lk) :: (y.bg, 3, arrI y.gr gr) :: Lr) ⟨evs, E, nr, updN hv aN v', updN held aN l⟩ := by
 have g1 : (aN : Int) < nr := by omega
 have g2 : (0 : Int) ≤ aN := by omega
 have g3 : (bN : Int) < 8 := by omega
 have g4 : (0 : Int) ≤ bN := by omega
 have g5 : (0 : Int) < (l.length + 1 : Nat) := by omega
 have HA := Lib.hid ha
 have HH := Lib.hid hh
 have HX := Lib.hid hx
 have HK := Lib.hid hk
 have HB := Lib.hid hb
 have HC := Lib.hid hC
 clear ha hh hx hb hk hC
 go_enter Try.func108, Try.ntmps108
 go_wp2_with (first
   | go_big_skip
   | (refine om_box 8 #[Value.int .i64 6, .int .i64 (aN : Int), .int .i64 (bN : Int), .int .i64 (f3 : Int)] M rfl rfl rfl rfl ?_; clear M; intro V p8 M; simp only [Act.put, kA, kZ, kS]; have c0 : V.cell? ⟨p8, 0, none⟩ = some (.int .i64 6) := (M.own.get 0 rfl).cell 0))
 have cw : ∀ (p : Later V) i, p.1.cell? ⟨y.wp, i, none⟩ = #[Value.pointer (some ⟨y.ps, 0, none⟩), .slice (some ⟨gw, 0, none⟩) n cw, .slice (some ⟨y.bp, 0, none⟩) nr nr, .slice (some ⟨y.bl, 0, none⟩) y.lk y.lk, .slice (some ⟨y.bg, 0, none⟩) y.gr y.gr, .slice (some ⟨y.bc, 0, none⟩) y.ce y.ce, evs][i]? := Later.cell (M.get 5 rfl)
 have ci : ∀ (p : Later V) i, p.1.cell? ⟨p8, i, none⟩ = #[Value.int .i64 6, .int .i64 (aN : Int), .int .i64 (bN : Int), .int .i64 (f3 : Int)][i]? := Later.cell (M.get 0 rfl)
 have ak := add_zero_ y.bp (aN * 2)
 refine wp_quiet_later (by kernel_rfl) (by kernel_rfl) ?_
 repeat (first | go_big_quiet_skip | go_big_quiet_step (fail))
 refine kq fun p' => ?_
 replace M := M.keeps p'.2
 clear cw ci
 generalize p'.1 = V at M ⊢
 have HQ := Lib.hid (show HRow w.heap.size V (.slice (some ⟨g, off, none⟩) (l.length + 1) cc) (x :: l) from by have h : HRow w.heap.size V (hv aN) (held aN) := M.hr aN HA.out; rw [HX.out] at h; rw [HH.out] at h; exact h)
 have ch0 : V.cell? ⟨y.bp, aN * 2, none⟩ = some (.slice (some ⟨g, off, none⟩) (l.length + 1) cc) := ((M.get 7 rfl).cell _).trans ((pipesA_hv _ _ _ _ HA.out).trans (by rw [HH.out]))
 have cx : V.cell? ⟨g, off, none⟩ = some (.int .i64 x) := HRow.head HQ.out
 clear c0
 go_wp2_with (first
   | go_big_skip
   | (refine at_store (.tmp 83) (.tmp 81) rfl ?_; refine om_store 2 3 (.int .i64 x) (.tmp 83) (.tmp 81) M rfl rfl rfl rfl rfl rfl (by show 3 < 5; omega) rfl rfl (by kernel_rfl) (cs' := evC ⟨k, 6, aN, x, false⟩) rfl ?_; clear M ch0 cx HQ; intro V M; simp only [kZ, kS] at M))
 have ci : ∀ (p : Later V) i, p.1.cell? ⟨p8, i, none⟩ = #[Value.int .i64 6, .int .i64 (aN : Int), .int .i64 (bN : Int), .int .i64 (f3 : Int)][i]? := Later.cell (M.get 0 rfl)
 have ce : ∀ (p : Later V) i, p.1.cell? ⟨pe, i, none⟩ = #[Value.int .i64 (k : Int), .int .i64 6, .int .i64 (aN : Int), .int .i64 x, .bool false][i]? := Later.cell (M.get 2 rfl)
 refine wp_quiet_tail_later 10 (by kernel_rfl) (by kernel_rfl) ?_
 simp only [List.take, List.drop]
 repeat (first | go_big_quiet_skip | go_big_quiet_step (fail))
 refine kq fun p' => ?_
 replace M := M.keeps p'.2
 clear ci ce
 generalize p'.1 = V at M ⊢
 have g6 := hc
 have HC6 := Lib.hid hc
 clear hc
 go_wp2_with (first
   | go_big_skip
   | (refine at_store (.tmp 93) (.tmp 90) rfl ?_; refine om_store 6 (k * 10 + 2 + bN) (.int .i64 x) (.tmp 93) (.tmp 90) M rfl rfl rfl rfl rfl rfl (by have := HC.out.lt HK.out (f := 2 + bN) (by have := HB.out; omega); omega) rfl rfl (by kernel_rfl) rfl ?_; clear M; intro V M; simp only [kZ, kS] at M; have ch0 : V.cell? ⟨y.bp, aN * 2, none⟩ = some (.slice (some ⟨g, off, none⟩) (l.length + 1) cc) := ((M.get 7 rfl).cell _).trans ((pipesA_hv _ _ _ _ HA.out).trans (by rw [HH.out])); have HQ := Lib.hid (show HRow w.heap.size V (.slice (some ⟨g, off, none⟩) (l.length + 1) cc) (x :: l) from by have h : HRow w.heap.size V (hv aN) (held aN) := M.hr aN HA.out; rw [HX.out] at h; rw [HH.out] at h; exact h))
   | (refine at_store (.tmp 101) (.tmp 99) rfl ?_; refine om_store 7 (aN * 2) (.slice (some ⟨g, off, none⟩) l.length 0) (.tmp 101) (.tmp 99) (M.pop HA.out (HRow.pop_sh_6a HC6.out HQ.out) (by show _ = (hv aN).ownBlock; rw [HH.out]; rfl)) rfl rfl rfl rfl rfl rfl (by have := HA.out; rw [pipesA_size]; omega) rfl rfl (by kernel_rfl) (pipesA_setH _ _ _ _ _) ?_; clear M; intro V M; simp only [kZ, kS] at M))
 go_ret
 exact ⟨rfl, _, _, HC.out.set_reg _ HK.out HB.out, by simp, M.drop_ 1⟩
set_option maxRecDepth 100000 in
set_option maxHeartbeats 1000000 in
theorem sh_6b  (M : OM w W ((pt, 1, #[Value.func (.func 105) #[] #[.pointer (some ⟨pw, 0, none⟩), .pointer (some ⟨pe, 0, none⟩)]]) :: (pe, 37, evC ⟨k, 6, aN, 0, false⟩) :: (pi, 99, ci) :: (pw, 104, #[.pointer (some ⟨y.wp, 0, none⟩)]) :: (y.wp, 110, wpC y nr gw n cw evs) :: (gw, 174, cur) :: (y.bp, 186, pipesA nr hv cl) :: (y.bl, 4, arrB y.lk lk) :: (y.bg, 3, arrI y.gr gr) :: Lr) ⟨evs, E, nr, hv, held⟩) {g off cc : Nat} {x : Int} {l : List Int} (hh : hv aN = .slice (some ⟨g, off, none⟩) (l.length + 1) cc) (hx : held aN = x :: l) (hc : 1 < cc) (ha : aN < nr) (hb : bN < 8) (hk : k < nn) (hC : WhoC cur nn rs) : Calls Try.prog 108 #[.pointer (some ⟨y.wp, 0, none⟩), .pointer (some ⟨gw, k * 10, none⟩), .agg #[Value.int .i64 6, .int .i64 (aN : Int), .int .i64 (bN : Int), .int .i64 (f3 : Int)], .pointer (some ⟨pe, 0, none⟩), .int .i64 on, .func (.func 106) #[] #[.pointer (some ⟨pt, 0, none⟩)]] W fun ev W' => ev = (.returned (.int .i64 on)) ∧ ∃ v' cur', WhoC cur' nn (fun j => if j = k then setReg (rs k) bN x else rs j) ∧ cur'.size = cur.size ∧ OM w W' ((pt, 1, #[Value.func (.func 105) #[] #[.pointer (some ⟨pw, 0, none⟩), .pointer (some ⟨pe, 0, none⟩)]]) :: (pe, 37, evC ⟨k, 6, aN, x, false⟩) :: (pi, 99, ci) :: (pw, 104, #[.pointer (some ⟨y.wp, 0, none⟩)]) :: (y.wp, 110, wpC y nr gw n cw evs) :: (gw, 174, cur') :: (y.bp, 186, pipesA nr (updN hv aN v') cl) :: (y.bl, 4, arrB y.lk lk) :: (y.bg, 3, arrI y.gr gr) :: Lr) ⟨evs, E, nr, updN hv aN v', updN held aN l⟩ := by
 have g1 : (aN : Int) < nr := by omega
 have g2 : (0 : Int) ≤ aN := by omega
 have g3 : (bN : Int) < 8 := by omega
 have g4 : (0 : Int) ≤ bN := by omega
 have g5 : (0 : Int) < (l.length + 1 : Nat) := by omega
 have HA := Lib.hid ha
 have HH := Lib.hid hh
 have HX := Lib.hid hx
 have HK := Lib.hid hk
 have HB := Lib.hid hb
 have HC := Lib.hid hC
 clear ha hh hx hb hk hC
 go_enter Try.func108, Try.ntmps108
 go_wp2_with (first
   | go_big_skip
   | (refine om_box 8 #[Value.int .i64 6, .int .i64 (aN : Int), .int .i64 (bN : Int), .int .i64 (f3 : Int)] M rfl rfl rfl rfl ?_; clear M; intro V p8 M; simp only [Act.put, kA, kZ, kS]; have c0 : V.cell? ⟨p8, 0, none⟩ = some (.int .i64 6) := (M.own.get 0 rfl).cell 0))
 have cw : ∀ (p : Later V) i, p.1.cell? ⟨y.wp, i, none⟩ = #[Value.pointer (some ⟨y.ps, 0, none⟩), .slice (some ⟨gw, 0, none⟩) n cw, .slice (some ⟨y.bp, 0, none⟩) nr nr, .slice (some ⟨y.bl, 0, none⟩) y.lk y.lk, .slice (some ⟨y.bg, 0, none⟩) y.gr y.gr, .slice (some ⟨y.bc, 0, none⟩) y.ce y.ce, evs][i]? := Later.cell (M.get 5 rfl)
 have ci : ∀ (p : Later V) i, p.1.cell? ⟨p8, i, none⟩ = #[Value.int .i64 6, .int .i64 (aN : Int), .int .i64 (bN : Int), .int .i64 (f3 : Int)][i]? := Later.cell (M.get 0 rfl)
 have ak := add_zero_ y.bp (aN * 2)
 refine wp_quiet_later (by kernel_rfl) (by kernel_rfl) ?_
 repeat (first | go_big_quiet_skip | go_big_quiet_step (fail))
 refine kq fun p' => ?_
 replace M := M.keeps p'.2
 clear cw ci
 generalize p'.1 = V at M ⊢
 have HQ := Lib.hid (show HRow w.heap.size V (.slice (some ⟨g, off, none⟩) (l.length + 1) cc) (x :: l) from by have h : HRow w.heap.size V (hv aN) (held aN) := M.hr aN HA.out; rw [HX.out] at h; rw [HH.out] at h; exact h)
 have ch0 : V.cell? ⟨y.bp, aN * 2, none⟩ = some (.slice (some ⟨g, off, none⟩) (l.length + 1) cc) := ((M.get 7 rfl).cell _).trans ((pipesA_hv _ _ _ _ HA.out).trans (by rw [HH.out]))
 have cx : V.cell? ⟨g, off, none⟩ = some (.int .i64 x) := HRow.head HQ.out
 clear c0
 go_wp2_with (first
   | go_big_skip
   | (refine at_store (.tmp 83) (.tmp 81) rfl ?_; refine om_store 2 3 (.int .i64 x) (.tmp 83) (.tmp 81) M rfl rfl rfl rfl rfl rfl (by show 3 < 5; omega) rfl rfl (by kernel_rfl) (cs' := evC ⟨k, 6, aN, x, false⟩) rfl ?_; clear M ch0 cx HQ; intro V M; simp only [kZ, kS] at M))
 have ci : ∀ (p : Later V) i, p.1.cell? ⟨p8, i, none⟩ = #[Value.int .i64 6, .int .i64 (aN : Int), .int .i64 (bN : Int), .int .i64 (f3 : Int)][i]? := Later.cell (M.get 0 rfl)
 have ce : ∀ (p : Later V) i, p.1.cell? ⟨pe, i, none⟩ = #[Value.int .i64 (k : Int), .int .i64 6, .int .i64 (aN : Int), .int .i64 x, .bool false][i]? := Later.cell (M.get 2 rfl)
 refine wp_quiet_tail_later 10 (by kernel_rfl) (by kernel_rfl) ?_
 simp only [List.take, List.drop]
 repeat (first | go_big_quiet_skip | go_big_quiet_step (fail))
 refine kq fun p' => ?_
 replace M := M.keeps p'.2
 clear ci ce
 generalize p'.1 = V at M ⊢
 have g6 := hc
 have HC6 := Lib.hid hc
 clear hc
 go_wp2_with (first
   | go_big_skip
   | (refine at_store (.tmp 93) (.tmp 90) rfl ?_; refine om_store 6 (k * 10 + 2 + bN) (.int .i64 x) (.tmp 93) (.tmp 90) M rfl rfl rfl rfl rfl rfl (by have := HC.out.lt HK.out (f := 2 + bN) (by have := HB.out; omega); omega) rfl rfl (by kernel_rfl) rfl ?_; clear M; intro V M; simp only [kZ, kS] at M; have ch0 : V.cell? ⟨y.bp, aN * 2, none⟩ = some (.slice (some ⟨g, off, none⟩) (l.length + 1) cc) := ((M.get 7 rfl).cell _).trans ((pipesA_hv _ _ _ _ HA.out).trans (by rw [HH.out])); have HQ := Lib.hid (show HRow w.heap.size V (.slice (some ⟨g, off, none⟩) (l.length + 1) cc) (x :: l) from by have h : HRow w.heap.size V (hv aN) (held aN) := M.hr aN HA.out; rw [HX.out] at h; rw [HH.out] at h; exact h))
   | (refine at_store (.tmp 101) (.tmp 99) rfl ?_; refine om_store 7 (aN * 2) (.slice (some ⟨g, off + 1, none⟩) l.length (cc - 1)) (.tmp 101) (.tmp 99) (M.pop HA.out (HRow.pop_sh_6b HC6.out HQ.out) (by show _ = (hv aN).ownBlock; rw [HH.out]; rfl)) rfl rfl rfl rfl rfl rfl (by have := HA.out; rw [pipesA_size]; omega) rfl rfl (by kernel_rfl) (pipesA_setH _ _ _ _ _) ?_; clear M; intro V M; simp only [kZ, kS] at M))
 go_ret
 exact ⟨rfl, _, _, HC.out.set_reg _ HK.out HB.out, by simp, M.drop_ 1⟩
end
open Go.RowKit Go.Maps Go.Deep
def InW (w W : World) (S : Sys) (A : Option Addr) (c : Nat) (R : Option Addr) (d : Nat) (y : Ly) (Lr : List Ent) (P : PW) : Prop :=
 ∃ gw cw cur evs hv, OM w W ((y.wp, 110, wpC y S.nr gw P.n cw evs) :: (gw, 174, cur) :: (y.bp, 186, pipesA S.nr hv P.cl) :: (y.bl, 4, arrB y.lk P.lk) :: (y.bg, 3, arrI y.gr P.gr) :: (y.bc, 3, arrI y.ce P.ce) :: (y.ps, 27, sysV S A c R d) :: Lr) ⟨evs, P.ev, S.nr, hv, P.held⟩ ∧ WhoC cur P.n P.rs ∧ P.n ≤ cw ∧ cw ≤ maxLen ∧ cur.size = cw * 10
theorem WhoC.congr {cur : Array Value} {n : Nat} {rs rs' : Nat → Rn} (h : WhoC cur n rs) (e : ∀ k, k < n → rs k = rs' k) : WhoC cur n rs' := fun k hk f hf => by rw [← e k hk]; exact h k hk f hf
open Go.RowKit Go.Maps Go.Deep
theorem Own.join {w W W' : World} {L L' : List Ent} (O : Own w W [] L) (O' : Own W W' [] L') : Own w W' [] (L' ++ L) := by
 have far : ∀ q ∈ L', W.heap.size ≤ q.1 := fun q hq => by
   rcases Nat.lt_or_ge q.1 W.heap.size with h | h
   · exact absurd (O'.new q hq h) (by simp)
   · exact h
 have low : ∀ q ∈ L, q.1 < W.heap.size := fun q hq => (O.blk q hq).lt
 refine ⟨O.keep.trans O'.keep (by simp), fun q hq => ?_, fun q hq hlt => ?_, ?_⟩
 · rcases List.mem_append.1 hq with hq | hq
   · exact O'.blk q hq
   · exact (O.blk q hq).keeps O'.keep (by simp)
 · rcases List.mem_append.1 hq with hq | hq
   · have h1 := far q hq
     have h2 := O.keep.size
     omega
   · exact O.new q hq hlt
 · rw [List.map_append, List.nodup_append]
   refine ⟨O'.nd, O.nd, fun x hx y hy => ?_⟩
   obtain ⟨q, hq, rfl⟩ := List.mem_map.1 hx
   obtain ⟨p, hp, rfl⟩ := List.mem_map.1 hy
   have h1 := far q hq
   have h2 := low p hp
   omega
theorem made_R : madeCells (Value.agg (rnC ⟨0, 0, fun _ => 0⟩)).cells 10 = rnC ⟨0, 0, fun _ => 0⟩ := by kernel_rfl
theorem made_P (n : Nat) : madeCells (Value.agg #[.slice none 0 0, .bool false]).cells (n * 2) = pipesA n (fun _ => .slice none 0 0) (fun _ => false) := by
 apply Array.ext_getElem?
 intro j
 by_cases hj : j < n * 2
 · have h2 : j % 2 = 0 ∨ j % 2 = 1 := by omega
   rcases h2 with h2 | h2 <;> simp [madeCells, pipesA, hj, h2, Value.cells]
 · simp [madeCells, pipesA, hj]
theorem made_I' (n : Nat) : madeCells (Value.int .i64 0).cells (n * 1) = arrI n fun _ => 0 := by rw [Nat.mul_one]; exact made_I n
theorem made_B' (n : Nat) : madeCells (Value.bool false).cells (n * 1) = arrB n fun _ => false := by rw [Nat.mul_one]; exact made_B n
def TYf : Nat → Nat
 | 0 => 174
 | 1 => 186
 | 2 => 4
 | _ => 3
def CSf (S : Sys) (lk gr ce : Nat) : Nat → Array Value
 | 0 => rnC ⟨0, 0, fun _ => 0⟩
 | 1 => pipesA S.nr (fun _ => .slice none 0 0) (fun _ => false)
 | 2 => arrB lk fun _ => false
 | 3 => arrI gr fun _ => 0
 | _ => arrI ce fun _ => 0
def NNf (S : Sys) (lk gr ce : Nat) : Nat → Nat
 | 0 => 1
 | 1 => S.nr
 | 2 => lk
 | 3 => gr
 | _ => ce
def TMf (S : Sys) (lk gr ce : Nat) (j : Nat) (g : Option Nat) : Value := match g with | none => undef | some b => .slice (some ⟨b, 0, none⟩) (NNf S lk gr ce j) (NNf S lk gr ce j)
structure MK (w : World) (S : Sys) (lk gr ce : Nat) (gs : Nat → Option Nat) (u : World) : Prop where
 keep : Keeps w u []
 blk : ∀ j, j < 5 → ∀ g, gs j = some g → w.heap.size ≤ g ∧ Blk u g (TYf j) (CSf S lk gr ce j)
 nd : ∀ i j, i < 5 → j < 5 → i ≠ j → ∀ g, gs i = some g → gs j ≠ some g
theorem MK.add {w u v : World} {S : Sys} {lk gr ce : Nat} {gs : Nat → Option Nat} (h : MK w S lk gr ce gs u) (j : Nat) (hj : gs j = none) (k : Keeps u v []) (_hs : v.heap.size = u.heap.size + 1) (b : Blk v u.heap.size (TYf j) (CSf S lk gr ce j)) : MK w S lk gr ce (updN gs j (some u.heap.size)) v := by
 refine ⟨h.keep.trans k (by simp), fun i hi g hg => ?_, fun i i' hi hi' hne g hg hg' => ?_⟩
 · by_cases e : i = j
   · subst e
     rw [updN_same] at hg
     cases hg
     exact ⟨h.keep.size, b⟩
   · rw [updN_other _ _ _ _ e] at hg
     obtain ⟨h1, h2⟩ := h.blk i hi g hg
     exact ⟨h1, h2.keeps k (by simp)⟩
 · have old : ∀ i, i < 5 → i ≠ j → updN gs j (some u.heap.size) i = some g → g < u.heap.size := fun i hi e hg => by
     rw [updN_other _ _ _ _ e] at hg
     exact (h.blk i hi g hg).2.lt
   by_cases e : i = j
   · subst e
     rw [updN_same] at hg
     cases hg
     exact absurd (old i' hi' (fun e => hne e.symm) hg') (by omega)
   · by_cases e' : i' = j
     · subst e'
       rw [updN_same] at hg'
       cases hg'
       exact absurd (old i hi e hg) (by omega)
     · rw [updN_other _ _ _ _ e] at hg
       rw [updN_other _ _ _ _ e'] at hg'
       exact h.nd i i' hi hi' hne g hg hg'
theorem MK.owns {w u : World} {S : Sys} {lk gr ce : Nat} {gs : Nat → Option Nat} (h : MK w S lk gr ce gs u) {g0 g1 g2 g3 g4 : Nat} (e0 : gs 0 = some g0) (e1 : gs 1 = some g1) (e2 : gs 2 = some g2) (e3 : gs 3 = some g3) (e4 : gs 4 = some g4) :
   Own w u [] [(g0, 174, rnC ⟨0, 0, fun _ => 0⟩), (g1, 186, pipesA S.nr (fun _ => .slice none 0 0) (fun _ => false)), (g2, 4, arrB lk fun _ => false), (g3, 3, arrI gr fun _ => 0), (g4, 3, arrI ce fun _ => 0)] := by
 obtain ⟨a0, b0⟩ := h.blk 0 (by omega) _ e0
 obtain ⟨a1, b1⟩ := h.blk 1 (by omega) _ e1
 obtain ⟨a2, b2⟩ := h.blk 2 (by omega) _ e2
 obtain ⟨a3, b3⟩ := h.blk 3 (by omega) _ e3
 obtain ⟨a4, b4⟩ := h.blk 4 (by omega) _ e4
 have n : ∀ i j, i < 5 → j < 5 → i ≠ j → ∀ g g', gs i = some g → gs j = some g' → g ≠ g' := fun i j hi hj hne g g' hg hg' e => h.nd i j hi hj hne g hg (by rw [e]; exact hg')
 refine ⟨h.keep, fun q hq => ?_, fun q hq hlt => ?_, ?_⟩
 · simp only [List.mem_cons, List.not_mem_nil, or_false] at hq
   rcases hq with rfl | rfl | rfl | rfl | rfl
   · exact b0
   · exact b1
   · exact b2
   · exact b3
   · exact b4
 · simp only [List.mem_cons, List.not_mem_nil, or_false] at hq
   rcases hq with rfl | rfl | rfl | rfl | rfl <;> simp only at hlt <;> omega
 · have n01 := n 0 1 (by omega) (by omega) (by omega) _ _ e0 e1
   have n02 := n 0 2 (by omega) (by omega) (by omega) _ _ e0 e2
   have n03 := n 0 3 (by omega) (by omega) (by omega) _ _ e0 e3
   have n04 := n 0 4 (by omega) (by omega) (by omega) _ _ e0 e4
   have n12 := n 1 2 (by omega) (by omega) (by omega) _ _ e1 e2
   have n13 := n 1 3 (by omega) (by omega) (by omega) _ _ e1 e3
   have n14 := n 1 4 (by omega) (by omega) (by omega) _ _ e1 e4
   have n23 := n 2 3 (by omega) (by omega) (by omega) _ _ e2 e3
   have n24 := n 2 4 (by omega) (by omega) (by omega) _ _ e2 e4
   have n34 := n 3 4 (by omega) (by omega) (by omega) _ _ e3 e4
   simp [*]
section
variable {w : World} {S : Sys} {A : Option Addr} {c : Nat} {R : Option Addr} {d : Nat} {ps lk gr ce : Nat}
set_option maxRecDepth 100000 in
set_option maxHeartbeats 4000000 in
theorem begun_any (hB : Blk w ps 27 (sysV S A c R d)) (hnr : S.nr ≤ 1000) (hlk : S.lk = (lk : Int)) (hgr : S.gr = (gr : Int)) (hce : S.ce = (ce : Int)) (l1 : lk ≤ 1000) (l2 : gr ≤ 1000) (l3 : ce ≤ 1000) : Calls Try.prog 56 #[.pointer (some ⟨ps, 0, none⟩)] w fun e w' =>
   ∃ wp gw bp bl bg bc, e = .returned (.pointer (some ⟨wp, 0, none⟩)) ∧ Own w w' [] [(wp, 110, wpC ⟨ps, wp, bp, bl, bg, bc, lk, gr, ce⟩ S.nr gw 1 1 (.slice none 0 0)), (gw, 174, rnC ⟨0, 0, fun _ => 0⟩), (bp, 186, pipesA S.nr (fun _ => .slice none 0 0) (fun _ => false)), (bl, 4, arrB lk fun _ => false), (bg, 3, arrI gr fun _ => 0), (bc, 3, arrI ce fun _ => 0)] := by
 have HS := Lib.hid (fun u (k : Keeps w u []) i => ((hB.keeps k (by simp)).cell i).trans (show (sysV S A c R d)[i]? = #[Value.slice A S.np c, .slice R S.nr d, .int .i64 (gr : Int), .int .i64 (lk : Int), .int .i64 (ce : Int)][i]? by unfold sysV; rw [hlk, hgr, hce]))
 clear hB hlk hgr hce
 go_enter Try.func56, Try.ntmps56
 go_wp2
 refine wp_headH (S := fun u => ∀ i, u.cell? ⟨ps, i, none⟩ = #[Value.slice A S.np c, .slice R S.nr d, .int .i64 (gr : Int), .int .i64 (lk : Int), .int .i64 (ce : Int)][i]?) 23 (by kernel_rfl) (by kernel_rfl) ?_
 have HK := Lib.hid (show Keeps w w.drew [] from (Keeps.refl _ _).drew)
 refine ah_take (f := 5) (L' := #[true, false, true, true, true, true, true, false, true, true, true, true, false, true, true, true, true, false, true, true, true, true, false, false, false, false]) (HS.out _ HK.out) [0, 2, 3, 4, 5, 6, 8, 9, 10, 11, 13, 14, 15, 16, 18, 19, 20, 21] [_, _, _, _, _, _, _, _, _, _, _, _, _, _, _, _, _, _] _ _ rfl (by decide) (by kernel_rfl) ?_
 simp only [List.getElem_toArray, List.getElem_cons_zero, List.getElem_cons_succ]
 repeat (first
   | (refine take_pure (v := ?_) (by rfl) ?_ ?_; rotate_left; (· (intro w hSw; go_simp; try with_reducible rfl)); simp only [Act.put, kA, kZ, kS]))
 refine takeA_done ?_
 refine ah_makes 5 (fun j => match j with | 0 => 1 | 1 => 7 | 2 => 12 | 3 => 17 | _ => 22) (fun b => #[true, b 0, true, true, true, true, true, b 1, true, true, true, true, b 2, true, true, true, true, b 3, true, true, true, true, b 4, false, false, false]) (fun gs => { tmps := #[Value.pointer (some ⟨ps, 0, none⟩), undef, Value.pointer none, Value.pointer (some ⟨ps, 0, none⟩), TMf S lk gr ce 0 (gs 0), Value.pointer (some ⟨ps, 0, none⟩), Value.pointer (some ⟨ps, 0, none⟩), Value.pointer (some ⟨ps, 1, none⟩), Value.slice R S.nr d, Value.int .i64 (S.nr : Int), TMf S lk gr ce 1 (gs 1), Value.pointer (some ⟨ps, 0, none⟩), Value.pointer (some ⟨ps, 0, none⟩), Value.pointer (some ⟨ps, 3, none⟩), Value.int .i64 (lk : Int), TMf S lk gr ce 2 (gs 2), Value.pointer (some ⟨ps, 0, none⟩), Value.pointer (some ⟨ps, 0, none⟩), Value.pointer (some ⟨ps, 2, none⟩), Value.int .i64 (gr : Int), TMf S lk gr ce 3 (gs 3), Value.pointer (some ⟨ps, 0, none⟩), Value.pointer (some ⟨ps, 0, none⟩), Value.pointer (some ⟨ps, 4, none⟩), Value.int .i64 (ce : Int), TMf S lk gr ce 4 (gs 4), undef, undef], defers := [] }) (MK w S lk gr ce) (fun j hj => ?_) (fun b hb => ?_) (fun b j hj => ?_) (fun gs u h => HS.out u h.keep) (fun j hj => ?_) (fun gs u hall h => ?_) 5 (fun _ => none) _ rfl ⟨HK.out, fun j hj g h => (by cases h), fun i j _ _ _ g h => (by cases h)⟩
 · match j, hj with
   | 0, _ => decide
   | 1, _ => decide
   | 2, _ => decide
   | 3, _ => decide
   | 4, _ => decide
 · rw [show List.range 5 = [0, 1, 2, 3, 4] from rfl] at hb ⊢
   simp only [List.filter_cons, List.filter_nil] at hb ⊢
   generalize b 0 = b0 at hb ⊢
   generalize b 1 = b1 at hb ⊢
   generalize b 2 = b2 at hb ⊢
   generalize b 3 = b3 at hb ⊢
   generalize b 4 = b4 at hb ⊢
   cases b0 <;> cases b1 <;> cases b2 <;> cases b3 <;> cases b4 <;> first | (exact absurd rfl hb) | kernel_rfl
 · match j, hj with
   | 0, _ => simp [updN]
   | 1, _ => simp [updN]
   | 2, _ => simp [updN]
   | 3, _ => simp [updN]
   | 4, _ => simp [updN]
 · match j, hj with
   | 0, _ =>
     refine ⟨_, rfl, fun gs u K' HK hnone h => ?_⟩
     refine wpList_make 4 107 174 10 1 10 80 (.agg (rnC ⟨0, 0, fun _ => 0⟩)) rfl rfl rfl rfl Try.underlying107 (by kernel_rfl) (by decide) (by first | omega | decide) rfl fun v kp hsz hB => ?_
     have hA := h v u.heap.size (HK.add 0 hnone kp hsz (by rw [made_R] at hB; exact hB))
     simpa [Act.put, updN, TMf, NNf] using hA
   | 1, _ =>
     refine ⟨_, rfl, fun gs u K' HK hnone h => ?_⟩
     refine wpList_make 10 108 186 (S.nr * 2) S.nr 2 32 (.agg #[.slice none 0 0, .bool false]) rfl rfl rfl rfl Try.underlying108 (by kernel_rfl) (by decide) (by first | omega | decide) rfl fun v kp hsz hB => ?_
     have hA := h v u.heap.size (HK.add 1 hnone kp hsz (by rw [made_P S.nr] at hB; exact hB))
     simpa [Act.put, updN, TMf, NNf] using hA
   | 2, _ =>
     refine ⟨_, rfl, fun gs u K' HK hnone h => ?_⟩
     refine wpList_make 15 41 4 (lk * 1) lk 1 1 (.bool false) rfl rfl rfl rfl Try.underlying41 (by kernel_rfl) (by decide) (by first | omega | decide) rfl fun v kp hsz hB => ?_
     have hA := h v u.heap.size (HK.add 2 hnone kp hsz (by rw [made_B' lk] at hB; exact hB))
     simpa [Act.put, updN, TMf, NNf] using hA
   | 3, _ =>
     refine ⟨_, rfl, fun gs u K' HK hnone h => ?_⟩
     refine wpList_make 20 25 3 (gr * 1) gr 1 8 (.int .i64 0) rfl rfl rfl rfl Try.underlying25 (by kernel_rfl) (by decide) (by first | omega | decide) rfl fun v kp hsz hB => ?_
     have hA := h v u.heap.size (HK.add 3 hnone kp hsz (by rw [made_I' gr] at hB; exact hB))
     simpa [Act.put, updN, TMf, NNf] using hA
   | 4, _ =>
     refine ⟨_, rfl, fun gs u K' HK hnone h => ?_⟩
     refine wpList_make 25 25 3 (ce * 1) ce 1 8 (.int .i64 0) rfl rfl rfl rfl Try.underlying25 (by kernel_rfl) (by decide) (by first | omega | decide) rfl fun v kp hsz hB => ?_
     have hA := h v u.heap.size (HK.add 4 hnone kp hsz (by rw [made_I' ce] at hB; exact hB))
     simpa [Act.put, updN, TMf, NNf] using hA
 · obtain ⟨g0, e0⟩ := Option.isSome_iff_exists.1 (hall 0 (by omega))
   obtain ⟨g1, e1⟩ := Option.isSome_iff_exists.1 (hall 1 (by omega))
   obtain ⟨g2, e2⟩ := Option.isSome_iff_exists.1 (hall 2 (by omega))
   obtain ⟨g3, e3⟩ := Option.isSome_iff_exists.1 (hall 3 (by omega))
   obtain ⟨g4, e4⟩ := Option.isSome_iff_exists.1 (hall 4 (by omega))
   simp only [e0, e1, e2, e3, e4, Option.isSome_some, TMf, NNf]
   have O := h.owns e0 e1 e2 e3 e4
   refine ah_tail (by kernel_rfl) ?_
   simp only [List.drop]
   go_wp2_with (first
     | (refine wpList_const 26 (.agg (wpC ⟨ps, 0, g1, g2, g3, g4, lk, gr, ce⟩ S.nr g0 1 1 (.slice none 0 0))) rfl rfl (fun _ => by kernel_rfl) ?_; simp only [Act.put, kA, kZ, kS])
     | (refine own_box 27 _ O rfl rfl rfl rfl ?_; clear O; intro W wp O; simp only [Act.put, kA, kZ, kS])
     | go_big_skip)
   refine np_intro ?_
   go_wp2
   go_ret
   exact ⟨wp, g0, g1, g2, g3, g4, rfl, O⟩
end
open Go.RowKit Go.Maps Go.Deep
structure Sees (base : Nat) (W : World) (S : Sys) (A : Option Addr) (c : Nat) (R : Option Addr) (d : Nat) (y : Ly) (P : PW) (gw cw : Nat) (cur : Array Value) (evs : Value) (hv : Nat → Value) : Prop where
 wp : Blk W y.wp 110 (wpC y S.nr gw P.n cw evs)
 who : Blk W gw 174 cur
 bp : Blk W y.bp 186 (pipesA S.nr hv P.cl)
 bl : Blk W y.bl 4 (arrB y.lk P.lk)
 bg : Blk W y.bg 3 (arrI y.gr P.gr)
 ps : Blk W y.ps 27 (sysV S A c R d)
 sin : SysIn W S A c R d
 rel : WhoC cur P.n P.rs
 held : ∀ c, c < S.nr → HRow base W (hv c) (P.held c)
theorem Mint.apart {base : Nat} {W : World} {v : Value} {xs : List Int} (h : Mint base W v xs) {g t : Nat} {cs : Array Value} (hB : Blk W g t cs) (ht : t ≠ 3) : ∀ b, v.ownBlock = some b → b ∉ [g] := fun b hb hm => by
 obtain ⟨_, _, cur, hcur⟩ := h.own hb
 obtain rfl : b = g := by simpa using hm
 rw [Blk, hcur] at hB
 injection hB with hB
 injection hB with _ h1 _
 exact ht h1.symm
section
variable {base : Nat} {w W : World} {S : Sys} {A : Option Addr} {c : Nat} {R : Option Addr} {d : Nat} {y : Ly} {P : PW} {gw cw : Nat} {cur : Array Value} {evs : Value} {hv : Nat → Value}
theorem Sees.kept {u : World} (h : Sees base W S A c R d y P gw cw cur evs hv) (k : Keeps W u []) : Sees base u S A c R d y P gw cw cur evs hv :=
 ⟨h.wp.keeps k (by simp), h.who.keeps k (by simp), h.bp.keeps k (by simp), h.bl.keeps k (by simp), h.bg.keeps k (by simp), h.ps.keeps k (by simp), h.sin.kept k, h.rel, fun c hc => (h.held c hc).keeps k (by simp)⟩
def readyI (S : Sys) (P : PW) (m : Nat) : List Int := (readyN S P m).map fun (x : Nat) => (x : Int)
theorem readyI_length (S : Sys) (P : PW) (m : Nat) : (readyI S P m).length ≤ m := by unfold readyI; rw [List.length_map]; exact readyN_length S P m
set_option maxRecDepth 100000 in
set_option maxHeartbeats 2000000 in
theorem ready_any (h : Sees base w S A c R d y P gw cw cur evs hv) (hvd : validB S = true) (hr : RInv S P) (hlk : S.lk = (y.lk : Int)) (hgr : S.gr = (y.gr : Int)) (hn : P.n ≤ 100000) : Calls Try.prog 90 #[.pointer (some ⟨y.wp, 0, none⟩)] w fun e w' =>
   (∃ v, e = .returned (.tuple #[v, .bool (endedN S P P.n)]) ∧ Mint w.heap.size w' v (readyI S P P.n)) ∧ Keeps w w' [] := by
 have O := Own.start w []
 have HN := Lib.hid (fun u (K : Keeps w u []) k (hk : k < P.n) => wnext_any (h.kept K).wp (h.kept K).who (h.kept K).ps (h.kept K).sin h.rel hk (hr k hk))
 have HC := Lib.hid (fun u (K : Keeps w u []) k f (hk : k < P.n) (hf : instP S (P.rs k) = some f) => wcan_any (h.kept K).wp (h.kept K).bp (h.kept K).bl (h.kept K).bg (h.kept K).ps (h.kept K).sin (h.kept K).held hlk hgr f (right_of hvd (hr k hk) hf))
 have c1 : w.cell? ⟨y.wp, 1, none⟩ = some (.slice (some ⟨gw, 0, none⟩) P.n cw) := h.wp.cell 1
 have HW := Lib.hid h.wp
 clear h hvd hr hlk hgr
 have HR := Lib.hid (fun m => readyI_length S P m)
 have HRS := Lib.hid (show ∀ k, readyI S P (k + 1) = readyI S P k ++ (match instP S (P.rs k) with | some f => if canP S P f = true then [(k : Int)] else [] | none => []) from fun k => by
   unfold readyI
   simp only [readyN, List.map_append]
   congr 1
   cases instP S (P.rs k) with
   | none => rfl
   | some f => by_cases hx : canP S P f = true <;> simp [hx])
 have HES := Lib.hid (show ∀ k, endedN S P (k + 1) = (endedN S P k && (instP S (P.rs k)).isNone) from fun k => rfl)
 have HR0 := Lib.hid (show readyI S P 0 = [] from rfl)
 have HE0 := Lib.hid (show endedN S P 0 = true from rfl)
 generalize readyI S P = rd at HR HRS HR0 ⊢
 generalize endedN S P = en at HES HE0 ⊢
 generalize hPn : P.n = n at *
 clear hPn
 have g0 : n ≤ 100000 := hn
 clear hn
 go_enter Try.func90, Try.ntmps90
 go_wp2
 clear c1
 go_loopw [14, 4, 5] (fun i v b wr => ∃ k : Nat, k ≤ n ∧ i = .int .i64 k ∧ b = .bool (en k) ∧ Own w wr [] [] ∧ Mint w.heap.size wr v (rd k)) (fun i _ _ _ => n - (intOf i).toNat)
 case atStart => exact ⟨0, by omega, rfl, by rw [HE0.out], O, by rw [HR0.out]; exact Mint.nil _ _⟩
 case round =>
   obtain ⟨k, hk, rfl, rfl, O, M⟩ := hrel
   by_cases hlt : k < n
   · have g1 : ((k : Int)) < n := by omega
     have g2 : (0 : Int) ≤ k := by omega
     have c1 : wr.cell? ⟨y.wp, 1, none⟩ = some (.slice (some ⟨gw, 0, none⟩) n cw) := (HW.out.keeps O.keep (by simp)).cell 1
     have ak := add_zero_ gw (k * 10)
     cases hi : instP S (P.rs k) with
     | none =>
       have HR1 := Lib.hid (show rd (k + 1) = rd k by rw [HRS.out, hi]; simp)
       have HE1 := Lib.hid (show en (k + 1) = en k by rw [HES.out, hi]; simp)
       have HNk := Lib.hid (show ∀ u, Keeps w u [] → Calls Try.prog 103 #[.pointer (some ⟨y.wp, 0, none⟩), .pointer (some ⟨gw, k * 10, none⟩)] u fun e W' => e = .returned (.tuple #[.agg (instC fun _ => 0), .bool false]) ∧ Keeps u W' [] from fun u K => by have := HN.out u K k hlt; rwa [hi] at this)
       clear hi
       go_wp2_with (first
         | go_big_skip
         | (go_at_call 103; refine (HNk.out _ O.keep).mono ?_; rintro e W ⟨rfl, K⟩; replace O := O.keeps K; replace M := M.keeps K (by simp); clear K c1)
         | (refine own_allocK 7 (instC fun _ => 0) O rfl rfl rfl (fun _ => by kernel_rfl) ?_; clear O; intro W a7 O K1 hg; replace M := M.keeps K1 (by simp); clear K1 hg; simp only [Act.put, kA, kZ, kS])
         | (refine own_store_rowK 0 (.tmp 7) (.tmp 26) (cs' := instC fun _ => 0) O rfl rfl rfl rfl rfl rfl (by kernel_rfl) (by rfl) (instC_cell _) ?_; have HA := Lib.hid (M.apart (O.get 0 rfl) (by decide)); clear O; intro W O K1; replace M := M.keeps K1 HA.out; clear K1 HA; simp only [kZ] at O))
       go_roundw
       case rel => exact ⟨k + 1, by omega, by go_num, by rw [HE1.out], O.drop_ 1, by rw [HR1.out]; exact M⟩
       case measure => (simp [intOf] <;> omega)
     | some f =>
       have HNk := Lib.hid (show ∀ u, Keeps w u [] → Calls Try.prog 103 #[.pointer (some ⟨y.wp, 0, none⟩), .pointer (some ⟨gw, k * 10, none⟩)] u fun e W' => e = .returned (.tuple #[.agg (instC f), .bool true]) ∧ Keeps u W' [] from fun u K => by have := HN.out u K k hlt; rwa [hi] at this)
       have HE1 := Lib.hid (show en (k + 1) = false by rw [HES.out, hi]; simp)
       have HCk := Lib.hid (fun u K => HC.out u K k f hlt hi)
       have HR1 := Lib.hid (show rd (k + 1) = rd k ++ (if canP S P f = true then [(k : Int)] else []) by rw [HRS.out, hi])
       clear hi
       generalize canP S P f = b at HCk HR1
       cases b with
       | false =>
         go_wp2_with (first
         | go_big_skip
         | (go_at_call 103; refine (HNk.out _ O.keep).mono ?_; rintro e W ⟨rfl, K⟩; replace O := O.keeps K; replace M := M.keeps K (by simp); clear K c1)
         | (refine own_allocK 7 (instC fun _ => 0) O rfl rfl rfl (fun _ => by kernel_rfl) ?_; clear O; intro W a7 O K1 hg; replace M := M.keeps K1 (by simp); clear K1 hg; simp only [Act.put, kA, kZ, kS])
         | (refine own_store_rowK 0 (.tmp 7) (.tmp 26) (cs' := instC f) O rfl rfl rfl rfl rfl rfl (by kernel_rfl) (by rfl) (instC_cell _) ?_; have HA := Lib.hid (M.apart (O.get 0 rfl) (by decide)); clear O; intro W O K1; replace M := M.keeps K1 HA.out; clear K1 HA; simp only [kZ] at O)
         | (refine own_load 31 0 O rfl rfl rfl rfl rfl Try.underlying99 rfl (by kernel_rfl) ?_; simp only [Act.put, kA, kZ, kS])
         | (go_at_call 104; refine (HCk.out _ O.keep).mono ?_; rintro e W ⟨rfl, K⟩; replace O := O.keeps K; replace M := M.keeps K (by simp); clear K))
         go_roundw
         case rel => exact ⟨k + 1, by omega, by go_num, by rw [HE1.out], O.drop_ 1, by rw [HR1.out]; simpa using M⟩
         case measure => (simp [intOf] <;> omega)
       | true =>
         go_wp2_with (first
         | go_big_skip
         | (go_at_call 103; refine (HNk.out _ O.keep).mono ?_; rintro e W ⟨rfl, K⟩; replace O := O.keeps K; replace M := M.keeps K (by simp); clear K c1)
         | (refine own_allocK 7 (instC fun _ => 0) O rfl rfl rfl (fun _ => by kernel_rfl) ?_; clear O; intro W a7 O K1 hg; replace M := M.keeps K1 (by simp); clear K1 hg; simp only [Act.put, kA, kZ, kS])
         | (refine own_store_rowK 0 (.tmp 7) (.tmp 26) (cs' := instC f) O rfl rfl rfl rfl rfl rfl (by kernel_rfl) (by rfl) (instC_cell _) ?_; have HA := Lib.hid (M.apart (O.get 0 rfl) (by decide)); clear O; intro W O K1; replace M := M.keeps K1 HA.out; clear K1 HA; simp only [kZ] at O)
         | (refine own_load 31 0 O rfl rfl rfl rfl rfl Try.underlying99 rfl (by kernel_rfl) ?_; simp only [Act.put, kA, kZ, kS])
         | (go_at_call 104; refine (HCk.out _ O.keep).mono ?_; rintro e W ⟨rfl, K⟩; replace O := O.keeps K; replace M := M.keeps K (by simp); clear K)
         | (refine own_lit1 35 (k : Int) O rfl rfl rfl rfl ?_; clear O; intro W gl O K1 hg; replace M := M.keeps K1 (by simp); clear K1 hg; simp only [Act.put, kA, kZ, kS])
         | (at_builtin; (refine own_app w.heap.size _ (rd k) (k : Int) gl (.tmp 33) (.tmp 35) (O.drop_ 2) M rfl rfl rfl rfl ((O.get 0 rfl).cell 0) rfl (by simp) (by have := HR.out k; omega) ?_; clear O M; intro v1 W O M; simp only [Act.put, kA, kZ, kS])))
         go_roundw
         case rel => exact ⟨k + 1, by omega, by go_num, by rw [HE1.out], O, by rw [HR1.out]; simpa using M⟩
         case measure => (simp [intOf] <;> omega)
   · obtain rfl : k = n := by omega
     go_wp2
     go_returns
     exact ⟨⟨_, rfl, M⟩, O.keep⟩
end
end Go.Proofs.Ytakmcpadkanggaa
