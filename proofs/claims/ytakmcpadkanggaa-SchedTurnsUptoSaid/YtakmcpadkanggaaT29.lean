/-
  What can be done (sched's can).
-/
import Derived.Test.YtakmcpadkanggaaT28
namespace Go.Proofs.Ytakmcpadkanggaa
open Go.RowKit Go.Maps Go.Deep

section
variable {w W : World} {S : Sys} {A : Option Addr} {c : Nat} {R : Option Addr} {d : Nat} {y : Ly} {gw n cw base : Nat} {cur : Array Value} {evs : Value} {rs : Nat → Rn} {hv : Nat → Value} {cl : Nat → Bool} {lk : Int → Bool} {gr : Int → Int}
set_option maxRecDepth 100000 in
theorem wcan_5c (hw : Blk W y.wp 110 (wpC y S.nr gw n cw evs)) (hb : Blk W y.bp 186 (pipesA S.nr hv cl)) {aN : Nat} (ha : aN < S.nr) (hcl : cl aN = true) (f2 f3 : Int) : Calls Try.prog 104 #[.pointer (some ⟨y.wp, 0, none⟩), .agg #[.int .i64 5, .int .i64 (aN : Int), .int .i64 f2, .int .i64 f3]] W fun e W' => e = .returned (.bool (true)) ∧ Keeps W W' [] := by
  have O := Own.start W []
  have HW := Lib.hid hw
  have HB := Lib.hid hb
  have g1 : (aN : Int) < S.nr := by omega
  have g2 : (0 : Int) ≤ aN := by omega
  clear hw hb
  go_enter Try.func104, Try.ntmps104
  go_wp2_with (first
    | go_big_skip
    | (refine own_box 3 #[Value.int .i64 5, .int .i64 (aN : Int), .int .i64 f2, .int .i64 f3] O rfl rfl rfl rfl ?_; clear O; intro V a3 O; simp only [Act.put, List.setIfInBounds_toArray, List.set_cons_zero, List.set_cons_succ]; have c0 : V.cell? ⟨a3, 0, none⟩ = some (.int .i64 5) := (O.get 0 rfl).cell 0))
  have K0 := O.keep
  have cw : ∀ (p : Later V) i, p.1.cell? ⟨y.wp, i, none⟩ = #[Value.pointer (some ⟨y.ps, 0, none⟩), .slice (some ⟨gw, 0, none⟩) n cw, .slice (some ⟨y.bp, 0, none⟩) S.nr S.nr, .slice (some ⟨y.bl, 0, none⟩) y.lk y.lk, .slice (some ⟨y.bg, 0, none⟩) y.gr y.gr, .slice (some ⟨y.bc, 0, none⟩) y.ce y.ce, evs][i]? := Later.cell (HW.out.keeps K0 (by simp))
  have ci : ∀ (p : Later V) i, p.1.cell? ⟨a3, i, none⟩ = #[Value.int .i64 5, .int .i64 (aN : Int), .int .i64 f2, .int .i64 f3][i]? := Later.cell (O.get 0 rfl)
  have cp : ∀ p : Later V, p.1.cell? ⟨y.bp, aN * 2 + 1, none⟩ = some (.bool true) := fun p => (Later.cell (HB.out.keeps K0 (by simp)) p _).trans ((pipesA_cl _ _ _ _ ha).trans (by rw [hcl]))
  have ak := add_zero_ y.bp (aN * 2)
  refine wp_quiet_later (by kernel_rfl) (by kernel_rfl) ?_
  repeat (first
    | go_big_quiet_skip
    | go_big_quiet_step (fail))
  refine wpQuiet_nil ?_
  intro _ hw
  obtain ⟨p', rfl⟩ := hw
  replace O := O.keeps p'.2
  clear c0 cw ci K0 cp ak
  generalize p'.1 = V at O ⊢
  go_wp2
  go_ret
  exact ⟨rfl, O.keep⟩

set_option maxRecDepth 100000 in
theorem wcan_6c (hw : Blk W y.wp 110 (wpC y S.nr gw n cw evs)) (hb : Blk W y.bp 186 (pipesA S.nr hv cl)) {aN : Nat} (ha : aN < S.nr) (hcl : cl aN = true) (f2 f3 : Int) : Calls Try.prog 104 #[.pointer (some ⟨y.wp, 0, none⟩), .agg #[.int .i64 6, .int .i64 (aN : Int), .int .i64 f2, .int .i64 f3]] W fun e W' => e = .returned (.bool (true)) ∧ Keeps W W' [] := by
  have O := Own.start W []
  have HW := Lib.hid hw
  have HB := Lib.hid hb
  have g1 : (aN : Int) < S.nr := by omega
  have g2 : (0 : Int) ≤ aN := by omega
  clear hw hb
  go_enter Try.func104, Try.ntmps104
  go_wp2_with (first
    | go_big_skip
    | (refine own_box 3 #[Value.int .i64 6, .int .i64 (aN : Int), .int .i64 f2, .int .i64 f3] O rfl rfl rfl rfl ?_; clear O; intro V a3 O; simp only [Act.put, List.setIfInBounds_toArray, List.set_cons_zero, List.set_cons_succ]; have c0 : V.cell? ⟨a3, 0, none⟩ = some (.int .i64 6) := (O.get 0 rfl).cell 0))
  have K0 := O.keep
  have cw : ∀ (p : Later V) i, p.1.cell? ⟨y.wp, i, none⟩ = #[Value.pointer (some ⟨y.ps, 0, none⟩), .slice (some ⟨gw, 0, none⟩) n cw, .slice (some ⟨y.bp, 0, none⟩) S.nr S.nr, .slice (some ⟨y.bl, 0, none⟩) y.lk y.lk, .slice (some ⟨y.bg, 0, none⟩) y.gr y.gr, .slice (some ⟨y.bc, 0, none⟩) y.ce y.ce, evs][i]? := Later.cell (HW.out.keeps K0 (by simp))
  have ci : ∀ (p : Later V) i, p.1.cell? ⟨a3, i, none⟩ = #[Value.int .i64 6, .int .i64 (aN : Int), .int .i64 f2, .int .i64 f3][i]? := Later.cell (O.get 0 rfl)
  have cp : ∀ p : Later V, p.1.cell? ⟨y.bp, aN * 2 + 1, none⟩ = some (.bool true) := fun p => (Later.cell (HB.out.keeps K0 (by simp)) p _).trans ((pipesA_cl _ _ _ _ ha).trans (by rw [hcl]))
  have ak := add_zero_ y.bp (aN * 2)
  refine wp_quiet_later (by kernel_rfl) (by kernel_rfl) ?_
  repeat (first
    | go_big_quiet_skip
    | go_big_quiet_step (fail))
  refine wpQuiet_nil ?_
  intro _ hw
  obtain ⟨p', rfl⟩ := hw
  replace O := O.keeps p'.2
  clear c0 cw ci K0 cp ak
  generalize p'.1 = V at O ⊢
  go_wp2
  go_ret
  exact ⟨rfl, O.keep⟩

set_option maxRecDepth 100000 in
theorem wcan_6o (hw : Blk W y.wp 110 (wpC y S.nr gw n cw evs)) (hb : Blk W y.bp 186 (pipesA S.nr hv cl)) {aN : Nat} (ha : aN < S.nr) (hcl : cl aN = false) {L c0' : Nat} {A0 : Option Addr} (hh : hv aN = .slice A0 L c0') (f2 f3 : Int) : Calls Try.prog 104 #[.pointer (some ⟨y.wp, 0, none⟩), .agg #[.int .i64 6, .int .i64 (aN : Int), .int .i64 f2, .int .i64 f3]] W fun e W' => e = .returned (.bool (decide (0 < L))) ∧ Keeps W W' [] := by
  have O := Own.start W []
  have HW := Lib.hid hw
  have HB := Lib.hid hb
  have g1 : (aN : Int) < S.nr := by omega
  have g2 : (0 : Int) ≤ aN := by omega
  clear hw hb
  go_enter Try.func104, Try.ntmps104
  go_wp2_with (first
    | go_big_skip
    | (refine own_box 3 #[Value.int .i64 6, .int .i64 (aN : Int), .int .i64 f2, .int .i64 f3] O rfl rfl rfl rfl ?_; clear O; intro V a3 O; simp only [Act.put, List.setIfInBounds_toArray, List.set_cons_zero, List.set_cons_succ]; have c0 : V.cell? ⟨a3, 0, none⟩ = some (.int .i64 6) := (O.get 0 rfl).cell 0))
  have K0 := O.keep
  have cw : ∀ (p : Later V) i, p.1.cell? ⟨y.wp, i, none⟩ = #[Value.pointer (some ⟨y.ps, 0, none⟩), .slice (some ⟨gw, 0, none⟩) n cw, .slice (some ⟨y.bp, 0, none⟩) S.nr S.nr, .slice (some ⟨y.bl, 0, none⟩) y.lk y.lk, .slice (some ⟨y.bg, 0, none⟩) y.gr y.gr, .slice (some ⟨y.bc, 0, none⟩) y.ce y.ce, evs][i]? := Later.cell (HW.out.keeps K0 (by simp))
  have ci : ∀ (p : Later V) i, p.1.cell? ⟨a3, i, none⟩ = #[Value.int .i64 6, .int .i64 (aN : Int), .int .i64 f2, .int .i64 f3][i]? := Later.cell (O.get 0 rfl)
  have cp : ∀ p : Later V, p.1.cell? ⟨y.bp, aN * 2 + 1, none⟩ = some (.bool false) := fun p => (Later.cell (HB.out.keeps K0 (by simp)) p _).trans ((pipesA_cl _ _ _ _ ha).trans (by rw [hcl]))
  have ak := add_zero_ y.bp (aN * 2)
  have ch : ∀ p : Later V, p.1.cell? ⟨y.bp, aN * 2, none⟩ = some (.slice A0 L c0') := fun p => (Later.cell (HB.out.keeps K0 (by simp)) p _).trans ((pipesA_hv _ _ _ _ ha).trans (by rw [hh]))
  refine wp_quiet_later (by kernel_rfl) (by kernel_rfl) ?_
  repeat (first
    | go_big_quiet_skip
    | go_big_quiet_step (fail))
  refine wpQuiet_nil ?_
  intro _ hw
  obtain ⟨p', rfl⟩ := hw
  replace O := O.keeps p'.2
  clear c0 cw ci K0 cp ak ch
  generalize p'.1 = V at O ⊢
  go_wp2
  go_ret
  exact ⟨rfl, O.keep⟩

set_option maxRecDepth 100000 in
theorem wcan_5o (hw : Blk W y.wp 110 (wpC y S.nr gw n cw evs)) (hb : Blk W y.bp 186 (pipesA S.nr hv cl)) (hs : Blk W y.ps 27 (sysV S A c R d)) (hS : SysIn W S A c R d) {aN : Nat} (ha : aN < S.nr) (hcl : cl aN = false) {L c0' : Nat} {A0 : Option Addr} (hh : hv aN = .slice A0 L c0') (f2 f3 : Int) : Calls Try.prog 104 #[.pointer (some ⟨y.wp, 0, none⟩), .agg #[.int .i64 5, .int .i64 (aN : Int), .int .i64 f2, .int .i64 f3]] W fun e W' => e = .returned (.bool (decide ((L : Int) < S.rm aN))) ∧ Keeps W W' [] := by
  have O := Own.start W []
  have HW := Lib.hid hw
  have HB := Lib.hid hb
  have g1 : (aN : Int) < S.nr := by omega
  have g2 : (0 : Int) ≤ aN := by omega
  obtain ⟨rd, rfl, hrb, hrc⟩ := hS.rooms (by omega)
  have HRB := Lib.hid hrb
  have HR := Lib.hid hrc
  have HS := Lib.hid hs
  clear hw hb hs hS hrb hrc
  go_enter Try.func104, Try.ntmps104
  go_wp2_with (first
    | go_big_skip
    | (refine own_box 3 #[Value.int .i64 5, .int .i64 (aN : Int), .int .i64 f2, .int .i64 f3] O rfl rfl rfl rfl ?_; clear O; intro V a3 O; simp only [Act.put, List.setIfInBounds_toArray, List.set_cons_zero, List.set_cons_succ]; have c0 : V.cell? ⟨a3, 0, none⟩ = some (.int .i64 5) := (O.get 0 rfl).cell 0))
  have K0 := O.keep
  have cw : ∀ (p : Later V) i, p.1.cell? ⟨y.wp, i, none⟩ = #[Value.pointer (some ⟨y.ps, 0, none⟩), .slice (some ⟨gw, 0, none⟩) n cw, .slice (some ⟨y.bp, 0, none⟩) S.nr S.nr, .slice (some ⟨y.bl, 0, none⟩) y.lk y.lk, .slice (some ⟨y.bg, 0, none⟩) y.gr y.gr, .slice (some ⟨y.bc, 0, none⟩) y.ce y.ce, evs][i]? := Later.cell (HW.out.keeps K0 (by simp))
  have ci : ∀ (p : Later V) i, p.1.cell? ⟨a3, i, none⟩ = #[Value.int .i64 5, .int .i64 (aN : Int), .int .i64 f2, .int .i64 f3][i]? := Later.cell (O.get 0 rfl)
  have cp : ∀ p : Later V, p.1.cell? ⟨y.bp, aN * 2 + 1, none⟩ = some (.bool false) := fun p => (Later.cell (HB.out.keeps K0 (by simp)) p _).trans ((pipesA_cl _ _ _ _ ha).trans (by rw [hcl]))
  have ak := add_zero_ y.bp (aN * 2)
  have ch : ∀ p : Later V, p.1.cell? ⟨y.bp, aN * 2, none⟩ = some (.slice A0 L c0') := fun p => (Later.cell (HB.out.keeps K0 (by simp)) p _).trans ((pipesA_hv _ _ _ _ ha).trans (by rw [hh]))
  have cs : ∀ (p : Later V) i, p.1.cell? ⟨y.ps, i, none⟩ = #[Value.slice A S.np c, .slice (some rd) S.nr d, .int .i64 S.gr, .int .i64 S.lk, .int .i64 S.ce][i]? := Later.cell (HS.out.keeps K0 (by simp))
  have cr : ∀ p : Later V, p.1.cell? (rd.add aN) = some (.int .i64 (S.rm aN)) := fun p => ((K0.trans p.2 (by simp)).cellAt (by rw [add_block]; exact HRB.out) (by simp)).trans (HR.out aN ha)
  refine wp_quiet_later (by kernel_rfl) (by kernel_rfl) ?_
  repeat (first
    | go_big_quiet_skip
    | go_big_quiet_step (fail))
  refine wpQuiet_nil ?_
  intro _ hw
  obtain ⟨p', rfl⟩ := hw
  replace O := O.keeps p'.2
  clear c0 cw ci K0 cp ak ch cs cr
  generalize p'.1 = V at O ⊢
  go_wp2
  go_ret
  exact ⟨rfl, O.keep⟩

set_option maxRecDepth 100000 in
theorem wcan_8 (hw : Blk W y.wp 110 (wpC y S.nr gw n cw evs)) (hl : Blk W y.bl 4 (arrB y.lk lk)) {aN : Nat} (ha : aN < y.lk) (f2 f3 : Int) : Calls Try.prog 104 #[.pointer (some ⟨y.wp, 0, none⟩), .agg #[.int .i64 8, .int .i64 (aN : Int), .int .i64 f2, .int .i64 f3]] W fun e W' => e = .returned (.bool (!lk aN)) ∧ Keeps W W' [] := by
  have O := Own.start W []
  have HW := Lib.hid hw
  have HL := Lib.hid hl
  have g1 : (aN : Int) < y.lk := by omega
  have g2 : (0 : Int) ≤ aN := by omega
  clear hw hl
  go_enter Try.func104, Try.ntmps104
  go_wp2_with (first
    | go_big_skip
    | (refine own_box 3 #[Value.int .i64 8, .int .i64 (aN : Int), .int .i64 f2, .int .i64 f3] O rfl rfl rfl rfl ?_; clear O; intro V a3 O; simp only [Act.put, List.setIfInBounds_toArray, List.set_cons_zero, List.set_cons_succ]; have c0 : V.cell? ⟨a3, 0, none⟩ = some (.int .i64 8) := (O.get 0 rfl).cell 0))
  have K0 := O.keep
  have cw : ∀ (p : Later V) i, p.1.cell? ⟨y.wp, i, none⟩ = #[Value.pointer (some ⟨y.ps, 0, none⟩), .slice (some ⟨gw, 0, none⟩) n cw, .slice (some ⟨y.bp, 0, none⟩) S.nr S.nr, .slice (some ⟨y.bl, 0, none⟩) y.lk y.lk, .slice (some ⟨y.bg, 0, none⟩) y.gr y.gr, .slice (some ⟨y.bc, 0, none⟩) y.ce y.ce, evs][i]? := Later.cell (HW.out.keeps K0 (by simp))
  have ci : ∀ (p : Later V) i, p.1.cell? ⟨a3, i, none⟩ = #[Value.int .i64 8, .int .i64 (aN : Int), .int .i64 f2, .int .i64 f3][i]? := Later.cell (O.get 0 rfl)
  have cl : ∀ p : Later V, p.1.cell? ⟨y.bl, aN, none⟩ = some (.bool (lk aN)) := fun p => (Later.cell (HL.out.keeps K0 (by simp)) p _).trans (arrB_get _ _ _ ha)
  have ak := add_zero_ y.bl aN
  refine wp_quiet_later (by kernel_rfl) (by kernel_rfl) ?_
  repeat (first
    | go_big_quiet_skip
    | go_big_quiet_step (fail))
  refine wpQuiet_nil ?_
  intro _ hw
  obtain ⟨p', rfl⟩ := hw
  replace O := O.keeps p'.2
  clear c0 cw ci K0 cl ak
  generalize p'.1 = V at O ⊢
  go_wp2
  go_ret
  exact ⟨rfl, O.keep⟩

set_option maxRecDepth 100000 in
theorem wcan_11 (hw : Blk W y.wp 110 (wpC y S.nr gw n cw evs)) (hl : Blk W y.bg 3 (arrI y.gr gr)) {aN : Nat} (ha : aN < y.gr) (f2 f3 : Int) : Calls Try.prog 104 #[.pointer (some ⟨y.wp, 0, none⟩), .agg #[.int .i64 11, .int .i64 (aN : Int), .int .i64 f2, .int .i64 f3]] W fun e W' => e = .returned (.bool (decide (gr aN = 0))) ∧ Keeps W W' [] := by
  have O := Own.start W []
  have HW := Lib.hid hw
  have HL := Lib.hid hl
  have g1 : (aN : Int) < y.gr := by omega
  have g2 : (0 : Int) ≤ aN := by omega
  clear hw hl
  go_enter Try.func104, Try.ntmps104
  go_wp2_with (first
    | go_big_skip
    | (refine own_box 3 #[Value.int .i64 11, .int .i64 (aN : Int), .int .i64 f2, .int .i64 f3] O rfl rfl rfl rfl ?_; clear O; intro V a3 O; simp only [Act.put, List.setIfInBounds_toArray, List.set_cons_zero, List.set_cons_succ]; have c0 : V.cell? ⟨a3, 0, none⟩ = some (.int .i64 11) := (O.get 0 rfl).cell 0))
  have K0 := O.keep
  have cw : ∀ (p : Later V) i, p.1.cell? ⟨y.wp, i, none⟩ = #[Value.pointer (some ⟨y.ps, 0, none⟩), .slice (some ⟨gw, 0, none⟩) n cw, .slice (some ⟨y.bp, 0, none⟩) S.nr S.nr, .slice (some ⟨y.bl, 0, none⟩) y.lk y.lk, .slice (some ⟨y.bg, 0, none⟩) y.gr y.gr, .slice (some ⟨y.bc, 0, none⟩) y.ce y.ce, evs][i]? := Later.cell (HW.out.keeps K0 (by simp))
  have ci : ∀ (p : Later V) i, p.1.cell? ⟨a3, i, none⟩ = #[Value.int .i64 11, .int .i64 (aN : Int), .int .i64 f2, .int .i64 f3][i]? := Later.cell (O.get 0 rfl)
  have cl : ∀ p : Later V, p.1.cell? ⟨y.bg, aN, none⟩ = some (.int .i64 (gr aN)) := fun p => (Later.cell (HL.out.keeps K0 (by simp)) p _).trans (arrI_get _ _ _ ha)
  have ak := add_zero_ y.bg aN
  refine wp_quiet_later (by kernel_rfl) (by kernel_rfl) ?_
  repeat (first
    | go_big_quiet_skip
    | go_big_quiet_step (fail))
  refine wpQuiet_nil ?_
  intro _ hw
  obtain ⟨p', rfl⟩ := hw
  replace O := O.keeps p'.2
  clear c0 cw ci K0 cl ak
  generalize p'.1 = V at O ⊢
  go_wp2
  go_ret
  exact ⟨rfl, O.keep⟩
set_option maxRecDepth 100000 in
theorem wcan_else (f : Nat → Int) (h5 : ¬ f 0 = 5) (h6 : ¬ f 0 = 6) (h8 : ¬ f 0 = 8) (h11 : ¬ f 0 = 11) : Calls Try.prog 104 #[.pointer (some ⟨y.wp, 0, none⟩), .agg #[.int .i64 (f 0), .int .i64 (f 1), .int .i64 (f 2), .int .i64 (f 3)]] W fun e W' => e = .returned (.bool true) ∧ Keeps W W' [] := by
  have O := Own.start W []
  have e5 : (f 0 == 5) = false := by simpa using h5
  have e6 : (f 0 == 6) = false := by simpa using h6
  have e8 : (f 0 == 8) = false := by simpa using h8
  have e11 : (f 0 == 11) = false := by simpa using h11
  clear h5 h6 h8 h11
  go_enter Try.func104, Try.ntmps104
  go_wp2_with (first
    | go_big_skip
    | (refine own_box 3 #[Value.int .i64 (f 0), .int .i64 (f 1), .int .i64 (f 2), .int .i64 (f 3)] O rfl rfl rfl rfl ?_; clear O; intro V a3 O; simp only [Act.put, List.setIfInBounds_toArray, List.set_cons_zero, List.set_cons_succ]; have c0 : V.cell? ⟨a3, 0, none⟩ = some (.int .i64 (f 0)) := (O.get 0 rfl).cell 0))
  go_ret
  exact ⟨rfl, O.keep⟩
theorem wcan_any {P : PW} (hw : Blk W y.wp 110 (wpC y S.nr gw n cw evs)) (hb : Blk W y.bp 186 (pipesA S.nr hv P.cl)) (hl : Blk W y.bl 4 (arrB y.lk P.lk)) (hg : Blk W y.bg 3 (arrI y.gr P.gr)) (hs : Blk W y.ps 27 (sysV S A c R d)) (hS : SysIn W S A c R d)
    (hh : ∀ c, c < S.nr → HRow base W (hv c) (P.held c)) (hlk : S.lk = (y.lk : Int)) (hgr : S.gr = (y.gr : Int)) (f : Nat → Int) {p : Nat} (hr : rightS S p f = true) : Calls Try.prog 104 #[.pointer (some ⟨y.wp, 0, none⟩), .agg (instC f)] W fun e W' => e = .returned (.bool (canP S P f)) ∧ Keeps W W' [] := by
  unfold instC
  have key : ∀ aN : Nat, f 1 = aN → (f 1).toNat = aN := fun aN h => by omega
  by_cases o5 : f 0 = 5
  · have h1 := right_room hr (.inl o5)
    obtain ⟨aN, e⟩ : ∃ aN : Nat, f 1 = (aN : Int) := ⟨(f 1).toNat, by omega⟩
    have hc : canP S P f = (P.cl aN || decide (((P.held aN).length : Int) < S.rm aN)) := by unfold canP; rw [if_pos o5, key _ e]
    rw [hc, o5, e]
    cases h : P.cl aN with
    | true => exact wcan_5c hw hb (by omega) h _ _
    | false =>
      obtain ⟨A0, c0, h0, _⟩ := (hh aN (by omega)).cells
      exact wcan_5o hw hb hs hS (by omega) h h0 _ _
  by_cases o6 : f 0 = 6
  · have h1 := right_room hr (.inr (.inl o6))
    obtain ⟨aN, e⟩ : ∃ aN : Nat, f 1 = (aN : Int) := ⟨(f 1).toNat, by omega⟩
    have hc : canP S P f = (P.cl aN || decide (0 < (P.held aN).length)) := by unfold canP; rw [if_neg o5, if_pos o6, key _ e, show decide (0 < ((P.held aN).length : Int)) = decide (0 < (P.held aN).length) by simp]
    rw [hc, o6, e]
    cases h : P.cl aN with
    | true => exact wcan_6c hw hb (by omega) h _ _
    | false =>
      obtain ⟨A0, c0, h0, _⟩ := (hh aN (by omega)).cells
      exact wcan_6o hw hb (by omega) h h0 _ _
  by_cases o8 : f 0 = 8
  · have h1 := right_lock hr (.inl o8)
    obtain ⟨aN, e⟩ : ∃ aN : Nat, f 1 = (aN : Int) := ⟨(f 1).toNat, by omega⟩
    have hc : canP S P f = !P.lk aN := by unfold canP; rw [if_neg o5, if_neg o6, if_pos o8, e]
    rw [hc, o8, e]
    exact wcan_8 hw hl (by omega) _ _
  by_cases o11 : f 0 = 11
  · have h1 := right_group hr (.inr o11)
    obtain ⟨aN, e⟩ : ∃ aN : Nat, f 1 = (aN : Int) := ⟨(f 1).toNat, by omega⟩
    have hc : canP S P f = decide (P.gr aN = 0) := by unfold canP; rw [if_neg o5, if_neg o6, if_neg o8, if_pos o11, e]
    rw [hc, o11, e]
    exact wcan_11 hw hg (by omega) _ _
  have hc : canP S P f = true := by unfold canP; rw [if_neg o5, if_neg o6, if_neg o8, if_neg o11]
  rw [hc]
  exact wcan_else f o5 o6 o8 o11
end
end Go.Proofs.Ytakmcpadkanggaa
