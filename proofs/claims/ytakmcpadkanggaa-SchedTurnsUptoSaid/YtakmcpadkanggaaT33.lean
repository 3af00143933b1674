/-
  One step of a runner (sched's step): what touches the runner alone.
-/
import Derived.Test.YtakmcpadkanggaaT31b
namespace Go.Proofs.Ytakmcpadkanggaa
open Go.RowKit Go.Maps Go.Deep

section
variable {w W : World} {Lr : List Ent} {S : Sys} {A : Option Addr} {c : Nat} {R : Option Addr} {d : Nat} {y : Ly} {gw n cw k aN bN cN : Nat} {cur : Array Value} {evs : Value} {E : List Ev} {rs : Nat → Rn} {hv : Nat → Value} {held : Nat → List Int} {cl : Nat → Bool} {lk : Int → Bool} {gr ce : Int → Int} {b b3 : Int}

set_option maxRecDepth 100000 in
set_option maxHeartbeats 2000000 in
theorem st_1  (M : OM w W ((y.wp, 110, wpC y S.nr gw n cw evs) :: (gw, 174, cur) :: (y.bp, 186, pipesA S.nr hv cl) :: (y.bl, 4, arrB y.lk lk) :: (y.bg, 3, arrI y.gr gr) :: (y.bc, 3, arrI y.ce ce) :: (y.ps, 27, sysV S A c R d) :: Lr) ⟨evs, E, S.nr, hv, held⟩) (hC : WhoC cur n rs) (hk : k < n) (hS : SysIn w S A c R d) (hp : (rs k).prog < S.np) (hl : S.lp (rs k).prog ≤ 256) (hn : E.length ≤ 100000) (h1 : n ≤ cw) (h2 : cw ≤ maxLen) (h3 : cur.size = cw * 10) {f : Nat → Int} (hI : instP S (rs k) = some f) (e0 : f 0 = 1) (e1 : f 1 = (aN : Int)) (e2 : f 2 = (b : Int)) (e3 : f 3 = (b3 : Int)) (ha : aN < 8) : Calls Try.prog 91 #[.pointer (some ⟨y.wp, 0, none⟩), .int .i64 (k : Int)] W fun ev W' => ev = .returned (.tuple #[]) ∧ InW w W' S A c R d y Lr ⟨n, fun j => if j = k then { setReg (rs k) aN b with pos := (rs k).pos + 1 } else rs j, held, cl, lk, gr, ce, E ++ [⟨k, 1, 0, 0, false⟩]⟩ := by
  have HN := Lib.hid (show ∀ V pw, OM w V ((pw, 104, #[.pointer (some ⟨y.wp, 0, none⟩)]) :: ((y.wp, 110, wpC y S.nr gw n cw evs) :: (gw, 174, cur) :: (y.bp, 186, pipesA S.nr hv cl) :: (y.bl, 4, arrB y.lk lk) :: (y.bg, 3, arrI y.gr gr) :: (y.bc, 3, arrI y.ce ce) :: (y.ps, 27, sysV S A c R d) :: Lr)) ⟨evs, E, S.nr, hv, held⟩ → Calls Try.prog 103 #[.pointer (some ⟨y.wp, 0, none⟩), .pointer (some ⟨gw, k * 10, none⟩)] V fun e W' => e = .returned (.tuple #[.agg #[Value.int .i64 1, .int .i64 (aN : Int), .int .i64 (b : Int), .int .i64 (b3 : Int)], .bool true]) ∧ Keeps V W' [] from fun V pw M => by
    have := wnext_any (M.get 1 rfl) (M.get 2 rfl) (M.get 7 rfl) (hS.kept M.own.keep) hC hk hp
    rw [hI] at this
    simpa [instV, instC, e0, e1, e2, e3] using this)
  have HIC := Lib.hid (show ∀ v ∈ (#[Value.int .i64 1, .int .i64 (aN : Int), .int .i64 (b : Int), .int .i64 (b3 : Int)]).toList, v.oneCell' = true from by
    have := instC_cell f
    simpa [instC, e0, e1, e2, e3] using this)
  have g1 : (k : Int) < n := by omega
  have g2 : (0 : Int) ≤ k := by omega
  have hpos : (rs k).pos < S.lp (rs k).prog := by
    unfold instP at hI
    split at hI
    · assumption
    · cases hI
  have g3 : ((rs k).pos : Int) < 256 := by omega
  have g4 : (0 : Int) ≤ (rs k).pos := by omega
  have HC := Lib.hid hC
  have HK := Lib.hid hk
  have HS := Lib.hid hS
  have HP := Lib.hid hp
  have HPos := Lib.hid hpos
  have H1 := Lib.hid h1
  have H2 := Lib.hid h2
  have H3 := Lib.hid h3
  have ak := add_zero_ gw (k * 10)
  have hmf : ∀ (fn : Fn) (first cap : Array Value) (w : World), (Instr.makeFunc fn first cap).run Try.prog w = .ok (.func fn first cap) w := fun _ _ _ _ => rfl
  clear hC hk hS hp hl hI e0 e1 e2 e3 h1 h2 h3 hpos
  have g5 : (aN : Int) < 8 := by omega
  have g6 : (0 : Int) ≤ aN := by omega
  have HR := Lib.hid (And.intro ha True.intro)
  clear ha
  go_enter Try.func91, Try.ntmps91
  go_wp2_with (first
    | go_big_skip
    | (refine om_box1 2 (.pointer (some ⟨y.wp, 0, none⟩)) M rfl rfl rfl rfl rfl ?_; clear M; intro V pw M; simp only [Act.put, List.setIfInBounds_toArray, List.set_cons_zero, List.set_cons_succ]; have c1 : V.cell? ⟨pw, 0, none⟩ = some (.pointer (some ⟨y.wp, 0, none⟩)) := (M.get 0 rfl).cell 0; have c2 : V.cell? ⟨y.wp, 1, none⟩ = some (.slice (some ⟨gw, 0, none⟩) n cw) := (M.get 1 rfl).cell 1)
    | (go_at_call 103; refine (HN.out _ _ M).mono ?_; rintro e V ⟨rfl, K⟩; replace M := M.keeps K; clear K c1 c2; have c1 : V.cell? ⟨pw, 0, none⟩ = some (.pointer (some ⟨y.wp, 0, none⟩)) := (M.get 0 rfl).cell 0; have c2 : V.cell? ⟨y.wp, 1, none⟩ = some (.slice (some ⟨gw, 0, none⟩) n cw) := (M.get 1 rfl).cell 1)
    | (refine om_alloc 5 (instC fun _ => 0) M rfl rfl rfl (fun _ => by kernel_rfl) ?_; clear M c1 c2; intro V pi M; simp only [Act.put, List.setIfInBounds_toArray, List.set_cons_zero, List.set_cons_succ]; have c1 : V.cell? ⟨pw, 0, none⟩ = some (.pointer (some ⟨y.wp, 0, none⟩)) := (M.get 1 rfl).cell 0; have c2 : V.cell? ⟨y.wp, 1, none⟩ = some (.slice (some ⟨gw, 0, none⟩) n cw) := (M.get 2 rfl).cell 1)
    | (refine at_store (.tmp 5) (.tmp 21) rfl ?_; refine om_store_row 0 (.tmp 5) (.tmp 21) (cs' := #[Value.int .i64 1, .int .i64 (aN : Int), .int .i64 (b : Int), .int .i64 (b3 : Int)]) M rfl rfl rfl rfl rfl rfl (by kernel_rfl) (by rfl) HIC.out ?_; clear M c1 c2; intro V M; simp only [List.set_cons_zero] at M; have c1 : V.cell? ⟨pw, 0, none⟩ = some (.pointer (some ⟨y.wp, 0, none⟩)) := (M.get 1 rfl).cell 0; have c2 : V.cell? ⟨y.wp, 1, none⟩ = some (.slice (some ⟨gw, 0, none⟩) n cw) := (M.get 2 rfl).cell 1; have c3 : ∀ i, V.cell? ⟨pi, i, none⟩ = #[Value.int .i64 1, .int .i64 (aN : Int), .int .i64 (b : Int), .int .i64 (b3 : Int)][i]? := (M.get 0 rfl).cell)
    | (refine om_alloc 7 (evC ⟨0, 0, 0, 0, false⟩) M rfl rfl rfl (fun _ => by kernel_rfl) ?_; clear M c1 c2 c3; intro V pe M; simp only [Act.put, List.setIfInBounds_toArray, List.set_cons_zero, List.set_cons_succ]; have c1 : V.cell? ⟨pw, 0, none⟩ = some (.pointer (some ⟨y.wp, 0, none⟩)) := (M.get 2 rfl).cell 0; have c2 : V.cell? ⟨y.wp, 1, none⟩ = some (.slice (some ⟨gw, 0, none⟩) n cw) := (M.get 3 rfl).cell 1; have c3 : ∀ i, V.cell? ⟨pi, i, none⟩ = #[Value.int .i64 1, .int .i64 (aN : Int), .int .i64 (b : Int), .int .i64 (b3 : Int)][i]? := (M.get 1 rfl).cell)
    | (refine at_store (.tmp 7) (.tmp 26) rfl ?_; refine om_store_row 0 (.tmp 7) (.tmp 26) (cs' := evC ⟨k, 1, 0, 0, false⟩) M rfl rfl rfl rfl rfl rfl (by kernel_rfl) (by rfl) (evC_cell _) ?_; clear M c1 c2 c3; intro V M; simp only [List.set_cons_zero] at M; have c1 : V.cell? ⟨pw, 0, none⟩ = some (.pointer (some ⟨y.wp, 0, none⟩)) := (M.get 2 rfl).cell 0; have c2 : V.cell? ⟨y.wp, 1, none⟩ = some (.slice (some ⟨gw, 0, none⟩) n cw) := (M.get 3 rfl).cell 1; have c3 : ∀ i, V.cell? ⟨pi, i, none⟩ = #[Value.int .i64 1, .int .i64 (aN : Int), .int .i64 (b : Int), .int .i64 (b3 : Int)][i]? := (M.get 1 rfl).cell)
    | (refine om_alloc1 8 .nilFunc M rfl rfl rfl (fun _ => by kernel_rfl) rfl ?_; clear M c1 c2 c3; intro V pt M; simp only [Act.put, List.setIfInBounds_toArray, List.set_cons_zero, List.set_cons_succ]; have c1 : V.cell? ⟨pw, 0, none⟩ = some (.pointer (some ⟨y.wp, 0, none⟩)) := (M.get 3 rfl).cell 0; have c2 : V.cell? ⟨y.wp, 1, none⟩ = some (.slice (some ⟨gw, 0, none⟩) n cw) := (M.get 4 rfl).cell 1; have c3 : ∀ i, V.cell? ⟨pi, i, none⟩ = #[Value.int .i64 1, .int .i64 (aN : Int), .int .i64 (b : Int), .int .i64 (b3 : Int)][i]? := (M.get 2 rfl).cell)
    | (refine at_store (.tmp 8) (.tmp 27) rfl ?_; refine om_store 0 0 (Value.func (.func 105) #[] #[.pointer (some ⟨pw, 0, none⟩), .pointer (some ⟨pe, 0, none⟩)]) (.tmp 8) (.tmp 27) M rfl rfl rfl rfl rfl rfl (by show 0 < 1; omega) rfl rfl (by kernel_rfl) rfl ?_; clear M c1 c2 c3; intro V M; simp only [List.set_cons_zero] at M; have c1 : V.cell? ⟨pw, 0, none⟩ = some (.pointer (some ⟨y.wp, 0, none⟩)) := (M.get 3 rfl).cell 0; have c2 : V.cell? ⟨y.wp, 1, none⟩ = some (.slice (some ⟨gw, 0, none⟩) n cw) := (M.get 4 rfl).cell 1; have c3 : ∀ i, V.cell? ⟨pi, i, none⟩ = #[Value.int .i64 1, .int .i64 (aN : Int), .int .i64 (b : Int), .int .i64 (b3 : Int)][i]? := (M.get 2 rfl).cell; have c4 : V.cell? ⟨gw, k * 10 + 1, none⟩ = some (.int .i64 (rs k).pos) := ((M.get 5 rfl).cell _).trans (HC.out.pos HK.out); have c5 : V.cell? ⟨pt, 0, none⟩ = some (Value.func (.func 105) #[] #[.pointer (some ⟨pw, 0, none⟩), .pointer (some ⟨pe, 0, none⟩)]) := (M.get 0 rfl).cell 0))
  have ci : ∀ (p : Later V) i, p.1.cell? ⟨pi, i, none⟩ = #[Value.int .i64 1, .int .i64 (aN : Int), .int .i64 (b : Int), .int .i64 (b3 : Int)][i]? := Later.cell (M.get 2 rfl)
  refine wp_quiet_tail_later 8 (by kernel_rfl) (by kernel_rfl) ?_
  simp only [List.take, List.drop]
  repeat (first
    | go_big_quiet_skip
    | go_big_quiet_step (fail))
  refine wpQuiet_nil ?_
  intro _ hw
  obtain ⟨p', rfl⟩ := hw
  replace M := M.keeps p'.2
  clear c1 c2 c3 c4 c5 ci
  generalize p'.1 = V at M ⊢
  go_wp2_with (first
    | go_big_skip
    | (refine at_store (.tmp 60) (.tmp 57) rfl ?_; refine om_store 5 (k * 10 + 2 + aN) (.int .i64 b) (.tmp 60) (.tmp 57) M rfl rfl rfl rfl rfl rfl (by have := HC.out.lt HK.out (f := 2 + aN) (by have := HR.out; omega); omega) rfl rfl (by kernel_rfl) rfl ?_; clear M; intro V M; simp only [List.set_cons_zero, List.set_cons_succ] at M; have c1 : V.cell? ⟨pw, 0, none⟩ = some (.pointer (some ⟨y.wp, 0, none⟩)) := (M.get 3 rfl).cell 0; have c2 : V.cell? ⟨y.wp, 1, none⟩ = some (.slice (some ⟨gw, 0, none⟩) n cw) := (M.get 4 rfl).cell 1; have c3 : ∀ i, V.cell? ⟨pi, i, none⟩ = #[Value.int .i64 1, .int .i64 (aN : Int), .int .i64 (b : Int), .int .i64 (b3 : Int)][i]? := (M.get 2 rfl).cell; have c5 : V.cell? ⟨pt, 0, none⟩ = some (Value.func (.func 105) #[] #[.pointer (some ⟨pw, 0, none⟩), .pointer (some ⟨pe, 0, none⟩)]) := (M.get 0 rfl).cell 0)
    | (refine at_store (.tmp 221) (.tmp 219) rfl ?_; refine om_store 5 (k * 10 + 1) (.int .i64 (((rs k).pos : Int) + 1)) (.tmp 221) (.tmp 219) M rfl rfl rfl rfl rfl rfl (by have := HC.out.lt HK.out (f := 1) (by omega); simpa using this) rfl rfl (by kernel_rfl) (cs' := (cur.setIfInBounds (k * 10 + 2 + aN) (.int .i64 b)).setIfInBounds (k * 10 + 1) (.int .i64 (((rs k).pos + 1 : Nat) : Int))) (by simp) ?_; clear M c1 c2 c3 c5; intro V M; simp only [List.set_cons_zero, List.set_cons_succ] at M; have c1 : V.cell? ⟨pw, 0, none⟩ = some (.pointer (some ⟨y.wp, 0, none⟩)) := (M.get 3 rfl).cell 0; have c2 : V.cell? ⟨y.wp, 1, none⟩ = some (.slice (some ⟨gw, 0, none⟩) n cw) := (M.get 4 rfl).cell 1; have c3 : ∀ i, V.cell? ⟨pi, i, none⟩ = #[Value.int .i64 1, .int .i64 (aN : Int), .int .i64 (b : Int), .int .i64 (b3 : Int)][i]? := (M.get 2 rfl).cell; have c5 : V.cell? ⟨pt, 0, none⟩ = some (Value.func (.func 105) #[] #[.pointer (some ⟨pw, 0, none⟩), .pointer (some ⟨pe, 0, none⟩)]) := (M.get 0 rfl).cell 0)
    | (go_at_call 105; refine (tell_any M ⟨k, 1, 0, 0, false⟩ (i := 3) (j := 1) (k := 4) rfl rfl rfl hn).mono ?_; rintro ev V ⟨rfl, v', M⟩; have HM := Lib.hid M; clear M))
  go_end0
  exact ⟨rfl, gw, cw, _, _, hv, HM.out.drop_ 4, (((HC.out.set_reg _ HK.out HR.out.1).set_pos HK.out).congr fun j hj => by by_cases h : j = k <;> simp [h]), H1.out, H2.out, by simpa using H3.out⟩

set_option maxRecDepth 100000 in
set_option maxHeartbeats 2000000 in
theorem st_2  (M : OM w W ((y.wp, 110, wpC y S.nr gw n cw evs) :: (gw, 174, cur) :: (y.bp, 186, pipesA S.nr hv cl) :: (y.bl, 4, arrB y.lk lk) :: (y.bg, 3, arrI y.gr gr) :: (y.bc, 3, arrI y.ce ce) :: (y.ps, 27, sysV S A c R d) :: Lr) ⟨evs, E, S.nr, hv, held⟩) (hC : WhoC cur n rs) (hk : k < n) (hS : SysIn w S A c R d) (hp : (rs k).prog < S.np) (hl : S.lp (rs k).prog ≤ 256) (hn : E.length ≤ 100000) (h1 : n ≤ cw) (h2 : cw ≤ maxLen) (h3 : cur.size = cw * 10) {f : Nat → Int} (hI : instP S (rs k) = some f) (e0 : f 0 = 2) (e1 : f 1 = (aN : Int)) (e2 : f 2 = (bN : Int)) (e3 : f 3 = (b3 : Int)) (ha : aN < 8) (hb : bN < 8) {s : Int} (hs : IntKind.i64.wrap ((rs k).rg aN + (rs k).rg bN) = s) : Calls Try.prog 91 #[.pointer (some ⟨y.wp, 0, none⟩), .int .i64 (k : Int)] W fun ev W' => ev = .returned (.tuple #[]) ∧ InW w W' S A c R d y Lr ⟨n, fun j => if j = k then { setReg (rs k) aN s with pos := (rs k).pos + 1 } else rs j, held, cl, lk, gr, ce, E ++ [⟨k, 2, 0, 0, false⟩]⟩ := by
  have HN := Lib.hid (show ∀ V pw, OM w V ((pw, 104, #[.pointer (some ⟨y.wp, 0, none⟩)]) :: ((y.wp, 110, wpC y S.nr gw n cw evs) :: (gw, 174, cur) :: (y.bp, 186, pipesA S.nr hv cl) :: (y.bl, 4, arrB y.lk lk) :: (y.bg, 3, arrI y.gr gr) :: (y.bc, 3, arrI y.ce ce) :: (y.ps, 27, sysV S A c R d) :: Lr)) ⟨evs, E, S.nr, hv, held⟩ → Calls Try.prog 103 #[.pointer (some ⟨y.wp, 0, none⟩), .pointer (some ⟨gw, k * 10, none⟩)] V fun e W' => e = .returned (.tuple #[.agg #[Value.int .i64 2, .int .i64 (aN : Int), .int .i64 (bN : Int), .int .i64 (b3 : Int)], .bool true]) ∧ Keeps V W' [] from fun V pw M => by
    have := wnext_any (M.get 1 rfl) (M.get 2 rfl) (M.get 7 rfl) (hS.kept M.own.keep) hC hk hp
    rw [hI] at this
    simpa [instV, instC, e0, e1, e2, e3] using this)
  have HIC := Lib.hid (show ∀ v ∈ (#[Value.int .i64 2, .int .i64 (aN : Int), .int .i64 (bN : Int), .int .i64 (b3 : Int)]).toList, v.oneCell' = true from by
    have := instC_cell f
    simpa [instC, e0, e1, e2, e3] using this)
  have g1 : (k : Int) < n := by omega
  have g2 : (0 : Int) ≤ k := by omega
  have hpos : (rs k).pos < S.lp (rs k).prog := by
    unfold instP at hI
    split at hI
    · assumption
    · cases hI
  have g3 : ((rs k).pos : Int) < 256 := by omega
  have g4 : (0 : Int) ≤ (rs k).pos := by omega
  have HC := Lib.hid hC
  have HK := Lib.hid hk
  have HS := Lib.hid hS
  have HP := Lib.hid hp
  have HPos := Lib.hid hpos
  have H1 := Lib.hid h1
  have H2 := Lib.hid h2
  have H3 := Lib.hid h3
  have ak := add_zero_ gw (k * 10)
  have hmf : ∀ (fn : Fn) (first cap : Array Value) (w : World), (Instr.makeFunc fn first cap).run Try.prog w = .ok (.func fn first cap) w := fun _ _ _ _ => rfl
  clear hC hk hS hp hl hI e0 e1 e2 e3 h1 h2 h3 hpos
  have g5 : (aN : Int) < 8 := by omega
  have g6 : (0 : Int) ≤ aN := by omega
  have g7 : (bN : Int) < 8 := by omega
  have g8 : (0 : Int) ≤ bN := by omega
  have HR := Lib.hid (And.intro ha hb)
  clear ha hb
  go_enter Try.func91, Try.ntmps91
  go_wp2_with (first
    | go_big_skip
    | (refine om_box1 2 (.pointer (some ⟨y.wp, 0, none⟩)) M rfl rfl rfl rfl rfl ?_; clear M; intro V pw M; simp only [Act.put, List.setIfInBounds_toArray, List.set_cons_zero, List.set_cons_succ]; have c1 : V.cell? ⟨pw, 0, none⟩ = some (.pointer (some ⟨y.wp, 0, none⟩)) := (M.get 0 rfl).cell 0; have c2 : V.cell? ⟨y.wp, 1, none⟩ = some (.slice (some ⟨gw, 0, none⟩) n cw) := (M.get 1 rfl).cell 1)
    | (go_at_call 103; refine (HN.out _ _ M).mono ?_; rintro e V ⟨rfl, K⟩; replace M := M.keeps K; clear K c1 c2; have c1 : V.cell? ⟨pw, 0, none⟩ = some (.pointer (some ⟨y.wp, 0, none⟩)) := (M.get 0 rfl).cell 0; have c2 : V.cell? ⟨y.wp, 1, none⟩ = some (.slice (some ⟨gw, 0, none⟩) n cw) := (M.get 1 rfl).cell 1)
    | (refine om_alloc 5 (instC fun _ => 0) M rfl rfl rfl (fun _ => by kernel_rfl) ?_; clear M c1 c2; intro V pi M; simp only [Act.put, List.setIfInBounds_toArray, List.set_cons_zero, List.set_cons_succ]; have c1 : V.cell? ⟨pw, 0, none⟩ = some (.pointer (some ⟨y.wp, 0, none⟩)) := (M.get 1 rfl).cell 0; have c2 : V.cell? ⟨y.wp, 1, none⟩ = some (.slice (some ⟨gw, 0, none⟩) n cw) := (M.get 2 rfl).cell 1)
    | (refine at_store (.tmp 5) (.tmp 21) rfl ?_; refine om_store_row 0 (.tmp 5) (.tmp 21) (cs' := #[Value.int .i64 2, .int .i64 (aN : Int), .int .i64 (bN : Int), .int .i64 (b3 : Int)]) M rfl rfl rfl rfl rfl rfl (by kernel_rfl) (by rfl) HIC.out ?_; clear M c1 c2; intro V M; simp only [List.set_cons_zero] at M; have c1 : V.cell? ⟨pw, 0, none⟩ = some (.pointer (some ⟨y.wp, 0, none⟩)) := (M.get 1 rfl).cell 0; have c2 : V.cell? ⟨y.wp, 1, none⟩ = some (.slice (some ⟨gw, 0, none⟩) n cw) := (M.get 2 rfl).cell 1; have c3 : ∀ i, V.cell? ⟨pi, i, none⟩ = #[Value.int .i64 2, .int .i64 (aN : Int), .int .i64 (bN : Int), .int .i64 (b3 : Int)][i]? := (M.get 0 rfl).cell)
    | (refine om_alloc 7 (evC ⟨0, 0, 0, 0, false⟩) M rfl rfl rfl (fun _ => by kernel_rfl) ?_; clear M c1 c2 c3; intro V pe M; simp only [Act.put, List.setIfInBounds_toArray, List.set_cons_zero, List.set_cons_succ]; have c1 : V.cell? ⟨pw, 0, none⟩ = some (.pointer (some ⟨y.wp, 0, none⟩)) := (M.get 2 rfl).cell 0; have c2 : V.cell? ⟨y.wp, 1, none⟩ = some (.slice (some ⟨gw, 0, none⟩) n cw) := (M.get 3 rfl).cell 1; have c3 : ∀ i, V.cell? ⟨pi, i, none⟩ = #[Value.int .i64 2, .int .i64 (aN : Int), .int .i64 (bN : Int), .int .i64 (b3 : Int)][i]? := (M.get 1 rfl).cell)
    | (refine at_store (.tmp 7) (.tmp 26) rfl ?_; refine om_store_row 0 (.tmp 7) (.tmp 26) (cs' := evC ⟨k, 2, 0, 0, false⟩) M rfl rfl rfl rfl rfl rfl (by kernel_rfl) (by rfl) (evC_cell _) ?_; clear M c1 c2 c3; intro V M; simp only [List.set_cons_zero] at M; have c1 : V.cell? ⟨pw, 0, none⟩ = some (.pointer (some ⟨y.wp, 0, none⟩)) := (M.get 2 rfl).cell 0; have c2 : V.cell? ⟨y.wp, 1, none⟩ = some (.slice (some ⟨gw, 0, none⟩) n cw) := (M.get 3 rfl).cell 1; have c3 : ∀ i, V.cell? ⟨pi, i, none⟩ = #[Value.int .i64 2, .int .i64 (aN : Int), .int .i64 (bN : Int), .int .i64 (b3 : Int)][i]? := (M.get 1 rfl).cell)
    | (refine om_alloc1 8 .nilFunc M rfl rfl rfl (fun _ => by kernel_rfl) rfl ?_; clear M c1 c2 c3; intro V pt M; simp only [Act.put, List.setIfInBounds_toArray, List.set_cons_zero, List.set_cons_succ]; have c1 : V.cell? ⟨pw, 0, none⟩ = some (.pointer (some ⟨y.wp, 0, none⟩)) := (M.get 3 rfl).cell 0; have c2 : V.cell? ⟨y.wp, 1, none⟩ = some (.slice (some ⟨gw, 0, none⟩) n cw) := (M.get 4 rfl).cell 1; have c3 : ∀ i, V.cell? ⟨pi, i, none⟩ = #[Value.int .i64 2, .int .i64 (aN : Int), .int .i64 (bN : Int), .int .i64 (b3 : Int)][i]? := (M.get 2 rfl).cell)
    | (refine at_store (.tmp 8) (.tmp 27) rfl ?_; refine om_store 0 0 (Value.func (.func 105) #[] #[.pointer (some ⟨pw, 0, none⟩), .pointer (some ⟨pe, 0, none⟩)]) (.tmp 8) (.tmp 27) M rfl rfl rfl rfl rfl rfl (by show 0 < 1; omega) rfl rfl (by kernel_rfl) rfl ?_; clear M c1 c2 c3; intro V M; simp only [List.set_cons_zero] at M; have c1 : V.cell? ⟨pw, 0, none⟩ = some (.pointer (some ⟨y.wp, 0, none⟩)) := (M.get 3 rfl).cell 0; have c2 : V.cell? ⟨y.wp, 1, none⟩ = some (.slice (some ⟨gw, 0, none⟩) n cw) := (M.get 4 rfl).cell 1; have c3 : ∀ i, V.cell? ⟨pi, i, none⟩ = #[Value.int .i64 2, .int .i64 (aN : Int), .int .i64 (bN : Int), .int .i64 (b3 : Int)][i]? := (M.get 2 rfl).cell; have c4 : V.cell? ⟨gw, k * 10 + 1, none⟩ = some (.int .i64 (rs k).pos) := ((M.get 5 rfl).cell _).trans (HC.out.pos HK.out); have c5 : V.cell? ⟨pt, 0, none⟩ = some (Value.func (.func 105) #[] #[.pointer (some ⟨pw, 0, none⟩), .pointer (some ⟨pe, 0, none⟩)]) := (M.get 0 rfl).cell 0))
  have ci : ∀ (p : Later V) i, p.1.cell? ⟨pi, i, none⟩ = #[Value.int .i64 2, .int .i64 (aN : Int), .int .i64 (bN : Int), .int .i64 (b3 : Int)][i]? := Later.cell (M.get 2 rfl)
  have cra : ∀ p : Later V, p.1.cell? ⟨gw, k * 10 + 2 + aN, none⟩ = some (.int .i64 ((rs k).rg aN)) := fun p => (Later.cell (M.get 5 rfl) p _).trans (HC.out.reg HK.out HR.out.1)
  have crb : ∀ p : Later V, p.1.cell? ⟨gw, k * 10 + 2 + bN, none⟩ = some (.int .i64 ((rs k).rg bN)) := fun p => (Later.cell (M.get 5 rfl) p _).trans (HC.out.reg HK.out HR.out.2)
  refine wp_quiet_tail_later 18 (by kernel_rfl) (by kernel_rfl) ?_
  simp only [List.take, List.drop]
  repeat (first
    | go_big_quiet_skip
    | go_big_quiet_step (fail))
  refine wpQuiet_nil ?_
  intro _ hw
  obtain ⟨p', rfl⟩ := hw
  replace M := M.keeps p'.2
  clear c1 c2 c3 c4 c5 ci cra crb
  generalize p'.1 = V at M ⊢
  go_wp2_with (first
    | go_big_skip
    | (refine at_store (.tmp 78) (.tmp 75) rfl ?_; refine om_store 5 (k * 10 + 2 + aN) (.int .i64 s) (.tmp 78) (.tmp 75) M rfl rfl rfl rfl rfl rfl (by have := HC.out.lt HK.out (f := 2 + aN) (by have := HR.out; omega); omega) rfl rfl (by kernel_rfl) rfl ?_; clear M; intro V M; simp only [List.set_cons_zero, List.set_cons_succ] at M; have c1 : V.cell? ⟨pw, 0, none⟩ = some (.pointer (some ⟨y.wp, 0, none⟩)) := (M.get 3 rfl).cell 0; have c2 : V.cell? ⟨y.wp, 1, none⟩ = some (.slice (some ⟨gw, 0, none⟩) n cw) := (M.get 4 rfl).cell 1; have c3 : ∀ i, V.cell? ⟨pi, i, none⟩ = #[Value.int .i64 2, .int .i64 (aN : Int), .int .i64 (bN : Int), .int .i64 (b3 : Int)][i]? := (M.get 2 rfl).cell; have c5 : V.cell? ⟨pt, 0, none⟩ = some (Value.func (.func 105) #[] #[.pointer (some ⟨pw, 0, none⟩), .pointer (some ⟨pe, 0, none⟩)]) := (M.get 0 rfl).cell 0)
    | (refine at_store (.tmp 221) (.tmp 219) rfl ?_; refine om_store 5 (k * 10 + 1) (.int .i64 (((rs k).pos : Int) + 1)) (.tmp 221) (.tmp 219) M rfl rfl rfl rfl rfl rfl (by have := HC.out.lt HK.out (f := 1) (by omega); simpa using this) rfl rfl (by kernel_rfl) (cs' := (cur.setIfInBounds (k * 10 + 2 + aN) (.int .i64 s)).setIfInBounds (k * 10 + 1) (.int .i64 (((rs k).pos + 1 : Nat) : Int))) (by simp) ?_; clear M c1 c2 c3 c5; intro V M; simp only [List.set_cons_zero, List.set_cons_succ] at M; have c1 : V.cell? ⟨pw, 0, none⟩ = some (.pointer (some ⟨y.wp, 0, none⟩)) := (M.get 3 rfl).cell 0; have c2 : V.cell? ⟨y.wp, 1, none⟩ = some (.slice (some ⟨gw, 0, none⟩) n cw) := (M.get 4 rfl).cell 1; have c3 : ∀ i, V.cell? ⟨pi, i, none⟩ = #[Value.int .i64 2, .int .i64 (aN : Int), .int .i64 (bN : Int), .int .i64 (b3 : Int)][i]? := (M.get 2 rfl).cell; have c5 : V.cell? ⟨pt, 0, none⟩ = some (Value.func (.func 105) #[] #[.pointer (some ⟨pw, 0, none⟩), .pointer (some ⟨pe, 0, none⟩)]) := (M.get 0 rfl).cell 0)
    | (go_at_call 105; refine (tell_any M ⟨k, 2, 0, 0, false⟩ (i := 3) (j := 1) (k := 4) rfl rfl rfl hn).mono ?_; rintro ev V ⟨rfl, v', M⟩; have HM := Lib.hid M; clear M))
  go_end0
  exact ⟨rfl, gw, cw, _, _, hv, HM.out.drop_ 4, (((HC.out.set_reg _ HK.out HR.out.1).set_pos HK.out).congr fun j hj => by by_cases h : j = k <;> simp [h]), H1.out, H2.out, by simpa using H3.out⟩

set_option maxRecDepth 100000 in
set_option maxHeartbeats 2000000 in
theorem st_3a  (M : OM w W ((y.wp, 110, wpC y S.nr gw n cw evs) :: (gw, 174, cur) :: (y.bp, 186, pipesA S.nr hv cl) :: (y.bl, 4, arrB y.lk lk) :: (y.bg, 3, arrI y.gr gr) :: (y.bc, 3, arrI y.ce ce) :: (y.ps, 27, sysV S A c R d) :: Lr) ⟨evs, E, S.nr, hv, held⟩) (hC : WhoC cur n rs) (hk : k < n) (hS : SysIn w S A c R d) (hp : (rs k).prog < S.np) (hl : S.lp (rs k).prog ≤ 256) (hn : E.length ≤ 100000) (h1 : n ≤ cw) (h2 : cw ≤ maxLen) (h3 : cur.size = cw * 10) {f : Nat → Int} (hI : instP S (rs k) = some f) (e0 : f 0 = 3) (e1 : f 1 = (aN : Int)) (e2 : f 2 = (bN : Int)) (e3 : f 3 = (cN : Int)) (ha : aN < 8) (hb : bN < 8) (hlt : (rs k).rg bN ≤ (rs k).rg aN) : Calls Try.prog 91 #[.pointer (some ⟨y.wp, 0, none⟩), .int .i64 (k : Int)] W fun ev W' => ev = .returned (.tuple #[]) ∧ InW w W' S A c R d y Lr ⟨n, fun j => if j = k then { rs k with pos := (rs k).pos + 1 } else rs j, held, cl, lk, gr, ce, E ++ [⟨k, 3, 0, 0, false⟩]⟩ := by
  have HN := Lib.hid (show ∀ V pw, OM w V ((pw, 104, #[.pointer (some ⟨y.wp, 0, none⟩)]) :: ((y.wp, 110, wpC y S.nr gw n cw evs) :: (gw, 174, cur) :: (y.bp, 186, pipesA S.nr hv cl) :: (y.bl, 4, arrB y.lk lk) :: (y.bg, 3, arrI y.gr gr) :: (y.bc, 3, arrI y.ce ce) :: (y.ps, 27, sysV S A c R d) :: Lr)) ⟨evs, E, S.nr, hv, held⟩ → Calls Try.prog 103 #[.pointer (some ⟨y.wp, 0, none⟩), .pointer (some ⟨gw, k * 10, none⟩)] V fun e W' => e = .returned (.tuple #[.agg #[Value.int .i64 3, .int .i64 (aN : Int), .int .i64 (bN : Int), .int .i64 (cN : Int)], .bool true]) ∧ Keeps V W' [] from fun V pw M => by
    have := wnext_any (M.get 1 rfl) (M.get 2 rfl) (M.get 7 rfl) (hS.kept M.own.keep) hC hk hp
    rw [hI] at this
    simpa [instV, instC, e0, e1, e2, e3] using this)
  have HIC := Lib.hid (show ∀ v ∈ (#[Value.int .i64 3, .int .i64 (aN : Int), .int .i64 (bN : Int), .int .i64 (cN : Int)]).toList, v.oneCell' = true from by
    have := instC_cell f
    simpa [instC, e0, e1, e2, e3] using this)
  have g1 : (k : Int) < n := by omega
  have g2 : (0 : Int) ≤ k := by omega
  have hpos : (rs k).pos < S.lp (rs k).prog := by
    unfold instP at hI
    split at hI
    · assumption
    · cases hI
  have g3 : ((rs k).pos : Int) < 256 := by omega
  have g4 : (0 : Int) ≤ (rs k).pos := by omega
  have HC := Lib.hid hC
  have HK := Lib.hid hk
  have HS := Lib.hid hS
  have HP := Lib.hid hp
  have HPos := Lib.hid hpos
  have H1 := Lib.hid h1
  have H2 := Lib.hid h2
  have H3 := Lib.hid h3
  have ak := add_zero_ gw (k * 10)
  have hmf : ∀ (fn : Fn) (first cap : Array Value) (w : World), (Instr.makeFunc fn first cap).run Try.prog w = .ok (.func fn first cap) w := fun _ _ _ _ => rfl
  clear hC hk hS hp hl hI e0 e1 e2 e3 h1 h2 h3 hpos
  have g5 : (aN : Int) < 8 := by omega
  have g6 : (0 : Int) ≤ aN := by omega
  have g7 : (bN : Int) < 8 := by omega
  have g8 : (0 : Int) ≤ bN := by omega
  have HR := Lib.hid (And.intro ha hb)
  clear ha hb
  have gd : decide ((rs k).rg bN ≤ (rs k).rg aN) = true := by simpa using hlt
  clear hlt
  go_enter Try.func91, Try.ntmps91
  go_wp2_with (first
    | go_big_skip
    | (refine om_box1 2 (.pointer (some ⟨y.wp, 0, none⟩)) M rfl rfl rfl rfl rfl ?_; clear M; intro V pw M; simp only [Act.put, List.setIfInBounds_toArray, List.set_cons_zero, List.set_cons_succ]; have c1 : V.cell? ⟨pw, 0, none⟩ = some (.pointer (some ⟨y.wp, 0, none⟩)) := (M.get 0 rfl).cell 0; have c2 : V.cell? ⟨y.wp, 1, none⟩ = some (.slice (some ⟨gw, 0, none⟩) n cw) := (M.get 1 rfl).cell 1)
    | (go_at_call 103; refine (HN.out _ _ M).mono ?_; rintro e V ⟨rfl, K⟩; replace M := M.keeps K; clear K c1 c2; have c1 : V.cell? ⟨pw, 0, none⟩ = some (.pointer (some ⟨y.wp, 0, none⟩)) := (M.get 0 rfl).cell 0; have c2 : V.cell? ⟨y.wp, 1, none⟩ = some (.slice (some ⟨gw, 0, none⟩) n cw) := (M.get 1 rfl).cell 1)
    | (refine om_alloc 5 (instC fun _ => 0) M rfl rfl rfl (fun _ => by kernel_rfl) ?_; clear M c1 c2; intro V pi M; simp only [Act.put, List.setIfInBounds_toArray, List.set_cons_zero, List.set_cons_succ]; have c1 : V.cell? ⟨pw, 0, none⟩ = some (.pointer (some ⟨y.wp, 0, none⟩)) := (M.get 1 rfl).cell 0; have c2 : V.cell? ⟨y.wp, 1, none⟩ = some (.slice (some ⟨gw, 0, none⟩) n cw) := (M.get 2 rfl).cell 1)
    | (refine at_store (.tmp 5) (.tmp 21) rfl ?_; refine om_store_row 0 (.tmp 5) (.tmp 21) (cs' := #[Value.int .i64 3, .int .i64 (aN : Int), .int .i64 (bN : Int), .int .i64 (cN : Int)]) M rfl rfl rfl rfl rfl rfl (by kernel_rfl) (by rfl) HIC.out ?_; clear M c1 c2; intro V M; simp only [List.set_cons_zero] at M; have c1 : V.cell? ⟨pw, 0, none⟩ = some (.pointer (some ⟨y.wp, 0, none⟩)) := (M.get 1 rfl).cell 0; have c2 : V.cell? ⟨y.wp, 1, none⟩ = some (.slice (some ⟨gw, 0, none⟩) n cw) := (M.get 2 rfl).cell 1; have c3 : ∀ i, V.cell? ⟨pi, i, none⟩ = #[Value.int .i64 3, .int .i64 (aN : Int), .int .i64 (bN : Int), .int .i64 (cN : Int)][i]? := (M.get 0 rfl).cell)
    | (refine om_alloc 7 (evC ⟨0, 0, 0, 0, false⟩) M rfl rfl rfl (fun _ => by kernel_rfl) ?_; clear M c1 c2 c3; intro V pe M; simp only [Act.put, List.setIfInBounds_toArray, List.set_cons_zero, List.set_cons_succ]; have c1 : V.cell? ⟨pw, 0, none⟩ = some (.pointer (some ⟨y.wp, 0, none⟩)) := (M.get 2 rfl).cell 0; have c2 : V.cell? ⟨y.wp, 1, none⟩ = some (.slice (some ⟨gw, 0, none⟩) n cw) := (M.get 3 rfl).cell 1; have c3 : ∀ i, V.cell? ⟨pi, i, none⟩ = #[Value.int .i64 3, .int .i64 (aN : Int), .int .i64 (bN : Int), .int .i64 (cN : Int)][i]? := (M.get 1 rfl).cell)
    | (refine at_store (.tmp 7) (.tmp 26) rfl ?_; refine om_store_row 0 (.tmp 7) (.tmp 26) (cs' := evC ⟨k, 3, 0, 0, false⟩) M rfl rfl rfl rfl rfl rfl (by kernel_rfl) (by rfl) (evC_cell _) ?_; clear M c1 c2 c3; intro V M; simp only [List.set_cons_zero] at M; have c1 : V.cell? ⟨pw, 0, none⟩ = some (.pointer (some ⟨y.wp, 0, none⟩)) := (M.get 2 rfl).cell 0; have c2 : V.cell? ⟨y.wp, 1, none⟩ = some (.slice (some ⟨gw, 0, none⟩) n cw) := (M.get 3 rfl).cell 1; have c3 : ∀ i, V.cell? ⟨pi, i, none⟩ = #[Value.int .i64 3, .int .i64 (aN : Int), .int .i64 (bN : Int), .int .i64 (cN : Int)][i]? := (M.get 1 rfl).cell)
    | (refine om_alloc1 8 .nilFunc M rfl rfl rfl (fun _ => by kernel_rfl) rfl ?_; clear M c1 c2 c3; intro V pt M; simp only [Act.put, List.setIfInBounds_toArray, List.set_cons_zero, List.set_cons_succ]; have c1 : V.cell? ⟨pw, 0, none⟩ = some (.pointer (some ⟨y.wp, 0, none⟩)) := (M.get 3 rfl).cell 0; have c2 : V.cell? ⟨y.wp, 1, none⟩ = some (.slice (some ⟨gw, 0, none⟩) n cw) := (M.get 4 rfl).cell 1; have c3 : ∀ i, V.cell? ⟨pi, i, none⟩ = #[Value.int .i64 3, .int .i64 (aN : Int), .int .i64 (bN : Int), .int .i64 (cN : Int)][i]? := (M.get 2 rfl).cell)
    | (refine at_store (.tmp 8) (.tmp 27) rfl ?_; refine om_store 0 0 (Value.func (.func 105) #[] #[.pointer (some ⟨pw, 0, none⟩), .pointer (some ⟨pe, 0, none⟩)]) (.tmp 8) (.tmp 27) M rfl rfl rfl rfl rfl rfl (by show 0 < 1; omega) rfl rfl (by kernel_rfl) rfl ?_; clear M c1 c2 c3; intro V M; simp only [List.set_cons_zero] at M; have c1 : V.cell? ⟨pw, 0, none⟩ = some (.pointer (some ⟨y.wp, 0, none⟩)) := (M.get 3 rfl).cell 0; have c2 : V.cell? ⟨y.wp, 1, none⟩ = some (.slice (some ⟨gw, 0, none⟩) n cw) := (M.get 4 rfl).cell 1; have c3 : ∀ i, V.cell? ⟨pi, i, none⟩ = #[Value.int .i64 3, .int .i64 (aN : Int), .int .i64 (bN : Int), .int .i64 (cN : Int)][i]? := (M.get 2 rfl).cell; have c4 : V.cell? ⟨gw, k * 10 + 1, none⟩ = some (.int .i64 (rs k).pos) := ((M.get 5 rfl).cell _).trans (HC.out.pos HK.out); have c5 : V.cell? ⟨pt, 0, none⟩ = some (Value.func (.func 105) #[] #[.pointer (some ⟨pw, 0, none⟩), .pointer (some ⟨pe, 0, none⟩)]) := (M.get 0 rfl).cell 0))
  have ci : ∀ (p : Later V) i, p.1.cell? ⟨pi, i, none⟩ = #[Value.int .i64 3, .int .i64 (aN : Int), .int .i64 (bN : Int), .int .i64 (cN : Int)][i]? := Later.cell (M.get 2 rfl)
  have cra : ∀ p : Later V, p.1.cell? ⟨gw, k * 10 + 2 + aN, none⟩ = some (.int .i64 ((rs k).rg aN)) := fun p => (Later.cell (M.get 5 rfl) p _).trans (HC.out.reg HK.out HR.out.1)
  have crb : ∀ p : Later V, p.1.cell? ⟨gw, k * 10 + 2 + bN, none⟩ = some (.int .i64 ((rs k).rg bN)) := fun p => (Later.cell (M.get 5 rfl) p _).trans (HC.out.reg HK.out HR.out.2)
  refine wp_quiet_later (by kernel_rfl) (by kernel_rfl) ?_
  repeat (first
    | go_big_quiet_skip
    | go_big_quiet_step (fail))
  refine wpQuiet_nil ?_
  intro _ hw
  obtain ⟨p', rfl⟩ := hw
  replace M := M.keeps p'.2
  clear c3 c1 c2 c5 ci cra crb
  generalize p'.1 = V at M ⊢
  have c1 : V.cell? ⟨pw, 0, none⟩ = some (.pointer (some ⟨y.wp, 0, none⟩)) := (M.get 3 rfl).cell 0; have c2 : V.cell? ⟨y.wp, 1, none⟩ = some (.slice (some ⟨gw, 0, none⟩) n cw) := (M.get 4 rfl).cell 1; have c3 : ∀ i, V.cell? ⟨pi, i, none⟩ = #[Value.int .i64 3, .int .i64 (aN : Int), .int .i64 (bN : Int), .int .i64 (cN : Int)][i]? := (M.get 2 rfl).cell; have c5 : V.cell? ⟨pt, 0, none⟩ = some (Value.func (.func 105) #[] #[.pointer (some ⟨pw, 0, none⟩), .pointer (some ⟨pe, 0, none⟩)]) := (M.get 0 rfl).cell 0
  go_wp2_with (first
    | go_big_skip
    | (refine at_store (.tmp 221) (.tmp 219) rfl ?_; refine om_store 5 (k * 10 + 1) (.int .i64 (((rs k).pos : Int) + 1)) (.tmp 221) (.tmp 219) M rfl rfl rfl rfl rfl rfl (by have := HC.out.lt HK.out (f := 1) (by omega); simpa using this) rfl rfl (by kernel_rfl) (cs' := (cur).setIfInBounds (k * 10 + 1) (.int .i64 (((rs k).pos + 1 : Nat) : Int))) (by simp) ?_; clear M c1 c2 c3 c5; intro V M; simp only [List.set_cons_zero, List.set_cons_succ] at M; have c1 : V.cell? ⟨pw, 0, none⟩ = some (.pointer (some ⟨y.wp, 0, none⟩)) := (M.get 3 rfl).cell 0; have c2 : V.cell? ⟨y.wp, 1, none⟩ = some (.slice (some ⟨gw, 0, none⟩) n cw) := (M.get 4 rfl).cell 1; have c3 : ∀ i, V.cell? ⟨pi, i, none⟩ = #[Value.int .i64 3, .int .i64 (aN : Int), .int .i64 (bN : Int), .int .i64 (cN : Int)][i]? := (M.get 2 rfl).cell; have c5 : V.cell? ⟨pt, 0, none⟩ = some (Value.func (.func 105) #[] #[.pointer (some ⟨pw, 0, none⟩), .pointer (some ⟨pe, 0, none⟩)]) := (M.get 0 rfl).cell 0)
    | (go_at_call 105; refine (tell_any M ⟨k, 3, 0, 0, false⟩ (i := 3) (j := 1) (k := 4) rfl rfl rfl hn).mono ?_; rintro ev V ⟨rfl, v', M⟩; have HM := Lib.hid M; clear M))
  go_end0
  exact ⟨rfl, gw, cw, _, _, hv, HM.out.drop_ 4, HC.out.set_pos HK.out, H1.out, H2.out, by simpa using H3.out⟩

set_option maxRecDepth 100000 in
set_option maxHeartbeats 2000000 in
theorem st_3b  (M : OM w W ((y.wp, 110, wpC y S.nr gw n cw evs) :: (gw, 174, cur) :: (y.bp, 186, pipesA S.nr hv cl) :: (y.bl, 4, arrB y.lk lk) :: (y.bg, 3, arrI y.gr gr) :: (y.bc, 3, arrI y.ce ce) :: (y.ps, 27, sysV S A c R d) :: Lr) ⟨evs, E, S.nr, hv, held⟩) (hC : WhoC cur n rs) (hk : k < n) (hS : SysIn w S A c R d) (hp : (rs k).prog < S.np) (hl : S.lp (rs k).prog ≤ 256) (hn : E.length ≤ 100000) (h1 : n ≤ cw) (h2 : cw ≤ maxLen) (h3 : cur.size = cw * 10) {f : Nat → Int} (hI : instP S (rs k) = some f) (e0 : f 0 = 3) (e1 : f 1 = (aN : Int)) (e2 : f 2 = (bN : Int)) (e3 : f 3 = (cN : Int)) (ha : aN < 8) (hb : bN < 8) (hlt : (rs k).rg aN < (rs k).rg bN) : Calls Try.prog 91 #[.pointer (some ⟨y.wp, 0, none⟩), .int .i64 (k : Int)] W fun ev W' => ev = .returned (.tuple #[]) ∧ InW w W' S A c R d y Lr ⟨n, fun j => if j = k then { rs k with pos := cN } else rs j, held, cl, lk, gr, ce, E ++ [⟨k, 3, 0, 0, false⟩]⟩ := by
  have HN := Lib.hid (show ∀ V pw, OM w V ((pw, 104, #[.pointer (some ⟨y.wp, 0, none⟩)]) :: ((y.wp, 110, wpC y S.nr gw n cw evs) :: (gw, 174, cur) :: (y.bp, 186, pipesA S.nr hv cl) :: (y.bl, 4, arrB y.lk lk) :: (y.bg, 3, arrI y.gr gr) :: (y.bc, 3, arrI y.ce ce) :: (y.ps, 27, sysV S A c R d) :: Lr)) ⟨evs, E, S.nr, hv, held⟩ → Calls Try.prog 103 #[.pointer (some ⟨y.wp, 0, none⟩), .pointer (some ⟨gw, k * 10, none⟩)] V fun e W' => e = .returned (.tuple #[.agg #[Value.int .i64 3, .int .i64 (aN : Int), .int .i64 (bN : Int), .int .i64 (cN : Int)], .bool true]) ∧ Keeps V W' [] from fun V pw M => by
    have := wnext_any (M.get 1 rfl) (M.get 2 rfl) (M.get 7 rfl) (hS.kept M.own.keep) hC hk hp
    rw [hI] at this
    simpa [instV, instC, e0, e1, e2, e3] using this)
  have HIC := Lib.hid (show ∀ v ∈ (#[Value.int .i64 3, .int .i64 (aN : Int), .int .i64 (bN : Int), .int .i64 (cN : Int)]).toList, v.oneCell' = true from by
    have := instC_cell f
    simpa [instC, e0, e1, e2, e3] using this)
  have g1 : (k : Int) < n := by omega
  have g2 : (0 : Int) ≤ k := by omega
  have hpos : (rs k).pos < S.lp (rs k).prog := by
    unfold instP at hI
    split at hI
    · assumption
    · cases hI
  have g3 : ((rs k).pos : Int) < 256 := by omega
  have g4 : (0 : Int) ≤ (rs k).pos := by omega
  have HC := Lib.hid hC
  have HK := Lib.hid hk
  have HS := Lib.hid hS
  have HP := Lib.hid hp
  have HPos := Lib.hid hpos
  have H1 := Lib.hid h1
  have H2 := Lib.hid h2
  have H3 := Lib.hid h3
  have ak := add_zero_ gw (k * 10)
  have hmf : ∀ (fn : Fn) (first cap : Array Value) (w : World), (Instr.makeFunc fn first cap).run Try.prog w = .ok (.func fn first cap) w := fun _ _ _ _ => rfl
  clear hC hk hS hp hl hI e0 e1 e2 e3 h1 h2 h3 hpos
  have g5 : (aN : Int) < 8 := by omega
  have g6 : (0 : Int) ≤ aN := by omega
  have g7 : (bN : Int) < 8 := by omega
  have g8 : (0 : Int) ≤ bN := by omega
  have HR := Lib.hid (And.intro ha hb)
  clear ha hb
  have gd : decide ((rs k).rg bN ≤ (rs k).rg aN) = false := by simpa using hlt
  clear hlt
  go_enter Try.func91, Try.ntmps91
  go_wp2_with (first
    | go_big_skip
    | (refine om_box1 2 (.pointer (some ⟨y.wp, 0, none⟩)) M rfl rfl rfl rfl rfl ?_; clear M; intro V pw M; simp only [Act.put, List.setIfInBounds_toArray, List.set_cons_zero, List.set_cons_succ]; have c1 : V.cell? ⟨pw, 0, none⟩ = some (.pointer (some ⟨y.wp, 0, none⟩)) := (M.get 0 rfl).cell 0; have c2 : V.cell? ⟨y.wp, 1, none⟩ = some (.slice (some ⟨gw, 0, none⟩) n cw) := (M.get 1 rfl).cell 1)
    | (go_at_call 103; refine (HN.out _ _ M).mono ?_; rintro e V ⟨rfl, K⟩; replace M := M.keeps K; clear K c1 c2; have c1 : V.cell? ⟨pw, 0, none⟩ = some (.pointer (some ⟨y.wp, 0, none⟩)) := (M.get 0 rfl).cell 0; have c2 : V.cell? ⟨y.wp, 1, none⟩ = some (.slice (some ⟨gw, 0, none⟩) n cw) := (M.get 1 rfl).cell 1)
    | (refine om_alloc 5 (instC fun _ => 0) M rfl rfl rfl (fun _ => by kernel_rfl) ?_; clear M c1 c2; intro V pi M; simp only [Act.put, List.setIfInBounds_toArray, List.set_cons_zero, List.set_cons_succ]; have c1 : V.cell? ⟨pw, 0, none⟩ = some (.pointer (some ⟨y.wp, 0, none⟩)) := (M.get 1 rfl).cell 0; have c2 : V.cell? ⟨y.wp, 1, none⟩ = some (.slice (some ⟨gw, 0, none⟩) n cw) := (M.get 2 rfl).cell 1)
    | (refine at_store (.tmp 5) (.tmp 21) rfl ?_; refine om_store_row 0 (.tmp 5) (.tmp 21) (cs' := #[Value.int .i64 3, .int .i64 (aN : Int), .int .i64 (bN : Int), .int .i64 (cN : Int)]) M rfl rfl rfl rfl rfl rfl (by kernel_rfl) (by rfl) HIC.out ?_; clear M c1 c2; intro V M; simp only [List.set_cons_zero] at M; have c1 : V.cell? ⟨pw, 0, none⟩ = some (.pointer (some ⟨y.wp, 0, none⟩)) := (M.get 1 rfl).cell 0; have c2 : V.cell? ⟨y.wp, 1, none⟩ = some (.slice (some ⟨gw, 0, none⟩) n cw) := (M.get 2 rfl).cell 1; have c3 : ∀ i, V.cell? ⟨pi, i, none⟩ = #[Value.int .i64 3, .int .i64 (aN : Int), .int .i64 (bN : Int), .int .i64 (cN : Int)][i]? := (M.get 0 rfl).cell)
    | (refine om_alloc 7 (evC ⟨0, 0, 0, 0, false⟩) M rfl rfl rfl (fun _ => by kernel_rfl) ?_; clear M c1 c2 c3; intro V pe M; simp only [Act.put, List.setIfInBounds_toArray, List.set_cons_zero, List.set_cons_succ]; have c1 : V.cell? ⟨pw, 0, none⟩ = some (.pointer (some ⟨y.wp, 0, none⟩)) := (M.get 2 rfl).cell 0; have c2 : V.cell? ⟨y.wp, 1, none⟩ = some (.slice (some ⟨gw, 0, none⟩) n cw) := (M.get 3 rfl).cell 1; have c3 : ∀ i, V.cell? ⟨pi, i, none⟩ = #[Value.int .i64 3, .int .i64 (aN : Int), .int .i64 (bN : Int), .int .i64 (cN : Int)][i]? := (M.get 1 rfl).cell)
    | (refine at_store (.tmp 7) (.tmp 26) rfl ?_; refine om_store_row 0 (.tmp 7) (.tmp 26) (cs' := evC ⟨k, 3, 0, 0, false⟩) M rfl rfl rfl rfl rfl rfl (by kernel_rfl) (by rfl) (evC_cell _) ?_; clear M c1 c2 c3; intro V M; simp only [List.set_cons_zero] at M; have c1 : V.cell? ⟨pw, 0, none⟩ = some (.pointer (some ⟨y.wp, 0, none⟩)) := (M.get 2 rfl).cell 0; have c2 : V.cell? ⟨y.wp, 1, none⟩ = some (.slice (some ⟨gw, 0, none⟩) n cw) := (M.get 3 rfl).cell 1; have c3 : ∀ i, V.cell? ⟨pi, i, none⟩ = #[Value.int .i64 3, .int .i64 (aN : Int), .int .i64 (bN : Int), .int .i64 (cN : Int)][i]? := (M.get 1 rfl).cell)
    | (refine om_alloc1 8 .nilFunc M rfl rfl rfl (fun _ => by kernel_rfl) rfl ?_; clear M c1 c2 c3; intro V pt M; simp only [Act.put, List.setIfInBounds_toArray, List.set_cons_zero, List.set_cons_succ]; have c1 : V.cell? ⟨pw, 0, none⟩ = some (.pointer (some ⟨y.wp, 0, none⟩)) := (M.get 3 rfl).cell 0; have c2 : V.cell? ⟨y.wp, 1, none⟩ = some (.slice (some ⟨gw, 0, none⟩) n cw) := (M.get 4 rfl).cell 1; have c3 : ∀ i, V.cell? ⟨pi, i, none⟩ = #[Value.int .i64 3, .int .i64 (aN : Int), .int .i64 (bN : Int), .int .i64 (cN : Int)][i]? := (M.get 2 rfl).cell)
    | (refine at_store (.tmp 8) (.tmp 27) rfl ?_; refine om_store 0 0 (Value.func (.func 105) #[] #[.pointer (some ⟨pw, 0, none⟩), .pointer (some ⟨pe, 0, none⟩)]) (.tmp 8) (.tmp 27) M rfl rfl rfl rfl rfl rfl (by show 0 < 1; omega) rfl rfl (by kernel_rfl) rfl ?_; clear M c1 c2 c3; intro V M; simp only [List.set_cons_zero] at M; have c1 : V.cell? ⟨pw, 0, none⟩ = some (.pointer (some ⟨y.wp, 0, none⟩)) := (M.get 3 rfl).cell 0; have c2 : V.cell? ⟨y.wp, 1, none⟩ = some (.slice (some ⟨gw, 0, none⟩) n cw) := (M.get 4 rfl).cell 1; have c3 : ∀ i, V.cell? ⟨pi, i, none⟩ = #[Value.int .i64 3, .int .i64 (aN : Int), .int .i64 (bN : Int), .int .i64 (cN : Int)][i]? := (M.get 2 rfl).cell; have c4 : V.cell? ⟨gw, k * 10 + 1, none⟩ = some (.int .i64 (rs k).pos) := ((M.get 5 rfl).cell _).trans (HC.out.pos HK.out); have c5 : V.cell? ⟨pt, 0, none⟩ = some (Value.func (.func 105) #[] #[.pointer (some ⟨pw, 0, none⟩), .pointer (some ⟨pe, 0, none⟩)]) := (M.get 0 rfl).cell 0))
  have ci : ∀ (p : Later V) i, p.1.cell? ⟨pi, i, none⟩ = #[Value.int .i64 3, .int .i64 (aN : Int), .int .i64 (bN : Int), .int .i64 (cN : Int)][i]? := Later.cell (M.get 2 rfl)
  have cra : ∀ p : Later V, p.1.cell? ⟨gw, k * 10 + 2 + aN, none⟩ = some (.int .i64 ((rs k).rg aN)) := fun p => (Later.cell (M.get 5 rfl) p _).trans (HC.out.reg HK.out HR.out.1)
  have crb : ∀ p : Later V, p.1.cell? ⟨gw, k * 10 + 2 + bN, none⟩ = some (.int .i64 ((rs k).rg bN)) := fun p => (Later.cell (M.get 5 rfl) p _).trans (HC.out.reg HK.out HR.out.2)
  refine wp_quiet_later (by kernel_rfl) (by kernel_rfl) ?_
  repeat (first
    | go_big_quiet_skip
    | go_big_quiet_step (fail))
  refine wpQuiet_nil ?_
  intro _ hw
  obtain ⟨p', rfl⟩ := hw
  replace M := M.keeps p'.2
  clear c3 c1 c2 c5 ci cra crb
  generalize p'.1 = V at M ⊢
  have c1 : V.cell? ⟨pw, 0, none⟩ = some (.pointer (some ⟨y.wp, 0, none⟩)) := (M.get 3 rfl).cell 0; have c2 : V.cell? ⟨y.wp, 1, none⟩ = some (.slice (some ⟨gw, 0, none⟩) n cw) := (M.get 4 rfl).cell 1; have c3 : ∀ i, V.cell? ⟨pi, i, none⟩ = #[Value.int .i64 3, .int .i64 (aN : Int), .int .i64 (bN : Int), .int .i64 (cN : Int)][i]? := (M.get 2 rfl).cell; have c5 : V.cell? ⟨pt, 0, none⟩ = some (Value.func (.func 105) #[] #[.pointer (some ⟨pw, 0, none⟩), .pointer (some ⟨pe, 0, none⟩)]) := (M.get 0 rfl).cell 0
  go_wp2_with (first
    | go_big_skip
    | (refine at_store (.tmp 221) (.tmp 219) rfl ?_; refine om_store 5 (k * 10 + 1) (.int .i64 (cN : Int)) (.tmp 221) (.tmp 219) M rfl rfl rfl rfl rfl rfl (by have := HC.out.lt HK.out (f := 1) (by omega); simpa using this) rfl rfl (by kernel_rfl) (cs' := (cur).setIfInBounds (k * 10 + 1) (.int .i64 ((cN : Nat) : Int))) (by simp) ?_; clear M c1 c2 c3 c5; intro V M; simp only [List.set_cons_zero, List.set_cons_succ] at M; have c1 : V.cell? ⟨pw, 0, none⟩ = some (.pointer (some ⟨y.wp, 0, none⟩)) := (M.get 3 rfl).cell 0; have c2 : V.cell? ⟨y.wp, 1, none⟩ = some (.slice (some ⟨gw, 0, none⟩) n cw) := (M.get 4 rfl).cell 1; have c3 : ∀ i, V.cell? ⟨pi, i, none⟩ = #[Value.int .i64 3, .int .i64 (aN : Int), .int .i64 (bN : Int), .int .i64 (cN : Int)][i]? := (M.get 2 rfl).cell; have c5 : V.cell? ⟨pt, 0, none⟩ = some (Value.func (.func 105) #[] #[.pointer (some ⟨pw, 0, none⟩), .pointer (some ⟨pe, 0, none⟩)]) := (M.get 0 rfl).cell 0)
    | (go_at_call 105; refine (tell_any M ⟨k, 3, 0, 0, false⟩ (i := 3) (j := 1) (k := 4) rfl rfl rfl hn).mono ?_; rintro ev V ⟨rfl, v', M⟩; have HM := Lib.hid M; clear M))
  go_end0
  exact ⟨rfl, gw, cw, _, _, hv, HM.out.drop_ 4, HC.out.set_pos HK.out, H1.out, H2.out, by simpa using H3.out⟩

set_option maxRecDepth 100000 in
set_option maxHeartbeats 2000000 in
theorem st_4 {b4 : Int} (M : OM w W ((y.wp, 110, wpC y S.nr gw n cw evs) :: (gw, 174, cur) :: (y.bp, 186, pipesA S.nr hv cl) :: (y.bl, 4, arrB y.lk lk) :: (y.bg, 3, arrI y.gr gr) :: (y.bc, 3, arrI y.ce ce) :: (y.ps, 27, sysV S A c R d) :: Lr) ⟨evs, E, S.nr, hv, held⟩) (hC : WhoC cur n rs) (hk : k < n) (hS : SysIn w S A c R d) (hp : (rs k).prog < S.np) (hl : S.lp (rs k).prog ≤ 256) (hn : E.length ≤ 100000) (h1 : n ≤ cw) (h2 : cw ≤ maxLen) (h3 : cur.size = cw * 10) {f : Nat → Int} (hI : instP S (rs k) = some f) (e0 : f 0 = 4) (e1 : f 1 = (b : Int)) (e2 : f 2 = (b4 : Int)) (e3 : f 3 = (cN : Int))  : Calls Try.prog 91 #[.pointer (some ⟨y.wp, 0, none⟩), .int .i64 (k : Int)] W fun ev W' => ev = .returned (.tuple #[]) ∧ InW w W' S A c R d y Lr ⟨n, fun j => if j = k then { rs k with pos := cN } else rs j, held, cl, lk, gr, ce, E ++ [⟨k, 4, 0, 0, false⟩]⟩ := by
  have HN := Lib.hid (show ∀ V pw, OM w V ((pw, 104, #[.pointer (some ⟨y.wp, 0, none⟩)]) :: ((y.wp, 110, wpC y S.nr gw n cw evs) :: (gw, 174, cur) :: (y.bp, 186, pipesA S.nr hv cl) :: (y.bl, 4, arrB y.lk lk) :: (y.bg, 3, arrI y.gr gr) :: (y.bc, 3, arrI y.ce ce) :: (y.ps, 27, sysV S A c R d) :: Lr)) ⟨evs, E, S.nr, hv, held⟩ → Calls Try.prog 103 #[.pointer (some ⟨y.wp, 0, none⟩), .pointer (some ⟨gw, k * 10, none⟩)] V fun e W' => e = .returned (.tuple #[.agg #[Value.int .i64 4, .int .i64 (b : Int), .int .i64 (b4 : Int), .int .i64 (cN : Int)], .bool true]) ∧ Keeps V W' [] from fun V pw M => by
    have := wnext_any (M.get 1 rfl) (M.get 2 rfl) (M.get 7 rfl) (hS.kept M.own.keep) hC hk hp
    rw [hI] at this
    simpa [instV, instC, e0, e1, e2, e3] using this)
  have HIC := Lib.hid (show ∀ v ∈ (#[Value.int .i64 4, .int .i64 (b : Int), .int .i64 (b4 : Int), .int .i64 (cN : Int)]).toList, v.oneCell' = true from by
    have := instC_cell f
    simpa [instC, e0, e1, e2, e3] using this)
  have g1 : (k : Int) < n := by omega
  have g2 : (0 : Int) ≤ k := by omega
  have hpos : (rs k).pos < S.lp (rs k).prog := by
    unfold instP at hI
    split at hI
    · assumption
    · cases hI
  have g3 : ((rs k).pos : Int) < 256 := by omega
  have g4 : (0 : Int) ≤ (rs k).pos := by omega
  have HC := Lib.hid hC
  have HK := Lib.hid hk
  have HS := Lib.hid hS
  have HP := Lib.hid hp
  have HPos := Lib.hid hpos
  have H1 := Lib.hid h1
  have H2 := Lib.hid h2
  have H3 := Lib.hid h3
  have ak := add_zero_ gw (k * 10)
  have hmf : ∀ (fn : Fn) (first cap : Array Value) (w : World), (Instr.makeFunc fn first cap).run Try.prog w = .ok (.func fn first cap) w := fun _ _ _ _ => rfl
  clear hC hk hS hp hl hI e0 e1 e2 e3 h1 h2 h3 hpos
  go_enter Try.func91, Try.ntmps91
  go_wp2_with (first
    | go_big_skip
    | (refine om_box1 2 (.pointer (some ⟨y.wp, 0, none⟩)) M rfl rfl rfl rfl rfl ?_; clear M; intro V pw M; simp only [Act.put, List.setIfInBounds_toArray, List.set_cons_zero, List.set_cons_succ]; have c1 : V.cell? ⟨pw, 0, none⟩ = some (.pointer (some ⟨y.wp, 0, none⟩)) := (M.get 0 rfl).cell 0; have c2 : V.cell? ⟨y.wp, 1, none⟩ = some (.slice (some ⟨gw, 0, none⟩) n cw) := (M.get 1 rfl).cell 1)
    | (go_at_call 103; refine (HN.out _ _ M).mono ?_; rintro e V ⟨rfl, K⟩; replace M := M.keeps K; clear K c1 c2; have c1 : V.cell? ⟨pw, 0, none⟩ = some (.pointer (some ⟨y.wp, 0, none⟩)) := (M.get 0 rfl).cell 0; have c2 : V.cell? ⟨y.wp, 1, none⟩ = some (.slice (some ⟨gw, 0, none⟩) n cw) := (M.get 1 rfl).cell 1)
    | (refine om_alloc 5 (instC fun _ => 0) M rfl rfl rfl (fun _ => by kernel_rfl) ?_; clear M c1 c2; intro V pi M; simp only [Act.put, List.setIfInBounds_toArray, List.set_cons_zero, List.set_cons_succ]; have c1 : V.cell? ⟨pw, 0, none⟩ = some (.pointer (some ⟨y.wp, 0, none⟩)) := (M.get 1 rfl).cell 0; have c2 : V.cell? ⟨y.wp, 1, none⟩ = some (.slice (some ⟨gw, 0, none⟩) n cw) := (M.get 2 rfl).cell 1)
    | (refine at_store (.tmp 5) (.tmp 21) rfl ?_; refine om_store_row 0 (.tmp 5) (.tmp 21) (cs' := #[Value.int .i64 4, .int .i64 (b : Int), .int .i64 (b4 : Int), .int .i64 (cN : Int)]) M rfl rfl rfl rfl rfl rfl (by kernel_rfl) (by rfl) HIC.out ?_; clear M c1 c2; intro V M; simp only [List.set_cons_zero] at M; have c1 : V.cell? ⟨pw, 0, none⟩ = some (.pointer (some ⟨y.wp, 0, none⟩)) := (M.get 1 rfl).cell 0; have c2 : V.cell? ⟨y.wp, 1, none⟩ = some (.slice (some ⟨gw, 0, none⟩) n cw) := (M.get 2 rfl).cell 1; have c3 : ∀ i, V.cell? ⟨pi, i, none⟩ = #[Value.int .i64 4, .int .i64 (b : Int), .int .i64 (b4 : Int), .int .i64 (cN : Int)][i]? := (M.get 0 rfl).cell)
    | (refine om_alloc 7 (evC ⟨0, 0, 0, 0, false⟩) M rfl rfl rfl (fun _ => by kernel_rfl) ?_; clear M c1 c2 c3; intro V pe M; simp only [Act.put, List.setIfInBounds_toArray, List.set_cons_zero, List.set_cons_succ]; have c1 : V.cell? ⟨pw, 0, none⟩ = some (.pointer (some ⟨y.wp, 0, none⟩)) := (M.get 2 rfl).cell 0; have c2 : V.cell? ⟨y.wp, 1, none⟩ = some (.slice (some ⟨gw, 0, none⟩) n cw) := (M.get 3 rfl).cell 1; have c3 : ∀ i, V.cell? ⟨pi, i, none⟩ = #[Value.int .i64 4, .int .i64 (b : Int), .int .i64 (b4 : Int), .int .i64 (cN : Int)][i]? := (M.get 1 rfl).cell)
    | (refine at_store (.tmp 7) (.tmp 26) rfl ?_; refine om_store_row 0 (.tmp 7) (.tmp 26) (cs' := evC ⟨k, 4, 0, 0, false⟩) M rfl rfl rfl rfl rfl rfl (by kernel_rfl) (by rfl) (evC_cell _) ?_; clear M c1 c2 c3; intro V M; simp only [List.set_cons_zero] at M; have c1 : V.cell? ⟨pw, 0, none⟩ = some (.pointer (some ⟨y.wp, 0, none⟩)) := (M.get 2 rfl).cell 0; have c2 : V.cell? ⟨y.wp, 1, none⟩ = some (.slice (some ⟨gw, 0, none⟩) n cw) := (M.get 3 rfl).cell 1; have c3 : ∀ i, V.cell? ⟨pi, i, none⟩ = #[Value.int .i64 4, .int .i64 (b : Int), .int .i64 (b4 : Int), .int .i64 (cN : Int)][i]? := (M.get 1 rfl).cell)
    | (refine om_alloc1 8 .nilFunc M rfl rfl rfl (fun _ => by kernel_rfl) rfl ?_; clear M c1 c2 c3; intro V pt M; simp only [Act.put, List.setIfInBounds_toArray, List.set_cons_zero, List.set_cons_succ]; have c1 : V.cell? ⟨pw, 0, none⟩ = some (.pointer (some ⟨y.wp, 0, none⟩)) := (M.get 3 rfl).cell 0; have c2 : V.cell? ⟨y.wp, 1, none⟩ = some (.slice (some ⟨gw, 0, none⟩) n cw) := (M.get 4 rfl).cell 1; have c3 : ∀ i, V.cell? ⟨pi, i, none⟩ = #[Value.int .i64 4, .int .i64 (b : Int), .int .i64 (b4 : Int), .int .i64 (cN : Int)][i]? := (M.get 2 rfl).cell)
    | (refine at_store (.tmp 8) (.tmp 27) rfl ?_; refine om_store 0 0 (Value.func (.func 105) #[] #[.pointer (some ⟨pw, 0, none⟩), .pointer (some ⟨pe, 0, none⟩)]) (.tmp 8) (.tmp 27) M rfl rfl rfl rfl rfl rfl (by show 0 < 1; omega) rfl rfl (by kernel_rfl) rfl ?_; clear M c1 c2 c3; intro V M; simp only [List.set_cons_zero] at M; have c1 : V.cell? ⟨pw, 0, none⟩ = some (.pointer (some ⟨y.wp, 0, none⟩)) := (M.get 3 rfl).cell 0; have c2 : V.cell? ⟨y.wp, 1, none⟩ = some (.slice (some ⟨gw, 0, none⟩) n cw) := (M.get 4 rfl).cell 1; have c3 : ∀ i, V.cell? ⟨pi, i, none⟩ = #[Value.int .i64 4, .int .i64 (b : Int), .int .i64 (b4 : Int), .int .i64 (cN : Int)][i]? := (M.get 2 rfl).cell; have c4 : V.cell? ⟨gw, k * 10 + 1, none⟩ = some (.int .i64 (rs k).pos) := ((M.get 5 rfl).cell _).trans (HC.out.pos HK.out); have c5 : V.cell? ⟨pt, 0, none⟩ = some (Value.func (.func 105) #[] #[.pointer (some ⟨pw, 0, none⟩), .pointer (some ⟨pe, 0, none⟩)]) := (M.get 0 rfl).cell 0)
    | (refine at_store (.tmp 221) (.tmp 219) rfl ?_; refine om_store 5 (k * 10 + 1) (.int .i64 (cN : Int)) (.tmp 221) (.tmp 219) M rfl rfl rfl rfl rfl rfl (by have := HC.out.lt HK.out (f := 1) (by omega); simpa using this) rfl rfl (by kernel_rfl) (cs' := (cur).setIfInBounds (k * 10 + 1) (.int .i64 ((cN : Nat) : Int))) (by simp) ?_; clear M c1 c2 c3 c5; intro V M; simp only [List.set_cons_zero, List.set_cons_succ] at M; have c1 : V.cell? ⟨pw, 0, none⟩ = some (.pointer (some ⟨y.wp, 0, none⟩)) := (M.get 3 rfl).cell 0; have c2 : V.cell? ⟨y.wp, 1, none⟩ = some (.slice (some ⟨gw, 0, none⟩) n cw) := (M.get 4 rfl).cell 1; have c3 : ∀ i, V.cell? ⟨pi, i, none⟩ = #[Value.int .i64 4, .int .i64 (b : Int), .int .i64 (b4 : Int), .int .i64 (cN : Int)][i]? := (M.get 2 rfl).cell; have c5 : V.cell? ⟨pt, 0, none⟩ = some (Value.func (.func 105) #[] #[.pointer (some ⟨pw, 0, none⟩), .pointer (some ⟨pe, 0, none⟩)]) := (M.get 0 rfl).cell 0)
    | (go_at_call 105; refine (tell_any M ⟨k, 4, 0, 0, false⟩ (i := 3) (j := 1) (k := 4) rfl rfl rfl hn).mono ?_; rintro ev V ⟨rfl, v', M⟩; have HM := Lib.hid M; clear M))
  go_end0
  exact ⟨rfl, gw, cw, _, _, hv, HM.out.drop_ 4, HC.out.set_pos HK.out, H1.out, H2.out, by simpa using H3.out⟩

set_option maxRecDepth 100000 in
set_option maxHeartbeats 2000000 in
theorem st_16 {b4 : Int} (M : OM w W ((y.wp, 110, wpC y S.nr gw n cw evs) :: (gw, 174, cur) :: (y.bp, 186, pipesA S.nr hv cl) :: (y.bl, 4, arrB y.lk lk) :: (y.bg, 3, arrI y.gr gr) :: (y.bc, 3, arrI y.ce ce) :: (y.ps, 27, sysV S A c R d) :: Lr) ⟨evs, E, S.nr, hv, held⟩) (hC : WhoC cur n rs) (hk : k < n) (hS : SysIn w S A c R d) (hp : (rs k).prog < S.np) (hl : S.lp (rs k).prog ≤ 256) (hn : E.length ≤ 100000) (h1 : n ≤ cw) (h2 : cw ≤ maxLen) (h3 : cur.size = cw * 10) {f : Nat → Int} (hI : instP S (rs k) = some f) (e0 : f 0 = 16) (e1 : f 1 = (b : Int)) (e2 : f 2 = (b4 : Int)) (e3 : f 3 = (b3 : Int))  : Calls Try.prog 91 #[.pointer (some ⟨y.wp, 0, none⟩), .int .i64 (k : Int)] W fun ev W' => ev = .returned (.tuple #[]) ∧ InW w W' S A c R d y Lr ⟨n, fun j => if j = k then { rs k with pos := (S.lp (rs k).prog) } else rs j, held, cl, lk, gr, ce, E ++ [⟨k, 16, 0, 0, false⟩]⟩ := by
  have HN := Lib.hid (show ∀ V pw, OM w V ((pw, 104, #[.pointer (some ⟨y.wp, 0, none⟩)]) :: ((y.wp, 110, wpC y S.nr gw n cw evs) :: (gw, 174, cur) :: (y.bp, 186, pipesA S.nr hv cl) :: (y.bl, 4, arrB y.lk lk) :: (y.bg, 3, arrI y.gr gr) :: (y.bc, 3, arrI y.ce ce) :: (y.ps, 27, sysV S A c R d) :: Lr)) ⟨evs, E, S.nr, hv, held⟩ → Calls Try.prog 103 #[.pointer (some ⟨y.wp, 0, none⟩), .pointer (some ⟨gw, k * 10, none⟩)] V fun e W' => e = .returned (.tuple #[.agg #[Value.int .i64 16, .int .i64 (b : Int), .int .i64 (b4 : Int), .int .i64 (b3 : Int)], .bool true]) ∧ Keeps V W' [] from fun V pw M => by
    have := wnext_any (M.get 1 rfl) (M.get 2 rfl) (M.get 7 rfl) (hS.kept M.own.keep) hC hk hp
    rw [hI] at this
    simpa [instV, instC, e0, e1, e2, e3] using this)
  have HIC := Lib.hid (show ∀ v ∈ (#[Value.int .i64 16, .int .i64 (b : Int), .int .i64 (b4 : Int), .int .i64 (b3 : Int)]).toList, v.oneCell' = true from by
    have := instC_cell f
    simpa [instC, e0, e1, e2, e3] using this)
  have g1 : (k : Int) < n := by omega
  have g2 : (0 : Int) ≤ k := by omega
  have hpos : (rs k).pos < S.lp (rs k).prog := by
    unfold instP at hI
    split at hI
    · assumption
    · cases hI
  have g3 : ((rs k).pos : Int) < 256 := by omega
  have g4 : (0 : Int) ≤ (rs k).pos := by omega
  have HC := Lib.hid hC
  have HK := Lib.hid hk
  have HS := Lib.hid hS
  have HP := Lib.hid hp
  have HPos := Lib.hid hpos
  have H1 := Lib.hid h1
  have H2 := Lib.hid h2
  have H3 := Lib.hid h3
  have ak := add_zero_ gw (k * 10)
  have hmf : ∀ (fn : Fn) (first cap : Array Value) (w : World), (Instr.makeFunc fn first cap).run Try.prog w = .ok (.func fn first cap) w := fun _ _ _ _ => rfl
  clear hC hk hS hp hl hI e0 e1 e2 e3 h1 h2 h3 hpos
  obtain ⟨ad, rfl, hb, hpr⟩ := HS.out.progs (by have := HP.out; omega)
  obtain ⟨B, cB, hq1, hq2, hq3, hI⟩ := hpr _ HP.out
  have g5 : ((rs k).prog : Int) < S.np := by have := HP.out; omega
  have g6 : (0 : Int) ≤ (rs k).prog := by omega
  have HB := Lib.hid (And.intro hb hq1)
  clear hb hpr hq1 hI hq2 hq3
  go_enter Try.func91, Try.ntmps91
  go_wp2_with (first
    | go_big_skip
    | (refine om_box1 2 (.pointer (some ⟨y.wp, 0, none⟩)) M rfl rfl rfl rfl rfl ?_; clear M; intro V pw M; simp only [Act.put, List.setIfInBounds_toArray, List.set_cons_zero, List.set_cons_succ]; have c1 : V.cell? ⟨pw, 0, none⟩ = some (.pointer (some ⟨y.wp, 0, none⟩)) := (M.get 0 rfl).cell 0; have c2 : V.cell? ⟨y.wp, 1, none⟩ = some (.slice (some ⟨gw, 0, none⟩) n cw) := (M.get 1 rfl).cell 1)
    | (go_at_call 103; refine (HN.out _ _ M).mono ?_; rintro e V ⟨rfl, K⟩; replace M := M.keeps K; clear K c1 c2; have c1 : V.cell? ⟨pw, 0, none⟩ = some (.pointer (some ⟨y.wp, 0, none⟩)) := (M.get 0 rfl).cell 0; have c2 : V.cell? ⟨y.wp, 1, none⟩ = some (.slice (some ⟨gw, 0, none⟩) n cw) := (M.get 1 rfl).cell 1)
    | (refine om_alloc 5 (instC fun _ => 0) M rfl rfl rfl (fun _ => by kernel_rfl) ?_; clear M c1 c2; intro V pi M; simp only [Act.put, List.setIfInBounds_toArray, List.set_cons_zero, List.set_cons_succ]; have c1 : V.cell? ⟨pw, 0, none⟩ = some (.pointer (some ⟨y.wp, 0, none⟩)) := (M.get 1 rfl).cell 0; have c2 : V.cell? ⟨y.wp, 1, none⟩ = some (.slice (some ⟨gw, 0, none⟩) n cw) := (M.get 2 rfl).cell 1)
    | (refine at_store (.tmp 5) (.tmp 21) rfl ?_; refine om_store_row 0 (.tmp 5) (.tmp 21) (cs' := #[Value.int .i64 16, .int .i64 (b : Int), .int .i64 (b4 : Int), .int .i64 (b3 : Int)]) M rfl rfl rfl rfl rfl rfl (by kernel_rfl) (by rfl) HIC.out ?_; clear M c1 c2; intro V M; simp only [List.set_cons_zero] at M; have c1 : V.cell? ⟨pw, 0, none⟩ = some (.pointer (some ⟨y.wp, 0, none⟩)) := (M.get 1 rfl).cell 0; have c2 : V.cell? ⟨y.wp, 1, none⟩ = some (.slice (some ⟨gw, 0, none⟩) n cw) := (M.get 2 rfl).cell 1; have c3 : ∀ i, V.cell? ⟨pi, i, none⟩ = #[Value.int .i64 16, .int .i64 (b : Int), .int .i64 (b4 : Int), .int .i64 (b3 : Int)][i]? := (M.get 0 rfl).cell)
    | (refine om_alloc 7 (evC ⟨0, 0, 0, 0, false⟩) M rfl rfl rfl (fun _ => by kernel_rfl) ?_; clear M c1 c2 c3; intro V pe M; simp only [Act.put, List.setIfInBounds_toArray, List.set_cons_zero, List.set_cons_succ]; have c1 : V.cell? ⟨pw, 0, none⟩ = some (.pointer (some ⟨y.wp, 0, none⟩)) := (M.get 2 rfl).cell 0; have c2 : V.cell? ⟨y.wp, 1, none⟩ = some (.slice (some ⟨gw, 0, none⟩) n cw) := (M.get 3 rfl).cell 1; have c3 : ∀ i, V.cell? ⟨pi, i, none⟩ = #[Value.int .i64 16, .int .i64 (b : Int), .int .i64 (b4 : Int), .int .i64 (b3 : Int)][i]? := (M.get 1 rfl).cell)
    | (refine at_store (.tmp 7) (.tmp 26) rfl ?_; refine om_store_row 0 (.tmp 7) (.tmp 26) (cs' := evC ⟨k, 16, 0, 0, false⟩) M rfl rfl rfl rfl rfl rfl (by kernel_rfl) (by rfl) (evC_cell _) ?_; clear M c1 c2 c3; intro V M; simp only [List.set_cons_zero] at M; have c1 : V.cell? ⟨pw, 0, none⟩ = some (.pointer (some ⟨y.wp, 0, none⟩)) := (M.get 2 rfl).cell 0; have c2 : V.cell? ⟨y.wp, 1, none⟩ = some (.slice (some ⟨gw, 0, none⟩) n cw) := (M.get 3 rfl).cell 1; have c3 : ∀ i, V.cell? ⟨pi, i, none⟩ = #[Value.int .i64 16, .int .i64 (b : Int), .int .i64 (b4 : Int), .int .i64 (b3 : Int)][i]? := (M.get 1 rfl).cell)
    | (refine om_alloc1 8 .nilFunc M rfl rfl rfl (fun _ => by kernel_rfl) rfl ?_; clear M c1 c2 c3; intro V pt M; simp only [Act.put, List.setIfInBounds_toArray, List.set_cons_zero, List.set_cons_succ]; have c1 : V.cell? ⟨pw, 0, none⟩ = some (.pointer (some ⟨y.wp, 0, none⟩)) := (M.get 3 rfl).cell 0; have c2 : V.cell? ⟨y.wp, 1, none⟩ = some (.slice (some ⟨gw, 0, none⟩) n cw) := (M.get 4 rfl).cell 1; have c3 : ∀ i, V.cell? ⟨pi, i, none⟩ = #[Value.int .i64 16, .int .i64 (b : Int), .int .i64 (b4 : Int), .int .i64 (b3 : Int)][i]? := (M.get 2 rfl).cell)
    | (refine at_store (.tmp 8) (.tmp 27) rfl ?_; refine om_store 0 0 (Value.func (.func 105) #[] #[.pointer (some ⟨pw, 0, none⟩), .pointer (some ⟨pe, 0, none⟩)]) (.tmp 8) (.tmp 27) M rfl rfl rfl rfl rfl rfl (by show 0 < 1; omega) rfl rfl (by kernel_rfl) rfl ?_; clear M c1 c2 c3; intro V M; simp only [List.set_cons_zero] at M; have c1 : V.cell? ⟨pw, 0, none⟩ = some (.pointer (some ⟨y.wp, 0, none⟩)) := (M.get 3 rfl).cell 0; have c2 : V.cell? ⟨y.wp, 1, none⟩ = some (.slice (some ⟨gw, 0, none⟩) n cw) := (M.get 4 rfl).cell 1; have c3 : ∀ i, V.cell? ⟨pi, i, none⟩ = #[Value.int .i64 16, .int .i64 (b : Int), .int .i64 (b4 : Int), .int .i64 (b3 : Int)][i]? := (M.get 2 rfl).cell; have c4 : V.cell? ⟨gw, k * 10 + 1, none⟩ = some (.int .i64 (rs k).pos) := ((M.get 5 rfl).cell _).trans (HC.out.pos HK.out); have c5 : V.cell? ⟨pt, 0, none⟩ = some (Value.func (.func 105) #[] #[.pointer (some ⟨pw, 0, none⟩), .pointer (some ⟨pe, 0, none⟩)]) := (M.get 0 rfl).cell 0))
  have cw : ∀ (p : Later V) i, p.1.cell? ⟨y.wp, i, none⟩ = #[Value.pointer (some ⟨y.ps, 0, none⟩), .slice (some ⟨gw, 0, none⟩) n cw, .slice (some ⟨y.bp, 0, none⟩) S.nr S.nr, .slice (some ⟨y.bl, 0, none⟩) y.lk y.lk, .slice (some ⟨y.bg, 0, none⟩) y.gr y.gr, .slice (some ⟨y.bc, 0, none⟩) y.ce y.ce, evs][i]? := Later.cell (M.get 4 rfl)
  have cp : ∀ p : Later V, p.1.cell? ⟨pw, 0, none⟩ = some (.pointer (some ⟨y.wp, 0, none⟩)) := fun p => (Later.cell (M.get 3 rfl) p _)
  have cs : ∀ (p : Later V) i, p.1.cell? ⟨y.ps, i, none⟩ = #[Value.slice (some ad) S.np c, .slice R S.nr d, .int .i64 S.gr, .int .i64 S.lk, .int .i64 S.ce][i]? := Later.cell (M.get 10 rfl)
  have cq : ∀ p : Later V, p.1.cell? ⟨gw, k * 10, none⟩ = some (.int .i64 (rs k).prog) := fun p => (Later.cell (M.get 5 rfl) p _).trans (HC.out.prog HK.out)
  have cv : ∀ p : Later V, p.1.cell? (ad.add (rs k).prog) = some (.slice B (S.lp (rs k).prog) cB) := fun p => ((M.own.keep.trans p.2 (by simp)).cellAt (by rw [add_block]; exact HB.out.1) (by simp)).trans HB.out.2
  refine wp_quiet_later (by kernel_rfl) (by kernel_rfl) ?_
  repeat (first
    | go_big_quiet_skip
    | go_big_quiet_step (fail))
  refine wpQuiet_nil ?_
  intro _ hw
  obtain ⟨p', rfl⟩ := hw
  replace M := M.keeps p'.2
  clear c1 c2 c3 c4 c5 cw cp cs cq cv
  generalize p'.1 = V at M ⊢
  have c1 : V.cell? ⟨pw, 0, none⟩ = some (.pointer (some ⟨y.wp, 0, none⟩)) := (M.get 3 rfl).cell 0; have c2 : V.cell? ⟨y.wp, 1, none⟩ = some (.slice (some ⟨gw, 0, none⟩) n cw) := (M.get 4 rfl).cell 1; have c3 : ∀ i, V.cell? ⟨pi, i, none⟩ = #[Value.int .i64 16, .int .i64 (b : Int), .int .i64 (b4 : Int), .int .i64 (b3 : Int)][i]? := (M.get 2 rfl).cell; have c5 : V.cell? ⟨pt, 0, none⟩ = some (Value.func (.func 105) #[] #[.pointer (some ⟨pw, 0, none⟩), .pointer (some ⟨pe, 0, none⟩)]) := (M.get 0 rfl).cell 0
  go_wp2_with (first
    | go_big_skip
    | (refine at_store (.tmp 221) (.tmp 219) rfl ?_; refine om_store 5 (k * 10 + 1) (.int .i64 (S.lp (rs k).prog : Int)) (.tmp 221) (.tmp 219) M rfl rfl rfl rfl rfl rfl (by have := HC.out.lt HK.out (f := 1) (by omega); simpa using this) rfl rfl (by kernel_rfl) (cs' := (cur).setIfInBounds (k * 10 + 1) (.int .i64 (((S.lp (rs k).prog) : Nat) : Int))) (by simp) ?_; clear M c1 c2 c3 c5; intro V M; simp only [List.set_cons_zero, List.set_cons_succ] at M; have c1 : V.cell? ⟨pw, 0, none⟩ = some (.pointer (some ⟨y.wp, 0, none⟩)) := (M.get 3 rfl).cell 0; have c2 : V.cell? ⟨y.wp, 1, none⟩ = some (.slice (some ⟨gw, 0, none⟩) n cw) := (M.get 4 rfl).cell 1; have c3 : ∀ i, V.cell? ⟨pi, i, none⟩ = #[Value.int .i64 16, .int .i64 (b : Int), .int .i64 (b4 : Int), .int .i64 (b3 : Int)][i]? := (M.get 2 rfl).cell; have c5 : V.cell? ⟨pt, 0, none⟩ = some (Value.func (.func 105) #[] #[.pointer (some ⟨pw, 0, none⟩), .pointer (some ⟨pe, 0, none⟩)]) := (M.get 0 rfl).cell 0)
    | (go_at_call 105; refine (tell_any M ⟨k, 16, 0, 0, false⟩ (i := 3) (j := 1) (k := 4) rfl rfl rfl hn).mono ?_; rintro ev V ⟨rfl, v', M⟩; have HM := Lib.hid M; clear M))
  go_end0
  exact ⟨rfl, gw, cw, _, _, hv, HM.out.drop_ 4, HC.out.set_pos HK.out, H1.out, H2.out, by simpa using H3.out⟩

end
end Go.Proofs.Ytakmcpadkanggaa
