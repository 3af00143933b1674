/-
  One step of a runner (sched's step): cells, works.
-/
import Derived.Test.YtakmcpadkanggaaT31b
namespace Go.Proofs.Ytakmcpadkanggaa
open Go.RowKit Go.Maps Go.Deep

section
variable {w W : World} {Lr : List Ent} {S : Sys} {A : Option Addr} {c : Nat} {R : Option Addr} {d : Nat} {y : Ly} {gw n cw k aN bN cN : Nat} {cur : Array Value} {evs : Value} {E : List Ev} {rs : Nat → Rn} {hv : Nat → Value} {held : Nat → List Int} {cl : Nat → Bool} {lk : Int → Bool} {gr ce : Int → Int} {b b3 : Int}

set_option maxRecDepth 100000 in
set_option maxHeartbeats 2000000 in
theorem st_15  (M : OM w W ((y.wp, 110, wpC y S.nr gw n cw evs) :: (gw, 174, cur) :: (y.bp, 186, pipesA S.nr hv cl) :: (y.bl, 4, arrB y.lk lk) :: (y.bg, 3, arrI y.gr gr) :: (y.bc, 3, arrI y.ce ce) :: (y.ps, 27, sysV S A c R d) :: Lr) ⟨evs, E, S.nr, hv, held⟩) (hC : WhoC cur n rs) (hk : k < n) (hS : SysIn w S A c R d) (hp : (rs k).prog < S.np) (hl : S.lp (rs k).prog ≤ 256) (hn : E.length ≤ 100000) (h1 : n ≤ cw) (h2 : cw ≤ maxLen) (h3 : cur.size = cw * 10) {f : Nat → Int} (hI : instP S (rs k) = some f) (e0 : f 0 = 15) (e1 : f 1 = (b : Int)) (e2 : f 2 = (bN : Int)) (e3 : f 3 = (b3 : Int)) (hb : bN < 8) : Calls Try.prog 91 #[.pointer (some ⟨y.wp, 0, none⟩), .int .i64 (k : Int)] W fun ev W' => ev = .returned (.tuple #[]) ∧ InW w W' S A c R d y Lr ⟨n, fun j => if j = k then { rs k with pos := (rs k).pos + 1 } else rs j, held, cl, lk, gr, ce, E ++ [⟨k, 15, b, ((rs k).rg bN), false⟩]⟩ := by
  have HN := Lib.hid (show ∀ V pw, OM w V ((pw, 104, #[.pointer (some ⟨y.wp, 0, none⟩)]) :: ((y.wp, 110, wpC y S.nr gw n cw evs) :: (gw, 174, cur) :: (y.bp, 186, pipesA S.nr hv cl) :: (y.bl, 4, arrB y.lk lk) :: (y.bg, 3, arrI y.gr gr) :: (y.bc, 3, arrI y.ce ce) :: (y.ps, 27, sysV S A c R d) :: Lr)) ⟨evs, E, S.nr, hv, held⟩ → Calls Try.prog 103 #[.pointer (some ⟨y.wp, 0, none⟩), .pointer (some ⟨gw, k * 10, none⟩)] V fun e W' => e = .returned (.tuple #[.agg #[Value.int .i64 15, .int .i64 (b : Int), .int .i64 (bN : Int), .int .i64 (b3 : Int)], .bool true]) ∧ Keeps V W' [] from fun V pw M => by
    have := wnext_any (M.get 1 rfl) (M.get 2 rfl) (M.get 7 rfl) (hS.kept M.own.keep) hC hk hp
    rw [hI] at this
    simpa [instV, instC, e0, e1, e2, e3] using this)
  have HIC := Lib.hid (show ∀ v ∈ (#[Value.int .i64 15, .int .i64 (b : Int), .int .i64 (bN : Int), .int .i64 (b3 : Int)]).toList, v.oneCell' = true from by
    have := instC_cell f
    simpa [instC, e0, e1, e2, e3] using this)
  have g1 : (k : Int) < n := by omega
  have g2 : (0 : Int) ≤ k := by omega
  have hpos : (rs k).pos < S.lp (rs k).prog := by
    unfold instP at hI
    split at hI
    · assumption
    · cases hI
  have g3 : ((rs k).pos : Int) < 256 := by omega
  have g4 : (0 : Int) ≤ (rs k).pos := by omega
  have HC := Lib.hid hC
  have HK := Lib.hid hk
  have HS := Lib.hid hS
  have HP := Lib.hid hp
  have HPos := Lib.hid hpos
  have H1 := Lib.hid h1
  have H2 := Lib.hid h2
  have H3 := Lib.hid h3
  have ak := add_zero_ gw (k * 10)
  have hmf : ∀ (fn : Fn) (first cap : Array Value) (w : World), (Instr.makeFunc fn first cap).run Try.prog w = .ok (.func fn first cap) w := fun _ _ _ _ => rfl
  clear hC hk hS hp hl hI e0 e1 e2 e3 h1 h2 h3 hpos
  have g7 : (bN : Int) < 8 := by omega
  have g8 : (0 : Int) ≤ bN := by omega
  have HR := Lib.hid (And.intro True.intro hb)
  clear hb
  go_enter Try.func91, Try.ntmps91
  go_wp2_with (first
    | go_big_skip
    | (refine om_box1 2 (.pointer (some ⟨y.wp, 0, none⟩)) M rfl rfl rfl rfl rfl ?_; clear M; intro V pw M; simp only [Act.put, List.setIfInBounds_toArray, List.set_cons_zero, List.set_cons_succ]; have c1 : V.cell? ⟨pw, 0, none⟩ = some (.pointer (some ⟨y.wp, 0, none⟩)) := (M.get 0 rfl).cell 0; have c2 : V.cell? ⟨y.wp, 1, none⟩ = some (.slice (some ⟨gw, 0, none⟩) n cw) := (M.get 1 rfl).cell 1)
    | (go_at_call 103; refine (HN.out _ _ M).mono ?_; rintro e V ⟨rfl, K⟩; replace M := M.keeps K; clear K c1 c2; have c1 : V.cell? ⟨pw, 0, none⟩ = some (.pointer (some ⟨y.wp, 0, none⟩)) := (M.get 0 rfl).cell 0; have c2 : V.cell? ⟨y.wp, 1, none⟩ = some (.slice (some ⟨gw, 0, none⟩) n cw) := (M.get 1 rfl).cell 1)
    | (refine om_alloc 5 (instC fun _ => 0) M rfl rfl rfl (fun _ => by kernel_rfl) ?_; clear M c1 c2; intro V pi M; simp only [Act.put, List.setIfInBounds_toArray, List.set_cons_zero, List.set_cons_succ]; have c1 : V.cell? ⟨pw, 0, none⟩ = some (.pointer (some ⟨y.wp, 0, none⟩)) := (M.get 1 rfl).cell 0; have c2 : V.cell? ⟨y.wp, 1, none⟩ = some (.slice (some ⟨gw, 0, none⟩) n cw) := (M.get 2 rfl).cell 1)
    | (refine at_store (.tmp 5) (.tmp 21) rfl ?_; refine om_store_row 0 (.tmp 5) (.tmp 21) (cs' := #[Value.int .i64 15, .int .i64 (b : Int), .int .i64 (bN : Int), .int .i64 (b3 : Int)]) M rfl rfl rfl rfl rfl rfl (by kernel_rfl) (by rfl) HIC.out ?_; clear M c1 c2; intro V M; simp only [List.set_cons_zero] at M; have c1 : V.cell? ⟨pw, 0, none⟩ = some (.pointer (some ⟨y.wp, 0, none⟩)) := (M.get 1 rfl).cell 0; have c2 : V.cell? ⟨y.wp, 1, none⟩ = some (.slice (some ⟨gw, 0, none⟩) n cw) := (M.get 2 rfl).cell 1; have c3 : ∀ i, V.cell? ⟨pi, i, none⟩ = #[Value.int .i64 15, .int .i64 (b : Int), .int .i64 (bN : Int), .int .i64 (b3 : Int)][i]? := (M.get 0 rfl).cell)
    | (refine om_alloc 7 (evC ⟨0, 0, 0, 0, false⟩) M rfl rfl rfl (fun _ => by kernel_rfl) ?_; clear M c1 c2 c3; intro V pe M; simp only [Act.put, List.setIfInBounds_toArray, List.set_cons_zero, List.set_cons_succ]; have c1 : V.cell? ⟨pw, 0, none⟩ = some (.pointer (some ⟨y.wp, 0, none⟩)) := (M.get 2 rfl).cell 0; have c2 : V.cell? ⟨y.wp, 1, none⟩ = some (.slice (some ⟨gw, 0, none⟩) n cw) := (M.get 3 rfl).cell 1; have c3 : ∀ i, V.cell? ⟨pi, i, none⟩ = #[Value.int .i64 15, .int .i64 (b : Int), .int .i64 (bN : Int), .int .i64 (b3 : Int)][i]? := (M.get 1 rfl).cell)
    | (refine at_store (.tmp 7) (.tmp 26) rfl ?_; refine om_store_row 0 (.tmp 7) (.tmp 26) (cs' := evC ⟨k, 15, 0, 0, false⟩) M rfl rfl rfl rfl rfl rfl (by kernel_rfl) (by rfl) (evC_cell _) ?_; clear M c1 c2 c3; intro V M; simp only [List.set_cons_zero] at M; have c1 : V.cell? ⟨pw, 0, none⟩ = some (.pointer (some ⟨y.wp, 0, none⟩)) := (M.get 2 rfl).cell 0; have c2 : V.cell? ⟨y.wp, 1, none⟩ = some (.slice (some ⟨gw, 0, none⟩) n cw) := (M.get 3 rfl).cell 1; have c3 : ∀ i, V.cell? ⟨pi, i, none⟩ = #[Value.int .i64 15, .int .i64 (b : Int), .int .i64 (bN : Int), .int .i64 (b3 : Int)][i]? := (M.get 1 rfl).cell)
    | (refine om_alloc1 8 .nilFunc M rfl rfl rfl (fun _ => by kernel_rfl) rfl ?_; clear M c1 c2 c3; intro V pt M; simp only [Act.put, List.setIfInBounds_toArray, List.set_cons_zero, List.set_cons_succ]; have c1 : V.cell? ⟨pw, 0, none⟩ = some (.pointer (some ⟨y.wp, 0, none⟩)) := (M.get 3 rfl).cell 0; have c2 : V.cell? ⟨y.wp, 1, none⟩ = some (.slice (some ⟨gw, 0, none⟩) n cw) := (M.get 4 rfl).cell 1; have c3 : ∀ i, V.cell? ⟨pi, i, none⟩ = #[Value.int .i64 15, .int .i64 (b : Int), .int .i64 (bN : Int), .int .i64 (b3 : Int)][i]? := (M.get 2 rfl).cell)
    | (refine at_store (.tmp 8) (.tmp 27) rfl ?_; refine om_store 0 0 (Value.func (.func 105) #[] #[.pointer (some ⟨pw, 0, none⟩), .pointer (some ⟨pe, 0, none⟩)]) (.tmp 8) (.tmp 27) M rfl rfl rfl rfl rfl rfl (by show 0 < 1; omega) rfl rfl (by kernel_rfl) rfl ?_; clear M c1 c2 c3; intro V M; simp only [List.set_cons_zero] at M; have c1 : V.cell? ⟨pw, 0, none⟩ = some (.pointer (some ⟨y.wp, 0, none⟩)) := (M.get 3 rfl).cell 0; have c2 : V.cell? ⟨y.wp, 1, none⟩ = some (.slice (some ⟨gw, 0, none⟩) n cw) := (M.get 4 rfl).cell 1; have c3 : ∀ i, V.cell? ⟨pi, i, none⟩ = #[Value.int .i64 15, .int .i64 (b : Int), .int .i64 (bN : Int), .int .i64 (b3 : Int)][i]? := (M.get 2 rfl).cell; have c4 : V.cell? ⟨gw, k * 10 + 1, none⟩ = some (.int .i64 (rs k).pos) := ((M.get 5 rfl).cell _).trans (HC.out.pos HK.out); have c5 : V.cell? ⟨pt, 0, none⟩ = some (Value.func (.func 105) #[] #[.pointer (some ⟨pw, 0, none⟩), .pointer (some ⟨pe, 0, none⟩)]) := (M.get 0 rfl).cell 0))
  have ci : ∀ (p : Later V) i, p.1.cell? ⟨pi, i, none⟩ = #[Value.int .i64 15, .int .i64 (b : Int), .int .i64 (bN : Int), .int .i64 (b3 : Int)][i]? := Later.cell (M.get 2 rfl)
  have crb : ∀ p : Later V, p.1.cell? ⟨gw, k * 10 + 2 + bN, none⟩ = some (.int .i64 ((rs k).rg bN)) := fun p => (Later.cell (M.get 5 rfl) p _).trans (HC.out.reg HK.out HR.out.2)
  refine wp_quiet_tail_later 10 (by kernel_rfl) (by kernel_rfl) ?_
  simp only [List.take, List.drop]
  repeat (first
    | go_big_quiet_skip
    | go_big_quiet_step (fail))
  refine wpQuiet_nil ?_
  intro _ hw
  obtain ⟨p', rfl⟩ := hw
  replace M := M.keeps p'.2
  clear c1 c2 c3 c4 c5 ci crb
  generalize p'.1 = V at M ⊢
  go_wp2_with (first
    | go_big_skip
    | (refine at_store (.tmp 207) (.tmp 199) rfl ?_; refine om_store 1 2 (.int .i64 b) (.tmp 207) (.tmp 199) M rfl rfl rfl rfl rfl rfl (by show 2 < 5; omega) rfl rfl (by kernel_rfl) (cs' := evC ⟨k, 15, b, 0, false⟩) rfl ?_; clear M; intro V M; simp only [List.set_cons_zero, List.set_cons_succ] at M; have c1 : V.cell? ⟨pw, 0, none⟩ = some (.pointer (some ⟨y.wp, 0, none⟩)) := (M.get 3 rfl).cell 0; have c2 : V.cell? ⟨y.wp, 1, none⟩ = some (.slice (some ⟨gw, 0, none⟩) n cw) := (M.get 4 rfl).cell 1; have c3 : ∀ i, V.cell? ⟨pi, i, none⟩ = #[Value.int .i64 15, .int .i64 (b : Int), .int .i64 (bN : Int), .int .i64 (b3 : Int)][i]? := (M.get 2 rfl).cell; have c5 : V.cell? ⟨pt, 0, none⟩ = some (Value.func (.func 105) #[] #[.pointer (some ⟨pw, 0, none⟩), .pointer (some ⟨pe, 0, none⟩)]) := (M.get 0 rfl).cell 0)
    | (refine at_store (.tmp 208) (.tmp 206) rfl ?_; refine om_store 1 3 (.int .i64 ((rs k).rg bN)) (.tmp 208) (.tmp 206) M rfl rfl rfl rfl rfl rfl (by show 3 < 5; omega) rfl rfl (by kernel_rfl) (cs' := evC ⟨k, 15, b, ((rs k).rg bN), false⟩) rfl ?_; clear M; intro V M; simp only [List.set_cons_zero, List.set_cons_succ] at M; have c1 : V.cell? ⟨pw, 0, none⟩ = some (.pointer (some ⟨y.wp, 0, none⟩)) := (M.get 3 rfl).cell 0; have c2 : V.cell? ⟨y.wp, 1, none⟩ = some (.slice (some ⟨gw, 0, none⟩) n cw) := (M.get 4 rfl).cell 1; have c3 : ∀ i, V.cell? ⟨pi, i, none⟩ = #[Value.int .i64 15, .int .i64 (b : Int), .int .i64 (bN : Int), .int .i64 (b3 : Int)][i]? := (M.get 2 rfl).cell; have c5 : V.cell? ⟨pt, 0, none⟩ = some (Value.func (.func 105) #[] #[.pointer (some ⟨pw, 0, none⟩), .pointer (some ⟨pe, 0, none⟩)]) := (M.get 0 rfl).cell 0)
    | (refine at_store (.tmp 221) (.tmp 219) rfl ?_; refine om_store 5 (k * 10 + 1) (.int .i64 (((rs k).pos : Int) + 1)) (.tmp 221) (.tmp 219) M rfl rfl rfl rfl rfl rfl (by have := HC.out.lt HK.out (f := 1) (by omega); simpa using this) rfl rfl (by kernel_rfl) (cs' := (cur).setIfInBounds (k * 10 + 1) (.int .i64 (((rs k).pos + 1 : Nat) : Int))) (by simp) ?_; clear M c1 c2 c3 c5; intro V M; simp only [List.set_cons_zero, List.set_cons_succ] at M; have c1 : V.cell? ⟨pw, 0, none⟩ = some (.pointer (some ⟨y.wp, 0, none⟩)) := (M.get 3 rfl).cell 0; have c2 : V.cell? ⟨y.wp, 1, none⟩ = some (.slice (some ⟨gw, 0, none⟩) n cw) := (M.get 4 rfl).cell 1; have c3 : ∀ i, V.cell? ⟨pi, i, none⟩ = #[Value.int .i64 15, .int .i64 (b : Int), .int .i64 (bN : Int), .int .i64 (b3 : Int)][i]? := (M.get 2 rfl).cell; have c5 : V.cell? ⟨pt, 0, none⟩ = some (Value.func (.func 105) #[] #[.pointer (some ⟨pw, 0, none⟩), .pointer (some ⟨pe, 0, none⟩)]) := (M.get 0 rfl).cell 0)
    | (go_at_call 105; refine (tell_any M ⟨k, 15, b, ((rs k).rg bN), false⟩ (i := 3) (j := 1) (k := 4) rfl rfl rfl hn).mono ?_; rintro ev V ⟨rfl, v', M⟩; have HM := Lib.hid M; clear M))
  go_end0
  exact ⟨rfl, gw, cw, _, _, hv, HM.out.drop_ 4, HC.out.set_pos HK.out, H1.out, H2.out, by simpa using H3.out⟩

set_option maxRecDepth 100000 in
set_option maxHeartbeats 2000000 in
theorem st_13  (M : OM w W ((y.wp, 110, wpC y S.nr gw n cw evs) :: (gw, 174, cur) :: (y.bp, 186, pipesA S.nr hv cl) :: (y.bl, 4, arrB y.lk lk) :: (y.bg, 3, arrI y.gr gr) :: (y.bc, 3, arrI y.ce ce) :: (y.ps, 27, sysV S A c R d) :: Lr) ⟨evs, E, S.nr, hv, held⟩) (hC : WhoC cur n rs) (hk : k < n) (hS : SysIn w S A c R d) (hp : (rs k).prog < S.np) (hl : S.lp (rs k).prog ≤ 256) (hn : E.length ≤ 100000) (h1 : n ≤ cw) (h2 : cw ≤ maxLen) (h3 : cur.size = cw * 10) {f : Nat → Int} (hI : instP S (rs k) = some f) (e0 : f 0 = 13) (e1 : f 1 = (aN : Int)) (e2 : f 2 = (bN : Int)) (e3 : f 3 = (b3 : Int)) (ha : aN < 8) (hb : bN < 8) {x : Nat} (hx : x < y.ce) (hxe : (rs k).rg aN % (y.ce : Int) = x) (hce1 : 0 < y.ce) (hce2 : y.ce ≤ 64) : Calls Try.prog 91 #[.pointer (some ⟨y.wp, 0, none⟩), .int .i64 (k : Int)] W fun ev W' => ev = .returned (.tuple #[]) ∧ InW w W' S A c R d y Lr ⟨n, fun j => if j = k then { rs k with pos := (rs k).pos + 1 } else rs j, held, cl, lk, gr, updI ce x ((rs k).rg bN), E ++ [⟨k, 13, x, ((rs k).rg bN), false⟩]⟩ := by
  have HN := Lib.hid (show ∀ V pw, OM w V ((pw, 104, #[.pointer (some ⟨y.wp, 0, none⟩)]) :: ((y.wp, 110, wpC y S.nr gw n cw evs) :: (gw, 174, cur) :: (y.bp, 186, pipesA S.nr hv cl) :: (y.bl, 4, arrB y.lk lk) :: (y.bg, 3, arrI y.gr gr) :: (y.bc, 3, arrI y.ce ce) :: (y.ps, 27, sysV S A c R d) :: Lr)) ⟨evs, E, S.nr, hv, held⟩ → Calls Try.prog 103 #[.pointer (some ⟨y.wp, 0, none⟩), .pointer (some ⟨gw, k * 10, none⟩)] V fun e W' => e = .returned (.tuple #[.agg #[Value.int .i64 13, .int .i64 (aN : Int), .int .i64 (bN : Int), .int .i64 (b3 : Int)], .bool true]) ∧ Keeps V W' [] from fun V pw M => by
    have := wnext_any (M.get 1 rfl) (M.get 2 rfl) (M.get 7 rfl) (hS.kept M.own.keep) hC hk hp
    rw [hI] at this
    simpa [instV, instC, e0, e1, e2, e3] using this)
  have HIC := Lib.hid (show ∀ v ∈ (#[Value.int .i64 13, .int .i64 (aN : Int), .int .i64 (bN : Int), .int .i64 (b3 : Int)]).toList, v.oneCell' = true from by
    have := instC_cell f
    simpa [instC, e0, e1, e2, e3] using this)
  have g1 : (k : Int) < n := by omega
  have g2 : (0 : Int) ≤ k := by omega
  have hpos : (rs k).pos < S.lp (rs k).prog := by
    unfold instP at hI
    split at hI
    · assumption
    · cases hI
  have g3 : ((rs k).pos : Int) < 256 := by omega
  have g4 : (0 : Int) ≤ (rs k).pos := by omega
  have HC := Lib.hid hC
  have HK := Lib.hid hk
  have HS := Lib.hid hS
  have HP := Lib.hid hp
  have HPos := Lib.hid hpos
  have H1 := Lib.hid h1
  have H2 := Lib.hid h2
  have H3 := Lib.hid h3
  have ak := add_zero_ gw (k * 10)
  have hmf : ∀ (fn : Fn) (first cap : Array Value) (w : World), (Instr.makeFunc fn first cap).run Try.prog w = .ok (.func fn first cap) w := fun _ _ _ _ => rfl
  clear hC hk hS hp hl hI e0 e1 e2 e3 h1 h2 h3 hpos
  have g5 : (aN : Int) < 8 := by omega
  have g6 : (0 : Int) ≤ aN := by omega
  have g7 : (bN : Int) < 8 := by omega
  have g8 : (0 : Int) ≤ bN := by omega
  have HR := Lib.hid (And.intro ha hb)
  clear ha hb
  have g9 : (x : Int) < y.ce := by omega
  have g10 : (0 : Int) ≤ x := by omega
  have HX := Lib.hid hx
  have HM7 := Lib.hid hxe
  have HE := Lib.hid (And.intro hce1 hce2)
  clear hx hxe hce1 hce2
  go_enter Try.func91, Try.ntmps91
  go_wp2_with (first
    | go_big_skip
    | (refine om_box1 2 (.pointer (some ⟨y.wp, 0, none⟩)) M rfl rfl rfl rfl rfl ?_; clear M; intro V pw M; simp only [Act.put, List.setIfInBounds_toArray, List.set_cons_zero, List.set_cons_succ]; have c1 : V.cell? ⟨pw, 0, none⟩ = some (.pointer (some ⟨y.wp, 0, none⟩)) := (M.get 0 rfl).cell 0; have c2 : V.cell? ⟨y.wp, 1, none⟩ = some (.slice (some ⟨gw, 0, none⟩) n cw) := (M.get 1 rfl).cell 1)
    | (go_at_call 103; refine (HN.out _ _ M).mono ?_; rintro e V ⟨rfl, K⟩; replace M := M.keeps K; clear K c1 c2; have c1 : V.cell? ⟨pw, 0, none⟩ = some (.pointer (some ⟨y.wp, 0, none⟩)) := (M.get 0 rfl).cell 0; have c2 : V.cell? ⟨y.wp, 1, none⟩ = some (.slice (some ⟨gw, 0, none⟩) n cw) := (M.get 1 rfl).cell 1)
    | (refine om_alloc 5 (instC fun _ => 0) M rfl rfl rfl (fun _ => by kernel_rfl) ?_; clear M c1 c2; intro V pi M; simp only [Act.put, List.setIfInBounds_toArray, List.set_cons_zero, List.set_cons_succ]; have c1 : V.cell? ⟨pw, 0, none⟩ = some (.pointer (some ⟨y.wp, 0, none⟩)) := (M.get 1 rfl).cell 0; have c2 : V.cell? ⟨y.wp, 1, none⟩ = some (.slice (some ⟨gw, 0, none⟩) n cw) := (M.get 2 rfl).cell 1)
    | (refine at_store (.tmp 5) (.tmp 21) rfl ?_; refine om_store_row 0 (.tmp 5) (.tmp 21) (cs' := #[Value.int .i64 13, .int .i64 (aN : Int), .int .i64 (bN : Int), .int .i64 (b3 : Int)]) M rfl rfl rfl rfl rfl rfl (by kernel_rfl) (by rfl) HIC.out ?_; clear M c1 c2; intro V M; simp only [List.set_cons_zero] at M; have c1 : V.cell? ⟨pw, 0, none⟩ = some (.pointer (some ⟨y.wp, 0, none⟩)) := (M.get 1 rfl).cell 0; have c2 : V.cell? ⟨y.wp, 1, none⟩ = some (.slice (some ⟨gw, 0, none⟩) n cw) := (M.get 2 rfl).cell 1; have c3 : ∀ i, V.cell? ⟨pi, i, none⟩ = #[Value.int .i64 13, .int .i64 (aN : Int), .int .i64 (bN : Int), .int .i64 (b3 : Int)][i]? := (M.get 0 rfl).cell)
    | (refine om_alloc 7 (evC ⟨0, 0, 0, 0, false⟩) M rfl rfl rfl (fun _ => by kernel_rfl) ?_; clear M c1 c2 c3; intro V pe M; simp only [Act.put, List.setIfInBounds_toArray, List.set_cons_zero, List.set_cons_succ]; have c1 : V.cell? ⟨pw, 0, none⟩ = some (.pointer (some ⟨y.wp, 0, none⟩)) := (M.get 2 rfl).cell 0; have c2 : V.cell? ⟨y.wp, 1, none⟩ = some (.slice (some ⟨gw, 0, none⟩) n cw) := (M.get 3 rfl).cell 1; have c3 : ∀ i, V.cell? ⟨pi, i, none⟩ = #[Value.int .i64 13, .int .i64 (aN : Int), .int .i64 (bN : Int), .int .i64 (b3 : Int)][i]? := (M.get 1 rfl).cell)
    | (refine at_store (.tmp 7) (.tmp 26) rfl ?_; refine om_store_row 0 (.tmp 7) (.tmp 26) (cs' := evC ⟨k, 13, 0, 0, false⟩) M rfl rfl rfl rfl rfl rfl (by kernel_rfl) (by rfl) (evC_cell _) ?_; clear M c1 c2 c3; intro V M; simp only [List.set_cons_zero] at M; have c1 : V.cell? ⟨pw, 0, none⟩ = some (.pointer (some ⟨y.wp, 0, none⟩)) := (M.get 2 rfl).cell 0; have c2 : V.cell? ⟨y.wp, 1, none⟩ = some (.slice (some ⟨gw, 0, none⟩) n cw) := (M.get 3 rfl).cell 1; have c3 : ∀ i, V.cell? ⟨pi, i, none⟩ = #[Value.int .i64 13, .int .i64 (aN : Int), .int .i64 (bN : Int), .int .i64 (b3 : Int)][i]? := (M.get 1 rfl).cell)
    | (refine om_alloc1 8 .nilFunc M rfl rfl rfl (fun _ => by kernel_rfl) rfl ?_; clear M c1 c2 c3; intro V pt M; simp only [Act.put, List.setIfInBounds_toArray, List.set_cons_zero, List.set_cons_succ]; have c1 : V.cell? ⟨pw, 0, none⟩ = some (.pointer (some ⟨y.wp, 0, none⟩)) := (M.get 3 rfl).cell 0; have c2 : V.cell? ⟨y.wp, 1, none⟩ = some (.slice (some ⟨gw, 0, none⟩) n cw) := (M.get 4 rfl).cell 1; have c3 : ∀ i, V.cell? ⟨pi, i, none⟩ = #[Value.int .i64 13, .int .i64 (aN : Int), .int .i64 (bN : Int), .int .i64 (b3 : Int)][i]? := (M.get 2 rfl).cell)
    | (refine at_store (.tmp 8) (.tmp 27) rfl ?_; refine om_store 0 0 (Value.func (.func 105) #[] #[.pointer (some ⟨pw, 0, none⟩), .pointer (some ⟨pe, 0, none⟩)]) (.tmp 8) (.tmp 27) M rfl rfl rfl rfl rfl rfl (by show 0 < 1; omega) rfl rfl (by kernel_rfl) rfl ?_; clear M c1 c2 c3; intro V M; simp only [List.set_cons_zero] at M; have c1 : V.cell? ⟨pw, 0, none⟩ = some (.pointer (some ⟨y.wp, 0, none⟩)) := (M.get 3 rfl).cell 0; have c2 : V.cell? ⟨y.wp, 1, none⟩ = some (.slice (some ⟨gw, 0, none⟩) n cw) := (M.get 4 rfl).cell 1; have c3 : ∀ i, V.cell? ⟨pi, i, none⟩ = #[Value.int .i64 13, .int .i64 (aN : Int), .int .i64 (bN : Int), .int .i64 (b3 : Int)][i]? := (M.get 2 rfl).cell; have c4 : V.cell? ⟨gw, k * 10 + 1, none⟩ = some (.int .i64 (rs k).pos) := ((M.get 5 rfl).cell _).trans (HC.out.pos HK.out); have c5 : V.cell? ⟨pt, 0, none⟩ = some (Value.func (.func 105) #[] #[.pointer (some ⟨pw, 0, none⟩), .pointer (some ⟨pe, 0, none⟩)]) := (M.get 0 rfl).cell 0))
  have ci : ∀ (p : Later V) i, p.1.cell? ⟨pi, i, none⟩ = #[Value.int .i64 13, .int .i64 (aN : Int), .int .i64 (bN : Int), .int .i64 (b3 : Int)][i]? := Later.cell (M.get 2 rfl)
  have cpw : ∀ p : Later V, p.1.cell? ⟨pw, 0, none⟩ = some (.pointer (some ⟨y.wp, 0, none⟩)) := fun p => (Later.cell (M.get 3 rfl) p _)
  have cra : ∀ p : Later V, p.1.cell? ⟨gw, k * 10 + 2 + aN, none⟩ = some (.int .i64 ((rs k).rg aN)) := fun p => (Later.cell (M.get 5 rfl) p _).trans (HC.out.reg HK.out HR.out.1)
  have HV := Lib.hid (fun p : Later V => by have h := wcell_any (Later.blk (M.get 4 rfl) p.1 ⟨p, rfl⟩) ((rs k).rg aN) HE.out.1 HE.out.2; rw [HM7.out] at h; exact h)
  refine wp_quiet_tail_later 10 (by kernel_rfl) (by kernel_rfl) ?_
  simp only [List.take, List.drop]
  repeat (first
    | go_big_quiet_skip
    | go_big_quiet_step ((go_at_call 107; exact later_of (HV.out _))))
  refine wpQuiet_nil ?_
  intro _ hw
  obtain ⟨p', rfl⟩ := hw
  replace M := M.keeps p'.2
  clear c1 c2 c3 c4 c5 ci cpw cra HV
  generalize p'.1 = V at M ⊢
  go_wp2_with (first
    | go_big_skip
    | (refine at_store (.tmp 119) (.tmp 118) rfl ?_; refine om_store 1 2 (.int .i64 (x : Int)) (.tmp 119) (.tmp 118) M rfl rfl rfl rfl rfl rfl (by show 2 < 5; omega) rfl rfl (by kernel_rfl) (cs' := evC ⟨k, 13, x, 0, false⟩) rfl ?_; clear M; intro V M; simp only [List.set_cons_zero, List.set_cons_succ] at M; have c1 : V.cell? ⟨pw, 0, none⟩ = some (.pointer (some ⟨y.wp, 0, none⟩)) := (M.get 3 rfl).cell 0; have c2 : V.cell? ⟨y.wp, 1, none⟩ = some (.slice (some ⟨gw, 0, none⟩) n cw) := (M.get 4 rfl).cell 1; have c3 : ∀ i, V.cell? ⟨pi, i, none⟩ = #[Value.int .i64 13, .int .i64 (aN : Int), .int .i64 (bN : Int), .int .i64 (b3 : Int)][i]? := (M.get 2 rfl).cell; have c4 : V.cell? ⟨gw, k * 10 + 1, none⟩ = some (.int .i64 (rs k).pos) := ((M.get 5 rfl).cell _).trans (HC.out.pos HK.out); have c5 : V.cell? ⟨pt, 0, none⟩ = some (Value.func (.func 105) #[] #[.pointer (some ⟨pw, 0, none⟩), .pointer (some ⟨pe, 0, none⟩)]) := (M.get 0 rfl).cell 0))
  have ci : ∀ (p : Later V) i, p.1.cell? ⟨pi, i, none⟩ = #[Value.int .i64 13, .int .i64 (aN : Int), .int .i64 (bN : Int), .int .i64 (b3 : Int)][i]? := Later.cell (M.get 2 rfl)
  have cw' : ∀ (p : Later V) i, p.1.cell? ⟨y.wp, i, none⟩ = #[Value.pointer (some ⟨y.ps, 0, none⟩), .slice (some ⟨gw, 0, none⟩) n cw, .slice (some ⟨y.bp, 0, none⟩) S.nr S.nr, .slice (some ⟨y.bl, 0, none⟩) y.lk y.lk, .slice (some ⟨y.bg, 0, none⟩) y.gr y.gr, .slice (some ⟨y.bc, 0, none⟩) y.ce y.ce, evs][i]? := Later.cell (M.get 4 rfl)
  have cpw : ∀ p : Later V, p.1.cell? ⟨pw, 0, none⟩ = some (.pointer (some ⟨y.wp, 0, none⟩)) := fun p => (Later.cell (M.get 3 rfl) p _)
  have ce' : ∀ (p : Later V) i, p.1.cell? ⟨pe, i, none⟩ = #[Value.int .i64 (k : Int), .int .i64 13, .int .i64 (x : Int), .int .i64 0, .bool false][i]? := Later.cell (M.get 1 rfl)
  have crb : ∀ p : Later V, p.1.cell? ⟨gw, k * 10 + 2 + bN, none⟩ = some (.int .i64 ((rs k).rg bN)) := fun p => (Later.cell (M.get 5 rfl) p _).trans (HC.out.reg HK.out HR.out.2)
  have ac := add_zero_ y.bc x
  refine wp_quiet_tail_later 14 (by kernel_rfl) (by kernel_rfl) ?_
  simp only [List.take, List.drop]
  repeat (first
    | go_big_quiet_skip
    | go_big_quiet_step (fail))
  refine wpQuiet_nil ?_
  intro _ hw
  obtain ⟨p', rfl⟩ := hw
  replace M := M.keeps p'.2
  clear c1 c2 c3 c4 c5 ci cw' cpw ce' crb ac
  generalize p'.1 = V at M ⊢
  have HCR := Lib.hid (show V.cell? ⟨gw, k * 10 + 2 + bN, none⟩ = some (.int .i64 ((rs k).rg bN)) from ((M.get 5 rfl).cell _).trans (HC.out.reg HK.out HR.out.2))
  clear HCR
  go_wp2_with (first
    | go_big_skip
    | (refine at_store (.tmp 150) (.tmp 149) rfl ?_; refine om_store 9 x (.int .i64 ((rs k).rg bN)) (.tmp 150) (.tmp 149) M rfl rfl rfl rfl rfl rfl (by rw [arrI_size]; exact HX.out) rfl rfl (by kernel_rfl) (arrI_set _ _ _ _) ?_; clear M; intro V M; simp only [List.set_cons_zero, List.set_cons_succ] at M; have c1 : V.cell? ⟨pw, 0, none⟩ = some (.pointer (some ⟨y.wp, 0, none⟩)) := (M.get 3 rfl).cell 0; have c2 : V.cell? ⟨y.wp, 1, none⟩ = some (.slice (some ⟨gw, 0, none⟩) n cw) := (M.get 4 rfl).cell 1; have c3 : ∀ i, V.cell? ⟨pi, i, none⟩ = #[Value.int .i64 13, .int .i64 (aN : Int), .int .i64 (bN : Int), .int .i64 (b3 : Int)][i]? := (M.get 2 rfl).cell; have c5 : V.cell? ⟨pt, 0, none⟩ = some (Value.func (.func 105) #[] #[.pointer (some ⟨pw, 0, none⟩), .pointer (some ⟨pe, 0, none⟩)]) := (M.get 0 rfl).cell 0))
  have ci : ∀ (p : Later V) i, p.1.cell? ⟨pi, i, none⟩ = #[Value.int .i64 13, .int .i64 (aN : Int), .int .i64 (bN : Int), .int .i64 (b3 : Int)][i]? := Later.cell (M.get 2 rfl)
  have crb : ∀ p : Later V, p.1.cell? ⟨gw, k * 10 + 2 + bN, none⟩ = some (.int .i64 ((rs k).rg bN)) := fun p => (Later.cell (M.get 5 rfl) p _).trans (HC.out.reg HK.out HR.out.2)
  refine wp_quiet_tail_later 8 (by kernel_rfl) (by kernel_rfl) ?_
  simp only [List.take, List.drop]
  repeat (first
    | go_big_quiet_skip
    | go_big_quiet_step (fail))
  refine wpQuiet_nil ?_
  intro _ hw
  obtain ⟨p', rfl⟩ := hw
  replace M := M.keeps p'.2
  clear c1 c2 c3 c5 ci crb
  generalize p'.1 = V at M ⊢
  go_wp2_with (first
    | go_big_skip
    | (refine at_store (.tmp 158) (.tmp 157) rfl ?_; refine om_store 1 3 (.int .i64 ((rs k).rg bN)) (.tmp 158) (.tmp 157) M rfl rfl rfl rfl rfl rfl (by show 3 < 5; omega) rfl rfl (by kernel_rfl) (cs' := evC ⟨k, 13, x, ((rs k).rg bN), false⟩) rfl ?_; clear M; intro V M; simp only [List.set_cons_zero, List.set_cons_succ] at M; have c1 : V.cell? ⟨pw, 0, none⟩ = some (.pointer (some ⟨y.wp, 0, none⟩)) := (M.get 3 rfl).cell 0; have c2 : V.cell? ⟨y.wp, 1, none⟩ = some (.slice (some ⟨gw, 0, none⟩) n cw) := (M.get 4 rfl).cell 1; have c3 : ∀ i, V.cell? ⟨pi, i, none⟩ = #[Value.int .i64 13, .int .i64 (aN : Int), .int .i64 (bN : Int), .int .i64 (b3 : Int)][i]? := (M.get 2 rfl).cell; have c5 : V.cell? ⟨pt, 0, none⟩ = some (Value.func (.func 105) #[] #[.pointer (some ⟨pw, 0, none⟩), .pointer (some ⟨pe, 0, none⟩)]) := (M.get 0 rfl).cell 0)
    | (refine at_store (.tmp 221) (.tmp 219) rfl ?_; refine om_store 5 (k * 10 + 1) (.int .i64 (((rs k).pos : Int) + 1)) (.tmp 221) (.tmp 219) M rfl rfl rfl rfl rfl rfl (by have := HC.out.lt HK.out (f := 1) (by omega); simpa using this) rfl rfl (by kernel_rfl) (cs' := (cur).setIfInBounds (k * 10 + 1) (.int .i64 (((rs k).pos + 1 : Nat) : Int))) (by simp) ?_; clear M c1 c2 c3 c5; intro V M; simp only [List.set_cons_zero, List.set_cons_succ] at M; have c1 : V.cell? ⟨pw, 0, none⟩ = some (.pointer (some ⟨y.wp, 0, none⟩)) := (M.get 3 rfl).cell 0; have c2 : V.cell? ⟨y.wp, 1, none⟩ = some (.slice (some ⟨gw, 0, none⟩) n cw) := (M.get 4 rfl).cell 1; have c3 : ∀ i, V.cell? ⟨pi, i, none⟩ = #[Value.int .i64 13, .int .i64 (aN : Int), .int .i64 (bN : Int), .int .i64 (b3 : Int)][i]? := (M.get 2 rfl).cell; have c5 : V.cell? ⟨pt, 0, none⟩ = some (Value.func (.func 105) #[] #[.pointer (some ⟨pw, 0, none⟩), .pointer (some ⟨pe, 0, none⟩)]) := (M.get 0 rfl).cell 0)
    | (go_at_call 105; refine (tell_any M ⟨k, 13, x, ((rs k).rg bN), false⟩ (i := 3) (j := 1) (k := 4) rfl rfl rfl hn).mono ?_; rintro ev V ⟨rfl, v', M⟩; have HM := Lib.hid M; clear M))
  go_end0
  exact ⟨rfl, gw, cw, _, _, hv, HM.out.drop_ 4, HC.out.set_pos HK.out, H1.out, H2.out, by simpa using H3.out⟩

set_option maxRecDepth 100000 in
set_option maxHeartbeats 2000000 in
theorem st_12  (M : OM w W ((y.wp, 110, wpC y S.nr gw n cw evs) :: (gw, 174, cur) :: (y.bp, 186, pipesA S.nr hv cl) :: (y.bl, 4, arrB y.lk lk) :: (y.bg, 3, arrI y.gr gr) :: (y.bc, 3, arrI y.ce ce) :: (y.ps, 27, sysV S A c R d) :: Lr) ⟨evs, E, S.nr, hv, held⟩) (hC : WhoC cur n rs) (hk : k < n) (hS : SysIn w S A c R d) (hp : (rs k).prog < S.np) (hl : S.lp (rs k).prog ≤ 256) (hn : E.length ≤ 100000) (h1 : n ≤ cw) (h2 : cw ≤ maxLen) (h3 : cur.size = cw * 10) {f : Nat → Int} (hI : instP S (rs k) = some f) (e0 : f 0 = 12) (e1 : f 1 = (aN : Int)) (e2 : f 2 = (bN : Int)) (e3 : f 3 = (b3 : Int)) (ha : aN < 8) (hb : bN < 8) {x : Nat} (hx : x < y.ce) (hxe : (rs k).rg aN % (y.ce : Int) = x) (hce1 : 0 < y.ce) (hce2 : y.ce ≤ 64) : Calls Try.prog 91 #[.pointer (some ⟨y.wp, 0, none⟩), .int .i64 (k : Int)] W fun ev W' => ev = .returned (.tuple #[]) ∧ InW w W' S A c R d y Lr ⟨n, fun j => if j = k then { setReg (rs k) bN (ce x) with pos := (rs k).pos + 1 } else rs j, held, cl, lk, gr, ce, E ++ [⟨k, 12, x, (ce x), false⟩]⟩ := by
  have HN := Lib.hid (show ∀ V pw, OM w V ((pw, 104, #[.pointer (some ⟨y.wp, 0, none⟩)]) :: ((y.wp, 110, wpC y S.nr gw n cw evs) :: (gw, 174, cur) :: (y.bp, 186, pipesA S.nr hv cl) :: (y.bl, 4, arrB y.lk lk) :: (y.bg, 3, arrI y.gr gr) :: (y.bc, 3, arrI y.ce ce) :: (y.ps, 27, sysV S A c R d) :: Lr)) ⟨evs, E, S.nr, hv, held⟩ → Calls Try.prog 103 #[.pointer (some ⟨y.wp, 0, none⟩), .pointer (some ⟨gw, k * 10, none⟩)] V fun e W' => e = .returned (.tuple #[.agg #[Value.int .i64 12, .int .i64 (aN : Int), .int .i64 (bN : Int), .int .i64 (b3 : Int)], .bool true]) ∧ Keeps V W' [] from fun V pw M => by
    have := wnext_any (M.get 1 rfl) (M.get 2 rfl) (M.get 7 rfl) (hS.kept M.own.keep) hC hk hp
    rw [hI] at this
    simpa [instV, instC, e0, e1, e2, e3] using this)
  have HIC := Lib.hid (show ∀ v ∈ (#[Value.int .i64 12, .int .i64 (aN : Int), .int .i64 (bN : Int), .int .i64 (b3 : Int)]).toList, v.oneCell' = true from by
    have := instC_cell f
    simpa [instC, e0, e1, e2, e3] using this)
  have g1 : (k : Int) < n := by omega
  have g2 : (0 : Int) ≤ k := by omega
  have hpos : (rs k).pos < S.lp (rs k).prog := by
    unfold instP at hI
    split at hI
    · assumption
    · cases hI
  have g3 : ((rs k).pos : Int) < 256 := by omega
  have g4 : (0 : Int) ≤ (rs k).pos := by omega
  have HC := Lib.hid hC
  have HK := Lib.hid hk
  have HS := Lib.hid hS
  have HP := Lib.hid hp
  have HPos := Lib.hid hpos
  have H1 := Lib.hid h1
  have H2 := Lib.hid h2
  have H3 := Lib.hid h3
  have ak := add_zero_ gw (k * 10)
  have hmf : ∀ (fn : Fn) (first cap : Array Value) (w : World), (Instr.makeFunc fn first cap).run Try.prog w = .ok (.func fn first cap) w := fun _ _ _ _ => rfl
  clear hC hk hS hp hl hI e0 e1 e2 e3 h1 h2 h3 hpos
  have g5 : (aN : Int) < 8 := by omega
  have g6 : (0 : Int) ≤ aN := by omega
  have g7 : (bN : Int) < 8 := by omega
  have g8 : (0 : Int) ≤ bN := by omega
  have HR := Lib.hid (And.intro ha hb)
  clear ha hb
  have g9 : (x : Int) < y.ce := by omega
  have g10 : (0 : Int) ≤ x := by omega
  have HX := Lib.hid hx
  have HM7 := Lib.hid hxe
  have HE := Lib.hid (And.intro hce1 hce2)
  clear hx hxe hce1 hce2
  go_enter Try.func91, Try.ntmps91
  go_wp2_with (first
    | go_big_skip
    | (refine om_box1 2 (.pointer (some ⟨y.wp, 0, none⟩)) M rfl rfl rfl rfl rfl ?_; clear M; intro V pw M; simp only [Act.put, List.setIfInBounds_toArray, List.set_cons_zero, List.set_cons_succ]; have c1 : V.cell? ⟨pw, 0, none⟩ = some (.pointer (some ⟨y.wp, 0, none⟩)) := (M.get 0 rfl).cell 0; have c2 : V.cell? ⟨y.wp, 1, none⟩ = some (.slice (some ⟨gw, 0, none⟩) n cw) := (M.get 1 rfl).cell 1)
    | (go_at_call 103; refine (HN.out _ _ M).mono ?_; rintro e V ⟨rfl, K⟩; replace M := M.keeps K; clear K c1 c2; have c1 : V.cell? ⟨pw, 0, none⟩ = some (.pointer (some ⟨y.wp, 0, none⟩)) := (M.get 0 rfl).cell 0; have c2 : V.cell? ⟨y.wp, 1, none⟩ = some (.slice (some ⟨gw, 0, none⟩) n cw) := (M.get 1 rfl).cell 1)
    | (refine om_alloc 5 (instC fun _ => 0) M rfl rfl rfl (fun _ => by kernel_rfl) ?_; clear M c1 c2; intro V pi M; simp only [Act.put, List.setIfInBounds_toArray, List.set_cons_zero, List.set_cons_succ]; have c1 : V.cell? ⟨pw, 0, none⟩ = some (.pointer (some ⟨y.wp, 0, none⟩)) := (M.get 1 rfl).cell 0; have c2 : V.cell? ⟨y.wp, 1, none⟩ = some (.slice (some ⟨gw, 0, none⟩) n cw) := (M.get 2 rfl).cell 1)
    | (refine at_store (.tmp 5) (.tmp 21) rfl ?_; refine om_store_row 0 (.tmp 5) (.tmp 21) (cs' := #[Value.int .i64 12, .int .i64 (aN : Int), .int .i64 (bN : Int), .int .i64 (b3 : Int)]) M rfl rfl rfl rfl rfl rfl (by kernel_rfl) (by rfl) HIC.out ?_; clear M c1 c2; intro V M; simp only [List.set_cons_zero] at M; have c1 : V.cell? ⟨pw, 0, none⟩ = some (.pointer (some ⟨y.wp, 0, none⟩)) := (M.get 1 rfl).cell 0; have c2 : V.cell? ⟨y.wp, 1, none⟩ = some (.slice (some ⟨gw, 0, none⟩) n cw) := (M.get 2 rfl).cell 1; have c3 : ∀ i, V.cell? ⟨pi, i, none⟩ = #[Value.int .i64 12, .int .i64 (aN : Int), .int .i64 (bN : Int), .int .i64 (b3 : Int)][i]? := (M.get 0 rfl).cell)
    | (refine om_alloc 7 (evC ⟨0, 0, 0, 0, false⟩) M rfl rfl rfl (fun _ => by kernel_rfl) ?_; clear M c1 c2 c3; intro V pe M; simp only [Act.put, List.setIfInBounds_toArray, List.set_cons_zero, List.set_cons_succ]; have c1 : V.cell? ⟨pw, 0, none⟩ = some (.pointer (some ⟨y.wp, 0, none⟩)) := (M.get 2 rfl).cell 0; have c2 : V.cell? ⟨y.wp, 1, none⟩ = some (.slice (some ⟨gw, 0, none⟩) n cw) := (M.get 3 rfl).cell 1; have c3 : ∀ i, V.cell? ⟨pi, i, none⟩ = #[Value.int .i64 12, .int .i64 (aN : Int), .int .i64 (bN : Int), .int .i64 (b3 : Int)][i]? := (M.get 1 rfl).cell)
    | (refine at_store (.tmp 7) (.tmp 26) rfl ?_; refine om_store_row 0 (.tmp 7) (.tmp 26) (cs' := evC ⟨k, 12, 0, 0, false⟩) M rfl rfl rfl rfl rfl rfl (by kernel_rfl) (by rfl) (evC_cell _) ?_; clear M c1 c2 c3; intro V M; simp only [List.set_cons_zero] at M; have c1 : V.cell? ⟨pw, 0, none⟩ = some (.pointer (some ⟨y.wp, 0, none⟩)) := (M.get 2 rfl).cell 0; have c2 : V.cell? ⟨y.wp, 1, none⟩ = some (.slice (some ⟨gw, 0, none⟩) n cw) := (M.get 3 rfl).cell 1; have c3 : ∀ i, V.cell? ⟨pi, i, none⟩ = #[Value.int .i64 12, .int .i64 (aN : Int), .int .i64 (bN : Int), .int .i64 (b3 : Int)][i]? := (M.get 1 rfl).cell)
    | (refine om_alloc1 8 .nilFunc M rfl rfl rfl (fun _ => by kernel_rfl) rfl ?_; clear M c1 c2 c3; intro V pt M; simp only [Act.put, List.setIfInBounds_toArray, List.set_cons_zero, List.set_cons_succ]; have c1 : V.cell? ⟨pw, 0, none⟩ = some (.pointer (some ⟨y.wp, 0, none⟩)) := (M.get 3 rfl).cell 0; have c2 : V.cell? ⟨y.wp, 1, none⟩ = some (.slice (some ⟨gw, 0, none⟩) n cw) := (M.get 4 rfl).cell 1; have c3 : ∀ i, V.cell? ⟨pi, i, none⟩ = #[Value.int .i64 12, .int .i64 (aN : Int), .int .i64 (bN : Int), .int .i64 (b3 : Int)][i]? := (M.get 2 rfl).cell)
    | (refine at_store (.tmp 8) (.tmp 27) rfl ?_; refine om_store 0 0 (Value.func (.func 105) #[] #[.pointer (some ⟨pw, 0, none⟩), .pointer (some ⟨pe, 0, none⟩)]) (.tmp 8) (.tmp 27) M rfl rfl rfl rfl rfl rfl (by show 0 < 1; omega) rfl rfl (by kernel_rfl) rfl ?_; clear M c1 c2 c3; intro V M; simp only [List.set_cons_zero] at M; have c1 : V.cell? ⟨pw, 0, none⟩ = some (.pointer (some ⟨y.wp, 0, none⟩)) := (M.get 3 rfl).cell 0; have c2 : V.cell? ⟨y.wp, 1, none⟩ = some (.slice (some ⟨gw, 0, none⟩) n cw) := (M.get 4 rfl).cell 1; have c3 : ∀ i, V.cell? ⟨pi, i, none⟩ = #[Value.int .i64 12, .int .i64 (aN : Int), .int .i64 (bN : Int), .int .i64 (b3 : Int)][i]? := (M.get 2 rfl).cell; have c4 : V.cell? ⟨gw, k * 10 + 1, none⟩ = some (.int .i64 (rs k).pos) := ((M.get 5 rfl).cell _).trans (HC.out.pos HK.out); have c5 : V.cell? ⟨pt, 0, none⟩ = some (Value.func (.func 105) #[] #[.pointer (some ⟨pw, 0, none⟩), .pointer (some ⟨pe, 0, none⟩)]) := (M.get 0 rfl).cell 0))
  have ci : ∀ (p : Later V) i, p.1.cell? ⟨pi, i, none⟩ = #[Value.int .i64 12, .int .i64 (aN : Int), .int .i64 (bN : Int), .int .i64 (b3 : Int)][i]? := Later.cell (M.get 2 rfl)
  have cpw : ∀ p : Later V, p.1.cell? ⟨pw, 0, none⟩ = some (.pointer (some ⟨y.wp, 0, none⟩)) := fun p => (Later.cell (M.get 3 rfl) p _)
  have cra : ∀ p : Later V, p.1.cell? ⟨gw, k * 10 + 2 + aN, none⟩ = some (.int .i64 ((rs k).rg aN)) := fun p => (Later.cell (M.get 5 rfl) p _).trans (HC.out.reg HK.out HR.out.1)
  have HV := Lib.hid (fun p : Later V => by have h := wcell_any (Later.blk (M.get 4 rfl) p.1 ⟨p, rfl⟩) ((rs k).rg aN) HE.out.1 HE.out.2; rw [HM7.out] at h; exact h)
  refine wp_quiet_tail_later 10 (by kernel_rfl) (by kernel_rfl) ?_
  simp only [List.take, List.drop]
  repeat (first
    | go_big_quiet_skip
    | go_big_quiet_step ((go_at_call 107; exact later_of (HV.out _))))
  refine wpQuiet_nil ?_
  intro _ hw
  obtain ⟨p', rfl⟩ := hw
  replace M := M.keeps p'.2
  clear c1 c2 c3 c4 c5 ci cpw cra HV
  generalize p'.1 = V at M ⊢
  go_wp2_with (first
    | go_big_skip
    | (refine at_store (.tmp 119) (.tmp 118) rfl ?_; refine om_store 1 2 (.int .i64 (x : Int)) (.tmp 119) (.tmp 118) M rfl rfl rfl rfl rfl rfl (by show 2 < 5; omega) rfl rfl (by kernel_rfl) (cs' := evC ⟨k, 12, x, 0, false⟩) rfl ?_; clear M; intro V M; simp only [List.set_cons_zero, List.set_cons_succ] at M; have c1 : V.cell? ⟨pw, 0, none⟩ = some (.pointer (some ⟨y.wp, 0, none⟩)) := (M.get 3 rfl).cell 0; have c2 : V.cell? ⟨y.wp, 1, none⟩ = some (.slice (some ⟨gw, 0, none⟩) n cw) := (M.get 4 rfl).cell 1; have c3 : ∀ i, V.cell? ⟨pi, i, none⟩ = #[Value.int .i64 12, .int .i64 (aN : Int), .int .i64 (bN : Int), .int .i64 (b3 : Int)][i]? := (M.get 2 rfl).cell; have c4 : V.cell? ⟨gw, k * 10 + 1, none⟩ = some (.int .i64 (rs k).pos) := ((M.get 5 rfl).cell _).trans (HC.out.pos HK.out); have c5 : V.cell? ⟨pt, 0, none⟩ = some (Value.func (.func 105) #[] #[.pointer (some ⟨pw, 0, none⟩), .pointer (some ⟨pe, 0, none⟩)]) := (M.get 0 rfl).cell 0))
  have ci : ∀ (p : Later V) i, p.1.cell? ⟨pi, i, none⟩ = #[Value.int .i64 12, .int .i64 (aN : Int), .int .i64 (bN : Int), .int .i64 (b3 : Int)][i]? := Later.cell (M.get 2 rfl)
  have cw' : ∀ (p : Later V) i, p.1.cell? ⟨y.wp, i, none⟩ = #[Value.pointer (some ⟨y.ps, 0, none⟩), .slice (some ⟨gw, 0, none⟩) n cw, .slice (some ⟨y.bp, 0, none⟩) S.nr S.nr, .slice (some ⟨y.bl, 0, none⟩) y.lk y.lk, .slice (some ⟨y.bg, 0, none⟩) y.gr y.gr, .slice (some ⟨y.bc, 0, none⟩) y.ce y.ce, evs][i]? := Later.cell (M.get 4 rfl)
  have cpw : ∀ p : Later V, p.1.cell? ⟨pw, 0, none⟩ = some (.pointer (some ⟨y.wp, 0, none⟩)) := fun p => (Later.cell (M.get 3 rfl) p _)
  have ce' : ∀ (p : Later V) i, p.1.cell? ⟨pe, i, none⟩ = #[Value.int .i64 (k : Int), .int .i64 12, .int .i64 (x : Int), .int .i64 0, .bool false][i]? := Later.cell (M.get 1 rfl)
  have cc : ∀ p : Later V, p.1.cell? ⟨y.bc, x, none⟩ = some (.int .i64 (ce x)) := fun p => (Later.cell (M.get 9 rfl) p _).trans (arrI_get _ _ _ HX.out)
  have ac := add_zero_ y.bc x
  refine wp_quiet_tail_later 14 (by kernel_rfl) (by kernel_rfl) ?_
  simp only [List.take, List.drop]
  repeat (first
    | go_big_quiet_skip
    | go_big_quiet_step (fail))
  refine wpQuiet_nil ?_
  intro _ hw
  obtain ⟨p', rfl⟩ := hw
  replace M := M.keeps p'.2
  clear c1 c2 c3 c4 c5 ci cw' cpw ce' cc ac
  generalize p'.1 = V at M ⊢
  go_wp2_with (first
    | go_big_skip
    | (refine at_store (.tmp 136) (.tmp 133) rfl ?_; refine om_store 5 (k * 10 + 2 + bN) (.int .i64 (ce x)) (.tmp 136) (.tmp 133) M rfl rfl rfl rfl rfl rfl (by have := HC.out.lt HK.out (f := 2 + bN) (by have := HR.out; omega); omega) rfl rfl (by kernel_rfl) rfl ?_; clear M; intro V M; simp only [List.set_cons_zero, List.set_cons_succ] at M; have c1 : V.cell? ⟨pw, 0, none⟩ = some (.pointer (some ⟨y.wp, 0, none⟩)) := (M.get 3 rfl).cell 0; have c2 : V.cell? ⟨y.wp, 1, none⟩ = some (.slice (some ⟨gw, 0, none⟩) n cw) := (M.get 4 rfl).cell 1; have c3 : ∀ i, V.cell? ⟨pi, i, none⟩ = #[Value.int .i64 12, .int .i64 (aN : Int), .int .i64 (bN : Int), .int .i64 (b3 : Int)][i]? := (M.get 2 rfl).cell; have c5 : V.cell? ⟨pt, 0, none⟩ = some (Value.func (.func 105) #[] #[.pointer (some ⟨pw, 0, none⟩), .pointer (some ⟨pe, 0, none⟩)]) := (M.get 0 rfl).cell 0; have c6 : V.cell? ⟨gw, k * 10 + 2 + bN, none⟩ = some (.int .i64 (ce x)) := by have h := (HC.out.set_reg (ce x) HK.out HR.out.2).reg HK.out HR.out.2; exact ((M.get 5 rfl).cell _).trans (by simpa [setReg] using h)))
  have ci : ∀ (p : Later V) i, p.1.cell? ⟨pi, i, none⟩ = #[Value.int .i64 12, .int .i64 (aN : Int), .int .i64 (bN : Int), .int .i64 (b3 : Int)][i]? := Later.cell (M.get 2 rfl)
  have cw' : ∀ (p : Later V) i, p.1.cell? ⟨y.wp, i, none⟩ = #[Value.pointer (some ⟨y.ps, 0, none⟩), .slice (some ⟨gw, 0, none⟩) n cw, .slice (some ⟨y.bp, 0, none⟩) S.nr S.nr, .slice (some ⟨y.bl, 0, none⟩) y.lk y.lk, .slice (some ⟨y.bg, 0, none⟩) y.gr y.gr, .slice (some ⟨y.bc, 0, none⟩) y.ce y.ce, evs][i]? := Later.cell (M.get 4 rfl)
  have cpw : ∀ p : Later V, p.1.cell? ⟨pw, 0, none⟩ = some (.pointer (some ⟨y.wp, 0, none⟩)) := fun p => (Later.cell (M.get 3 rfl) p _)
  have ce' : ∀ (p : Later V) i, p.1.cell? ⟨pe, i, none⟩ = #[Value.int .i64 (k : Int), .int .i64 12, .int .i64 (x : Int), .int .i64 0, .bool false][i]? := Later.cell (M.get 1 rfl)
  have crb : ∀ p : Later V, p.1.cell? ⟨gw, k * 10 + 2 + bN, none⟩ = some (.int .i64 (ce x)) := fun p => (Later.cell (M.get 5 rfl) p _).trans (by have h := (HC.out.set_reg (ce x) HK.out HR.out.2).reg HK.out HR.out.2; simpa [setReg] using h)
  have ac := add_zero_ y.bc x
  refine wp_quiet_tail_later 14 (by kernel_rfl) (by kernel_rfl) ?_
  simp only [List.take, List.drop]
  repeat (first
    | go_big_quiet_skip
    | go_big_quiet_step (fail))
  refine wpQuiet_nil ?_
  intro _ hw
  obtain ⟨p', rfl⟩ := hw
  replace M := M.keeps p'.2
  clear c1 c2 c3 c5 c6 ci cw' cpw ce' crb ac
  generalize p'.1 = V at M ⊢
  have HCR := Lib.hid (show V.cell? ⟨gw, k * 10 + 2 + bN, none⟩ = some (.int .i64 (ce x)) from ((M.get 5 rfl).cell _).trans (by have h := (HC.out.set_reg (ce x) HK.out HR.out.2).reg HK.out HR.out.2; simpa [setReg] using h))
  clear HCR
  go_wp2_with (first
    | go_big_skip
    | (refine at_store (.tmp 150) (.tmp 149) rfl ?_; refine om_store 9 x (.int .i64 (ce x)) (.tmp 150) (.tmp 149) M rfl rfl rfl rfl rfl rfl (by rw [arrI_size]; exact HX.out) rfl rfl (by kernel_rfl) (arrI_set _ _ _ _) ?_; clear M; intro V M; simp only [List.set_cons_zero, List.set_cons_succ] at M; have c1 : V.cell? ⟨pw, 0, none⟩ = some (.pointer (some ⟨y.wp, 0, none⟩)) := (M.get 3 rfl).cell 0; have c2 : V.cell? ⟨y.wp, 1, none⟩ = some (.slice (some ⟨gw, 0, none⟩) n cw) := (M.get 4 rfl).cell 1; have c3 : ∀ i, V.cell? ⟨pi, i, none⟩ = #[Value.int .i64 12, .int .i64 (aN : Int), .int .i64 (bN : Int), .int .i64 (b3 : Int)][i]? := (M.get 2 rfl).cell; have c5 : V.cell? ⟨pt, 0, none⟩ = some (Value.func (.func 105) #[] #[.pointer (some ⟨pw, 0, none⟩), .pointer (some ⟨pe, 0, none⟩)]) := (M.get 0 rfl).cell 0))
  have ci : ∀ (p : Later V) i, p.1.cell? ⟨pi, i, none⟩ = #[Value.int .i64 12, .int .i64 (aN : Int), .int .i64 (bN : Int), .int .i64 (b3 : Int)][i]? := Later.cell (M.get 2 rfl)
  have crb : ∀ p : Later V, p.1.cell? ⟨gw, k * 10 + 2 + bN, none⟩ = some (.int .i64 (ce x)) := fun p => (Later.cell (M.get 5 rfl) p _).trans (by have h := (HC.out.set_reg (ce x) HK.out HR.out.2).reg HK.out HR.out.2; simpa [setReg] using h)
  refine wp_quiet_tail_later 8 (by kernel_rfl) (by kernel_rfl) ?_
  simp only [List.take, List.drop]
  repeat (first
    | go_big_quiet_skip
    | go_big_quiet_step (fail))
  refine wpQuiet_nil ?_
  intro _ hw
  obtain ⟨p', rfl⟩ := hw
  replace M := M.keeps p'.2
  clear c1 c2 c3 c5 ci crb
  generalize p'.1 = V at M ⊢
  go_wp2_with (first
    | go_big_skip
    | (refine at_store (.tmp 158) (.tmp 157) rfl ?_; refine om_store 1 3 (.int .i64 (ce x)) (.tmp 158) (.tmp 157) M rfl rfl rfl rfl rfl rfl (by show 3 < 5; omega) rfl rfl (by kernel_rfl) (cs' := evC ⟨k, 12, x, (ce x), false⟩) rfl ?_; clear M; intro V M; simp only [List.set_cons_zero, List.set_cons_succ] at M; have c1 : V.cell? ⟨pw, 0, none⟩ = some (.pointer (some ⟨y.wp, 0, none⟩)) := (M.get 3 rfl).cell 0; have c2 : V.cell? ⟨y.wp, 1, none⟩ = some (.slice (some ⟨gw, 0, none⟩) n cw) := (M.get 4 rfl).cell 1; have c3 : ∀ i, V.cell? ⟨pi, i, none⟩ = #[Value.int .i64 12, .int .i64 (aN : Int), .int .i64 (bN : Int), .int .i64 (b3 : Int)][i]? := (M.get 2 rfl).cell; have c5 : V.cell? ⟨pt, 0, none⟩ = some (Value.func (.func 105) #[] #[.pointer (some ⟨pw, 0, none⟩), .pointer (some ⟨pe, 0, none⟩)]) := (M.get 0 rfl).cell 0)
    | (refine at_store (.tmp 221) (.tmp 219) rfl ?_; refine om_store 5 (k * 10 + 1) (.int .i64 (((rs k).pos : Int) + 1)) (.tmp 221) (.tmp 219) M rfl rfl rfl rfl rfl rfl (by have := HC.out.lt HK.out (f := 1) (by omega); simpa using this) rfl rfl (by kernel_rfl) (cs' := (cur.setIfInBounds (k * 10 + 2 + bN) (.int .i64 (ce x))).setIfInBounds (k * 10 + 1) (.int .i64 (((rs k).pos + 1 : Nat) : Int))) (by simp) ?_; clear M c1 c2 c3 c5; intro V M; simp only [List.set_cons_zero, List.set_cons_succ] at M; have c1 : V.cell? ⟨pw, 0, none⟩ = some (.pointer (some ⟨y.wp, 0, none⟩)) := (M.get 3 rfl).cell 0; have c2 : V.cell? ⟨y.wp, 1, none⟩ = some (.slice (some ⟨gw, 0, none⟩) n cw) := (M.get 4 rfl).cell 1; have c3 : ∀ i, V.cell? ⟨pi, i, none⟩ = #[Value.int .i64 12, .int .i64 (aN : Int), .int .i64 (bN : Int), .int .i64 (b3 : Int)][i]? := (M.get 2 rfl).cell; have c5 : V.cell? ⟨pt, 0, none⟩ = some (Value.func (.func 105) #[] #[.pointer (some ⟨pw, 0, none⟩), .pointer (some ⟨pe, 0, none⟩)]) := (M.get 0 rfl).cell 0)
    | (go_at_call 105; refine (tell_any M ⟨k, 12, x, (ce x), false⟩ (i := 3) (j := 1) (k := 4) rfl rfl rfl hn).mono ?_; rintro ev V ⟨rfl, v', M⟩; have HM := Lib.hid M; clear M))
  go_end0
  have eself : updI ce x (ce x) = ce := by funext j; unfold updI; split <;> simp_all
  rw [eself] at HM
  exact ⟨rfl, gw, cw, _, _, hv, HM.out.drop_ 4, (((HC.out.set_reg _ HK.out HR.out.2).set_pos HK.out).congr fun j hj => by by_cases h : j = k <;> simp [h]), H1.out, H2.out, by simpa using H3.out⟩

set_option maxRecDepth 100000 in
set_option maxHeartbeats 2000000 in
theorem st_14f  (M : OM w W ((y.wp, 110, wpC y S.nr gw n cw evs) :: (gw, 174, cur) :: (y.bp, 186, pipesA S.nr hv cl) :: (y.bl, 4, arrB y.lk lk) :: (y.bg, 3, arrI y.gr gr) :: (y.bc, 3, arrI y.ce ce) :: (y.ps, 27, sysV S A c R d) :: Lr) ⟨evs, E, S.nr, hv, held⟩) (hC : WhoC cur n rs) (hk : k < n) (hS : SysIn w S A c R d) (hp : (rs k).prog < S.np) (hl : S.lp (rs k).prog ≤ 256) (hn : E.length ≤ 100000) (h1 : n ≤ cw) (h2 : cw ≤ maxLen) (h3 : cur.size = cw * 10) {f : Nat → Int} (hI : instP S (rs k) = some f) (e0 : f 0 = 14) (e1 : f 1 = (aN : Int)) (e2 : f 2 = (b : Int)) (e3 : f 3 = (b3 : Int)) (hN : 512 ≤ n) : Calls Try.prog 91 #[.pointer (some ⟨y.wp, 0, none⟩), .int .i64 (k : Int)] W fun ev W' => ev = .panicked [{ v := .iface 22 (.int .i64 135), recovered := false }] ∧ InW w W' S A c R d y Lr ⟨n, rs, held, cl, lk, gr, ce, E ++ [⟨k, 14, aN, 0, false⟩]⟩ := by
  have HN := Lib.hid (show ∀ V pw, OM w V ((pw, 104, #[.pointer (some ⟨y.wp, 0, none⟩)]) :: ((y.wp, 110, wpC y S.nr gw n cw evs) :: (gw, 174, cur) :: (y.bp, 186, pipesA S.nr hv cl) :: (y.bl, 4, arrB y.lk lk) :: (y.bg, 3, arrI y.gr gr) :: (y.bc, 3, arrI y.ce ce) :: (y.ps, 27, sysV S A c R d) :: Lr)) ⟨evs, E, S.nr, hv, held⟩ → Calls Try.prog 103 #[.pointer (some ⟨y.wp, 0, none⟩), .pointer (some ⟨gw, k * 10, none⟩)] V fun e W' => e = .returned (.tuple #[.agg #[Value.int .i64 14, .int .i64 (aN : Int), .int .i64 (b : Int), .int .i64 (b3 : Int)], .bool true]) ∧ Keeps V W' [] from fun V pw M => by
    have := wnext_any (M.get 1 rfl) (M.get 2 rfl) (M.get 7 rfl) (hS.kept M.own.keep) hC hk hp
    rw [hI] at this
    simpa [instV, instC, e0, e1, e2, e3] using this)
  have HIC := Lib.hid (show ∀ v ∈ (#[Value.int .i64 14, .int .i64 (aN : Int), .int .i64 (b : Int), .int .i64 (b3 : Int)]).toList, v.oneCell' = true from by
    have := instC_cell f
    simpa [instC, e0, e1, e2, e3] using this)
  have g1 : (k : Int) < n := by omega
  have g2 : (0 : Int) ≤ k := by omega
  have hpos : (rs k).pos < S.lp (rs k).prog := by
    unfold instP at hI
    split at hI
    · assumption
    · cases hI
  have g3 : ((rs k).pos : Int) < 256 := by omega
  have g4 : (0 : Int) ≤ (rs k).pos := by omega
  have HC := Lib.hid hC
  have HK := Lib.hid hk
  have HS := Lib.hid hS
  have HP := Lib.hid hp
  have HPos := Lib.hid hpos
  have H1 := Lib.hid h1
  have H2 := Lib.hid h2
  have H3 := Lib.hid h3
  have ak := add_zero_ gw (k * 10)
  have hmf : ∀ (fn : Fn) (first cap : Array Value) (w : World), (Instr.makeFunc fn first cap).run Try.prog w = .ok (.func fn first cap) w := fun _ _ _ _ => rfl
  clear hC hk hS hp hl hI e0 e1 e2 e3 h1 h2 h3 hpos
  have g5 : (512 : Int) ≤ n := by omega
  clear hN
  go_enter Try.func91, Try.ntmps91
  go_wp2_with (first
    | go_big_skip
    | (refine om_box1 2 (.pointer (some ⟨y.wp, 0, none⟩)) M rfl rfl rfl rfl rfl ?_; clear M; intro V pw M; simp only [Act.put, List.setIfInBounds_toArray, List.set_cons_zero, List.set_cons_succ]; have c1 : V.cell? ⟨pw, 0, none⟩ = some (.pointer (some ⟨y.wp, 0, none⟩)) := (M.get 0 rfl).cell 0; have c2 : V.cell? ⟨y.wp, 1, none⟩ = some (.slice (some ⟨gw, 0, none⟩) n cw) := (M.get 1 rfl).cell 1)
    | (go_at_call 103; refine (HN.out _ _ M).mono ?_; rintro e V ⟨rfl, K⟩; replace M := M.keeps K; clear K c1 c2; have c1 : V.cell? ⟨pw, 0, none⟩ = some (.pointer (some ⟨y.wp, 0, none⟩)) := (M.get 0 rfl).cell 0; have c2 : V.cell? ⟨y.wp, 1, none⟩ = some (.slice (some ⟨gw, 0, none⟩) n cw) := (M.get 1 rfl).cell 1)
    | (refine om_alloc 5 (instC fun _ => 0) M rfl rfl rfl (fun _ => by kernel_rfl) ?_; clear M c1 c2; intro V pi M; simp only [Act.put, List.setIfInBounds_toArray, List.set_cons_zero, List.set_cons_succ]; have c1 : V.cell? ⟨pw, 0, none⟩ = some (.pointer (some ⟨y.wp, 0, none⟩)) := (M.get 1 rfl).cell 0; have c2 : V.cell? ⟨y.wp, 1, none⟩ = some (.slice (some ⟨gw, 0, none⟩) n cw) := (M.get 2 rfl).cell 1)
    | (refine at_store (.tmp 5) (.tmp 21) rfl ?_; refine om_store_row 0 (.tmp 5) (.tmp 21) (cs' := #[Value.int .i64 14, .int .i64 (aN : Int), .int .i64 (b : Int), .int .i64 (b3 : Int)]) M rfl rfl rfl rfl rfl rfl (by kernel_rfl) (by rfl) HIC.out ?_; clear M c1 c2; intro V M; simp only [List.set_cons_zero] at M; have c1 : V.cell? ⟨pw, 0, none⟩ = some (.pointer (some ⟨y.wp, 0, none⟩)) := (M.get 1 rfl).cell 0; have c2 : V.cell? ⟨y.wp, 1, none⟩ = some (.slice (some ⟨gw, 0, none⟩) n cw) := (M.get 2 rfl).cell 1; have c3 : ∀ i, V.cell? ⟨pi, i, none⟩ = #[Value.int .i64 14, .int .i64 (aN : Int), .int .i64 (b : Int), .int .i64 (b3 : Int)][i]? := (M.get 0 rfl).cell)
    | (refine om_alloc 7 (evC ⟨0, 0, 0, 0, false⟩) M rfl rfl rfl (fun _ => by kernel_rfl) ?_; clear M c1 c2 c3; intro V pe M; simp only [Act.put, List.setIfInBounds_toArray, List.set_cons_zero, List.set_cons_succ]; have c1 : V.cell? ⟨pw, 0, none⟩ = some (.pointer (some ⟨y.wp, 0, none⟩)) := (M.get 2 rfl).cell 0; have c2 : V.cell? ⟨y.wp, 1, none⟩ = some (.slice (some ⟨gw, 0, none⟩) n cw) := (M.get 3 rfl).cell 1; have c3 : ∀ i, V.cell? ⟨pi, i, none⟩ = #[Value.int .i64 14, .int .i64 (aN : Int), .int .i64 (b : Int), .int .i64 (b3 : Int)][i]? := (M.get 1 rfl).cell)
    | (refine at_store (.tmp 7) (.tmp 26) rfl ?_; refine om_store_row 0 (.tmp 7) (.tmp 26) (cs' := evC ⟨k, 14, 0, 0, false⟩) M rfl rfl rfl rfl rfl rfl (by kernel_rfl) (by rfl) (evC_cell _) ?_; clear M c1 c2 c3; intro V M; simp only [List.set_cons_zero] at M; have c1 : V.cell? ⟨pw, 0, none⟩ = some (.pointer (some ⟨y.wp, 0, none⟩)) := (M.get 2 rfl).cell 0; have c2 : V.cell? ⟨y.wp, 1, none⟩ = some (.slice (some ⟨gw, 0, none⟩) n cw) := (M.get 3 rfl).cell 1; have c3 : ∀ i, V.cell? ⟨pi, i, none⟩ = #[Value.int .i64 14, .int .i64 (aN : Int), .int .i64 (b : Int), .int .i64 (b3 : Int)][i]? := (M.get 1 rfl).cell)
    | (refine om_alloc1 8 .nilFunc M rfl rfl rfl (fun _ => by kernel_rfl) rfl ?_; clear M c1 c2 c3; intro V pt M; simp only [Act.put, List.setIfInBounds_toArray, List.set_cons_zero, List.set_cons_succ]; have c1 : V.cell? ⟨pw, 0, none⟩ = some (.pointer (some ⟨y.wp, 0, none⟩)) := (M.get 3 rfl).cell 0; have c2 : V.cell? ⟨y.wp, 1, none⟩ = some (.slice (some ⟨gw, 0, none⟩) n cw) := (M.get 4 rfl).cell 1; have c3 : ∀ i, V.cell? ⟨pi, i, none⟩ = #[Value.int .i64 14, .int .i64 (aN : Int), .int .i64 (b : Int), .int .i64 (b3 : Int)][i]? := (M.get 2 rfl).cell)
    | (refine at_store (.tmp 8) (.tmp 27) rfl ?_; refine om_store 0 0 (Value.func (.func 105) #[] #[.pointer (some ⟨pw, 0, none⟩), .pointer (some ⟨pe, 0, none⟩)]) (.tmp 8) (.tmp 27) M rfl rfl rfl rfl rfl rfl (by show 0 < 1; omega) rfl rfl (by kernel_rfl) rfl ?_; clear M c1 c2 c3; intro V M; simp only [List.set_cons_zero] at M; have c1 : V.cell? ⟨pw, 0, none⟩ = some (.pointer (some ⟨y.wp, 0, none⟩)) := (M.get 3 rfl).cell 0; have c2 : V.cell? ⟨y.wp, 1, none⟩ = some (.slice (some ⟨gw, 0, none⟩) n cw) := (M.get 4 rfl).cell 1; have c3 : ∀ i, V.cell? ⟨pi, i, none⟩ = #[Value.int .i64 14, .int .i64 (aN : Int), .int .i64 (b : Int), .int .i64 (b3 : Int)][i]? := (M.get 2 rfl).cell; have c4 : V.cell? ⟨gw, k * 10 + 1, none⟩ = some (.int .i64 (rs k).pos) := ((M.get 5 rfl).cell _).trans (HC.out.pos HK.out); have c5 : V.cell? ⟨pt, 0, none⟩ = some (Value.func (.func 105) #[] #[.pointer (some ⟨pw, 0, none⟩), .pointer (some ⟨pe, 0, none⟩)]) := (M.get 0 rfl).cell 0)
    | (refine at_store (.tmp 161) (.tmp 160) rfl ?_; refine om_store 1 2 (.int .i64 (aN : Int)) (.tmp 161) (.tmp 160) M rfl rfl rfl rfl rfl rfl (by show 2 < 5; omega) rfl rfl (by kernel_rfl) (cs' := evC ⟨k, 14, aN, 0, false⟩) rfl ?_; clear M; intro V M; simp only [List.set_cons_zero, List.set_cons_succ] at M; have c1 : V.cell? ⟨pw, 0, none⟩ = some (.pointer (some ⟨y.wp, 0, none⟩)) := (M.get 3 rfl).cell 0; have c2 : V.cell? ⟨y.wp, 1, none⟩ = some (.slice (some ⟨gw, 0, none⟩) n cw) := (M.get 4 rfl).cell 1; have c3 : ∀ i, V.cell? ⟨pi, i, none⟩ = #[Value.int .i64 14, .int .i64 (aN : Int), .int .i64 (b : Int), .int .i64 (b3 : Int)][i]? := (M.get 2 rfl).cell; have c4 : V.cell? ⟨gw, k * 10 + 1, none⟩ = some (.int .i64 (rs k).pos) := ((M.get 5 rfl).cell _).trans (HC.out.pos HK.out); have c5 : V.cell? ⟨pt, 0, none⟩ = some (Value.func (.func 105) #[] #[.pointer (some ⟨pw, 0, none⟩), .pointer (some ⟨pe, 0, none⟩)]) := (M.get 0 rfl).cell 0)
    | (go_at_call 106; refine (fail_any M ⟨k, 14, aN, 0, false⟩ (i := 3) (j := 1) (k := 4) (m := 0) rfl rfl rfl rfl hn 135).mono ?_; rintro ev V ⟨rfl, v', M⟩; have HM := Lib.hid M; clear M))
  exact ⟨rfl, rfl, gw, cw, _, _, hv, HM.out.drop_ 4, HC.out, H1.out, H2.out, H3.out⟩

end
end Go.Proofs.Ytakmcpadkanggaa
