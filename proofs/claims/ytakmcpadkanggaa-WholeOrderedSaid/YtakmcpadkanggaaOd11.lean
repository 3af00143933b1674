/-
 Part 11 of what this claim rests on.
-/
import Derived.Test.YtakmcpadkanggaaOd10
namespace Go.Proofs.Ytakmcpadkanggaa
open Go.RowKit Go.Maps Go.Deep
section
variable {w W : World} {Lr : List Ent} {S : Sys} {A : Option Addr} {c : Nat} {R : Option Addr} {d : Nat} {y : Ly} {gw n cw k aN bN cN : Nat} {cur : Array Value} {evs : Value} {E : List Ev} {rs : Nat → Rn} {hv : Nat → Value} {held : Nat → List Int} {cl : Nat → Bool} {lk : Int → Bool} {gr ce : Int → Int} {b b3 : Int}
set_option maxRecDepth 100000 in
set_option maxHeartbeats 2000000 in
theorem st_1  (M : OM w W ((y.wp, 110, wpC y S.nr gw n cw evs) :: (gw, 174, cur) :: (y.bp, 186, pipesA S.nr hv cl) :: (y.bl, 4, arrB y.lk lk) :: (y.bg, 3, arrI y.gr gr) :: (y.bc, 3, arrI y.ce ce) :: (y.ps, 27, sysV S A c R d) :: Lr) ⟨evs, E, S.nr, hv, held⟩) (hC : WhoC cur n rs) (hk : k < n) (hS : SysIn w S A c R d) (hp : (rs k).prog < S.np) (hl : S.lp (rs k).prog ≤ 256) (hn : E.length ≤ 100000) (h1 : n ≤ cw) (h2 : cw ≤ maxLen) (h3 : cur.size = cw * 10) {f : Nat → Int} (hI : instP S (rs k) = some f) (e0 : f 0 = 1) (e1 : f 1 = (aN : Int)) (e2 : f 2 = (b : Int)) (e3 : f 3 = (b3 : Int)) (ha : aN < 8) : Calls Try.prog 91 #[.pointer (some ⟨y.wp, 0, none⟩), .int .i64 (k : Int)] W fun ev W' => ev = .returned (.tuple #[]) ∧ InW w W' S A c R d y Lr ⟨n, fun j => if j = k then { setReg (rs k) aN b with pos := (rs k).pos + 1 } else rs j, held, cl, lk, gr, ce, E ++ [⟨k, 1, 0, 0, false⟩]⟩ := by
 have HN := Lib.hid (show ∀ V pw, OM w V ((pw, 104, #[.pointer (some ⟨y.wp, 0, none⟩)]) :: ((y.wp, 110, wpC y S.nr gw n cw evs) :: (gw, 174, cur) :: (y.bp, 186, pipesA S.nr hv cl) :: (y.bl, 4, arrB y.lk lk) :: (y.bg, 3, arrI y.gr gr) :: (y.bc, 3, arrI y.ce ce) :: (y.ps, 27, sysV S A c R d) :: Lr)) ⟨evs, E, S.nr, hv, held⟩ → Calls Try.prog 103 #[.pointer (some ⟨y.wp, 0, none⟩), .pointer (some ⟨gw, k * 10, none⟩)] V fun e W' => e = .returned (.tuple #[.agg #[Value.int .i64 1, .int .i64 (aN : Int), .int .i64 (b : Int), .int .i64 (b3 : Int)], .bool true]) ∧ Keeps V W' [] from fun V pw M => by
   have := wnext_any (M.get 1 rfl) (M.get 2 rfl) (M.get 7 rfl) (hS.kept M.own.keep) hC hk hp
   rw [hI] at this
   simpa [instV, instC, e0, e1, e2, e3] using this)
 have HIC := Lib.hid (show ∀ v ∈ (#[Value.int .i64 1, .int .i64 (aN : Int), .int .i64 (b : Int), .int .i64 (b3 : Int)]).toList, v.oneCell' = true from by
   have := instC_cell f
   simpa [instC, e0, e1, e2, e3] using this)
 have g1 : (k : Int) < n := by omega
 have g2 : (0 : Int) ≤ k := by omega
 have hpos : (rs k).pos < S.lp (rs k).prog := by
   unfold instP at hI
   split at hI
   · assumption
   · cases hI
 have g3 : ((rs k).pos : Int) < 256 := by omega
 have g4 : (0 : Int) ≤ (rs k).pos := by omega
 have HC := Lib.hid hC
 have HK := Lib.hid hk
 have HS := Lib.hid hS
 have HP := Lib.hid hp
 have HPos := Lib.hid hpos
 have H1 := Lib.hid h1
 have H2 := Lib.hid h2
 have H3 := Lib.hid h3
 have ak := add_zero_ gw (k * 10)
 have hmf := kf3
 clear hC hk hS hp hl hI e0 e1 e2 e3 h1 h2 h3 hpos
 have g5 : (aN : Int) < 8 := by omega
 have g6 : (0 : Int) ≤ aN := by omega
 have HR := Lib.hid (And.intro ha True.intro)
 clear ha
 go_enter Try.func91, Try.ntmps91
 go_wp2_with (first
   | go_big_skip
   | (refine om_box1 2 (.pointer (some ⟨y.wp, 0, none⟩)) M rfl rfl rfl rfl rfl ?_; clear M; intro V pw M; simp only [Act.put, kA, kZ, kS]; have c1 := kc1 (M.get 0 rfl); have c2 := kc2 (M.get 1 rfl))
   | (go_at_call 103; refine (HN.out _ _ M).mono ?_; rintro e V ⟨rfl, K⟩; replace M := M.keeps K; clear K c1 c2; have c1 := kc1 (M.get 0 rfl); have c2 := kc2 (M.get 1 rfl))
   | (refine om_alloc 5 (instC fun _ => 0) M rfl rfl rfl (fun _ => by kernel_rfl) ?_; clear M c1 c2; intro V pi M; simp only [Act.put, kA, kZ, kS]; have c1 := kc1 (M.get 1 rfl); have c2 := kc2 (M.get 2 rfl))
   | (refine at_store (.tmp 5) (.tmp 21) rfl ?_; refine om_store_row 0 (.tmp 5) (.tmp 21) (cs' := #[Value.int .i64 1, .int .i64 (aN : Int), .int .i64 (b : Int), .int .i64 (b3 : Int)]) M rfl rfl rfl rfl rfl rfl (by kernel_rfl) (by rfl) HIC.out ?_; clear M c1 c2; intro V M; simp only [kZ] at M; have c1 := kc1 (M.get 1 rfl); have c2 := kc2 (M.get 2 rfl); have c3 := (M.get 0 rfl).cell)
   | (refine om_alloc 7 (evC ⟨0, 0, 0, 0, false⟩) M rfl rfl rfl (fun _ => by kernel_rfl) ?_; clear M c1 c2 c3; intro V pe M; simp only [Act.put, kA, kZ, kS]; have c1 := kc1 (M.get 2 rfl); have c2 := kc2 (M.get 3 rfl); have c3 := (M.get 1 rfl).cell)
   | (refine at_store (.tmp 7) (.tmp 26) rfl ?_; refine om_store_row 0 (.tmp 7) (.tmp 26) (cs' := evC ⟨k, 1, 0, 0, false⟩) M rfl rfl rfl rfl rfl rfl (by kernel_rfl) (by rfl) (evC_cell _) ?_; clear M c1 c2 c3; intro V M; simp only [kZ] at M; have c1 := kc1 (M.get 2 rfl); have c2 := kc2 (M.get 3 rfl); have c3 := (M.get 1 rfl).cell)
   | (refine om_alloc1 8 .nilFunc M rfl rfl rfl (fun _ => by kernel_rfl) rfl ?_; clear M c1 c2 c3; intro V pt M; simp only [Act.put, kA, kZ, kS]; have c1 := kc1 (M.get 3 rfl); have c2 := kc2 (M.get 4 rfl); have c3 := (M.get 2 rfl).cell)
   | (refine at_store (.tmp 8) (.tmp 27) rfl ?_; refine om_store 0 0 (Value.func (.func 105) #[] #[.pointer (some ⟨pw, 0, none⟩), .pointer (some ⟨pe, 0, none⟩)]) (.tmp 8) (.tmp 27) M rfl rfl rfl rfl rfl rfl (by show 0 < 1; omega) rfl rfl (by kernel_rfl) rfl ?_; clear M c1 c2 c3; intro V M; simp only [kZ] at M; have c1 := kc1 (M.get 3 rfl); have c2 := kc2 (M.get 4 rfl); have c3 := (M.get 2 rfl).cell; have c4 : V.cell? ⟨gw, k * 10 + 1, none⟩ = some (.int .i64 (rs k).pos) := ((M.get 5 rfl).cell _).trans (HC.out.pos HK.out); have c5 := kc1 (M.get 0 rfl)))
 have ci : ∀ (p : Later V) i, p.1.cell? ⟨pi, i, none⟩ = #[Value.int .i64 1, .int .i64 (aN : Int), .int .i64 (b : Int), .int .i64 (b3 : Int)][i]? := Later.cell (M.get 2 rfl)
 refine wp_quiet_tail_later 8 (by kernel_rfl) (by kernel_rfl) ?_
 simp only [List.take, List.drop]
 repeat (first | go_big_quiet_skip | go_big_quiet_step (fail))
 refine kq fun p' => ?_
 replace M := M.keeps p'.2
 clear c1 c2 c3 c4 c5 ci
 generalize p'.1 = V at M ⊢
 go_wp2_with (first
   | go_big_skip
   | (refine at_store (.tmp 60) (.tmp 57) rfl ?_; refine om_store 5 (k * 10 + 2 + aN) (.int .i64 b) (.tmp 60) (.tmp 57) M rfl rfl rfl rfl rfl rfl (by have := HC.out.lt HK.out (f := 2 + aN) (by have := HR.out; omega); omega) rfl rfl (by kernel_rfl) rfl ?_; clear M; intro V M; simp only [kZ, kS] at M; have c1 := kc1 (M.get 3 rfl); have c2 := kc2 (M.get 4 rfl); have c3 := (M.get 2 rfl).cell; have c5 := kc1 (M.get 0 rfl))
   | (refine at_store (.tmp 221) (.tmp 219) rfl ?_; refine om_store 5 (k * 10 + 1) (.int .i64 (((rs k).pos : Int) + 1)) (.tmp 221) (.tmp 219) M rfl rfl rfl rfl rfl rfl (by have := HC.out.lt HK.out (f := 1) (by omega); simpa using this) rfl rfl (by kernel_rfl) (cs' := (cur.setIfInBounds (k * 10 + 2 + aN) (.int .i64 b)).setIfInBounds (k * 10 + 1) (.int .i64 (((rs k).pos + 1 : Nat) : Int))) (by simp) ?_; clear M c1 c2 c3 c5; intro V M; simp only [kZ, kS] at M; have c1 := kc1 (M.get 3 rfl); have c2 := kc2 (M.get 4 rfl); have c3 := (M.get 2 rfl).cell; have c5 := kc1 (M.get 0 rfl))
   | (go_at_call 105; refine (tell_any M ⟨k, 1, 0, 0, false⟩ (i := 3) (j := 1) (k := 4) rfl rfl rfl hn).mono ?_; rintro ev V ⟨rfl, v', M⟩; have HM := Lib.hid M; clear M))
 go_end0
 exact ⟨rfl, gw, cw, _, _, hv, HM.out.drop_ 4, (((HC.out.set_reg _ HK.out HR.out.1).set_pos HK.out).congr fun j hj => by by_cases h : j = k <;> simp [h]), H1.out, H2.out, by simpa using H3.out⟩
set_option maxRecDepth 100000 in
set_option maxHeartbeats 2000000 in
theorem st_2  (M : OM w W ((y.wp, 110, wpC y S.nr gw n cw evs) :: (gw, 174, cur) :: (y.bp, 186, pipesA S.nr hv cl) :: (y.bl, 4, arrB y.lk lk) :: (y.bg, 3, arrI y.gr gr) :: (y.bc, 3, arrI y.ce ce) :: (y.ps, 27, sysV S A c R d) :: Lr) ⟨evs, E, S.nr, hv, held⟩) (hC : WhoC cur n rs) (hk : k < n) (hS : SysIn w S A c R d) (hp : (rs k).prog < S.np) (hl : S.lp (rs k).prog ≤ 256) (hn : E.length ≤ 100000) (h1 : n ≤ cw) (h2 : cw ≤ maxLen) (h3 : cur.size = cw * 10) {f : Nat → Int} (hI : instP S (rs k) = some f) (e0 : f 0 = 2) (e1 : f 1 = (aN : Int)) (e2 : f 2 = (bN : Int)) (e3 : f 3 = (b3 : Int)) (ha : aN < 8) (hb : bN < 8) {s : Int} (hs : IntKind.i64.wrap ((rs k).rg aN + (rs k).rg bN) = s) : Calls Try.prog 91 #[.pointer (some ⟨y.wp, 0, none⟩), .int .i64 (k : Int)] W fun ev W' => ev = .returned (.tuple #[]) ∧ InW w W' S A c R d y Lr ⟨n, fun j => if j = k then { setReg (rs k) aN s with pos := (rs k).pos + 1 } else rs j, held, cl, lk, gr, ce, E ++ [⟨k, 2, 0, 0, false⟩]⟩ := by
 have HN := Lib.hid (show ∀ V pw, OM w V ((pw, 104, #[.pointer (some ⟨y.wp, 0, none⟩)]) :: ((y.wp, 110, wpC y S.nr gw n cw evs) :: (gw, 174, cur) :: (y.bp, 186, pipesA S.nr hv cl) :: (y.bl, 4, arrB y.lk lk) :: (y.bg, 3, arrI y.gr gr) :: (y.bc, 3, arrI y.ce ce) :: (y.ps, 27, sysV S A c R d) :: Lr)) ⟨evs, E, S.nr, hv, held⟩ → Calls Try.prog 103 #[.pointer (some ⟨y.wp, 0, none⟩), .pointer (some ⟨gw, k * 10, none⟩)] V fun e W' => e = .returned (.tuple #[.agg #[Value.int .i64 2, .int .i64 (aN : Int), .int .i64 (bN : Int), .int .i64 (b3 : Int)], .bool true]) ∧ Keeps V W' [] from fun V pw M => by
   have := wnext_any (M.get 1 rfl) (M.get 2 rfl) (M.get 7 rfl) (hS.kept M.own.keep) hC hk hp
   rw [hI] at this
   simpa [instV, instC, e0, e1, e2, e3] using this)
 have HIC := Lib.hid (show ∀ v ∈ (#[Value.int .i64 2, .int .i64 (aN : Int), .int .i64 (bN : Int), .int .i64 (b3 : Int)]).toList, v.oneCell' = true from by
   have := instC_cell f
   simpa [instC, e0, e1, e2, e3] using this)
 have g1 : (k : Int) < n := by omega
 have g2 : (0 : Int) ≤ k := by omega
 have hpos : (rs k).pos < S.lp (rs k).prog := by
   unfold instP at hI
   split at hI
   · assumption
   · cases hI
 have g3 : ((rs k).pos : Int) < 256 := by omega
 have g4 : (0 : Int) ≤ (rs k).pos := by omega
 have HC := Lib.hid hC
 have HK := Lib.hid hk
 have HS := Lib.hid hS
 have HP := Lib.hid hp
 have HPos := Lib.hid hpos
 have H1 := Lib.hid h1
 have H2 := Lib.hid h2
 have H3 := Lib.hid h3
 have ak := add_zero_ gw (k * 10)
 have hmf := kf3
 clear hC hk hS hp hl hI e0 e1 e2 e3 h1 h2 h3 hpos
 have g5 : (aN : Int) < 8 := by omega
 have g6 : (0 : Int) ≤ aN := by omega
 have g7 : (bN : Int) < 8 := by omega
 have g8 : (0 : Int) ≤ bN := by omega
 have HR := Lib.hid (And.intro ha hb)
 clear ha hb
 go_enter Try.func91, Try.ntmps91
 go_wp2_with (first
   | go_big_skip
   | (refine om_box1 2 (.pointer (some ⟨y.wp, 0, none⟩)) M rfl rfl rfl rfl rfl ?_; clear M; intro V pw M; simp only [Act.put, kA, kZ, kS]; have c1 := kc1 (M.get 0 rfl); have c2 := kc2 (M.get 1 rfl))
   | (go_at_call 103; refine (HN.out _ _ M).mono ?_; rintro e V ⟨rfl, K⟩; replace M := M.keeps K; clear K c1 c2; have c1 := kc1 (M.get 0 rfl); have c2 := kc2 (M.get 1 rfl))
   | (refine om_alloc 5 (instC fun _ => 0) M rfl rfl rfl (fun _ => by kernel_rfl) ?_; clear M c1 c2; intro V pi M; simp only [Act.put, kA, kZ, kS]; have c1 := kc1 (M.get 1 rfl); have c2 := kc2 (M.get 2 rfl))
   | (refine at_store (.tmp 5) (.tmp 21) rfl ?_; refine om_store_row 0 (.tmp 5) (.tmp 21) (cs' := #[Value.int .i64 2, .int .i64 (aN : Int), .int .i64 (bN : Int), .int .i64 (b3 : Int)]) M rfl rfl rfl rfl rfl rfl (by kernel_rfl) (by rfl) HIC.out ?_; clear M c1 c2; intro V M; simp only [kZ] at M; have c1 := kc1 (M.get 1 rfl); have c2 := kc2 (M.get 2 rfl); have c3 := (M.get 0 rfl).cell)
   | (refine om_alloc 7 (evC ⟨0, 0, 0, 0, false⟩) M rfl rfl rfl (fun _ => by kernel_rfl) ?_; clear M c1 c2 c3; intro V pe M; simp only [Act.put, kA, kZ, kS]; have c1 := kc1 (M.get 2 rfl); have c2 := kc2 (M.get 3 rfl); have c3 := (M.get 1 rfl).cell)
   | (refine at_store (.tmp 7) (.tmp 26) rfl ?_; refine om_store_row 0 (.tmp 7) (.tmp 26) (cs' := evC ⟨k, 2, 0, 0, false⟩) M rfl rfl rfl rfl rfl rfl (by kernel_rfl) (by rfl) (evC_cell _) ?_; clear M c1 c2 c3; intro V M; simp only [kZ] at M; have c1 := kc1 (M.get 2 rfl); have c2 := kc2 (M.get 3 rfl); have c3 := (M.get 1 rfl).cell)
   | (refine om_alloc1 8 .nilFunc M rfl rfl rfl (fun _ => by kernel_rfl) rfl ?_; clear M c1 c2 c3; intro V pt M; simp only [Act.put, kA, kZ, kS]; have c1 := kc1 (M.get 3 rfl); have c2 := kc2 (M.get 4 rfl); have c3 := (M.get 2 rfl).cell)
   | (refine at_store (.tmp 8) (.tmp 27) rfl ?_; refine om_store 0 0 (Value.func (.func 105) #[] #[.pointer (some ⟨pw, 0, none⟩), .pointer (some ⟨pe, 0, none⟩)]) (.tmp 8) (.tmp 27) M rfl rfl rfl rfl rfl rfl (by show 0 < 1; omega) rfl rfl (by kernel_rfl) rfl ?_; clear M c1 c2 c3; intro V M; simp only [kZ] at M; have c1 := kc1 (M.get 3 rfl); have c2 := kc2 (M.get 4 rfl); have c3 := (M.get 2 rfl).cell; have c4 : V.cell? ⟨gw, k * 10 + 1, none⟩ = some (.int .i64 (rs k).pos) := ((M.get 5 rfl).cell _).trans (HC.out.pos HK.out); have c5 := kc1 (M.get 0 rfl)))
 have ci : ∀ (p : Later V) i, p.1.cell? ⟨pi, i, none⟩ = #[Value.int .i64 2, .int .i64 (aN : Int), .int .i64 (bN : Int), .int .i64 (b3 : Int)][i]? := Later.cell (M.get 2 rfl)
 have cra : ∀ p : Later V, p.1.cell? ⟨gw, k * 10 + 2 + aN, none⟩ = some (.int .i64 ((rs k).rg aN)) := fun p => (Later.cell (M.get 5 rfl) p _).trans (HC.out.reg HK.out HR.out.1)
 have crb : ∀ p : Later V, p.1.cell? ⟨gw, k * 10 + 2 + bN, none⟩ = some (.int .i64 ((rs k).rg bN)) := fun p => (Later.cell (M.get 5 rfl) p _).trans (HC.out.reg HK.out HR.out.2)
 refine wp_quiet_tail_later 18 (by kernel_rfl) (by kernel_rfl) ?_
 simp only [List.take, List.drop]
 repeat (first | go_big_quiet_skip | go_big_quiet_step (fail))
 refine kq fun p' => ?_
 replace M := M.keeps p'.2
 clear c1 c2 c3 c4 c5 ci cra crb
 generalize p'.1 = V at M ⊢
 go_wp2_with (first
   | go_big_skip
   | (refine at_store (.tmp 78) (.tmp 75) rfl ?_; refine om_store 5 (k * 10 + 2 + aN) (.int .i64 s) (.tmp 78) (.tmp 75) M rfl rfl rfl rfl rfl rfl (by have := HC.out.lt HK.out (f := 2 + aN) (by have := HR.out; omega); omega) rfl rfl (by kernel_rfl) rfl ?_; clear M; intro V M; simp only [kZ, kS] at M; have c1 := kc1 (M.get 3 rfl); have c2 := kc2 (M.get 4 rfl); have c3 := (M.get 2 rfl).cell; have c5 := kc1 (M.get 0 rfl))
   | (refine at_store (.tmp 221) (.tmp 219) rfl ?_; refine om_store 5 (k * 10 + 1) (.int .i64 (((rs k).pos : Int) + 1)) (.tmp 221) (.tmp 219) M rfl rfl rfl rfl rfl rfl (by have := HC.out.lt HK.out (f := 1) (by omega); simpa using this) rfl rfl (by kernel_rfl) (cs' := (cur.setIfInBounds (k * 10 + 2 + aN) (.int .i64 s)).setIfInBounds (k * 10 + 1) (.int .i64 (((rs k).pos + 1 : Nat) : Int))) (by simp) ?_; clear M c1 c2 c3 c5; intro V M; simp only [kZ, kS] at M; have c1 := kc1 (M.get 3 rfl); have c2 := kc2 (M.get 4 rfl); have c3 := (M.get 2 rfl).cell; have c5 := kc1 (M.get 0 rfl))
   | (go_at_call 105; refine (tell_any M ⟨k, 2, 0, 0, false⟩ (i := 3) (j := 1) (k := 4) rfl rfl rfl hn).mono ?_; rintro ev V ⟨rfl, v', M⟩; have HM := Lib.hid M; clear M))
 go_end0
 exact ⟨rfl, gw, cw, _, _, hv, HM.out.drop_ 4, (((HC.out.set_reg _ HK.out HR.out.1).set_pos HK.out).congr fun j hj => by by_cases h : j = k <;> simp [h]), H1.out, H2.out, by simpa using H3.out⟩
set_option maxRecDepth 100000 in
set_option maxHeartbeats 2000000 in
theorem st_3a  (M : OM w W ((y.wp, 110, wpC y S.nr gw n cw evs) :: (gw, 174, cur) :: (y.bp, 186, pipesA S.nr hv cl) :: (y.bl, 4, arrB y.lk lk) :: (y.bg, 3, arrI y.gr gr) :: (y.bc, 3, arrI y.ce ce) :: (y.ps, 27, sysV S A c R d) :: Lr) ⟨evs, E, S.nr, hv, held⟩) (hC : WhoC cur n rs) (hk : k < n) (hS : SysIn w S A c R d) (hp : (rs k).prog < S.np) (hl : S.lp (rs k).prog ≤ 256) (hn : E.length ≤ 100000) (h1 : n ≤ cw) (h2 : cw ≤ maxLen) (h3 : cur.size = cw * 10) {f : Nat → Int} (hI : instP S (rs k) = some f) (e0 : f 0 = 3) (e1 : f 1 = (aN : Int)) (e2 : f 2 = (bN : Int)) (e3 : f 3 = (cN : Int)) (ha : aN < 8) (hb : bN < 8) (hlt : (rs k).rg bN ≤ (rs k).rg aN) : Calls Try.prog 91 #[.pointer (some ⟨y.wp, 0, none⟩), .int .i64 (k : Int)] W fun ev W' => ev = .returned (.tuple #[]) ∧ InW w W' S A c R d y Lr ⟨n, fun j => if j = k then { rs k with pos := (rs k).pos + 1 } else rs j, held, cl, lk, gr, ce, E ++ [⟨k, 3, 0, 0, false⟩]⟩ := by
 have HN := Lib.hid (show ∀ V pw, OM w V ((pw, 104, #[.pointer (some ⟨y.wp, 0, none⟩)]) :: ((y.wp, 110, wpC y S.nr gw n cw evs) :: (gw, 174, cur) :: (y.bp, 186, pipesA S.nr hv cl) :: (y.bl, 4, arrB y.lk lk) :: (y.bg, 3, arrI y.gr gr) :: (y.bc, 3, arrI y.ce ce) :: (y.ps, 27, sysV S A c R d) :: Lr)) ⟨evs, E, S.nr, hv, held⟩ → Calls Try.prog 103 #[.pointer (some ⟨y.wp, 0, none⟩), .pointer (some ⟨gw, k * 10, none⟩)] V fun e W' => e = .returned (.tuple #[.agg #[Value.int .i64 3, .int .i64 (aN : Int), .int .i64 (bN : Int), .int .i64 (cN : Int)], .bool true]) ∧ Keeps V W' [] from fun V pw M => by
   have := wnext_any (M.get 1 rfl) (M.get 2 rfl) (M.get 7 rfl) (hS.kept M.own.keep) hC hk hp
   rw [hI] at this
   simpa [instV, instC, e0, e1, e2, e3] using this)
 have HIC := Lib.hid (show ∀ v ∈ (#[Value.int .i64 3, .int .i64 (aN : Int), .int .i64 (bN : Int), .int .i64 (cN : Int)]).toList, v.oneCell' = true from by
   have := instC_cell f
   simpa [instC, e0, e1, e2, e3] using this)
 have g1 : (k : Int) < n := by omega
 have g2 : (0 : Int) ≤ k := by omega
 have hpos : (rs k).pos < S.lp (rs k).prog := by
   unfold instP at hI
   split at hI
   · assumption
   · cases hI
 have g3 : ((rs k).pos : Int) < 256 := by omega
 have g4 : (0 : Int) ≤ (rs k).pos := by omega
 have HC := Lib.hid hC
 have HK := Lib.hid hk
 have HS := Lib.hid hS
 have HP := Lib.hid hp
 have HPos := Lib.hid hpos
 have H1 := Lib.hid h1
 have H2 := Lib.hid h2
 have H3 := Lib.hid h3
 have ak := add_zero_ gw (k * 10)
 have hmf := kf3
 clear hC hk hS hp hl hI e0 e1 e2 e3 h1 h2 h3 hpos
 have g5 : (aN : Int) < 8 := by omega
 have g6 : (0 : Int) ≤ aN := by omega
 have g7 : (bN : Int) < 8 := by omega
 have g8 : (0 : Int) ≤ bN := by omega
 have HR := Lib.hid (And.intro ha hb)
 clear ha hb
 have gd : decide ((rs k).rg bN ≤ (rs k).rg aN) = true := by simpa using hlt
 clear hlt
 go_enter Try.func91, Try.ntmps91
 go_wp2_with (first
   | go_big_skip
   | (refine om_box1 2 (.pointer (some ⟨y.wp, 0, none⟩)) M rfl rfl rfl rfl rfl ?_; clear M; intro V pw M; simp only [Act.put, kA, kZ, kS]; have c1 := kc1 (M.get 0 rfl); have c2 := kc2 (M.get 1 rfl))
   | (go_at_call 103; refine (HN.out _ _ M).mono ?_; rintro e V ⟨rfl, K⟩; replace M := M.keeps K; clear K c1 c2; have c1 := kc1 (M.get 0 rfl); have c2 := kc2 (M.get 1 rfl))
   | (refine om_alloc 5 (instC fun _ => 0) M rfl rfl rfl (fun _ => by kernel_rfl) ?_; clear M c1 c2; intro V pi M; simp only [Act.put, kA, kZ, kS]; have c1 := kc1 (M.get 1 rfl); have c2 := kc2 (M.get 2 rfl))
   | (refine at_store (.tmp 5) (.tmp 21) rfl ?_; refine om_store_row 0 (.tmp 5) (.tmp 21) (cs' := #[Value.int .i64 3, .int .i64 (aN : Int), .int .i64 (bN : Int), .int .i64 (cN : Int)]) M rfl rfl rfl rfl rfl rfl (by kernel_rfl) (by rfl) HIC.out ?_; clear M c1 c2; intro V M; simp only [kZ] at M; have c1 := kc1 (M.get 1 rfl); have c2 := kc2 (M.get 2 rfl); have c3 := (M.get 0 rfl).cell)
   | (refine om_alloc 7 (evC ⟨0, 0, 0, 0, false⟩) M rfl rfl rfl (fun _ => by kernel_rfl) ?_; clear M c1 c2 c3; intro V pe M; simp only [Act.put, kA, kZ, kS]; have c1 := kc1 (M.get 2 rfl); have c2 := kc2 (M.get 3 rfl); have c3 := (M.get 1 rfl).cell)
   | (refine at_store (.tmp 7) (.tmp 26) rfl ?_; refine om_store_row 0 (.tmp 7) (.tmp 26) (cs' := evC ⟨k, 3, 0, 0, false⟩) M rfl rfl rfl rfl rfl rfl (by kernel_rfl) (by rfl) (evC_cell _) ?_; clear M c1 c2 c3; intro V M; simp only [kZ] at M; have c1 := kc1 (M.get 2 rfl); have c2 := kc2 (M.get 3 rfl); have c3 := (M.get 1 rfl).cell)
   | (refine om_alloc1 8 .nilFunc M rfl rfl rfl (fun _ => by kernel_rfl) rfl ?_; clear M c1 c2 c3; intro V pt M; simp only [Act.put, kA, kZ, kS]; have c1 := kc1 (M.get 3 rfl); have c2 := kc2 (M.get 4 rfl); have c3 := (M.get 2 rfl).cell)
   | (refine at_store (.tmp 8) (.tmp 27) rfl ?_; refine om_store 0 0 (Value.func (.func 105) #[] #[.pointer (some ⟨pw, 0, none⟩), .pointer (some ⟨pe, 0, none⟩)]) (.tmp 8) (.tmp 27) M rfl rfl rfl rfl rfl rfl (by show 0 < 1; omega) rfl rfl (by kernel_rfl) rfl ?_; clear M c1 c2 c3; intro V M; simp only [kZ] at M; have c1 := kc1 (M.get 3 rfl); have c2 := kc2 (M.get 4 rfl); have c3 := (M.get 2 rfl).cell; have c4 : V.cell? ⟨gw, k * 10 + 1, none⟩ = some (.int .i64 (rs k).pos) := ((M.get 5 rfl).cell _).trans (HC.out.pos HK.out); have c5 := kc1 (M.get 0 rfl)))
 have ci : ∀ (p : Later V) i, p.1.cell? ⟨pi, i, none⟩ = #[Value.int .i64 3, .int .i64 (aN : Int), .int .i64 (bN : Int), .int .i64 (cN : Int)][i]? := Later.cell (M.get 2 rfl)
 have cra : ∀ p : Later V, p.1.cell? ⟨gw, k * 10 + 2 + aN, none⟩ = some (.int .i64 ((rs k).rg aN)) := fun p => (Later.cell (M.get 5 rfl) p _).trans (HC.out.reg HK.out HR.out.1)
 have crb : ∀ p : Later V, p.1.cell? ⟨gw, k * 10 + 2 + bN, none⟩ = some (.int .i64 ((rs k).rg bN)) := fun p => (Later.cell (M.get 5 rfl) p _).trans (HC.out.reg HK.out HR.out.2)
 refine wp_quiet_later (by kernel_rfl) (by kernel_rfl) ?_
 repeat (first | go_big_quiet_skip | go_big_quiet_step (fail))
 refine kq fun p' => ?_
 replace M := M.keeps p'.2
 clear c3 c1 c2 c5 ci cra crb
 generalize p'.1 = V at M ⊢
 have c1 := kc1 (M.get 3 rfl); have c2 := kc2 (M.get 4 rfl); have c3 := (M.get 2 rfl).cell; have c5 := kc1 (M.get 0 rfl)
 go_wp2_with (first
   | go_big_skip
   | (refine at_store (.tmp 221) (.tmp 219) rfl ?_; refine om_store 5 (k * 10 + 1) (.int .i64 (((rs k).pos : Int) + 1)) (.tmp 221) (.tmp 219) M rfl rfl rfl rfl rfl rfl (by have := HC.out.lt HK.out (f := 1) (by omega); simpa using this) rfl rfl (by kernel_rfl) (cs' := (cur).setIfInBounds (k * 10 + 1) (.int .i64 (((rs k).pos + 1 : Nat) : Int))) (by simp) ?_; clear M c1 c2 c3 c5; intro V M; simp only [kZ, kS] at M; have c1 := kc1 (M.get 3 rfl); have c2 := kc2 (M.get 4 rfl); have c3 := (M.get 2 rfl).cell; have c5 := kc1 (M.get 0 rfl))
   | (go_at_call 105; refine (tell_any M ⟨k, 3, 0, 0, false⟩ (i := 3) (j := 1) (k := 4) rfl rfl rfl hn).mono ?_; rintro ev V ⟨rfl, v', M⟩; have HM := Lib.hid M; clear M))
 go_end0
 exact ⟨rfl, gw, cw, _, _, hv, HM.out.drop_ 4, HC.out.set_pos HK.out, H1.out, H2.out, by simpa using H3.out⟩
set_option maxRecDepth 100000 in
set_option maxHeartbeats 2000000 in
theorem st_3b  (M : OM w W ((y.wp, 110, wpC y S.nr gw n cw evs) :: (gw, 174, cur) :: (y.bp, 186, pipesA S.nr hv cl) :: (y.bl, 4, arrB y.lk lk) :: (y.bg, 3, arrI y.gr gr) :: (y.bc, 3, arrI y.ce ce) :: (y.ps, 27, sysV S A c R d) :: Lr) ⟨evs, E, S.nr, hv, held⟩) (hC : WhoC cur n rs) (hk : k < n) (hS : SysIn w S A c R d) (hp : (rs k).prog < S.np) (hl : S.lp (rs k).prog ≤ 256) (hn : E.length ≤ 100000) (h1 : n ≤ cw) (h2 : cw ≤ maxLen) (h3 : cur.size = cw * 10) {f : Nat → Int} (hI : instP S (rs k) = some f) (e0 : f 0 = 3) (e1 : f 1 = (aN : Int)) (e2 : f 2 = (bN : Int)) (e3 : f 3 = (cN : Int)) (ha : aN < 8) (hb : bN < 8) (hlt : (rs k).rg aN < (rs k).rg bN) : Calls Try.prog 91 #[.pointer (some ⟨y.wp, 0, none⟩), .int .i64 (k : Int)] W fun ev W' => ev = .returned (.tuple #[]) ∧ InW w W' S A c R d y Lr ⟨n, fun j => if j = k then { rs k with pos := cN } else rs j, held, cl, lk, gr, ce, E ++ [⟨k, 3, 0, 0, false⟩]⟩ := by
 have HN := Lib.hid (show ∀ V pw, OM w V ((pw, 104, #[.pointer (some ⟨y.wp, 0, none⟩)]) :: ((y.wp, 110, wpC y S.nr gw n cw evs) :: (gw, 174, cur) :: (y.bp, 186, pipesA S.nr hv cl) :: (y.bl, 4, arrB y.lk lk) :: (y.bg, 3, arrI y.gr gr) :: (y.bc, 3, arrI y.ce ce) :: (y.ps, 27, sysV S A c R d) :: Lr)) ⟨evs, E, S.nr, hv, held⟩ → Calls Try.prog 103 #[.pointer (some ⟨y.wp, 0, none⟩), .pointer (some ⟨gw, k * 10, none⟩)] V fun e W' => e = .returned (.tuple #[.agg #[Value.int .i64 3, .int .i64 (aN : Int), .int .i64 (bN : Int), .int .i64 (cN : Int)], .bool true]) ∧ Keeps V W' [] from fun V pw M => by
   have := wnext_any (M.get 1 rfl) (M.get 2 rfl) (M.get 7 rfl) (hS.kept M.own.keep) hC hk hp
   rw [hI] at this
   simpa [instV, instC, e0, e1, e2, e3] using this)
 have HIC := Lib.hid (show ∀ v ∈ (#[Value.int .i64 3, .int .i64 (aN : Int), .int .i64 (bN : Int), .int .i64 (cN : Int)]).toList, v.oneCell' = true from by
   have := instC_cell f
   simpa [instC, e0, e1, e2, e3] using this)
 have g1 : (k : Int) < n := by omega
 have g2 : (0 : Int) ≤ k := by omega
 have hpos : (rs k).pos < S.lp (rs k).prog := by
   unfold instP at hI
   split at hI
   · assumption
   · cases hI
 have g3 : ((rs k).pos : Int) < 256 := by omega
 have g4 : (0 : Int) ≤ (rs k).pos := by omega
 have HC := Lib.hid hC
 have HK := Lib.hid hk
 have HS := Lib.hid hS
 have HP := Lib.hid hp
 have HPos := Lib.hid hpos
 have H1 := Lib.hid h1
 have H2 := Lib.hid h2
 have H3 := Lib.hid h3
 have ak := add_zero_ gw (k * 10)
 have hmf := kf3
 clear hC hk hS hp hl hI e0 e1 e2 e3 h1 h2 h3 hpos
 have g5 : (aN : Int) < 8 := by omega
 have g6 : (0 : Int) ≤ aN := by omega
 have g7 : (bN : Int) < 8 := by omega
 have g8 : (0 : Int) ≤ bN := by omega
 have HR := Lib.hid (And.intro ha hb)
 clear ha hb
 have gd : decide ((rs k).rg bN ≤ (rs k).rg aN) = false := by simpa using hlt
 clear hlt
 go_enter Try.func91, Try.ntmps91
 go_wp2_with (first
   | go_big_skip
   | (refine om_box1 2 (.pointer (some ⟨y.wp, 0, none⟩)) M rfl rfl rfl rfl rfl ?_; clear M; intro V pw M; simp only [Act.put, kA, kZ, kS]; have c1 := kc1 (M.get 0 rfl); have c2 := kc2 (M.get 1 rfl))
   | (go_at_call 103; refine (HN.out _ _ M).mono ?_; rintro e V ⟨rfl, K⟩; replace M := M.keeps K; clear K c1 c2; have c1 := kc1 (M.get 0 rfl); have c2 := kc2 (M.get 1 rfl))
   | (refine om_alloc 5 (instC fun _ => 0) M rfl rfl rfl (fun _ => by kernel_rfl) ?_; clear M c1 c2; intro V pi M; simp only [Act.put, kA, kZ, kS]; have c1 := kc1 (M.get 1 rfl); have c2 := kc2 (M.get 2 rfl))
   | (refine at_store (.tmp 5) (.tmp 21) rfl ?_; refine om_store_row 0 (.tmp 5) (.tmp 21) (cs' := #[Value.int .i64 3, .int .i64 (aN : Int), .int .i64 (bN : Int), .int .i64 (cN : Int)]) M rfl rfl rfl rfl rfl rfl (by kernel_rfl) (by rfl) HIC.out ?_; clear M c1 c2; intro V M; simp only [kZ] at M; have c1 := kc1 (M.get 1 rfl); have c2 := kc2 (M.get 2 rfl); have c3 := (M.get 0 rfl).cell)
   | (refine om_alloc 7 (evC ⟨0, 0, 0, 0, false⟩) M rfl rfl rfl (fun _ => by kernel_rfl) ?_; clear M c1 c2 c3; intro V pe M; simp only [Act.put, kA, kZ, kS]; have c1 := kc1 (M.get 2 rfl); have c2 := kc2 (M.get 3 rfl); have c3 := (M.get 1 rfl).cell)
   | (refine at_store (.tmp 7) (.tmp 26) rfl ?_; refine om_store_row 0 (.tmp 7) (.tmp 26) (cs' := evC ⟨k, 3, 0, 0, false⟩) M rfl rfl rfl rfl rfl rfl (by kernel_rfl) (by rfl) (evC_cell _) ?_; clear M c1 c2 c3; intro V M; simp only [kZ] at M; have c1 := kc1 (M.get 2 rfl); have c2 := kc2 (M.get 3 rfl); have c3 := (M.get 1 rfl).cell)
   | (refine om_alloc1 8 .nilFunc M rfl rfl rfl (fun _ => by kernel_rfl) rfl ?_; clear M c1 c2 c3; intro V pt M; simp only [Act.put, kA, kZ, kS]; have c1 := kc1 (M.get 3 rfl); have c2 := kc2 (M.get 4 rfl); have c3 := (M.get 2 rfl).cell)
   | (refine at_store (.tmp 8) (.tmp 27) rfl ?_; refine om_store 0 0 (Value.func (.func 105) #[] #[.pointer (some ⟨pw, 0, none⟩), .pointer (some ⟨pe, 0, none⟩)]) (.tmp 8) (.tmp 27) M rfl rfl rfl rfl rfl rfl (by show 0 < 1; omega) rfl rfl (by kernel_rfl) rfl ?_; clear M c1 c2 c3; intro V M; simp only [kZ] at M; have c1 := kc1 (M.get 3 rfl); have c2 := kc2 (M.get 4 rfl); have c3 := (M.get 2 rfl).cell; have c4 : V.cell? ⟨gw, k * 10 + 1, none⟩ = some (.int .i64 (rs k).pos) := ((M.get 5 rfl).cell _).trans (HC.out.pos HK.out); have c5 := kc1 (M.get 0 rfl)))
 have ci : ∀ (p : Later V) i, p.1.cell? ⟨pi, i, none⟩ = #[Value.int .i64 3, .int .i64 (aN : Int), .int .i64 (bN : Int), .int .i64 (cN : Int)][i]? := Later.cell (M.get 2 rfl)
 have cra : ∀ p : Later V, p.1.cell? ⟨gw, k * 10 + 2 + aN, none⟩ = some (.int .i64 ((rs k).rg aN)) := fun p => (Later.cell (M.get 5 rfl) p _).trans (HC.out.reg HK.out HR.out.1)
 have crb : ∀ p : Later V, p.1.cell? ⟨gw, k * 10 + 2 + bN, none⟩ = some (.int .i64 ((rs k).rg bN)) := fun p => (Later.cell (M.get 5 rfl) p _).trans (HC.out.reg HK.out HR.out.2)
 refine wp_quiet_later (by kernel_rfl) (by kernel_rfl) ?_
 repeat (first | go_big_quiet_skip | go_big_quiet_step (fail))
 refine kq fun p' => ?_
 replace M := M.keeps p'.2
 clear c3 c1 c2 c5 ci cra crb
 generalize p'.1 = V at M ⊢
 have c1 := kc1 (M.get 3 rfl); have c2 := kc2 (M.get 4 rfl); have c3 := (M.get 2 rfl).cell; have c5 := kc1 (M.get 0 rfl)
 go_wp2_with (first
   | go_big_skip
   | (refine at_store (.tmp 221) (.tmp 219) rfl ?_; refine om_store 5 (k * 10 + 1) (.int .i64 (cN : Int)) (.tmp 221) (.tmp 219) M rfl rfl rfl rfl rfl rfl (by have := HC.out.lt HK.out (f := 1) (by omega); simpa using this) rfl rfl (by kernel_rfl) (cs' := (cur).setIfInBounds (k * 10 + 1) (.int .i64 ((cN : Nat) : Int))) (by simp) ?_; clear M c1 c2 c3 c5; intro V M; simp only [kZ, kS] at M; have c1 := kc1 (M.get 3 rfl); have c2 := kc2 (M.get 4 rfl); have c3 := (M.get 2 rfl).cell; have c5 := kc1 (M.get 0 rfl))
   | (go_at_call 105; refine (tell_any M ⟨k, 3, 0, 0, false⟩ (i := 3) (j := 1) (k := 4) rfl rfl rfl hn).mono ?_; rintro ev V ⟨rfl, v', M⟩; have HM := Lib.hid M; clear M))
 go_end0
 exact ⟨rfl, gw, cw, _, _, hv, HM.out.drop_ 4, HC.out.set_pos HK.out, H1.out, H2.out, by simpa using H3.out⟩
set_option maxRecDepth 100000 in
set_option maxHeartbeats 2000000 in
theorem st_4 {b4 : Int} (M : OM w W ((y.wp, 110, wpC y S.nr gw n cw evs) :: (gw, 174, cur) :: (y.bp, 186, pipesA S.nr hv cl) :: (y.bl, 4, arrB y.lk lk) :: (y.bg, 3, arrI y.gr gr) :: (y.bc, 3, arrI y.ce ce) :: (y.ps, 27, sysV S A c R d) :: Lr) ⟨evs, E, S.nr, hv, held⟩) (hC : WhoC cur n rs) (hk : k < n) (hS : SysIn w S A c R d) (hp : (rs k).prog < S.np) (hl : S.lp (rs k).prog ≤ 256) (hn : E.length ≤ 100000) (h1 : n ≤ cw) (h2 : cw ≤ maxLen) (h3 : cur.size = cw * 10) {f : Nat → Int} (hI : instP S (rs k) = some f) (e0 : f 0 = 4) (e1 : f 1 = (b : Int)) (e2 : f 2 = (b4 : Int)) (e3 : f 3 = (cN : Int))  : Calls Try.prog 91 #[.pointer (some ⟨y.wp, 0, none⟩), .int .i64 (k : Int)] W fun ev W' => ev = .returned (.tuple #[]) ∧ InW w W' S A c R d y Lr ⟨n, fun j => if j = k then { rs k with pos := cN } else rs j, held, cl, lk, gr, ce, E ++ [⟨k, 4, 0, 0, false⟩]⟩ := by
 have HN := Lib.hid (show ∀ V pw, OM w V ((pw, 104, #[.pointer (some ⟨y.wp, 0, none⟩)]) :: ((y.wp, 110, wpC y S.nr gw n cw evs) :: (gw, 174, cur) :: (y.bp, 186, pipesA S.nr hv cl) :: (y.bl, 4, arrB y.lk lk) :: (y.bg, 3, arrI y.gr gr) :: (y.bc, 3, arrI y.ce ce) :: (y.ps, 27, sysV S A c R d) :: Lr)) ⟨evs, E, S.nr, hv, held⟩ → Calls Try.prog 103 #[.pointer (some ⟨y.wp, 0, none⟩), .pointer (some ⟨gw, k * 10, none⟩)] V fun e W' => e = .returned (.tuple #[.agg #[Value.int .i64 4, .int .i64 (b : Int), .int .i64 (b4 : Int), .int .i64 (cN : Int)], .bool true]) ∧ Keeps V W' [] from fun V pw M => by
   have := wnext_any (M.get 1 rfl) (M.get 2 rfl) (M.get 7 rfl) (hS.kept M.own.keep) hC hk hp
   rw [hI] at this
   simpa [instV, instC, e0, e1, e2, e3] using this)
 have HIC := Lib.hid (show ∀ v ∈ (#[Value.int .i64 4, .int .i64 (b : Int), .int .i64 (b4 : Int), .int .i64 (cN : Int)]).toList, v.oneCell' = true from by
   have := instC_cell f
   simpa [instC, e0, e1, e2, e3] using this)
 have g1 : (k : Int) < n := by omega
 have g2 : (0 : Int) ≤ k := by omega
 have hpos : (rs k).pos < S.lp (rs k).prog := by
   unfold instP at hI
   split at hI
   · assumption
   · cases hI
 have g3 : ((rs k).pos : Int) < 256 := by omega
 have g4 : (0 : Int) ≤ (rs k).pos := by omega
 have HC := Lib.hid hC
 have HK := Lib.hid hk
 have HS := Lib.hid hS
 have HP := Lib.hid hp
 have HPos := Lib.hid hpos
 have H1 := Lib.hid h1
 have H2 := Lib.hid h2
 have H3 := Lib.hid h3
 have ak := add_zero_ gw (k * 10)
 have hmf := kf3
 clear hC hk hS hp hl hI e0 e1 e2 e3 h1 h2 h3 hpos
 go_enter Try.func91, Try.ntmps91
 go_wp2_with (first
   | go_big_skip
   | (refine om_box1 2 (.pointer (some ⟨y.wp, 0, none⟩)) M rfl rfl rfl rfl rfl ?_; clear M; intro V pw M; simp only [Act.put, kA, kZ, kS]; have c1 := kc1 (M.get 0 rfl); have c2 := kc2 (M.get 1 rfl))
   | (go_at_call 103; refine (HN.out _ _ M).mono ?_; rintro e V ⟨rfl, K⟩; replace M := M.keeps K; clear K c1 c2; have c1 := kc1 (M.get 0 rfl); have c2 := kc2 (M.get 1 rfl))
   | (refine om_alloc 5 (instC fun _ => 0) M rfl rfl rfl (fun _ => by kernel_rfl) ?_; clear M c1 c2; intro V pi M; simp only [Act.put, kA, kZ, kS]; have c1 := kc1 (M.get 1 rfl); have c2 := kc2 (M.get 2 rfl))
   | (refine at_store (.tmp 5) (.tmp 21) rfl ?_; refine om_store_row 0 (.tmp 5) (.tmp 21) (cs' := #[Value.int .i64 4, .int .i64 (b : Int), .int .i64 (b4 : Int), .int .i64 (cN : Int)]) M rfl rfl rfl rfl rfl rfl (by kernel_rfl) (by rfl) HIC.out ?_; clear M c1 c2; intro V M; simp only [kZ] at M; have c1 := kc1 (M.get 1 rfl); have c2 := kc2 (M.get 2 rfl); have c3 := (M.get 0 rfl).cell)
   | (refine om_alloc 7 (evC ⟨0, 0, 0, 0, false⟩) M rfl rfl rfl (fun _ => by kernel_rfl) ?_; clear M c1 c2 c3; intro V pe M; simp only [Act.put, kA, kZ, kS]; have c1 := kc1 (M.get 2 rfl); have c2 := kc2 (M.get 3 rfl); have c3 := (M.get 1 rfl).cell)
   | (refine at_store (.tmp 7) (.tmp 26) rfl ?_; refine om_store_row 0 (.tmp 7) (.tmp 26) (cs' := evC ⟨k, 4, 0, 0, false⟩) M rfl rfl rfl rfl rfl rfl (by kernel_rfl) (by rfl) (evC_cell _) ?_; clear M c1 c2 c3; intro V M; simp only [kZ] at M; have c1 := kc1 (M.get 2 rfl); have c2 := kc2 (M.get 3 rfl); have c3 := (M.get 1 rfl).cell)
   | (refine om_alloc1 8 .nilFunc M rfl rfl rfl (fun _ => by kernel_rfl) rfl ?_; clear M c1 c2 c3; intro V pt M; simp only [Act.put, kA, kZ, kS]; have c1 := kc1 (M.get 3 rfl); have c2 := kc2 (M.get 4 rfl); have c3 := (M.get 2 rfl).cell)
   | (refine at_store (.tmp 8) (.tmp 27) rfl ?_; refine om_store 0 0 (Value.func (.func 105) #[] #[.pointer (some ⟨pw, 0, none⟩), .pointer (some ⟨pe, 0, none⟩)]) (.tmp 8) (.tmp 27) M rfl rfl rfl rfl rfl rfl (by show 0 < 1; omega) rfl rfl (by kernel_rfl) rfl ?_; clear M c1 c2 c3; intro V M; simp only [kZ] at M; have c1 := kc1 (M.get 3 rfl); have c2 := kc2 (M.get 4 rfl); have c3 := (M.get 2 rfl).cell; have c4 : V.cell? ⟨gw, k * 10 + 1, none⟩ = some (.int .i64 (rs k).pos) := ((M.get 5 rfl).cell _).trans (HC.out.pos HK.out); have c5 := kc1 (M.get 0 rfl))
   | (refine at_store (.tmp 221) (.tmp 219) rfl ?_; refine om_store 5 (k * 10 + 1) (.int .i64 (cN : Int)) (.tmp 221) (.tmp 219) M rfl rfl rfl rfl rfl rfl (by have := HC.out.lt HK.out (f := 1) (by omega); simpa using this) rfl rfl (by kernel_rfl) (cs' := (cur).setIfInBounds (k * 10 + 1) (.int .i64 ((cN : Nat) : Int))) (by simp) ?_; clear M c1 c2 c3 c5; intro V M; simp only [kZ, kS] at M; have c1 := kc1 (M.get 3 rfl); have c2 := kc2 (M.get 4 rfl); have c3 := (M.get 2 rfl).cell; have c5 := kc1 (M.get 0 rfl))
   | (go_at_call 105; refine (tell_any M ⟨k, 4, 0, 0, false⟩ (i := 3) (j := 1) (k := 4) rfl rfl rfl hn).mono ?_; rintro ev V ⟨rfl, v', M⟩; have HM := Lib.hid M; clear M))
 go_end0
 exact ⟨rfl, gw, cw, _, _, hv, HM.out.drop_ 4, HC.out.set_pos HK.out, H1.out, H2.out, by simpa using H3.out⟩
set_option maxRecDepth 100000 in
set_option maxHeartbeats 2000000 in
theorem st_16 {b4 : Int} (M : OM w W ((y.wp, 110, wpC y S.nr gw n cw evs) :: (gw, 174, cur) :: (y.bp, 186, pipesA S.nr hv cl) :: (y.bl, 4, arrB y.lk lk) :: (y.bg, 3, arrI y.gr gr) :: (y.bc, 3, arrI y.ce ce) :: (y.ps, 27, sysV S A c R d) :: Lr) ⟨evs, E, S.nr, hv, held⟩) (hC : WhoC cur n rs) (hk : k < n) (hS : SysIn w S A c R d) (hp : (rs k).prog < S.np) (hl : S.lp (rs k).prog ≤ 256) (hn : E.length ≤ 100000) (h1 : n ≤ cw) (h2 : cw ≤ maxLen) (h3 : cur.size = cw * 10) {f : Nat → Int} (hI : instP S (rs k) = some f) (e0 : f 0 = 16) (e1 : f 1 = (b : Int)) (e2 : f 2 = (b4 : Int)) (e3 : f 3 = (b3 : Int))  : Calls Try.prog 91 #[.pointer (some ⟨y.wp, 0, none⟩), .int .i64 (k : Int)] W fun ev W' => ev = .returned (.tuple #[]) ∧ InW w W' S A c R d y Lr ⟨n, fun j => if j = k then { rs k with pos := (S.lp (rs k).prog) } else rs j, held, cl, lk, gr, ce, E ++ [⟨k, 16, 0, 0, false⟩]⟩ := by
 have HN := Lib.hid (show ∀ V pw, OM w V ((pw, 104, #[.pointer (some ⟨y.wp, 0, none⟩)]) :: ((y.wp, 110, wpC y S.nr gw n cw evs) :: (gw, 174, cur) :: (y.bp, 186, pipesA S.nr hv cl) :: (y.bl, 4, arrB y.lk lk) :: (y.bg, 3, arrI y.gr gr) :: (y.bc, 3, arrI y.ce ce) :: (y.ps, 27, sysV S A c R d) :: Lr)) ⟨evs, E, S.nr, hv, held⟩ → Calls Try.prog 103 #[.pointer (some ⟨y.wp, 0, none⟩), .pointer (some ⟨gw, k * 10, none⟩)] V fun e W' => e = .returned (.tuple #[.agg #[Value.int .i64 16, .int .i64 (b : Int), .int .i64 (b4 : Int), .int .i64 (b3 : Int)], .bool true]) ∧ Keeps V W' [] from fun V pw M => by
   have := wnext_any (M.get 1 rfl) (M.get 2 rfl) (M.get 7 rfl) (hS.kept M.own.keep) hC hk hp
   rw [hI] at this
   simpa [instV, instC, e0, e1, e2, e3] using this)
 have HIC := Lib.hid (show ∀ v ∈ (#[Value.int .i64 16, .int .i64 (b : Int), .int .i64 (b4 : Int), .int .i64 (b3 : Int)]).toList, v.oneCell' = true from by
   have := instC_cell f
   simpa [instC, e0, e1, e2, e3] using this)
 have g1 : (k : Int) < n := by omega
 have g2 : (0 : Int) ≤ k := by omega
 have hpos : (rs k).pos < S.lp (rs k).prog := by
   unfold instP at hI
   split at hI
   · assumption
   · cases hI
 have g3 : ((rs k).pos : Int) < 256 := by omega
 have g4 : (0 : Int) ≤ (rs k).pos := by omega
 have HC := Lib.hid hC
 have HK := Lib.hid hk
 have HS := Lib.hid hS
 have HP := Lib.hid hp
 have HPos := Lib.hid hpos
 have H1 := Lib.hid h1
 have H2 := Lib.hid h2
 have H3 := Lib.hid h3
 have ak := add_zero_ gw (k * 10)
 have hmf := kf3
 clear hC hk hS hp hl hI e0 e1 e2 e3 h1 h2 h3 hpos
 obtain ⟨ad, rfl, hb, hpr⟩ := HS.out.progs (by have := HP.out; omega)
 obtain ⟨B, cB, hq1, hq2, hq3, hI⟩ := hpr _ HP.out
 have g5 : ((rs k).prog : Int) < S.np := by have := HP.out; omega
 have g6 : (0 : Int) ≤ (rs k).prog := by omega
 have HB := Lib.hid (And.intro hb hq1)
 clear hb hpr hq1 hI hq2 hq3
 go_enter Try.func91, Try.ntmps91
 go_wp2_with (first
   | go_big_skip
   | (refine om_box1 2 (.pointer (some ⟨y.wp, 0, none⟩)) M rfl rfl rfl rfl rfl ?_; clear M; intro V pw M; simp only [Act.put, kA, kZ, kS]; have c1 := kc1 (M.get 0 rfl); have c2 := kc2 (M.get 1 rfl))
   | (go_at_call 103; refine (HN.out _ _ M).mono ?_; rintro e V ⟨rfl, K⟩; replace M := M.keeps K; clear K c1 c2; have c1 := kc1 (M.get 0 rfl); have c2 := kc2 (M.get 1 rfl))
   | (refine om_alloc 5 (instC fun _ => 0) M rfl rfl rfl (fun _ => by kernel_rfl) ?_; clear M c1 c2; intro V pi M; simp only [Act.put, kA, kZ, kS]; have c1 := kc1 (M.get 1 rfl); have c2 := kc2 (M.get 2 rfl))
   | (refine at_store (.tmp 5) (.tmp 21) rfl ?_; refine om_store_row 0 (.tmp 5) (.tmp 21) (cs' := #[Value.int .i64 16, .int .i64 (b : Int), .int .i64 (b4 : Int), .int .i64 (b3 : Int)]) M rfl rfl rfl rfl rfl rfl (by kernel_rfl) (by rfl) HIC.out ?_; clear M c1 c2; intro V M; simp only [kZ] at M; have c1 := kc1 (M.get 1 rfl); have c2 := kc2 (M.get 2 rfl); have c3 := (M.get 0 rfl).cell)
   | (refine om_alloc 7 (evC ⟨0, 0, 0, 0, false⟩) M rfl rfl rfl (fun _ => by kernel_rfl) ?_; clear M c1 c2 c3; intro V pe M; simp only [Act.put, kA, kZ, kS]; have c1 := kc1 (M.get 2 rfl); have c2 := kc2 (M.get 3 rfl); have c3 := (M.get 1 rfl).cell)
   | (refine at_store (.tmp 7) (.tmp 26) rfl ?_; refine om_store_row 0 (.tmp 7) (.tmp 26) (cs' := evC ⟨k, 16, 0, 0, false⟩) M rfl rfl rfl rfl rfl rfl (by kernel_rfl) (by rfl) (evC_cell _) ?_; clear M c1 c2 c3; intro V M; simp only [kZ] at M; have c1 := kc1 (M.get 2 rfl); have c2 := kc2 (M.get 3 rfl); have c3 := (M.get 1 rfl).cell)
   | (refine om_alloc1 8 .nilFunc M rfl rfl rfl (fun _ => by kernel_rfl) rfl ?_; clear M c1 c2 c3; intro V pt M; simp only [Act.put, kA, kZ, kS]; have c1 := kc1 (M.get 3 rfl); have c2 := kc2 (M.get 4 rfl); have c3 := (M.get 2 rfl).cell)
   | (refine at_store (.tmp 8) (.tmp 27) rfl ?_; refine om_store 0 0 (Value.func (.func 105) #[] #[.pointer (some ⟨pw, 0, none⟩), .pointer (some ⟨pe, 0, none⟩)]) (.tmp 8) (.tmp 27) M rfl rfl rfl rfl rfl rfl (by show 0 < 1; omega) rfl rfl (by kernel_rfl) rfl ?_; clear M c1 c2 c3; intro V M; simp only [kZ] at M; have c1 := kc1 (M.get 3 rfl); have c2 := kc2 (M.get 4 rfl); have c3 := (M.get 2 rfl).cell; have c4 : V.cell? ⟨gw, k * 10 + 1, none⟩ = some (.int .i64 (rs k).pos) := ((M.get 5 rfl).cell _).trans (HC.out.pos HK.out); have c5 := kc1 (M.get 0 rfl)))
 have cw : ∀ (p : Later V) i, p.1.cell? ⟨y.wp, i, none⟩ = #[Value.pointer (some ⟨y.ps, 0, none⟩), .slice (some ⟨gw, 0, none⟩) n cw, .slice (some ⟨y.bp, 0, none⟩) S.nr S.nr, .slice (some ⟨y.bl, 0, none⟩) y.lk y.lk, .slice (some ⟨y.bg, 0, none⟩) y.gr y.gr, .slice (some ⟨y.bc, 0, none⟩) y.ce y.ce, evs][i]? := Later.cell (M.get 4 rfl)
 have cp : ∀ p : Later V, p.1.cell? ⟨pw, 0, none⟩ = some (.pointer (some ⟨y.wp, 0, none⟩)) := fun p => (Later.cell (M.get 3 rfl) p _)
 have cs : ∀ (p : Later V) i, p.1.cell? ⟨y.ps, i, none⟩ = #[Value.slice (some ad) S.np c, .slice R S.nr d, .int .i64 S.gr, .int .i64 S.lk, .int .i64 S.ce][i]? := Later.cell (M.get 10 rfl)
 have cq : ∀ p : Later V, p.1.cell? ⟨gw, k * 10, none⟩ = some (.int .i64 (rs k).prog) := fun p => (Later.cell (M.get 5 rfl) p _).trans (HC.out.prog HK.out)
 have cv : ∀ p : Later V, p.1.cell? (ad.add (rs k).prog) = some (.slice B (S.lp (rs k).prog) cB) := fun p => ((M.own.keep.trans p.2 (by simp)).cellAt (by rw [add_block]; exact HB.out.1) (by simp)).trans HB.out.2
 refine wp_quiet_later (by kernel_rfl) (by kernel_rfl) ?_
 repeat (first | go_big_quiet_skip | go_big_quiet_step (fail))
 refine kq fun p' => ?_
 replace M := M.keeps p'.2
 clear c1 c2 c3 c4 c5 cw cp cs cq cv
 generalize p'.1 = V at M ⊢
 have c1 := kc1 (M.get 3 rfl); have c2 := kc2 (M.get 4 rfl); have c3 := (M.get 2 rfl).cell; have c5 := kc1 (M.get 0 rfl)
 go_wp2_with (first
   | go_big_skip
   | (refine at_store (.tmp 221) (.tmp 219) rfl ?_; refine om_store 5 (k * 10 + 1) (.int .i64 (S.lp (rs k).prog : Int)) (.tmp 221) (.tmp 219) M rfl rfl rfl rfl rfl rfl (by have := HC.out.lt HK.out (f := 1) (by omega); simpa using this) rfl rfl (by kernel_rfl) (cs' := (cur).setIfInBounds (k * 10 + 1) (.int .i64 (((S.lp (rs k).prog) : Nat) : Int))) (by simp) ?_; clear M c1 c2 c3 c5; intro V M; simp only [kZ, kS] at M; have c1 := kc1 (M.get 3 rfl); have c2 := kc2 (M.get 4 rfl); have c3 := (M.get 2 rfl).cell; have c5 := kc1 (M.get 0 rfl))
   | (go_at_call 105; refine (tell_any M ⟨k, 16, 0, 0, false⟩ (i := 3) (j := 1) (k := 4) rfl rfl rfl hn).mono ?_; rintro ev V ⟨rfl, v', M⟩; have HM := Lib.hid M; clear M))
 go_end0
 exact ⟨rfl, gw, cw, _, _, hv, HM.out.drop_ 4, HC.out.set_pos HK.out, H1.out, H2.out, by simpa using H3.out⟩
end
open Go.RowKit Go.Maps Go.Deep
section
variable {w : World}
theorem append_old {P : Program} (base t ty e : Nat) (i : TypeInfo) (z : Value) (size bytes : Nat) (ht : P.underlying t = some (.slice e)) (hi : P.info? e = some i) (hz : i.zero = some z) (hsize : i.size = size) (hby : i.bytes = bytes)
   (g n cap : Nat) (xs : List Value) (hown : w.ownsRow base e size (.slice (some ⟨g, 0, none⟩) n cap) n xs) (a : Addr) (m c : Nat) (news : List Value) (hl : news.length = m * size) (hnews : ∀ j u, news[j]? = some u → w.cell? (a.add j) = some u) (h1 : ∀ u ∈ news, u.oneCell' = true)
   (h63 : n + m ≤ maxLen) (hbytes : (n + m) * bytes ≤ 140737488355328) {v' : Value} {w' : World} (hr : (Builtin.append_ #[t, t] ty #[.slice (some ⟨g, 0, none⟩) n cap, .slice (some a) m c]).run P w = .ok v' w') : ∀ j, j < n * size → w'.cell? ⟨g, j, none⟩ = w.cell? ⟨g, j, none⟩ := by
 subst hsize
 subst hby
 have hown0 := hown
 obtain ⟨hxl, ⟨h0, _⟩ | ⟨g1, cap1, cur, h0, hbg, hg, hle, hcm, hcs, htake⟩⟩ := hown
 · cases h0
 injection h0 with e1 e2 e3
 injection e1 with e1
 injection e1 with e1 e4
 subst e1 e3
 intro j hj
 by_cases hroom : n + m ≤ cap
 · have hfit : n * i.size + news.length ≤ cur.size := by rw [hl, hcs, ← Nat.add_mul]; exact Nat.mul_le_mul_right _ hroom
   have h := run_append_room (P := P) w t ty e i ht hi g n cap cur hg a m c news hl hnews h1 hroom hfit
   rw [hr] at h
   cases h
   have hb : Blk (w.setRow g (cur.toList.take (n * i.size) ++ news ++ cur.toList.drop (n * i.size + news.length)).toArray) g e _ := setRow_heap w g cur _ e _ hg
   have hb0 : Blk w g e cur := hg
   rw [hb.cell, hb0.cell, List.getElem?_toArray, List.append_assoc, List.getElem?_append_left (by rw [List.length_take]; simp; omega), List.getElem?_take, if_pos hj, Array.getElem?_toList]
 · have holds : ∀ j u, xs[j]? = some u → w.cell? ((⟨g, 0, none⟩ : Addr).add j) = some u := hown0.cells (g := g) rfl
   have h := run_append_grow (P := P) w t ty e i z ht hi hz ⟨g, 0, none⟩ n cap xs hxl holds a m c news hl hnews (by omega) (by simp only [maxLen] at h63; omega) (growslice_fits (by omega) hbytes)
   rw [hr] at h
   cases h
   refine World.cell?_of_block ?_
   have hlt : g < w.heap.size := (Array.getElem?_eq_some_iff.1 hg).1
   exact heap_alloc_old w.drew _ hlt
end
section
variable {ops : Array Oper} {rest : List Oper} {o : Oper} {a : Act} {w W : World} {Q : Exit → Act → World → Prop} {L : List Ent} {r : Rw}
theorem om_who2 (x : Rn) (gl k : Nat) (s z : Operand) {gw n cw : Nat} {cur : Array Value} {rs : Nat → Rn} (M : OM w W ((gl, 174, rnC x) :: L) r) (hgd : o.guard = none) (ho : o.op = .call { callee := .builtin .append, args := #[s, z], argTypes := #[107, 107] })
   (hs : a.eval s = .slice (some ⟨gw, 0, none⟩) n cw) (hz' : a.eval z = .slice (some ⟨gl, 0, none⟩) 1 1) (hk : L[k]? = some (gw, 174, cur)) (hC : WhoC cur n rs) (hn : n ≤ 100000) (h1 : n ≤ cw) (h2 : cw ≤ maxLen) (h3 : cur.size = cw * 10)
   (h : ∀ gw' cw' cur' u, (∀ j, j < n * 10 → u.cell? ⟨gw, j, none⟩ = W.cell? ⟨gw, j, none⟩) → OM w u (L.set k (gw', 174, cur')) r → WhoC cur' (n + 1) (updN rs n x) → n + 1 ≤ cw' → cw' ≤ maxLen → cur'.size = cw' * 10 → wpList Try.prog ops Q rest (a.put o.dst (.slice (some ⟨gw', 0, none⟩) (n + 1) cw')) u) : wpList Try.prog ops Q (o :: rest) a W := by
 obtain ⟨i, hi, hz, hsz, hby⟩ := info174
 have hb : w.heap.size ≤ W.heap.size := M.own.keep.size
 have hl : (rnC x).toList.length = 1 * 10 := rfl
 have hk' : ((gl, 174, rnC x) :: L)[k + 1]? = some (gw, 174, cur) := hk
 have hbg : w.heap.size ≤ gw := by
   rcases Nat.lt_or_ge gw w.heap.size with hx | hx
   · exact absurd (M.own.new _ (List.mem_of_getElem? hk') hx) (by simp)
   · exact hx
 have own : W.ownsRow w.heap.size 174 10 (.slice (some ⟨gw, 0, none⟩) n cw) n (whoL rs n) := ⟨whoL_length _ _, .inr ⟨gw, cw, cur, rfl, hbg, M.get (k + 1) hk', h1, h2, h3, hC.take (by rw [h3]; exact Nat.mul_le_mul_right _ h1)⟩⟩
 obtain ⟨v', u, hr, ho2, hg, hnil⟩ := run_append_own (P := Try.prog) W w.heap.size 107 o.type 174 i (.agg (rnC ⟨0, 0, fun _ => 0⟩)) 10 80 Try.underlying107 hi hz hsz hby rfl (by decide) _ n _ own ⟨gl, 0, none⟩ 1 1 (rnC x).toList hl (blk_news (M.get 0 rfl)) (rnC_cell x) (by simp only [maxLen]; omega) (by omega) hb
 have hf := append_fresh (w := W) (P := Try.prog) w.heap.size 107 o.type 174 i (.agg (rnC ⟨0, 0, fun _ => 0⟩)) 10 80 Try.underlying107 hi hz hsz hby _ n _ own ⟨gl, 0, none⟩ 1 1 (rnC x).toList hl (blk_news (M.get 0 rfl)) (rnC_cell x) (by simp only [maxLen]; omega) (by omega) (by omega) hr
 have hold := append_old (w := W) (P := Try.prog) w.heap.size 107 o.type 174 i (.agg (rnC ⟨0, 0, fun _ => 0⟩)) 10 80 Try.underlying107 hi hz hsz hby gw n cw _ own ⟨gl, 0, none⟩ 1 1 (rnC x).toList hl (blk_news (M.get 0 rfl)) (rnC_cell x) (by simp only [maxLen]; omega) (by omega) hr
 rw [whoL_snoc] at ho2
 refine wpList_plain hgd fun K hK => ?_
 unfold Oper.wp execOp
 simp only [ho, resolve, invoke, builtin, Sem.run_bind, Sem.run_pure, Result.andThen_ok, List.map_toArray, List.map_cons, List.map_nil, hs, hz', hr]
 obtain ⟨_, ⟨_, h0⟩ | ⟨g', cap, cur', rfl, _, hB, hle, hm, hsz', ht⟩⟩ := ho2
 · omega
 · have hf' : g' = gw ∨ g' = W.heap.size := by simpa [Value.ownBlock] using hf
   have M' := (M.regrow (k + 1) hk' hbg hg hB hf').drop_ 1
   exact hK _ _ (h _ _ _ _ hold M' (WhoC.of_take ht) hle hm hsz')
def SS (y : Ly) (pw pi gw n cw k : Nat) (I : Array Value) (r : Rn) (u : World) : Prop :=
 u.cell? ⟨pw, 0, none⟩ = some (.pointer (some ⟨y.wp, 0, none⟩)) ∧ u.cell? ⟨y.wp, 1, none⟩ = some (.slice (some ⟨gw, 0, none⟩) n cw) ∧ (∀ i, u.cell? ⟨pi, i, none⟩ = I[i]?) ∧ ∀ j, j < 8 → u.cell? ⟨gw, k * 10 + 2 + j, none⟩ = some (.int .i64 (r.rg j))
theorem SS.of {y : Ly} {pw pi gw n cw k nr : Nat} {I cur : Array Value} {evs : Value} {rs : Nat → Rn} {on : Nat} {u : World} (h1 : Blk u pw 104 #[.pointer (some ⟨y.wp, 0, none⟩)]) (h2 : Blk u y.wp 110 (wpC y nr gw n cw evs)) (h3 : Blk u pi 99 I) (h4 : Blk u gw 174 cur)
   (hC : WhoC cur n (fun j => if j = k then { rs k with pos := on } else rs j)) (hk : k < n) : SS y pw pi gw n cw k I (rs k) u :=
 ⟨h1.cell 0, h2.cell 1, h3.cell, fun j hj => by have := hC.reg hk hj; simp only [if_true] at this; exact (h4.cell _).trans this⟩
theorem SS.grown {y : Ly} {pw pi gw n cw k nr : Nat} {I : Array Value} {evs : Value} {r : Rn} {u u' : World} (h : SS y pw pi gw n cw k I r u) (h2 : Blk u' y.wp 110 (wpC y nr gw n cw evs)) (h1 : Blk u' pw 104 #[.pointer (some ⟨y.wp, 0, none⟩)]) (h3 : Blk u' pi 99 I)
   (hf : ∀ j, j < n * 10 → u'.cell? ⟨gw, j, none⟩ = u.cell? ⟨gw, j, none⟩) (hk : k < n) : SS y pw pi gw n cw k I r u' :=
 ⟨h1.cell 0, h2.cell 1, h3.cell, fun j hj => (hf _ (by omega)).trans (h.2.2.2 j hj)⟩
theorem run_load_at {P : Program} {w : World} {ty : TypeId} {ad : Addr} {cs : Array Value} {d : TypeDesc} (hc : ∀ j, j < cs.size → w.cell? (ad.add j) = cs[j]?) (hu : P.underlying ty = some d) (hd : d.isRow = true) (hi : (P.info? ty).map (·.size) = some cs.size) : (loadVar ty ad).run P w = .ok (.agg cs) w := by
 have hl : (loadCells ad cs.size).run P w = .ok cs w := by
   have := run_loadCells_list (P := P) w ad cs.toList (fun j v hv => by
     have hj : j < cs.size := by
       rcases Nat.lt_or_ge j cs.size with h1 | h1
       · exact h1
       · rw [List.getElem?_eq_none (by simpa using h1)] at hv; cases hv
     rw [hc j hj, ← hv, Array.getElem?_toList])
   simpa using this
 cases hq : P.info? ty with
 | none => simp [hq] at hi
 | some i =>
   have hs : i.size = cs.size := by simpa [hq] using hi
   have hagg : (isAgg ty).run P w = .ok true w := by
     unfold isAgg
     rw [Sem.run_bind, run_underlying hu w]
     cases d <;> simp_all
   simp [loadVar, Sem.run_bind, hagg, sizeOf, typeInfo, hq, hs, hl]
theorem SS.regs {y : Ly} {pw pi gw n cw k : Nat} {I : Array Value} {r : Rn} {u : World} (h : SS y pw pi gw n cw k I r u) {o : Oper} {a : Act} {x : Operand} (ho : o.op = .load 172 x) (hx : a.eval x = .pointer (some ⟨gw, k * 10 + 2, none⟩) := by rfl) : (execOp a.eval o).run Try.prog u = .ok (.value (.agg #[Value.int .i64 (r.rg 0), .int .i64 (r.rg 1), .int .i64 (r.rg 2), .int .i64 (r.rg 3), .int .i64 (r.rg 4), .int .i64 (r.rg 5), .int .i64 (r.rg 6), .int .i64 (r.rg 7)])) u := by
 unfold execOp
 simp only [ho, hx, Instr.loadAt, Instr.sureAddr, Sem.run_bind, Sem.run_pure, Result.andThen_ok]
 rw [run_load_at (cs := #[Value.int .i64 (r.rg 0), .int .i64 (r.rg 1), .int .i64 (r.rg 2), .int .i64 (r.rg 3), .int .i64 (r.rg 4), .int .i64 (r.rg 5), .int .i64 (r.rg 6), .int .i64 (r.rg 7)]) (fun j hj => ?_) Try.underlying172 rfl (by kernel_rfl)]
 · rfl
 · rw [Addr.add_mid, h.2.2.2 j hj]
   match j, hj with
   | 0, _ => rfl
   | 1, _ => rfl
   | 2, _ => rfl
   | 3, _ => rfl
   | 4, _ => rfl
   | 5, _ => rfl
   | 6, _ => rfl
   | 7, _ => rfl
end
section
variable {w W : World} {Lr : List Ent} {S : Sys} {A : Option Addr} {c : Nat} {R : Option Addr} {d : Nat} {y : Ly} {gw n cw k aN bN cN : Nat} {cur : Array Value} {evs : Value} {E : List Ev} {rs : Nat → Rn} {hv : Nat → Value} {held : Nat → List Int} {cl : Nat → Bool} {lk : Int → Bool} {gr ce : Int → Int} {b b3 : Int}
set_option maxRecDepth 100000 in
set_option maxHeartbeats 2000000 in
theorem st_14  (M : OM w W ((y.wp, 110, wpC y S.nr gw n cw evs) :: (gw, 174, cur) :: (y.bp, 186, pipesA S.nr hv cl) :: (y.bl, 4, arrB y.lk lk) :: (y.bg, 3, arrI y.gr gr) :: (y.bc, 3, arrI y.ce ce) :: (y.ps, 27, sysV S A c R d) :: Lr) ⟨evs, E, S.nr, hv, held⟩) (hC : WhoC cur n rs) (hk : k < n) (hS : SysIn w S A c R d) (hp : (rs k).prog < S.np) (hl : S.lp (rs k).prog ≤ 256) (hn : E.length ≤ 100000) (h1 : n ≤ cw) (h2 : cw ≤ maxLen) (h3 : cur.size = cw * 10) {f : Nat → Int} (hI : instP S (rs k) = some f) (e0 : f 0 = 14) (e1 : f 1 = (aN : Int)) (e2 : f 2 = (b : Int)) (e3 : f 3 = (b3 : Int)) (hN : n < 512) : Calls Try.prog 91 #[.pointer (some ⟨y.wp, 0, none⟩), .int .i64 (k : Int)] W fun ev W' => ev = .returned (.tuple #[]) ∧ InW w W' S A c R d y Lr ⟨(n + 1), fun j => if j = k then { rs k with pos := (rs k).pos + 1 } else updN rs n ⟨aN, 0, (rs k).rg⟩ j, held, cl, lk, gr, ce, E ++ [⟨k, 14, aN, n, false⟩]⟩ := by
 have HN := Lib.hid (show ∀ V pw, OM w V ((pw, 104, #[.pointer (some ⟨y.wp, 0, none⟩)]) :: ((y.wp, 110, wpC y S.nr gw n cw evs) :: (gw, 174, cur) :: (y.bp, 186, pipesA S.nr hv cl) :: (y.bl, 4, arrB y.lk lk) :: (y.bg, 3, arrI y.gr gr) :: (y.bc, 3, arrI y.ce ce) :: (y.ps, 27, sysV S A c R d) :: Lr)) ⟨evs, E, S.nr, hv, held⟩ → Calls Try.prog 103 #[.pointer (some ⟨y.wp, 0, none⟩), .pointer (some ⟨gw, k * 10, none⟩)] V fun e W' => e = .returned (.tuple #[.agg #[Value.int .i64 14, .int .i64 (aN : Int), .int .i64 (b : Int), .int .i64 (b3 : Int)], .bool true]) ∧ Keeps V W' [] from fun V pw M => by
   have := wnext_any (M.get 1 rfl) (M.get 2 rfl) (M.get 7 rfl) (hS.kept M.own.keep) hC hk hp
   rw [hI] at this
   simpa [instV, instC, e0, e1, e2, e3] using this)
 have HIC := Lib.hid (show ∀ v ∈ (#[Value.int .i64 14, .int .i64 (aN : Int), .int .i64 (b : Int), .int .i64 (b3 : Int)]).toList, v.oneCell' = true from by
   have := instC_cell f
   simpa [instC, e0, e1, e2, e3] using this)
 have g1 : (k : Int) < n := by omega
 have g2 : (0 : Int) ≤ k := by omega
 have hpos : (rs k).pos < S.lp (rs k).prog := by
   unfold instP at hI
   split at hI
   · assumption
   · cases hI
 have g3 : ((rs k).pos : Int) < 256 := by omega
 have g4 : (0 : Int) ≤ (rs k).pos := by omega
 have HC := Lib.hid hC
 have HK := Lib.hid hk
 have HS := Lib.hid hS
 have HP := Lib.hid hp
 have HPos := Lib.hid hpos
 have H1 := Lib.hid h1
 have H2 := Lib.hid h2
 have H3 := Lib.hid h3
 have ak := add_zero_ gw (k * 10)
 have hmf := kf3
 clear hC hk hS hp hl hI e0 e1 e2 e3 h1 h2 h3 hpos
 have g5 : ¬ (512 : Int) ≤ n := by omega
 have HN1 := Lib.hid hN
 clear hN
 have H1W := Lib.hid (HC.out.set_pos (on := (rs k).pos + 1) HK.out)
 go_enter Try.func91, Try.ntmps91
 go_wp2_with (first
   | go_big_skip
   | (refine om_box1 2 (.pointer (some ⟨y.wp, 0, none⟩)) M rfl rfl rfl rfl rfl ?_; clear M; intro V pw M; simp only [Act.put, kA, kZ, kS]; have c1 := kc1 (M.get 0 rfl); have c2 := kc2 (M.get 1 rfl))
   | (go_at_call 103; refine (HN.out _ _ M).mono ?_; rintro e V ⟨rfl, K⟩; replace M := M.keeps K; clear K c1 c2; have c1 := kc1 (M.get 0 rfl); have c2 := kc2 (M.get 1 rfl))
   | (refine om_alloc 5 (instC fun _ => 0) M rfl rfl rfl (fun _ => by kernel_rfl) ?_; clear M c1 c2; intro V pi M; simp only [Act.put, kA, kZ, kS]; have c1 := kc1 (M.get 1 rfl); have c2 := kc2 (M.get 2 rfl))
   | (refine at_store (.tmp 5) (.tmp 21) rfl ?_; refine om_store_row 0 (.tmp 5) (.tmp 21) (cs' := #[Value.int .i64 14, .int .i64 (aN : Int), .int .i64 (b : Int), .int .i64 (b3 : Int)]) M rfl rfl rfl rfl rfl rfl (by kernel_rfl) (by rfl) HIC.out ?_; clear M c1 c2; intro V M; simp only [kZ] at M; have c1 := kc1 (M.get 1 rfl); have c2 := kc2 (M.get 2 rfl); have c3 := (M.get 0 rfl).cell)
   | (refine om_alloc 7 (evC ⟨0, 0, 0, 0, false⟩) M rfl rfl rfl (fun _ => by kernel_rfl) ?_; clear M c1 c2 c3; intro V pe M; simp only [Act.put, kA, kZ, kS]; have c1 := kc1 (M.get 2 rfl); have c2 := kc2 (M.get 3 rfl); have c3 := (M.get 1 rfl).cell)
   | (refine at_store (.tmp 7) (.tmp 26) rfl ?_; refine om_store_row 0 (.tmp 7) (.tmp 26) (cs' := evC ⟨k, 14, 0, 0, false⟩) M rfl rfl rfl rfl rfl rfl (by kernel_rfl) (by rfl) (evC_cell _) ?_; clear M c1 c2 c3; intro V M; simp only [kZ] at M; have c1 := kc1 (M.get 2 rfl); have c2 := kc2 (M.get 3 rfl); have c3 := (M.get 1 rfl).cell)
   | (refine om_alloc1 8 .nilFunc M rfl rfl rfl (fun _ => by kernel_rfl) rfl ?_; clear M c1 c2 c3; intro V pt M; simp only [Act.put, kA, kZ, kS]; have c1 := kc1 (M.get 3 rfl); have c2 := kc2 (M.get 4 rfl); have c3 := (M.get 2 rfl).cell)
   | (refine at_store (.tmp 8) (.tmp 27) rfl ?_; refine om_store 0 0 (Value.func (.func 105) #[] #[.pointer (some ⟨pw, 0, none⟩), .pointer (some ⟨pe, 0, none⟩)]) (.tmp 8) (.tmp 27) M rfl rfl rfl rfl rfl rfl (by show 0 < 1; omega) rfl rfl (by kernel_rfl) rfl ?_; clear M c1 c2 c3; intro V M; simp only [kZ] at M; have c1 := kc1 (M.get 3 rfl); have c2 := kc2 (M.get 4 rfl); have c3 := (M.get 2 rfl).cell; have c4 : V.cell? ⟨gw, k * 10 + 1, none⟩ = some (.int .i64 (rs k).pos) := ((M.get 5 rfl).cell _).trans (HC.out.pos HK.out); have c5 := kc1 (M.get 0 rfl))
   | (refine at_store (.tmp 161) (.tmp 160) rfl ?_; refine om_store 1 2 (.int .i64 (aN : Int)) (.tmp 161) (.tmp 160) M rfl rfl rfl rfl rfl rfl (by show 2 < 5; omega) rfl rfl (by kernel_rfl) (cs' := evC ⟨k, 14, aN, 0, false⟩) rfl ?_; clear M; intro V M; simp only [kZ, kS] at M; have c1 := kc1 (M.get 3 rfl); have c2 := kc2 (M.get 4 rfl); have c3 := (M.get 2 rfl).cell; have c4 : V.cell? ⟨gw, k * 10 + 1, none⟩ = some (.int .i64 (rs k).pos) := ((M.get 5 rfl).cell _).trans (HC.out.pos HK.out); have c5 := kc1 (M.get 0 rfl))
   | (refine at_store (.tmp 175) (.tmp 174) rfl ?_; refine om_store 1 3 (.int .i64 (n : Int)) (.tmp 175) (.tmp 174) M rfl rfl rfl rfl rfl rfl (by show 3 < 5; omega) rfl rfl (by kernel_rfl) (cs' := evC ⟨k, 14, aN, n, false⟩) rfl ?_; clear M; intro V M; simp only [kZ, kS] at M; have c1 := kc1 (M.get 3 rfl); have c2 := kc2 (M.get 4 rfl); have c3 := (M.get 2 rfl).cell; have c4 : V.cell? ⟨gw, k * 10 + 1, none⟩ = some (.int .i64 (rs k).pos) := ((M.get 5 rfl).cell _).trans (HC.out.pos HK.out); have c5 := kc1 (M.get 0 rfl))
   | (refine at_store (.tmp 179) (.tmp 177) rfl ?_; refine om_store 5 (k * 10 + 1) (.int .i64 (((rs k).pos : Int) + 1)) (.tmp 179) (.tmp 177) M rfl rfl rfl rfl rfl rfl (by have := HC.out.lt HK.out (f := 1) (by omega); simpa using this) rfl rfl (by kernel_rfl) (cs' := (cur.setIfInBounds (k * 10 + 1) (.int .i64 ((((rs k).pos + 1 : Nat)) : Int)))) (by simp) ?_; clear M c1 c2 c3 c5; intro V M; simp only [kZ, kS] at M; have c1 := kc1 (M.get 3 rfl); have c2 := kc2 (M.get 4 rfl); have c3 := (M.get 2 rfl).cell; have c5 := kc1 (M.get 0 rfl)))
 refine wp_headH (S := SS y pw pi gw n cw k #[Value.int .i64 14, .int .i64 (aN : Int), .int .i64 (b : Int), .int .i64 (b3 : Int)] (rs k)) 14 (by kernel_rfl) (by kernel_rfl) ?_
 replace M := M.keeps (Keeps.refl _ _).drew
 clear c1 c2 c3 c5
 have HQ := Lib.hid (show SS y pw pi gw n cw k #[Value.int .i64 14, .int .i64 (aN : Int), .int .i64 (b : Int), .int .i64 (b3 : Int)] (rs k) _ from SS.of (M.get 3 rfl) (M.get 4 rfl) (M.get 2 rfl) (M.get 5 rfl) H1W.out HK.out)
 refine ah_take (f := 2) (L' := #[true, true, true, true, true, true, true, true, true, true, true, true, false, false, false, false, false]) (HQ.out) [0, 1, 2, 3, 4, 5, 6, 7, 8, 9, 10, 11] [_, _, _, _, _, _, _, _, _, _, _, _] _ _ rfl (by decide) (by kernel_rfl) ?_
 simp only [List.getElem_toArray, List.getElem_cons_zero, List.getElem_cons_succ]
 repeat (first
   | (refine take_pure (v := .agg #[Value.int .i64 ((rs k).rg 0), .int .i64 ((rs k).rg 1), .int .i64 ((rs k).rg 2), .int .i64 ((rs k).rg 3), .int .i64 ((rs k).rg 4), .int .i64 ((rs k).rg 5), .int .i64 ((rs k).rg 6), .int .i64 ((rs k).rg 7)]) (by rfl) ?_ ?_; (· (intro w hSw; exact SS.regs hSw rfl)); simp only [Act.put, kA, kZ, kS])
   | (refine take_pure (v := ?_) (by rfl) ?_ ?_; rotate_left; (· (intro w hSw; have q1 := hSw.1; have q2 := hSw.2.1; have q3 := hSw.2.2.1; clear hSw; go_simp; try with_reducible rfl)); simp only [Act.put, kA, kZ, kS]))
 refine takeA_done ?_
 refine ah_sole 12 #[true, true, true, true, true, true, true, true, true, true, true, true, true, false, false, false, false] rfl (by decide) (by kernel_rfl) ?_
 try simp only [List.getElem_toArray, List.getElem_cons_zero, List.getElem_cons_succ]
 go_wp2_with (refine om_lit_rn 192 ⟨aN, 0, (rs k).rg⟩ M rfl rfl rfl rfl ?_; clear HQ; intro V gl M1; replace M := M1; clear M1; have HQ := Lib.hid (show SS y pw pi gw n cw k #[Value.int .i64 14, .int .i64 (aN : Int), .int .i64 (b : Int), .int .i64 (b3 : Int)] (rs k) V from SS.of (M.get 4 rfl) (M.get 5 rfl) (M.get 3 rfl) (M.get 6 rfl) H1W.out HK.out); simp only [Act.put, kA, kZ, kS])
 (first | refine backA_intro2 (HQ.out) ?_ | refine backA_intro (HQ.out) ?_)
 refine ah_sole 13 #[true, true, true, true, true, true, true, true, true, true, true, true, true, true, false, false, false] rfl (by decide) (by kernel_rfl) ?_
 try simp only [List.getElem_toArray, List.getElem_cons_zero, List.getElem_cons_succ]
 go_wp2_with (at_builtin; refine om_who2 ⟨aN, 0, (rs k).rg⟩ gl 5 (.tmp 184) (.tmp 192) M rfl rfl rfl rfl rfl H1W.out (by have := HN1.out; omega) H1.out H2.out (by simpa using H3.out) ?_; intro gw' cw' cur' V1 hfw M1 hC' q1 q2 q3; have HQ1 := Lib.hid (show SS y pw pi gw n cw k #[Value.int .i64 14, .int .i64 (aN : Int), .int .i64 (b : Int), .int .i64 (b3 : Int)] (rs k) V1 from SS.grown HQ.out (M1.get 4 rfl) (M1.get 3 rfl) (M1.get 2 rfl) hfw HK.out); replace M := M1; clear M1 HQ hfw; have HF := Lib.hid (And.intro hC' (And.intro q1 (And.intro q2 q3))); clear hC' q1 q2 q3; simp only [Act.put, kA, kZ, kS])
 (first | refine backA_intro2 (HQ1.out) ?_ | refine backA_intro (HQ1.out) ?_)
 refine ah_tail (by kernel_rfl) ?_
 try simp only [List.drop]
 have ct : V1.cell? ⟨pt, 0, none⟩ = some (Value.func (.func 105) #[] #[.pointer (some ⟨pw, 0, none⟩), .pointer (some ⟨pe, 0, none⟩)]) := (M.get 0 rfl).cell 0
 go_wp2_with (first
   | go_big_skip
   | (refine at_store (.tmp 195) (.tmp 193) rfl ?_; refine om_store 4 1 (.slice (some ⟨gw', 0, none⟩) (n + 1) cw') (.tmp 195) (.tmp 193) M rfl rfl rfl rfl rfl rfl (by show 1 < 7; omega) rfl rfl (by kernel_rfl) (cs' := wpC y S.nr gw' (n + 1) cw' evs) rfl ?_; clear M ct; intro V M; simp only [kZ, kS] at M; have ct : V.cell? ⟨pt, 0, none⟩ = some (Value.func (.func 105) #[] #[.pointer (some ⟨pw, 0, none⟩), .pointer (some ⟨pe, 0, none⟩)]) := (M.get 0 rfl).cell 0))
 refine np_intro ?_
 go_wp2_with (first
   | go_big_skip
   | (go_at_call 105; refine (tell_any M ⟨k, 14, aN, n, false⟩ (i := 3) (j := 1) (k := 4) rfl rfl rfl hn).mono ?_; rintro ev V ⟨rfl, v', M⟩; have HM := Lib.hid M; clear M))
 refine bodyPost_ret (results_none rfl _ _ _) rfl ?_
 exact ⟨rfl, gw', cw', _, _, hv, HM.out.drop_ 4, HF.out.1.congr fun j hj => by by_cases h1 : j = k <;> by_cases h2 : j = n <;> simp [updN, h1, h2] <;> (try omega), HF.out.2.1, HF.out.2.2.1, HF.out.2.2.2⟩
end
open Go.RowKit Go.Maps Go.Deep
section
variable {w W : World} {Lr : List Ent} {S : Sys} {A : Option Addr} {c : Nat} {R : Option Addr} {d : Nat} {y : Ly} {gw n cw k aN bN cN : Nat} {cur : Array Value} {evs : Value} {E : List Ev} {rs : Nat → Rn} {hv : Nat → Value} {held : Nat → List Int} {cl : Nat → Bool} {lk : Int → Bool} {gr ce : Int → Int} {b b3 : Int}
set_option maxRecDepth 100000 in
set_option maxHeartbeats 2000000 in
theorem st_15  (M : OM w W ((y.wp, 110, wpC y S.nr gw n cw evs) :: (gw, 174, cur) :: (y.bp, 186, pipesA S.nr hv cl) :: (y.bl, 4, arrB y.lk lk) :: (y.bg, 3, arrI y.gr gr) :: (y.bc, 3, arrI y.ce ce) :: (y.ps, 27, sysV S A c R d) :: Lr) ⟨evs, E, S.nr, hv, held⟩) (hC : WhoC cur n rs) (hk : k < n) (hS : SysIn w S A c R d) (hp : (rs k).prog < S.np) (hl : S.lp (rs k).prog ≤ 256) (hn : E.length ≤ 100000) (h1 : n ≤ cw) (h2 : cw ≤ maxLen) (h3 : cur.size = cw * 10) {f : Nat → Int} (hI : instP S (rs k) = some f) (e0 : f 0 = 15) (e1 : f 1 = (b : Int)) (e2 : f 2 = (bN : Int)) (e3 : f 3 = (b3 : Int)) (hb : bN < 8) : Calls Try.prog 91 #[.pointer (some ⟨y.wp, 0, none⟩), .int .i64 (k : Int)] W fun ev W' => ev = .returned (.tuple #[]) ∧ InW w W' S A c R d y Lr ⟨n, fun j => if j = k then { rs k with pos := (rs k).pos + 1 } else rs j, held, cl, lk, gr, ce, E ++ [⟨k, 15, b, ((rs k).rg bN), false⟩]⟩ := by
 have HN := Lib.hid (show ∀ V pw, OM w V ((pw, 104, #[.pointer (some ⟨y.wp, 0, none⟩)]) :: ((y.wp, 110, wpC y S.nr gw n cw evs) :: (gw, 174, cur) :: (y.bp, 186, pipesA S.nr hv cl) :: (y.bl, 4, arrB y.lk lk) :: (y.bg, 3, arrI y.gr gr) :: (y.bc, 3, arrI y.ce ce) :: (y.ps, 27, sysV S A c R d) :: Lr)) ⟨evs, E, S.nr, hv, held⟩ → Calls Try.prog 103 #[.pointer (some ⟨y.wp, 0, none⟩), .pointer (some ⟨gw, k * 10, none⟩)] V fun e W' => e = .returned (.tuple #[.agg #[Value.int .i64 15, .int .i64 (b : Int), .int .i64 (bN : Int), .int .i64 (b3 : Int)], .bool true]) ∧ Keeps V W' [] from fun V pw M => by
   have := wnext_any (M.get 1 rfl) (M.get 2 rfl) (M.get 7 rfl) (hS.kept M.own.keep) hC hk hp
   rw [hI] at this
   simpa [instV, instC, e0, e1, e2, e3] using this)
 have HIC := Lib.hid (show ∀ v ∈ (#[Value.int .i64 15, .int .i64 (b : Int), .int .i64 (bN : Int), .int .i64 (b3 : Int)]).toList, v.oneCell' = true from by
   have := instC_cell f
   simpa [instC, e0, e1, e2, e3] using this)
 have g1 : (k : Int) < n := by omega
 have g2 : (0 : Int) ≤ k := by omega
 have hpos : (rs k).pos < S.lp (rs k).prog := by
   unfold instP at hI
   split at hI
   · assumption
   · cases hI
 have g3 : ((rs k).pos : Int) < 256 := by omega
 have g4 : (0 : Int) ≤ (rs k).pos := by omega
 have HC := Lib.hid hC
 have HK := Lib.hid hk
 have HS := Lib.hid hS
 have HP := Lib.hid hp
 have HPos := Lib.hid hpos
 have H1 := Lib.hid h1
 have H2 := Lib.hid h2
 have H3 := Lib.hid h3
 have ak := add_zero_ gw (k * 10)
 have hmf := kf3
 clear hC hk hS hp hl hI e0 e1 e2 e3 h1 h2 h3 hpos
 have g7 : (bN : Int) < 8 := by omega
 have g8 : (0 : Int) ≤ bN := by omega
 have HR := Lib.hid (And.intro True.intro hb)
 clear hb
 go_enter Try.func91, Try.ntmps91
 go_wp2_with (first
   | go_big_skip
   | (refine om_box1 2 (.pointer (some ⟨y.wp, 0, none⟩)) M rfl rfl rfl rfl rfl ?_; clear M; intro V pw M; simp only [Act.put, kA, kZ, kS]; have c1 := kc1 (M.get 0 rfl); have c2 := kc2 (M.get 1 rfl))
   | (go_at_call 103; refine (HN.out _ _ M).mono ?_; rintro e V ⟨rfl, K⟩; replace M := M.keeps K; clear K c1 c2; have c1 := kc1 (M.get 0 rfl); have c2 := kc2 (M.get 1 rfl))
   | (refine om_alloc 5 (instC fun _ => 0) M rfl rfl rfl (fun _ => by kernel_rfl) ?_; clear M c1 c2; intro V pi M; simp only [Act.put, kA, kZ, kS]; have c1 := kc1 (M.get 1 rfl); have c2 := kc2 (M.get 2 rfl))
   | (refine at_store (.tmp 5) (.tmp 21) rfl ?_; refine om_store_row 0 (.tmp 5) (.tmp 21) (cs' := #[Value.int .i64 15, .int .i64 (b : Int), .int .i64 (bN : Int), .int .i64 (b3 : Int)]) M rfl rfl rfl rfl rfl rfl (by kernel_rfl) (by rfl) HIC.out ?_; clear M c1 c2; intro V M; simp only [kZ] at M; have c1 := kc1 (M.get 1 rfl); have c2 := kc2 (M.get 2 rfl); have c3 := (M.get 0 rfl).cell)
   | (refine om_alloc 7 (evC ⟨0, 0, 0, 0, false⟩) M rfl rfl rfl (fun _ => by kernel_rfl) ?_; clear M c1 c2 c3; intro V pe M; simp only [Act.put, kA, kZ, kS]; have c1 := kc1 (M.get 2 rfl); have c2 := kc2 (M.get 3 rfl); have c3 := (M.get 1 rfl).cell)
   | (refine at_store (.tmp 7) (.tmp 26) rfl ?_; refine om_store_row 0 (.tmp 7) (.tmp 26) (cs' := evC ⟨k, 15, 0, 0, false⟩) M rfl rfl rfl rfl rfl rfl (by kernel_rfl) (by rfl) (evC_cell _) ?_; clear M c1 c2 c3; intro V M; simp only [kZ] at M; have c1 := kc1 (M.get 2 rfl); have c2 := kc2 (M.get 3 rfl); have c3 := (M.get 1 rfl).cell)
   | (refine om_alloc1 8 .nilFunc M rfl rfl rfl (fun _ => by kernel_rfl) rfl ?_; clear M c1 c2 c3; intro V pt M; simp only [Act.put, kA, kZ, kS]; have c1 := kc1 (M.get 3 rfl); have c2 := kc2 (M.get 4 rfl); have c3 := (M.get 2 rfl).cell)
   | (refine at_store (.tmp 8) (.tmp 27) rfl ?_; refine om_store 0 0 (Value.func (.func 105) #[] #[.pointer (some ⟨pw, 0, none⟩), .pointer (some ⟨pe, 0, none⟩)]) (.tmp 8) (.tmp 27) M rfl rfl rfl rfl rfl rfl (by show 0 < 1; omega) rfl rfl (by kernel_rfl) rfl ?_; clear M c1 c2 c3; intro V M; simp only [kZ] at M; have c1 := kc1 (M.get 3 rfl); have c2 := kc2 (M.get 4 rfl); have c3 := (M.get 2 rfl).cell; have c4 : V.cell? ⟨gw, k * 10 + 1, none⟩ = some (.int .i64 (rs k).pos) := ((M.get 5 rfl).cell _).trans (HC.out.pos HK.out); have c5 := kc1 (M.get 0 rfl)))
 have ci : ∀ (p : Later V) i, p.1.cell? ⟨pi, i, none⟩ = #[Value.int .i64 15, .int .i64 (b : Int), .int .i64 (bN : Int), .int .i64 (b3 : Int)][i]? := Later.cell (M.get 2 rfl)
 have crb : ∀ p : Later V, p.1.cell? ⟨gw, k * 10 + 2 + bN, none⟩ = some (.int .i64 ((rs k).rg bN)) := fun p => (Later.cell (M.get 5 rfl) p _).trans (HC.out.reg HK.out HR.out.2)
 refine wp_quiet_tail_later 10 (by kernel_rfl) (by kernel_rfl) ?_
 simp only [List.take, List.drop]
 repeat (first | go_big_quiet_skip | go_big_quiet_step (fail))
 refine kq fun p' => ?_
 replace M := M.keeps p'.2
 clear c1 c2 c3 c4 c5 ci crb
 generalize p'.1 = V at M ⊢
 go_wp2_with (first
   | go_big_skip
   | (refine at_store (.tmp 207) (.tmp 199) rfl ?_; refine om_store 1 2 (.int .i64 b) (.tmp 207) (.tmp 199) M rfl rfl rfl rfl rfl rfl (by show 2 < 5; omega) rfl rfl (by kernel_rfl) (cs' := evC ⟨k, 15, b, 0, false⟩) rfl ?_; clear M; intro V M; simp only [kZ, kS] at M; have c1 := kc1 (M.get 3 rfl); have c2 := kc2 (M.get 4 rfl); have c3 := (M.get 2 rfl).cell; have c5 := kc1 (M.get 0 rfl))
   | (refine at_store (.tmp 208) (.tmp 206) rfl ?_; refine om_store 1 3 (.int .i64 ((rs k).rg bN)) (.tmp 208) (.tmp 206) M rfl rfl rfl rfl rfl rfl (by show 3 < 5; omega) rfl rfl (by kernel_rfl) (cs' := evC ⟨k, 15, b, ((rs k).rg bN), false⟩) rfl ?_; clear M; intro V M; simp only [kZ, kS] at M; have c1 := kc1 (M.get 3 rfl); have c2 := kc2 (M.get 4 rfl); have c3 := (M.get 2 rfl).cell; have c5 := kc1 (M.get 0 rfl))
   | (refine at_store (.tmp 221) (.tmp 219) rfl ?_; refine om_store 5 (k * 10 + 1) (.int .i64 (((rs k).pos : Int) + 1)) (.tmp 221) (.tmp 219) M rfl rfl rfl rfl rfl rfl (by have := HC.out.lt HK.out (f := 1) (by omega); simpa using this) rfl rfl (by kernel_rfl) (cs' := (cur).setIfInBounds (k * 10 + 1) (.int .i64 (((rs k).pos + 1 : Nat) : Int))) (by simp) ?_; clear M c1 c2 c3 c5; intro V M; simp only [kZ, kS] at M; have c1 := kc1 (M.get 3 rfl); have c2 := kc2 (M.get 4 rfl); have c3 := (M.get 2 rfl).cell; have c5 := kc1 (M.get 0 rfl))
   | (go_at_call 105; refine (tell_any M ⟨k, 15, b, ((rs k).rg bN), false⟩ (i := 3) (j := 1) (k := 4) rfl rfl rfl hn).mono ?_; rintro ev V ⟨rfl, v', M⟩; have HM := Lib.hid M; clear M))
 go_end0
 exact ⟨rfl, gw, cw, _, _, hv, HM.out.drop_ 4, HC.out.set_pos HK.out, H1.out, H2.out, by simpa using H3.out⟩
set_option maxRecDepth 100000 in
set_option maxHeartbeats 2000000 in
theorem st_13  (M : OM w W ((y.wp, 110, wpC y S.nr gw n cw evs) :: (gw, 174, cur) :: (y.bp, 186, pipesA S.nr hv cl) :: (y.bl, 4, arrB y.lk lk) :: (y.bg, 3, arrI y.gr gr) :: (y.bc, 3, arrI y.ce ce) :: (y.ps, 27, sysV S A c R d) :: Lr) ⟨evs, E, S.nr, hv, held⟩) (hC : WhoC cur n rs) (hk : k < n) (hS : SysIn w S A c R d) (hp : (rs k).prog < S.np) (hl : S.lp (rs k).prog ≤ 256) (hn : E.length ≤ 100000) (h1 : n ≤ cw) (h2 : cw ≤ maxLen) (h3 : cur.size = cw * 10) {f : Nat → Int} (hI : instP S (rs k) = some f) (e0 : f 0 = 13) (e1 : f 1 = (aN : Int)) (e2 : f 2 = (bN : Int)) (e3 : f 3 = (b3 : Int)) (ha : aN < 8) (hb : bN < 8) {x : Nat} (hx : x < y.ce) (hxe : (rs k).rg aN % (y.ce : Int) = x) (hce1 : 0 < y.ce) (hce2 : y.ce ≤ 64) : Calls Try.prog 91 #[.pointer (some ⟨y.wp, 0, none⟩), .int .i64 (k : Int)] W fun ev W' => ev = .returned (.tuple #[]) ∧ InW w W' S A c R d y Lr ⟨n, fun j => if j = k then { rs k with pos := (rs k).pos + 1 } else rs j, held, cl, lk, gr, updI ce x ((rs k).rg bN), E ++ [⟨k, 13, x, ((rs k).rg bN), false⟩]⟩ := by
 have HN := Lib.hid (show ∀ V pw, OM w V ((pw, 104, #[.pointer (some ⟨y.wp, 0, none⟩)]) :: ((y.wp, 110, wpC y S.nr gw n cw evs) :: (gw, 174, cur) :: (y.bp, 186, pipesA S.nr hv cl) :: (y.bl, 4, arrB y.lk lk) :: (y.bg, 3, arrI y.gr gr) :: (y.bc, 3, arrI y.ce ce) :: (y.ps, 27, sysV S A c R d) :: Lr)) ⟨evs, E, S.nr, hv, held⟩ → Calls Try.prog 103 #[.pointer (some ⟨y.wp, 0, none⟩), .pointer (some ⟨gw, k * 10, none⟩)] V fun e W' => e = .returned (.tuple #[.agg #[Value.int .i64 13, .int .i64 (aN : Int), .int .i64 (bN : Int), .int .i64 (b3 : Int)], .bool true]) ∧ Keeps V W' [] from fun V pw M => by
   have := wnext_any (M.get 1 rfl) (M.get 2 rfl) (M.get 7 rfl) (hS.kept M.own.keep) hC hk hp
   rw [hI] at this
   simpa [instV, instC, e0, e1, e2, e3] using this)
 have HIC := Lib.hid (show ∀ v ∈ (#[Value.int .i64 13, .int .i64 (aN : Int), .int .i64 (bN : Int), .int .i64 (b3 : Int)]).toList, v.oneCell' = true from by
   have := instC_cell f
   simpa [instC, e0, e1, e2, e3] using this)
 have g1 : (k : Int) < n := by omega
 have g2 : (0 : Int) ≤ k := by omega
 have hpos : (rs k).pos < S.lp (rs k).prog := by
   unfold instP at hI
   split at hI
   · assumption
   · cases hI
 have g3 : ((rs k).pos : Int) < 256 := by omega
 have g4 : (0 : Int) ≤ (rs k).pos := by omega
 have HC := Lib.hid hC
 have HK := Lib.hid hk
 have HS := Lib.hid hS
 have HP := Lib.hid hp
 have HPos := Lib.hid hpos
 have H1 := Lib.hid h1
 have H2 := Lib.hid h2
 have H3 := Lib.hid h3
 have ak := add_zero_ gw (k * 10)
 have hmf := kf3
 clear hC hk hS hp hl hI e0 e1 e2 e3 h1 h2 h3 hpos
 have g5 : (aN : Int) < 8 := by omega
 have g6 : (0 : Int) ≤ aN := by omega
 have g7 : (bN : Int) < 8 := by omega
 have g8 : (0 : Int) ≤ bN := by omega
 have HR := Lib.hid (And.intro ha hb)
 clear ha hb
 have g9 : (x : Int) < y.ce := by omega
 have g10 : (0 : Int) ≤ x := by omega
 have HX := Lib.hid hx
 have HM7 := Lib.hid hxe
 have HE := Lib.hid (And.intro hce1 hce2)
 clear hx hxe hce1 hce2
 go_enter Try.func91, Try.ntmps91
 go_wp2_with (first
   | go_big_skip
   | (refine om_box1 2 (.pointer (some ⟨y.wp, 0, none⟩)) M rfl rfl rfl rfl rfl ?_; clear M; intro V pw M; simp only [Act.put, kA, kZ, kS]; have c1 := kc1 (M.get 0 rfl); have c2 := kc2 (M.get 1 rfl))
   | (go_at_call 103; refine (HN.out _ _ M).mono ?_; rintro e V ⟨rfl, K⟩; replace M := M.keeps K; clear K c1 c2; have c1 := kc1 (M.get 0 rfl); have c2 := kc2 (M.get 1 rfl))
   | (refine om_alloc 5 (instC fun _ => 0) M rfl rfl rfl (fun _ => by kernel_rfl) ?_; clear M c1 c2; intro V pi M; simp only [Act.put, kA, kZ, kS]; have c1 := kc1 (M.get 1 rfl); have c2 := kc2 (M.get 2 rfl))
   | (refine at_store (.tmp 5) (.tmp 21) rfl ?_; refine om_store_row 0 (.tmp 5) (.tmp 21) (cs' := #[Value.int .i64 13, .int .i64 (aN : Int), .int .i64 (bN : Int), .int .i64 (b3 : Int)]) M rfl rfl rfl rfl rfl rfl (by kernel_rfl) (by rfl) HIC.out ?_; clear M c1 c2; intro V M; simp only [kZ] at M; have c1 := kc1 (M.get 1 rfl); have c2 := kc2 (M.get 2 rfl); have c3 := (M.get 0 rfl).cell)
   | (refine om_alloc 7 (evC ⟨0, 0, 0, 0, false⟩) M rfl rfl rfl (fun _ => by kernel_rfl) ?_; clear M c1 c2 c3; intro V pe M; simp only [Act.put, kA, kZ, kS]; have c1 := kc1 (M.get 2 rfl); have c2 := kc2 (M.get 3 rfl); have c3 := (M.get 1 rfl).cell)
   | (refine at_store (.tmp 7) (.tmp 26) rfl ?_; refine om_store_row 0 (.tmp 7) (.tmp 26) (cs' := evC ⟨k, 13, 0, 0, false⟩) M rfl rfl rfl rfl rfl rfl (by kernel_rfl) (by rfl) (evC_cell _) ?_; clear M c1 c2 c3; intro V M; simp only [kZ] at M; have c1 := kc1 (M.get 2 rfl); have c2 := kc2 (M.get 3 rfl); have c3 := (M.get 1 rfl).cell)
   | (refine om_alloc1 8 .nilFunc M rfl rfl rfl (fun _ => by kernel_rfl) rfl ?_; clear M c1 c2 c3; intro V pt M; simp only [Act.put, kA, kZ, kS]; have c1 := kc1 (M.get 3 rfl); have c2 := kc2 (M.get 4 rfl); have c3 := (M.get 2 rfl).cell)
   | (refine at_store (.tmp 8) (.tmp 27) rfl ?_; refine om_store 0 0 (Value.func (.func 105) #[] #[.pointer (some ⟨pw, 0, none⟩), .pointer (some ⟨pe, 0, none⟩)]) (.tmp 8) (.tmp 27) M rfl rfl rfl rfl rfl rfl (by show 0 < 1; omega) rfl rfl (by kernel_rfl) rfl ?_; clear M c1 c2 c3; intro V M; simp only [kZ] at M; have c1 := kc1 (M.get 3 rfl); have c2 := kc2 (M.get 4 rfl); have c3 := (M.get 2 rfl).cell; have c4 : V.cell? ⟨gw, k * 10 + 1, none⟩ = some (.int .i64 (rs k).pos) := ((M.get 5 rfl).cell _).trans (HC.out.pos HK.out); have c5 := kc1 (M.get 0 rfl)))
 have ci : ∀ (p : Later V) i, p.1.cell? ⟨pi, i, none⟩ = #[Value.int .i64 13, .int .i64 (aN : Int), .int .i64 (bN : Int), .int .i64 (b3 : Int)][i]? := Later.cell (M.get 2 rfl)
 have cpw : ∀ p : Later V, p.1.cell? ⟨pw, 0, none⟩ = some (.pointer (some ⟨y.wp, 0, none⟩)) := fun p => (Later.cell (M.get 3 rfl) p _)
 have cra : ∀ p : Later V, p.1.cell? ⟨gw, k * 10 + 2 + aN, none⟩ = some (.int .i64 ((rs k).rg aN)) := fun p => (Later.cell (M.get 5 rfl) p _).trans (HC.out.reg HK.out HR.out.1)
 have HV := Lib.hid (fun p : Later V => by have h := wcell_any (Later.blk (M.get 4 rfl) p.1 ⟨p, rfl⟩) ((rs k).rg aN) HE.out.1 HE.out.2; rw [HM7.out] at h; exact h)
 refine wp_quiet_tail_later 10 (by kernel_rfl) (by kernel_rfl) ?_
 simp only [List.take, List.drop]
 repeat (first
   | go_big_quiet_skip
   | go_big_quiet_step ((go_at_call 107; exact later_of (HV.out _))))
 refine kq fun p' => ?_
 replace M := M.keeps p'.2
 clear c1 c2 c3 c4 c5 ci cpw cra HV
 generalize p'.1 = V at M ⊢
 go_wp2_with (first
   | go_big_skip
   | (refine at_store (.tmp 119) (.tmp 118) rfl ?_; refine om_store 1 2 (.int .i64 (x : Int)) (.tmp 119) (.tmp 118) M rfl rfl rfl rfl rfl rfl (by show 2 < 5; omega) rfl rfl (by kernel_rfl) (cs' := evC ⟨k, 13, x, 0, false⟩) rfl ?_; clear M; intro V M; simp only [kZ, kS] at M; have c1 := kc1 (M.get 3 rfl); have c2 := kc2 (M.get 4 rfl); have c3 := (M.get 2 rfl).cell; have c4 : V.cell? ⟨gw, k * 10 + 1, none⟩ = some (.int .i64 (rs k).pos) := ((M.get 5 rfl).cell _).trans (HC.out.pos HK.out); have c5 := kc1 (M.get 0 rfl)))
 have ci : ∀ (p : Later V) i, p.1.cell? ⟨pi, i, none⟩ = #[Value.int .i64 13, .int .i64 (aN : Int), .int .i64 (bN : Int), .int .i64 (b3 : Int)][i]? := Later.cell (M.get 2 rfl)
 have cw' : ∀ (p : Later V) i, p.1.cell? ⟨y.wp, i, none⟩ = #[Value.pointer (some ⟨y.ps, 0, none⟩), .slice (some ⟨gw, 0, none⟩) n cw, .slice (some ⟨y.bp, 0, none⟩) S.nr S.nr, .slice (some ⟨y.bl, 0, none⟩) y.lk y.lk, .slice (some ⟨y.bg, 0, none⟩) y.gr y.gr, .slice (some ⟨y.bc, 0, none⟩) y.ce y.ce, evs][i]? := Later.cell (M.get 4 rfl)
 have cpw : ∀ p : Later V, p.1.cell? ⟨pw, 0, none⟩ = some (.pointer (some ⟨y.wp, 0, none⟩)) := fun p => (Later.cell (M.get 3 rfl) p _)
 have ce' : ∀ (p : Later V) i, p.1.cell? ⟨pe, i, none⟩ = #[Value.int .i64 (k : Int), .int .i64 13, .int .i64 (x : Int), .int .i64 0, .bool false][i]? := Later.cell (M.get 1 rfl)
 have crb : ∀ p : Later V, p.1.cell? ⟨gw, k * 10 + 2 + bN, none⟩ = some (.int .i64 ((rs k).rg bN)) := fun p => (Later.cell (M.get 5 rfl) p _).trans (HC.out.reg HK.out HR.out.2)
 have ac := add_zero_ y.bc x
 refine wp_quiet_tail_later 14 (by kernel_rfl) (by kernel_rfl) ?_
 simp only [List.take, List.drop]
 repeat (first | go_big_quiet_skip | go_big_quiet_step (fail))
 refine kq fun p' => ?_
 replace M := M.keeps p'.2
 clear c1 c2 c3 c4 c5 ci cw' cpw ce' crb ac
 generalize p'.1 = V at M ⊢
 have HCR := Lib.hid (show V.cell? ⟨gw, k * 10 + 2 + bN, none⟩ = some (.int .i64 ((rs k).rg bN)) from ((M.get 5 rfl).cell _).trans (HC.out.reg HK.out HR.out.2))
 clear HCR
 go_wp2_with (first
   | go_big_skip
   | (refine at_store (.tmp 150) (.tmp 149) rfl ?_; refine om_store 9 x (.int .i64 ((rs k).rg bN)) (.tmp 150) (.tmp 149) M rfl rfl rfl rfl rfl rfl (by rw [arrI_size]; exact HX.out) rfl rfl (by kernel_rfl) (arrI_set _ _ _ _) ?_; clear M; intro V M; simp only [kZ, kS] at M; have c1 := kc1 (M.get 3 rfl); have c2 := kc2 (M.get 4 rfl); have c3 := (M.get 2 rfl).cell; have c5 := kc1 (M.get 0 rfl)))
 have ci : ∀ (p : Later V) i, p.1.cell? ⟨pi, i, none⟩ = #[Value.int .i64 13, .int .i64 (aN : Int), .int .i64 (bN : Int), .int .i64 (b3 : Int)][i]? := Later.cell (M.get 2 rfl)
 have crb : ∀ p : Later V, p.1.cell? ⟨gw, k * 10 + 2 + bN, none⟩ = some (.int .i64 ((rs k).rg bN)) := fun p => (Later.cell (M.get 5 rfl) p _).trans (HC.out.reg HK.out HR.out.2)
 refine wp_quiet_tail_later 8 (by kernel_rfl) (by kernel_rfl) ?_
 simp only [List.take, List.drop]
 repeat (first | go_big_quiet_skip | go_big_quiet_step (fail))
 refine kq fun p' => ?_
 replace M := M.keeps p'.2
 clear c1 c2 c3 c5 ci crb
 generalize p'.1 = V at M ⊢
 go_wp2_with (first
   | go_big_skip
   | (refine at_store (.tmp 158) (.tmp 157) rfl ?_; refine om_store 1 3 (.int .i64 ((rs k).rg bN)) (.tmp 158) (.tmp 157) M rfl rfl rfl rfl rfl rfl (by show 3 < 5; omega) rfl rfl (by kernel_rfl) (cs' := evC ⟨k, 13, x, ((rs k).rg bN), false⟩) rfl ?_; clear M; intro V M; simp only [kZ, kS] at M; have c1 := kc1 (M.get 3 rfl); have c2 := kc2 (M.get 4 rfl); have c3 := (M.get 2 rfl).cell; have c5 := kc1 (M.get 0 rfl))
   | (refine at_store (.tmp 221) (.tmp 219) rfl ?_; refine om_store 5 (k * 10 + 1) (.int .i64 (((rs k).pos : Int) + 1)) (.tmp 221) (.tmp 219) M rfl rfl rfl rfl rfl rfl (by have := HC.out.lt HK.out (f := 1) (by omega); simpa using this) rfl rfl (by kernel_rfl) (cs' := (cur).setIfInBounds (k * 10 + 1) (.int .i64 (((rs k).pos + 1 : Nat) : Int))) (by simp) ?_; clear M c1 c2 c3 c5; intro V M; simp only [kZ, kS] at M; have c1 := kc1 (M.get 3 rfl); have c2 := kc2 (M.get 4 rfl); have c3 := (M.get 2 rfl).cell; have c5 := kc1 (M.get 0 rfl))
   | (go_at_call 105; refine (tell_any M ⟨k, 13, x, ((rs k).rg bN), false⟩ (i := 3) (j := 1) (k := 4) rfl rfl rfl hn).mono ?_; rintro ev V ⟨rfl, v', M⟩; have HM := Lib.hid M; clear M))
 go_end0
 exact ⟨rfl, gw, cw, _, _, hv, HM.out.drop_ 4, HC.out.set_pos HK.out, H1.out, H2.out, by simpa using H3.out⟩
set_option maxRecDepth 100000 in
set_option maxHeartbeats 2000000 in
theorem st_12  (M : OM w W ((y.wp, 110, wpC y S.nr gw n cw evs) :: (gw, 174, cur) :: (y.bp, 186, pipesA S.nr hv cl) :: (y.bl, 4, arrB y.lk lk) :: (y.bg, 3, arrI y.gr gr) :: (y.bc, 3, arrI y.ce ce) :: (y.ps, 27, sysV S A c R d) :: Lr) ⟨evs, E, S.nr, hv, held⟩) (hC : WhoC cur n rs) (hk : k < n) (hS : SysIn w S A c R d) (hp : (rs k).prog < S.np) (hl : S.lp (rs k).prog ≤ 256) (hn : E.length ≤ 100000) (h1 : n ≤ cw) (h2 : cw ≤ maxLen) (h3 : cur.size = cw * 10) {f : Nat → Int} (hI : instP S (rs k) = some f) (e0 : f 0 = 12) (e1 : f 1 = (aN : Int)) (e2 : f 2 = (bN : Int)) (e3 : f 3 = (b3 : Int)) (ha : aN < 8) (hb : bN < 8) {x : Nat} (hx : x < y.ce) (hxe : (rs k).rg aN % (y.ce : Int) = x) (hce1 : 0 < y.ce) (hce2 : y.ce ≤ 64) : Calls Try.prog 91 #[.pointer (some ⟨y.wp, 0, none⟩), .int .i64 (k : Int)] W fun ev W' => ev = .returned (.tuple #[]) ∧ InW w W' S A c R d y Lr ⟨n, fun j => if j = k then { setReg (rs k) bN (ce x) with pos := (rs k).pos + 1 } else rs j, held, cl, lk, gr, ce, E ++ [⟨k, 12, x, (ce x), false⟩]⟩ := by
 have HN := Lib.hid (show ∀ V pw, OM w V ((pw, 104, #[.pointer (some ⟨y.wp, 0, none⟩)]) :: ((y.wp, 110, wpC y S.nr gw n cw evs) :: (gw, 174, cur) :: (y.bp, 186, pipesA S.nr hv cl) :: (y.bl, 4, arrB y.lk lk) :: (y.bg, 3, arrI y.gr gr) :: (y.bc, 3, arrI y.ce ce) :: (y.ps, 27, sysV S A c R d) :: Lr)) ⟨evs, E, S.nr, hv, held⟩ → Calls Try.prog 103 #[.pointer (some ⟨y.wp, 0, none⟩), .pointer (some ⟨gw, k * 10, none⟩)] V fun e W' => e = .returned (.tuple #[.agg #[Value.int .i64 12, .int .i64 (aN : Int), .int .i64 (bN : Int), .int .i64 (b3 : Int)], .bool true]) ∧ Keeps V W' [] from fun V pw M => by
   have := wnext_any (M.get 1 rfl) (M.get 2 rfl) (M.get 7 rfl) (hS.kept M.own.keep) hC hk hp
   rw [hI] at this
   simpa [instV, instC, e0, e1, e2, e3] using this)
 have HIC := Lib.hid (show ∀ v ∈ (#[Value.int .i64 12, .int .i64 (aN : Int), .int .i64 (bN : Int), .int .i64 (b3 : Int)]).toList, v.oneCell' = true from by
   have := instC_cell f
   simpa [instC, e0, e1, e2, e3] using this)
 have g1 : (k : Int) < n := by omega
 have g2 : (0 : Int) ≤ k := by omega
 have hpos : (rs k).pos < S.lp (rs k).prog := by
   unfold instP at hI
   split at hI
   · assumption
   · cases hI
 have g3 : ((rs k).pos : Int) < 256 := by omega
 have g4 : (0 : Int) ≤ (rs k).pos := by omega
 have HC := Lib.hid hC
 have HK := Lib.hid hk
 have HS := Lib.hid hS
 have HP := Lib.hid hp
 have HPos := Lib.hid hpos
 have H1 := Lib.hid h1
 have H2 := Lib.hid h2
 have H3 := Lib.hid h3
 have ak := add_zero_ gw (k * 10)
 have hmf := kf3
 clear hC hk hS hp hl hI e0 e1 e2 e3 h1 h2 h3 hpos
 have g5 : (aN : Int) < 8 := by omega
 have g6 : (0 : Int) ≤ aN := by omega
 have g7 : (bN : Int) < 8 := by omega
 have g8 : (0 : Int) ≤ bN := by omega
 have HR := Lib.hid (And.intro ha hb)
 clear ha hb
 have g9 : (x : Int) < y.ce := by omega
 have g10 : (0 : Int) ≤ x := by omega
 have HX := Lib.hid hx
 have HM7 := Lib.hid hxe
 have HE := Lib.hid (And.intro hce1 hce2)
 clear hx hxe hce1 hce2
 go_enter Try.func91, Try.ntmps91
 go_wp2_with (first
   | go_big_skip
   | (refine om_box1 2 (.pointer (some ⟨y.wp, 0, none⟩)) M rfl rfl rfl rfl rfl ?_; clear M; intro V pw M; simp only [Act.put, kA, kZ, kS]; have c1 := kc1 (M.get 0 rfl); have c2 := kc2 (M.get 1 rfl))
   | (go_at_call 103; refine (HN.out _ _ M).mono ?_; rintro e V ⟨rfl, K⟩; replace M := M.keeps K; clear K c1 c2; have c1 := kc1 (M.get 0 rfl); have c2 := kc2 (M.get 1 rfl))
   | (refine om_alloc 5 (instC fun _ => 0) M rfl rfl rfl (fun _ => by kernel_rfl) ?_; clear M c1 c2; intro V pi M; simp only [Act.put, kA, kZ, kS]; have c1 := kc1 (M.get 1 rfl); have c2 := kc2 (M.get 2 rfl))
   | (refine at_store (.tmp 5) (.tmp 21) rfl ?_; refine om_store_row 0 (.tmp 5) (.tmp 21) (cs' := #[Value.int .i64 12, .int .i64 (aN : Int), .int .i64 (bN : Int), .int .i64 (b3 : Int)]) M rfl rfl rfl rfl rfl rfl (by kernel_rfl) (by rfl) HIC.out ?_; clear M c1 c2; intro V M; simp only [kZ] at M; have c1 := kc1 (M.get 1 rfl); have c2 := kc2 (M.get 2 rfl); have c3 := (M.get 0 rfl).cell)
   | (refine om_alloc 7 (evC ⟨0, 0, 0, 0, false⟩) M rfl rfl rfl (fun _ => by kernel_rfl) ?_; clear M c1 c2 c3; intro V pe M; simp only [Act.put, kA, kZ, kS]; have c1 := kc1 (M.get 2 rfl); have c2 := kc2 (M.get 3 rfl); have c3 := (M.get 1 rfl).cell)
   | (refine at_store (.tmp 7) (.tmp 26) rfl ?_; refine om_store_row 0 (.tmp 7) (.tmp 26) (cs' := evC ⟨k, 12, 0, 0, false⟩) M rfl rfl rfl rfl rfl rfl (by kernel_rfl) (by rfl) (evC_cell _) ?_; clear M c1 c2 c3; intro V M; simp only [kZ] at M; have c1 := kc1 (M.get 2 rfl); have c2 := kc2 (M.get 3 rfl); have c3 := (M.get 1 rfl).cell)
   | (refine om_alloc1 8 .nilFunc M rfl rfl rfl (fun _ => by kernel_rfl) rfl ?_; clear M c1 c2 c3; intro V pt M; simp only [Act.put, kA, kZ, kS]; have c1 := kc1 (M.get 3 rfl); have c2 := kc2 (M.get 4 rfl); have c3 := (M.get 2 rfl).cell)
   | (refine at_store (.tmp 8) (.tmp 27) rfl ?_; refine om_store 0 0 (Value.func (.func 105) #[] #[.pointer (some ⟨pw, 0, none⟩), .pointer (some ⟨pe, 0, none⟩)]) (.tmp 8) (.tmp 27) M rfl rfl rfl rfl rfl rfl (by show 0 < 1; omega) rfl rfl (by kernel_rfl) rfl ?_; clear M c1 c2 c3; intro V M; simp only [kZ] at M; have c1 := kc1 (M.get 3 rfl); have c2 := kc2 (M.get 4 rfl); have c3 := (M.get 2 rfl).cell; have c4 : V.cell? ⟨gw, k * 10 + 1, none⟩ = some (.int .i64 (rs k).pos) := ((M.get 5 rfl).cell _).trans (HC.out.pos HK.out); have c5 := kc1 (M.get 0 rfl)))
 have ci : ∀ (p : Later V) i, p.1.cell? ⟨pi, i, none⟩ = #[Value.int .i64 12, .int .i64 (aN : Int), .int .i64 (bN : Int), .int .i64 (b3 : Int)][i]? := Later.cell (M.get 2 rfl)
 have cpw : ∀ p : Later V, p.1.cell? ⟨pw, 0, none⟩ = some (.pointer (some ⟨y.wp, 0, none⟩)) := fun p => (Later.cell (M.get 3 rfl) p _)
 have cra : ∀ p : Later V, p.1.cell? ⟨gw, k * 10 + 2 + aN, none⟩ = some (.int .i64 ((rs k).rg aN)) := fun p => (Later.cell (M.get 5 rfl) p _).trans (HC.out.reg HK.out HR.out.1)
 have HV := Lib.hid (fun p : Later V => by have h := wcell_any (Later.blk (M.get 4 rfl) p.1 ⟨p, rfl⟩) ((rs k).rg aN) HE.out.1 HE.out.2; rw [HM7.out] at h; exact h)
 refine wp_quiet_tail_later 10 (by kernel_rfl) (by kernel_rfl) ?_
 simp only [List.take, List.drop]
 repeat (first
   | go_big_quiet_skip
   | go_big_quiet_step ((go_at_call 107; exact later_of (HV.out _))))
 refine kq fun p' => ?_
 replace M := M.keeps p'.2
 clear c1 c2 c3 c4 c5 ci cpw cra HV
 generalize p'.1 = V at M ⊢
 go_wp2_with (first
   | go_big_skip
   | (refine at_store (.tmp 119) (.tmp 118) rfl ?_; refine om_store 1 2 (.int .i64 (x : Int)) (.tmp 119) (.tmp 118) M rfl rfl rfl rfl rfl rfl (by show 2 < 5; omega) rfl rfl (by kernel_rfl) (cs' := evC ⟨k, 12, x, 0, false⟩) rfl ?_; clear M; intro V M; simp only [kZ, kS] at M; have c1 := kc1 (M.get 3 rfl); have c2 := kc2 (M.get 4 rfl); have c3 := (M.get 2 rfl).cell; have c4 : V.cell? ⟨gw, k * 10 + 1, none⟩ = some (.int .i64 (rs k).pos) := ((M.get 5 rfl).cell _).trans (HC.out.pos HK.out); have c5 := kc1 (M.get 0 rfl)))
 have ci : ∀ (p : Later V) i, p.1.cell? ⟨pi, i, none⟩ = #[Value.int .i64 12, .int .i64 (aN : Int), .int .i64 (bN : Int), .int .i64 (b3 : Int)][i]? := Later.cell (M.get 2 rfl)
 have cw' : ∀ (p : Later V) i, p.1.cell? ⟨y.wp, i, none⟩ = #[Value.pointer (some ⟨y.ps, 0, none⟩), .slice (some ⟨gw, 0, none⟩) n cw, .slice (some ⟨y.bp, 0, none⟩) S.nr S.nr, .slice (some ⟨y.bl, 0, none⟩) y.lk y.lk, .slice (some ⟨y.bg, 0, none⟩) y.gr y.gr, .slice (some ⟨y.bc, 0, none⟩) y.ce y.ce, evs][i]? := Later.cell (M.get 4 rfl)
 have cpw : ∀ p : Later V, p.1.cell? ⟨pw, 0, none⟩ = some (.pointer (some ⟨y.wp, 0, none⟩)) := fun p => (Later.cell (M.get 3 rfl) p _)
 have ce' : ∀ (p : Later V) i, p.1.cell? ⟨pe, i, none⟩ = #[Value.int .i64 (k : Int), .int .i64 12, .int .i64 (x : Int), .int .i64 0, .bool false][i]? := Later.cell (M.get 1 rfl)
 have cc : ∀ p : Later V, p.1.cell? ⟨y.bc, x, none⟩ = some (.int .i64 (ce x)) := fun p => (Later.cell (M.get 9 rfl) p _).trans (arrI_get _ _ _ HX.out)
 have ac := add_zero_ y.bc x
 refine wp_quiet_tail_later 14 (by kernel_rfl) (by kernel_rfl) ?_
 simp only [List.take, List.drop]
 repeat (first | go_big_quiet_skip | go_big_quiet_step (fail))
 refine kq fun p' => ?_
 replace M := M.keeps p'.2
 clear c1 c2 c3 c4 c5 ci cw' cpw ce' cc ac
 generalize p'.1 = V at M ⊢
 go_wp2_with (first
   | go_big_skip
   | (refine at_store (.tmp 136) (.tmp 133) rfl ?_; refine om_store 5 (k * 10 + 2 + bN) (.int .i64 (ce x)) (.tmp 136) (.tmp 133) M rfl rfl rfl rfl rfl rfl (by have := HC.out.lt HK.out (f := 2 + bN) (by have := HR.out; omega); omega) rfl rfl (by kernel_rfl) rfl ?_; clear M; intro V M; simp only [kZ, kS] at M; have c1 := kc1 (M.get 3 rfl); have c2 := kc2 (M.get 4 rfl); have c3 := (M.get 2 rfl).cell; have c5 := kc1 (M.get 0 rfl); have c6 : V.cell? ⟨gw, k * 10 + 2 + bN, none⟩ = some (.int .i64 (ce x)) := by have h := (HC.out.set_reg (ce x) HK.out HR.out.2).reg HK.out HR.out.2; exact ((M.get 5 rfl).cell _).trans (by simpa [setReg] using h)))
 have ci : ∀ (p : Later V) i, p.1.cell? ⟨pi, i, none⟩ = #[Value.int .i64 12, .int .i64 (aN : Int), .int .i64 (bN : Int), .int .i64 (b3 : Int)][i]? := Later.cell (M.get 2 rfl)
 have cw' : ∀ (p : Later V) i, p.1.cell? ⟨y.wp, i, none⟩ = #[Value.pointer (some ⟨y.ps, 0, none⟩), .slice (some ⟨gw, 0, none⟩) n cw, .slice (some ⟨y.bp, 0, none⟩) S.nr S.nr, .slice (some ⟨y.bl, 0, none⟩) y.lk y.lk, .slice (some ⟨y.bg, 0, none⟩) y.gr y.gr, .slice (some ⟨y.bc, 0, none⟩) y.ce y.ce, evs][i]? := Later.cell (M.get 4 rfl)
 have cpw : ∀ p : Later V, p.1.cell? ⟨pw, 0, none⟩ = some (.pointer (some ⟨y.wp, 0, none⟩)) := fun p => (Later.cell (M.get 3 rfl) p _)
 have ce' : ∀ (p : Later V) i, p.1.cell? ⟨pe, i, none⟩ = #[Value.int .i64 (k : Int), .int .i64 12, .int .i64 (x : Int), .int .i64 0, .bool false][i]? := Later.cell (M.get 1 rfl)
 have crb : ∀ p : Later V, p.1.cell? ⟨gw, k * 10 + 2 + bN, none⟩ = some (.int .i64 (ce x)) := fun p => (Later.cell (M.get 5 rfl) p _).trans (by have h := (HC.out.set_reg (ce x) HK.out HR.out.2).reg HK.out HR.out.2; simpa [setReg] using h)
 have ac := add_zero_ y.bc x
 refine wp_quiet_tail_later 14 (by kernel_rfl) (by kernel_rfl) ?_
 simp only [List.take, List.drop]
 repeat (first | go_big_quiet_skip | go_big_quiet_step (fail))
 refine kq fun p' => ?_
 replace M := M.keeps p'.2
 clear c1 c2 c3 c5 c6 ci cw' cpw ce' crb ac
 generalize p'.1 = V at M ⊢
 have HCR := Lib.hid (show V.cell? ⟨gw, k * 10 + 2 + bN, none⟩ = some (.int .i64 (ce x)) from ((M.get 5 rfl).cell _).trans (by have h := (HC.out.set_reg (ce x) HK.out HR.out.2).reg HK.out HR.out.2; simpa [setReg] using h))
 clear HCR
 go_wp2_with (first
   | go_big_skip
   | (refine at_store (.tmp 150) (.tmp 149) rfl ?_; refine om_store 9 x (.int .i64 (ce x)) (.tmp 150) (.tmp 149) M rfl rfl rfl rfl rfl rfl (by rw [arrI_size]; exact HX.out) rfl rfl (by kernel_rfl) (arrI_set _ _ _ _) ?_; clear M; intro V M; simp only [kZ, kS] at M; have c1 := kc1 (M.get 3 rfl); have c2 := kc2 (M.get 4 rfl); have c3 := (M.get 2 rfl).cell; have c5 := kc1 (M.get 0 rfl)))
 have ci : ∀ (p : Later V) i, p.1.cell? ⟨pi, i, none⟩ = #[Value.int .i64 12, .int .i64 (aN : Int), .int .i64 (bN : Int), .int .i64 (b3 : Int)][i]? := Later.cell (M.get 2 rfl)
 have crb : ∀ p : Later V, p.1.cell? ⟨gw, k * 10 + 2 + bN, none⟩ = some (.int .i64 (ce x)) := fun p => (Later.cell (M.get 5 rfl) p _).trans (by have h := (HC.out.set_reg (ce x) HK.out HR.out.2).reg HK.out HR.out.2; simpa [setReg] using h)
 refine wp_quiet_tail_later 8 (by kernel_rfl) (by kernel_rfl) ?_
 simp only [List.take, List.drop]
 repeat (first | go_big_quiet_skip | go_big_quiet_step (fail))
 refine kq fun p' => ?_
 replace M := M.keeps p'.2
 clear c1 c2 c3 c5 ci crb
 generalize p'.1 = V at M ⊢
 go_wp2_with (first
   | go_big_skip
   | (refine at_store (.tmp 158) (.tmp 157) rfl ?_; refine om_store 1 3 (.int .i64 (ce x)) (.tmp 158) (.tmp 157) M rfl rfl rfl rfl rfl rfl (by show 3 < 5; omega) rfl rfl (by kernel_rfl) (cs' := evC ⟨k, 12, x, (ce x), false⟩) rfl ?_; clear M; intro V M; simp only [kZ, kS] at M; have c1 := kc1 (M.get 3 rfl); have c2 := kc2 (M.get 4 rfl); have c3 := (M.get 2 rfl).cell; have c5 := kc1 (M.get 0 rfl))
   | (refine at_store (.tmp 221) (.tmp 219) rfl ?_; refine om_store 5 (k * 10 + 1) (.int .i64 (((rs k).pos : Int) + 1)) (.tmp 221) (.tmp 219) M rfl rfl rfl rfl rfl rfl (by have := HC.out.lt HK.out (f := 1) (by omega); simpa using this) rfl rfl (by kernel_rfl) (cs' := (cur.setIfInBounds (k * 10 + 2 + bN) (.int .i64 (ce x))).setIfInBounds (k * 10 + 1) (.int .i64 (((rs k).pos + 1 : Nat) : Int))) (by simp) ?_; clear M c1 c2 c3 c5; intro V M; simp only [kZ, kS] at M; have c1 := kc1 (M.get 3 rfl); have c2 := kc2 (M.get 4 rfl); have c3 := (M.get 2 rfl).cell; have c5 := kc1 (M.get 0 rfl))
   | (go_at_call 105; refine (tell_any M ⟨k, 12, x, (ce x), false⟩ (i := 3) (j := 1) (k := 4) rfl rfl rfl hn).mono ?_; rintro ev V ⟨rfl, v', M⟩; have HM := Lib.hid M; clear M))
 go_end0
 have eself : updI ce x (ce x) = ce := by funext j; unfold updI; split <;> simp_all
 rw [eself] at HM
 exact ⟨rfl, gw, cw, _, _, hv, HM.out.drop_ 4, (((HC.out.set_reg _ HK.out HR.out.2).set_pos HK.out).congr fun j hj => by by_cases h : j = k <;> simp [h]), H1.out, H2.out, by simpa using H3.out⟩
set_option maxRecDepth 100000 in
set_option maxHeartbeats 2000000 in
theorem st_14f  (M : OM w W ((y.wp, 110, wpC y S.nr gw n cw evs) :: (gw, 174, cur) :: (y.bp, 186, pipesA S.nr hv cl) :: (y.bl, 4, arrB y.lk lk) :: (y.bg, 3, arrI y.gr gr) :: (y.bc, 3, arrI y.ce ce) :: (y.ps, 27, sysV S A c R d) :: Lr) ⟨evs, E, S.nr, hv, held⟩) (hC : WhoC cur n rs) (hk : k < n) (hS : SysIn w S A c R d) (hp : (rs k).prog < S.np) (hl : S.lp (rs k).prog ≤ 256) (hn : E.length ≤ 100000) (h1 : n ≤ cw) (h2 : cw ≤ maxLen) (h3 : cur.size = cw * 10) {f : Nat → Int} (hI : instP S (rs k) = some f) (e0 : f 0 = 14) (e1 : f 1 = (aN : Int)) (e2 : f 2 = (b : Int)) (e3 : f 3 = (b3 : Int)) (hN : 512 ≤ n) : Calls Try.prog 91 #[.pointer (some ⟨y.wp, 0, none⟩), .int .i64 (k : Int)] W fun ev W' => ev = .panicked [{ v := .iface 22 (.int .i64 135), recovered := false }] ∧ InW w W' S A c R d y Lr ⟨n, rs, held, cl, lk, gr, ce, E ++ [⟨k, 14, aN, 0, false⟩]⟩ := by
 have HN := Lib.hid (show ∀ V pw, OM w V ((pw, 104, #[.pointer (some ⟨y.wp, 0, none⟩)]) :: ((y.wp, 110, wpC y S.nr gw n cw evs) :: (gw, 174, cur) :: (y.bp, 186, pipesA S.nr hv cl) :: (y.bl, 4, arrB y.lk lk) :: (y.bg, 3, arrI y.gr gr) :: (y.bc, 3, arrI y.ce ce) :: (y.ps, 27, sysV S A c R d) :: Lr)) ⟨evs, E, S.nr, hv, held⟩ → Calls Try.prog 103 #[.pointer (some ⟨y.wp, 0, none⟩), .pointer (some ⟨gw, k * 10, none⟩)] V fun e W' => e = .returned (.tuple #[.agg #[Value.int .i64 14, .int .i64 (aN : Int), .int .i64 (b : Int), .int .i64 (b3 : Int)], .bool true]) ∧ Keeps V W' [] from fun V pw M => by
   have := wnext_any (M.get 1 rfl) (M.get 2 rfl) (M.get 7 rfl) (hS.kept M.own.keep) hC hk hp
   rw [hI] at this
   simpa [instV, instC, e0, e1, e2, e3] using this)
 have HIC := Lib.hid (show ∀ v ∈ (#[Value.int .i64 14, .int .i64 (aN : Int), .int .i64 (b : Int), .int .i64 (b3 : Int)]).toList, v.oneCell' = true from by
   have := instC_cell f
   simpa [instC, e0, e1, e2, e3] using this)
 have g1 : (k : Int) < n := by omega
 have g2 : (0 : Int) ≤ k := by omega
 have hpos : (rs k).pos < S.lp (rs k).prog := by
   unfold instP at hI
   split at hI
   · assumption
   · cases hI
 have g3 : ((rs k).pos : Int) < 256 := by omega
 have g4 : (0 : Int) ≤ (rs k).pos := by omega
 have HC := Lib.hid hC
 have HK := Lib.hid hk
 have HS := Lib.hid hS
 have HP := Lib.hid hp
 have HPos := Lib.hid hpos
 have H1 := Lib.hid h1
 have H2 := Lib.hid h2
 have H3 := Lib.hid h3
 have ak := add_zero_ gw (k * 10)
 have hmf := kf3
 clear hC hk hS hp hl hI e0 e1 e2 e3 h1 h2 h3 hpos
 have g5 : (512 : Int) ≤ n := by omega
 clear hN
 go_enter Try.func91, Try.ntmps91
 go_wp2_with (first
   | go_big_skip
   | (refine om_box1 2 (.pointer (some ⟨y.wp, 0, none⟩)) M rfl rfl rfl rfl rfl ?_; clear M; intro V pw M; simp only [Act.put, kA, kZ, kS]; have c1 := kc1 (M.get 0 rfl); have c2 := kc2 (M.get 1 rfl))
   | (go_at_call 103; refine (HN.out _ _ M).mono ?_; rintro e V ⟨rfl, K⟩; replace M := M.keeps K; clear K c1 c2; have c1 := kc1 (M.get 0 rfl); have c2 := kc2 (M.get 1 rfl))
   | (refine om_alloc 5 (instC fun _ => 0) M rfl rfl rfl (fun _ => by kernel_rfl) ?_; clear M c1 c2; intro V pi M; simp only [Act.put, kA, kZ, kS]; have c1 := kc1 (M.get 1 rfl); have c2 := kc2 (M.get 2 rfl))
   | (refine at_store (.tmp 5) (.tmp 21) rfl ?_; refine om_store_row 0 (.tmp 5) (.tmp 21) (cs' := #[Value.int .i64 14, .int .i64 (aN : Int), .int .i64 (b : Int), .int .i64 (b3 : Int)]) M rfl rfl rfl rfl rfl rfl (by kernel_rfl) (by rfl) HIC.out ?_; clear M c1 c2; intro V M; simp only [kZ] at M; have c1 := kc1 (M.get 1 rfl); have c2 := kc2 (M.get 2 rfl); have c3 := (M.get 0 rfl).cell)
   | (refine om_alloc 7 (evC ⟨0, 0, 0, 0, false⟩) M rfl rfl rfl (fun _ => by kernel_rfl) ?_; clear M c1 c2 c3; intro V pe M; simp only [Act.put, kA, kZ, kS]; have c1 := kc1 (M.get 2 rfl); have c2 := kc2 (M.get 3 rfl); have c3 := (M.get 1 rfl).cell)
   | (refine at_store (.tmp 7) (.tmp 26) rfl ?_; refine om_store_row 0 (.tmp 7) (.tmp 26) (cs' := evC ⟨k, 14, 0, 0, false⟩) M rfl rfl rfl rfl rfl rfl (by kernel_rfl) (by rfl) (evC_cell _) ?_; clear M c1 c2 c3; intro V M; simp only [kZ] at M; have c1 := kc1 (M.get 2 rfl); have c2 := kc2 (M.get 3 rfl); have c3 := (M.get 1 rfl).cell)
   | (refine om_alloc1 8 .nilFunc M rfl rfl rfl (fun _ => by kernel_rfl) rfl ?_; clear M c1 c2 c3; intro V pt M; simp only [Act.put, kA, kZ, kS]; have c1 := kc1 (M.get 3 rfl); have c2 := kc2 (M.get 4 rfl); have c3 := (M.get 2 rfl).cell)
   | (refine at_store (.tmp 8) (.tmp 27) rfl ?_; refine om_store 0 0 (Value.func (.func 105) #[] #[.pointer (some ⟨pw, 0, none⟩), .pointer (some ⟨pe, 0, none⟩)]) (.tmp 8) (.tmp 27) M rfl rfl rfl rfl rfl rfl (by show 0 < 1; omega) rfl rfl (by kernel_rfl) rfl ?_; clear M c1 c2 c3; intro V M; simp only [kZ] at M; have c1 := kc1 (M.get 3 rfl); have c2 := kc2 (M.get 4 rfl); have c3 := (M.get 2 rfl).cell; have c4 : V.cell? ⟨gw, k * 10 + 1, none⟩ = some (.int .i64 (rs k).pos) := ((M.get 5 rfl).cell _).trans (HC.out.pos HK.out); have c5 := kc1 (M.get 0 rfl))
   | (refine at_store (.tmp 161) (.tmp 160) rfl ?_; refine om_store 1 2 (.int .i64 (aN : Int)) (.tmp 161) (.tmp 160) M rfl rfl rfl rfl rfl rfl (by show 2 < 5; omega) rfl rfl (by kernel_rfl) (cs' := evC ⟨k, 14, aN, 0, false⟩) rfl ?_; clear M; intro V M; simp only [kZ, kS] at M; have c1 := kc1 (M.get 3 rfl); have c2 := kc2 (M.get 4 rfl); have c3 := (M.get 2 rfl).cell; have c4 : V.cell? ⟨gw, k * 10 + 1, none⟩ = some (.int .i64 (rs k).pos) := ((M.get 5 rfl).cell _).trans (HC.out.pos HK.out); have c5 := kc1 (M.get 0 rfl))
   | (go_at_call 106; refine (fail_any M ⟨k, 14, aN, 0, false⟩ (i := 3) (j := 1) (k := 4) (m := 0) rfl rfl rfl rfl hn 135).mono ?_; rintro ev V ⟨rfl, v', M⟩; have HM := Lib.hid M; clear M))
 exact ⟨rfl, rfl, gw, cw, _, _, hv, HM.out.drop_ 4, HC.out, H1.out, H2.out, H3.out⟩
end
end Go.Proofs.Ytakmcpadkanggaa
