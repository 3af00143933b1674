/-
 Part 10 of what this claim rests on.
-/
import Derived.Test.YtakmcpadkanggaaOd9
namespace Go.Proofs.Ytakmcpadkanggaa
open Go.RowKit Go.Maps Go.Deep
section
variable {w W : World} {Lr : List Ent} {S : Sys} {A : Option Addr} {c : Nat} {R : Option Addr} {d : Nat} {y : Ly} {gw n cw k aN bN cN : Nat} {cur : Array Value} {evs : Value} {E : List Ev} {rs : Nat → Rn} {hv : Nat → Value} {held : Nat → List Int} {cl : Nat → Bool} {lk : Int → Bool} {gr ce : Int → Int} {b b3 : Int}
theorem kc1 {V : World} {g t : Nat} {v : Value} (h : Blk V g t #[v]) : V.cell? ⟨g, 0, none⟩ = some v := h.cell 0
theorem kc2 {V : World} {y : Ly} {nr gw n cw t : Nat} {evs : Value} (h : Blk V y.wp t (wpC y nr gw n cw evs)) : V.cell? ⟨y.wp, 1, none⟩ = some (.slice (some ⟨gw, 0, none⟩) n cw) := h.cell 1
theorem kf3 : ∀ (fn : Fn) (first cap : Array Value) (w : World), (Instr.makeFunc fn first cap).run Try.prog w = .ok (.func fn first cap) w := fun _ _ _ _ => rfl
set_option maxRecDepth 100000 in
set_option maxHeartbeats 2000000 in
theorem st_8  (M : OM w W ((y.wp, 110, wpC y S.nr gw n cw evs) :: (gw, 174, cur) :: (y.bp, 186, pipesA S.nr hv cl) :: (y.bl, 4, arrB y.lk lk) :: (y.bg, 3, arrI y.gr gr) :: (y.bc, 3, arrI y.ce ce) :: (y.ps, 27, sysV S A c R d) :: Lr) ⟨evs, E, S.nr, hv, held⟩) (hC : WhoC cur n rs) (hk : k < n) (hS : SysIn w S A c R d) (hp : (rs k).prog < S.np) (hl : S.lp (rs k).prog ≤ 256) (hn : E.length ≤ 100000) (h1 : n ≤ cw) (h2 : cw ≤ maxLen) (h3 : cur.size = cw * 10) {f : Nat → Int} (hI : instP S (rs k) = some f) (e0 : f 0 = 8) (e1 : f 1 = (aN : Int)) (e2 : f 2 = (b : Int)) (e3 : f 3 = (b3 : Int)) (ha : aN < y.lk) : Calls Try.prog 91 #[.pointer (some ⟨y.wp, 0, none⟩), .int .i64 (k : Int)] W fun ev W' => ev = .returned (.tuple #[]) ∧ InW w W' S A c R d y Lr ⟨n, fun j => if j = k then { rs k with pos := (rs k).pos + 1 } else rs j, held, cl, updI lk aN true, gr, ce, E ++ [⟨k, 8, aN, 0, false⟩]⟩ := by
 have HN := Lib.hid (show ∀ V pw, OM w V ((pw, 104, #[.pointer (some ⟨y.wp, 0, none⟩)]) :: ((y.wp, 110, wpC y S.nr gw n cw evs) :: (gw, 174, cur) :: (y.bp, 186, pipesA S.nr hv cl) :: (y.bl, 4, arrB y.lk lk) :: (y.bg, 3, arrI y.gr gr) :: (y.bc, 3, arrI y.ce ce) :: (y.ps, 27, sysV S A c R d) :: Lr)) ⟨evs, E, S.nr, hv, held⟩ → Calls Try.prog 103 #[.pointer (some ⟨y.wp, 0, none⟩), .pointer (some ⟨gw, k * 10, none⟩)] V fun e W' => e = .returned (.tuple #[.agg #[Value.int .i64 8, .int .i64 (aN : Int), .int .i64 (b : Int), .int .i64 (b3 : Int)], .bool true]) ∧ Keeps V W' [] from fun V pw M => by
   have := wnext_any (M.get 1 rfl) (M.get 2 rfl) (M.get 7 rfl) (hS.kept M.own.keep) hC hk hp
   rw [hI] at this
   simpa [instV, instC, e0, e1, e2, e3] using this)
 have HIC := Lib.hid (show ∀ v ∈ (#[Value.int .i64 8, .int .i64 (aN : Int), .int .i64 (b : Int), .int .i64 (b3 : Int)]).toList, v.oneCell' = true from by
   have := instC_cell f
   simpa [instC, e0, e1, e2, e3] using this)
 have g1 : (k : Int) < n := by omega
 have g2 : (0 : Int) ≤ k := by omega
 have hpos : (rs k).pos < S.lp (rs k).prog := by
   unfold instP at hI
   split at hI
   · assumption
   · cases hI
 have g3 : ((rs k).pos : Int) < 256 := by omega
 have g4 : (0 : Int) ≤ (rs k).pos := by omega
 have HC := Lib.hid hC
 have HK := Lib.hid hk
 have HS := Lib.hid hS
 have HP := Lib.hid hp
 have HPos := Lib.hid hpos
 have H1 := Lib.hid h1
 have H2 := Lib.hid h2
 have H3 := Lib.hid h3
 have ak := add_zero_ gw (k * 10)
 have hmf := kf3
 clear hC hk hS hp hl hI e0 e1 e2 e3 h1 h2 h3 hpos
 have HA := Lib.hid ha
 clear ha
 go_enter Try.func91, Try.ntmps91
 go_wp2_with (first
   | go_big_skip
   | (refine om_box1 2 (.pointer (some ⟨y.wp, 0, none⟩)) M rfl rfl rfl rfl rfl ?_; clear M; intro V pw M; simp only [Act.put, kA, kZ, kS]; have c1 := kc1 (M.get 0 rfl); have c2 := kc2 (M.get 1 rfl))
   | (go_at_call 103; refine (HN.out _ _ M).mono ?_; rintro e V ⟨rfl, K⟩; replace M := M.keeps K; clear K c1 c2; have c1 := kc1 (M.get 0 rfl); have c2 := kc2 (M.get 1 rfl))
   | (refine om_alloc 5 (instC fun _ => 0) M rfl rfl rfl (fun _ => by kernel_rfl) ?_; clear M c1 c2; intro V pi M; simp only [Act.put, kA, kZ, kS]; have c1 := kc1 (M.get 1 rfl); have c2 := kc2 (M.get 2 rfl))
   | (refine at_store (.tmp 5) (.tmp 21) rfl ?_; refine om_store_row 0 (.tmp 5) (.tmp 21) (cs' := #[Value.int .i64 8, .int .i64 (aN : Int), .int .i64 (b : Int), .int .i64 (b3 : Int)]) M rfl rfl rfl rfl rfl rfl (by kernel_rfl) (by rfl) HIC.out ?_; clear M c1 c2; intro V M; simp only [kZ] at M; have c1 := kc1 (M.get 1 rfl); have c2 := kc2 (M.get 2 rfl); have c3 := (M.get 0 rfl).cell)
   | (refine om_alloc 7 (evC ⟨0, 0, 0, 0, false⟩) M rfl rfl rfl (fun _ => by kernel_rfl) ?_; clear M c1 c2 c3; intro V pe M; simp only [Act.put, kA, kZ, kS]; have c1 := kc1 (M.get 2 rfl); have c2 := kc2 (M.get 3 rfl); have c3 := (M.get 1 rfl).cell)
   | (refine at_store (.tmp 7) (.tmp 26) rfl ?_; refine om_store_row 0 (.tmp 7) (.tmp 26) (cs' := evC ⟨k, 8, 0, 0, false⟩) M rfl rfl rfl rfl rfl rfl (by kernel_rfl) (by rfl) (evC_cell _) ?_; clear M c1 c2 c3; intro V M; simp only [kZ] at M; have c1 := kc1 (M.get 2 rfl); have c2 := kc2 (M.get 3 rfl); have c3 := (M.get 1 rfl).cell)
   | (refine om_alloc1 8 .nilFunc M rfl rfl rfl (fun _ => by kernel_rfl) rfl ?_; clear M c1 c2 c3; intro V pt M; simp only [Act.put, kA, kZ, kS]; have c1 := kc1 (M.get 3 rfl); have c2 := kc2 (M.get 4 rfl); have c3 := (M.get 2 rfl).cell)
   | (refine at_store (.tmp 8) (.tmp 27) rfl ?_; refine om_store 0 0 (Value.func (.func 105) #[] #[.pointer (some ⟨pw, 0, none⟩), .pointer (some ⟨pe, 0, none⟩)]) (.tmp 8) (.tmp 27) M rfl rfl rfl rfl rfl rfl (by show 0 < 1; omega) rfl rfl (by kernel_rfl) rfl ?_; clear M c1 c2 c3; intro V M; simp only [kZ] at M; have c1 := kc1 (M.get 3 rfl); have c2 := kc2 (M.get 4 rfl); have c3 := (M.get 2 rfl).cell; have c4 : V.cell? ⟨gw, k * 10 + 1, none⟩ = some (.int .i64 (rs k).pos) := ((M.get 5 rfl).cell _).trans (HC.out.pos HK.out); have c5 := kc1 (M.get 0 rfl))
   | (refine at_store (.tmp 211) (.tmp 210) rfl ?_; refine om_store 1 2 (.int .i64 aN) (.tmp 211) (.tmp 210) M rfl rfl rfl rfl rfl rfl (by show 2 < 5; omega) rfl rfl (by kernel_rfl) (cs' := evC ⟨k, 8, aN, 0, false⟩) rfl ?_; clear M c1 c2 c3 c4 c5; intro V M; simp only [kZ, kS] at M; have c1 := kc1 (M.get 3 rfl); have c2 := kc2 (M.get 4 rfl); have c3 := (M.get 2 rfl).cell; have c5 := kc1 (M.get 0 rfl))
   | (refine om_load 214 2 M rfl rfl rfl rfl rfl Try.underlying99 rfl (by kernel_rfl) ?_; simp only [Act.put, kA, kZ, kS])
   | (go_at_call 108; refine (sh_8 M HA.out).mono ?_; rintro e V ⟨rfl, M⟩; clear c1 c2 c3 c5; have c1 := kc1 (M.get 3 rfl); have c2 := kc2 (M.get 4 rfl); have c3 := (M.get 2 rfl).cell; have c5 := kc1 (M.get 0 rfl))
   | (refine at_store (.tmp 221) (.tmp 219) rfl ?_; refine om_store 5 (k * 10 + 1) (.int .i64 (((rs k).pos : Int) + 1)) (.tmp 221) (.tmp 219) M rfl rfl rfl rfl rfl rfl (by have := HC.out.lt HK.out (f := 1) (by omega); simpa using this) rfl rfl (by kernel_rfl) (cs' := (cur).setIfInBounds (k * 10 + 1) (.int .i64 (((rs k).pos + 1 : Nat) : Int))) (by simp) ?_; clear M c1 c2 c3 c5; intro V M; simp only [kZ, kS] at M; have c1 := kc1 (M.get 3 rfl); have c2 := kc2 (M.get 4 rfl); have c3 := (M.get 2 rfl).cell; have c5 := kc1 (M.get 0 rfl))
   | (go_at_call 105; refine (tell_any M ⟨k, 8, aN, 0, false⟩ (i := 3) (j := 1) (k := 4) rfl rfl rfl hn).mono ?_; rintro ev V ⟨rfl, v', M⟩; have HM := Lib.hid M; clear M))
 go_end0
 exact ⟨rfl, gw, cw, _, _, hv, HM.out.drop_ 4, HC.out.set_pos HK.out, H1.out, H2.out, by simpa using H3.out⟩
set_option maxRecDepth 100000 in
set_option maxHeartbeats 2000000 in
theorem st_9t  (M : OM w W ((y.wp, 110, wpC y S.nr gw n cw evs) :: (gw, 174, cur) :: (y.bp, 186, pipesA S.nr hv cl) :: (y.bl, 4, arrB y.lk lk) :: (y.bg, 3, arrI y.gr gr) :: (y.bc, 3, arrI y.ce ce) :: (y.ps, 27, sysV S A c R d) :: Lr) ⟨evs, E, S.nr, hv, held⟩) (hC : WhoC cur n rs) (hk : k < n) (hS : SysIn w S A c R d) (hp : (rs k).prog < S.np) (hl : S.lp (rs k).prog ≤ 256) (hn : E.length ≤ 100000) (h1 : n ≤ cw) (h2 : cw ≤ maxLen) (h3 : cur.size = cw * 10) {f : Nat → Int} (hI : instP S (rs k) = some f) (e0 : f 0 = 9) (e1 : f 1 = (aN : Int)) (e2 : f 2 = (b : Int)) (e3 : f 3 = (b3 : Int)) (ha : aN < y.lk) (hcl : lk aN = true) : Calls Try.prog 91 #[.pointer (some ⟨y.wp, 0, none⟩), .int .i64 (k : Int)] W fun ev W' => ev = .returned (.tuple #[]) ∧ InW w W' S A c R d y Lr ⟨n, fun j => if j = k then { rs k with pos := (rs k).pos + 1 } else rs j, held, cl, updI lk aN false, gr, ce, E ++ [⟨k, 9, aN, 0, false⟩]⟩ := by
 have HN := Lib.hid (show ∀ V pw, OM w V ((pw, 104, #[.pointer (some ⟨y.wp, 0, none⟩)]) :: ((y.wp, 110, wpC y S.nr gw n cw evs) :: (gw, 174, cur) :: (y.bp, 186, pipesA S.nr hv cl) :: (y.bl, 4, arrB y.lk lk) :: (y.bg, 3, arrI y.gr gr) :: (y.bc, 3, arrI y.ce ce) :: (y.ps, 27, sysV S A c R d) :: Lr)) ⟨evs, E, S.nr, hv, held⟩ → Calls Try.prog 103 #[.pointer (some ⟨y.wp, 0, none⟩), .pointer (some ⟨gw, k * 10, none⟩)] V fun e W' => e = .returned (.tuple #[.agg #[Value.int .i64 9, .int .i64 (aN : Int), .int .i64 (b : Int), .int .i64 (b3 : Int)], .bool true]) ∧ Keeps V W' [] from fun V pw M => by
   have := wnext_any (M.get 1 rfl) (M.get 2 rfl) (M.get 7 rfl) (hS.kept M.own.keep) hC hk hp
   rw [hI] at this
   simpa [instV, instC, e0, e1, e2, e3] using this)
 have HIC := Lib.hid (show ∀ v ∈ (#[Value.int .i64 9, .int .i64 (aN : Int), .int .i64 (b : Int), .int .i64 (b3 : Int)]).toList, v.oneCell' = true from by
   have := instC_cell f
   simpa [instC, e0, e1, e2, e3] using this)
 have g1 : (k : Int) < n := by omega
 have g2 : (0 : Int) ≤ k := by omega
 have hpos : (rs k).pos < S.lp (rs k).prog := by
   unfold instP at hI
   split at hI
   · assumption
   · cases hI
 have g3 : ((rs k).pos : Int) < 256 := by omega
 have g4 : (0 : Int) ≤ (rs k).pos := by omega
 have HC := Lib.hid hC
 have HK := Lib.hid hk
 have HS := Lib.hid hS
 have HP := Lib.hid hp
 have HPos := Lib.hid hpos
 have H1 := Lib.hid h1
 have H2 := Lib.hid h2
 have H3 := Lib.hid h3
 have ak := add_zero_ gw (k * 10)
 have hmf := kf3
 clear hC hk hS hp hl hI e0 e1 e2 e3 h1 h2 h3 hpos
 have HA := Lib.hid ha
 have HCL := Lib.hid hcl
 clear ha hcl
 go_enter Try.func91, Try.ntmps91
 go_wp2_with (first
   | go_big_skip
   | (refine om_box1 2 (.pointer (some ⟨y.wp, 0, none⟩)) M rfl rfl rfl rfl rfl ?_; clear M; intro V pw M; simp only [Act.put, kA, kZ, kS]; have c1 := kc1 (M.get 0 rfl); have c2 := kc2 (M.get 1 rfl))
   | (go_at_call 103; refine (HN.out _ _ M).mono ?_; rintro e V ⟨rfl, K⟩; replace M := M.keeps K; clear K c1 c2; have c1 := kc1 (M.get 0 rfl); have c2 := kc2 (M.get 1 rfl))
   | (refine om_alloc 5 (instC fun _ => 0) M rfl rfl rfl (fun _ => by kernel_rfl) ?_; clear M c1 c2; intro V pi M; simp only [Act.put, kA, kZ, kS]; have c1 := kc1 (M.get 1 rfl); have c2 := kc2 (M.get 2 rfl))
   | (refine at_store (.tmp 5) (.tmp 21) rfl ?_; refine om_store_row 0 (.tmp 5) (.tmp 21) (cs' := #[Value.int .i64 9, .int .i64 (aN : Int), .int .i64 (b : Int), .int .i64 (b3 : Int)]) M rfl rfl rfl rfl rfl rfl (by kernel_rfl) (by rfl) HIC.out ?_; clear M c1 c2; intro V M; simp only [kZ] at M; have c1 := kc1 (M.get 1 rfl); have c2 := kc2 (M.get 2 rfl); have c3 := (M.get 0 rfl).cell)
   | (refine om_alloc 7 (evC ⟨0, 0, 0, 0, false⟩) M rfl rfl rfl (fun _ => by kernel_rfl) ?_; clear M c1 c2 c3; intro V pe M; simp only [Act.put, kA, kZ, kS]; have c1 := kc1 (M.get 2 rfl); have c2 := kc2 (M.get 3 rfl); have c3 := (M.get 1 rfl).cell)
   | (refine at_store (.tmp 7) (.tmp 26) rfl ?_; refine om_store_row 0 (.tmp 7) (.tmp 26) (cs' := evC ⟨k, 9, 0, 0, false⟩) M rfl rfl rfl rfl rfl rfl (by kernel_rfl) (by rfl) (evC_cell _) ?_; clear M c1 c2 c3; intro V M; simp only [kZ] at M; have c1 := kc1 (M.get 2 rfl); have c2 := kc2 (M.get 3 rfl); have c3 := (M.get 1 rfl).cell)
   | (refine om_alloc1 8 .nilFunc M rfl rfl rfl (fun _ => by kernel_rfl) rfl ?_; clear M c1 c2 c3; intro V pt M; simp only [Act.put, kA, kZ, kS]; have c1 := kc1 (M.get 3 rfl); have c2 := kc2 (M.get 4 rfl); have c3 := (M.get 2 rfl).cell)
   | (refine at_store (.tmp 8) (.tmp 27) rfl ?_; refine om_store 0 0 (Value.func (.func 105) #[] #[.pointer (some ⟨pw, 0, none⟩), .pointer (some ⟨pe, 0, none⟩)]) (.tmp 8) (.tmp 27) M rfl rfl rfl rfl rfl rfl (by show 0 < 1; omega) rfl rfl (by kernel_rfl) rfl ?_; clear M c1 c2 c3; intro V M; simp only [kZ] at M; have c1 := kc1 (M.get 3 rfl); have c2 := kc2 (M.get 4 rfl); have c3 := (M.get 2 rfl).cell; have c4 : V.cell? ⟨gw, k * 10 + 1, none⟩ = some (.int .i64 (rs k).pos) := ((M.get 5 rfl).cell _).trans (HC.out.pos HK.out); have c5 := kc1 (M.get 0 rfl))
   | (refine at_store (.tmp 211) (.tmp 210) rfl ?_; refine om_store 1 2 (.int .i64 aN) (.tmp 211) (.tmp 210) M rfl rfl rfl rfl rfl rfl (by show 2 < 5; omega) rfl rfl (by kernel_rfl) (cs' := evC ⟨k, 9, aN, 0, false⟩) rfl ?_; clear M c1 c2 c3 c4 c5; intro V M; simp only [kZ, kS] at M; have c1 := kc1 (M.get 3 rfl); have c2 := kc2 (M.get 4 rfl); have c3 := (M.get 2 rfl).cell; have c5 := kc1 (M.get 0 rfl))
   | (refine om_load 214 2 M rfl rfl rfl rfl rfl Try.underlying99 rfl (by kernel_rfl) ?_; simp only [Act.put, kA, kZ, kS])
   | (go_at_call 108; refine (sh_9t M HA.out HCL.out).mono ?_; rintro e V ⟨rfl, M⟩; clear c1 c2 c3 c5; have c1 := kc1 (M.get 3 rfl); have c2 := kc2 (M.get 4 rfl); have c3 := (M.get 2 rfl).cell; have c5 := kc1 (M.get 0 rfl))
   | (refine at_store (.tmp 221) (.tmp 219) rfl ?_; refine om_store 5 (k * 10 + 1) (.int .i64 (((rs k).pos : Int) + 1)) (.tmp 221) (.tmp 219) M rfl rfl rfl rfl rfl rfl (by have := HC.out.lt HK.out (f := 1) (by omega); simpa using this) rfl rfl (by kernel_rfl) (cs' := (cur).setIfInBounds (k * 10 + 1) (.int .i64 (((rs k).pos + 1 : Nat) : Int))) (by simp) ?_; clear M c1 c2 c3 c5; intro V M; simp only [kZ, kS] at M; have c1 := kc1 (M.get 3 rfl); have c2 := kc2 (M.get 4 rfl); have c3 := (M.get 2 rfl).cell; have c5 := kc1 (M.get 0 rfl))
   | (go_at_call 105; refine (tell_any M ⟨k, 9, aN, 0, false⟩ (i := 3) (j := 1) (k := 4) rfl rfl rfl hn).mono ?_; rintro ev V ⟨rfl, v', M⟩; have HM := Lib.hid M; clear M))
 go_end0
 exact ⟨rfl, gw, cw, _, _, hv, HM.out.drop_ 4, HC.out.set_pos HK.out, H1.out, H2.out, by simpa using H3.out⟩
set_option maxRecDepth 100000 in
set_option maxHeartbeats 2000000 in
theorem st_7o  (M : OM w W ((y.wp, 110, wpC y S.nr gw n cw evs) :: (gw, 174, cur) :: (y.bp, 186, pipesA S.nr hv cl) :: (y.bl, 4, arrB y.lk lk) :: (y.bg, 3, arrI y.gr gr) :: (y.bc, 3, arrI y.ce ce) :: (y.ps, 27, sysV S A c R d) :: Lr) ⟨evs, E, S.nr, hv, held⟩) (hC : WhoC cur n rs) (hk : k < n) (hS : SysIn w S A c R d) (hp : (rs k).prog < S.np) (hl : S.lp (rs k).prog ≤ 256) (hn : E.length ≤ 100000) (h1 : n ≤ cw) (h2 : cw ≤ maxLen) (h3 : cur.size = cw * 10) {f : Nat → Int} (hI : instP S (rs k) = some f) (e0 : f 0 = 7) (e1 : f 1 = (aN : Int)) (e2 : f 2 = (b : Int)) (e3 : f 3 = (b3 : Int)) (ha : aN < S.nr) (hcl : cl aN = false) : Calls Try.prog 91 #[.pointer (some ⟨y.wp, 0, none⟩), .int .i64 (k : Int)] W fun ev W' => ev = .returned (.tuple #[]) ∧ InW w W' S A c R d y Lr ⟨n, fun j => if j = k then { rs k with pos := (rs k).pos + 1 } else rs j, held, updN cl aN true, lk, gr, ce, E ++ [⟨k, 7, aN, 0, false⟩]⟩ := by
 have HN := Lib.hid (show ∀ V pw, OM w V ((pw, 104, #[.pointer (some ⟨y.wp, 0, none⟩)]) :: ((y.wp, 110, wpC y S.nr gw n cw evs) :: (gw, 174, cur) :: (y.bp, 186, pipesA S.nr hv cl) :: (y.bl, 4, arrB y.lk lk) :: (y.bg, 3, arrI y.gr gr) :: (y.bc, 3, arrI y.ce ce) :: (y.ps, 27, sysV S A c R d) :: Lr)) ⟨evs, E, S.nr, hv, held⟩ → Calls Try.prog 103 #[.pointer (some ⟨y.wp, 0, none⟩), .pointer (some ⟨gw, k * 10, none⟩)] V fun e W' => e = .returned (.tuple #[.agg #[Value.int .i64 7, .int .i64 (aN : Int), .int .i64 (b : Int), .int .i64 (b3 : Int)], .bool true]) ∧ Keeps V W' [] from fun V pw M => by
   have := wnext_any (M.get 1 rfl) (M.get 2 rfl) (M.get 7 rfl) (hS.kept M.own.keep) hC hk hp
   rw [hI] at this
   simpa [instV, instC, e0, e1, e2, e3] using this)
 have HIC := Lib.hid (show ∀ v ∈ (#[Value.int .i64 7, .int .i64 (aN : Int), .int .i64 (b : Int), .int .i64 (b3 : Int)]).toList, v.oneCell' = true from by
   have := instC_cell f
   simpa [instC, e0, e1, e2, e3] using this)
 have g1 : (k : Int) < n := by omega
 have g2 : (0 : Int) ≤ k := by omega
 have hpos : (rs k).pos < S.lp (rs k).prog := by
   unfold instP at hI
   split at hI
   · assumption
   · cases hI
 have g3 : ((rs k).pos : Int) < 256 := by omega
 have g4 : (0 : Int) ≤ (rs k).pos := by omega
 have HC := Lib.hid hC
 have HK := Lib.hid hk
 have HS := Lib.hid hS
 have HP := Lib.hid hp
 have HPos := Lib.hid hpos
 have H1 := Lib.hid h1
 have H2 := Lib.hid h2
 have H3 := Lib.hid h3
 have ak := add_zero_ gw (k * 10)
 have hmf := kf3
 clear hC hk hS hp hl hI e0 e1 e2 e3 h1 h2 h3 hpos
 have HA := Lib.hid ha
 have HCL := Lib.hid hcl
 clear ha hcl
 go_enter Try.func91, Try.ntmps91
 go_wp2_with (first
   | go_big_skip
   | (refine om_box1 2 (.pointer (some ⟨y.wp, 0, none⟩)) M rfl rfl rfl rfl rfl ?_; clear M; intro V pw M; simp only [Act.put, kA, kZ, kS]; have c1 := kc1 (M.get 0 rfl); have c2 := kc2 (M.get 1 rfl))
   | (go_at_call 103; refine (HN.out _ _ M).mono ?_; rintro e V ⟨rfl, K⟩; replace M := M.keeps K; clear K c1 c2; have c1 := kc1 (M.get 0 rfl); have c2 := kc2 (M.get 1 rfl))
   | (refine om_alloc 5 (instC fun _ => 0) M rfl rfl rfl (fun _ => by kernel_rfl) ?_; clear M c1 c2; intro V pi M; simp only [Act.put, kA, kZ, kS]; have c1 := kc1 (M.get 1 rfl); have c2 := kc2 (M.get 2 rfl))
   | (refine at_store (.tmp 5) (.tmp 21) rfl ?_; refine om_store_row 0 (.tmp 5) (.tmp 21) (cs' := #[Value.int .i64 7, .int .i64 (aN : Int), .int .i64 (b : Int), .int .i64 (b3 : Int)]) M rfl rfl rfl rfl rfl rfl (by kernel_rfl) (by rfl) HIC.out ?_; clear M c1 c2; intro V M; simp only [kZ] at M; have c1 := kc1 (M.get 1 rfl); have c2 := kc2 (M.get 2 rfl); have c3 := (M.get 0 rfl).cell)
   | (refine om_alloc 7 (evC ⟨0, 0, 0, 0, false⟩) M rfl rfl rfl (fun _ => by kernel_rfl) ?_; clear M c1 c2 c3; intro V pe M; simp only [Act.put, kA, kZ, kS]; have c1 := kc1 (M.get 2 rfl); have c2 := kc2 (M.get 3 rfl); have c3 := (M.get 1 rfl).cell)
   | (refine at_store (.tmp 7) (.tmp 26) rfl ?_; refine om_store_row 0 (.tmp 7) (.tmp 26) (cs' := evC ⟨k, 7, 0, 0, false⟩) M rfl rfl rfl rfl rfl rfl (by kernel_rfl) (by rfl) (evC_cell _) ?_; clear M c1 c2 c3; intro V M; simp only [kZ] at M; have c1 := kc1 (M.get 2 rfl); have c2 := kc2 (M.get 3 rfl); have c3 := (M.get 1 rfl).cell)
   | (refine om_alloc1 8 .nilFunc M rfl rfl rfl (fun _ => by kernel_rfl) rfl ?_; clear M c1 c2 c3; intro V pt M; simp only [Act.put, kA, kZ, kS]; have c1 := kc1 (M.get 3 rfl); have c2 := kc2 (M.get 4 rfl); have c3 := (M.get 2 rfl).cell)
   | (refine at_store (.tmp 8) (.tmp 27) rfl ?_; refine om_store 0 0 (Value.func (.func 105) #[] #[.pointer (some ⟨pw, 0, none⟩), .pointer (some ⟨pe, 0, none⟩)]) (.tmp 8) (.tmp 27) M rfl rfl rfl rfl rfl rfl (by show 0 < 1; omega) rfl rfl (by kernel_rfl) rfl ?_; clear M c1 c2 c3; intro V M; simp only [kZ] at M; have c1 := kc1 (M.get 3 rfl); have c2 := kc2 (M.get 4 rfl); have c3 := (M.get 2 rfl).cell; have c4 : V.cell? ⟨gw, k * 10 + 1, none⟩ = some (.int .i64 (rs k).pos) := ((M.get 5 rfl).cell _).trans (HC.out.pos HK.out); have c5 := kc1 (M.get 0 rfl))
   | (refine at_store (.tmp 211) (.tmp 210) rfl ?_; refine om_store 1 2 (.int .i64 aN) (.tmp 211) (.tmp 210) M rfl rfl rfl rfl rfl rfl (by show 2 < 5; omega) rfl rfl (by kernel_rfl) (cs' := evC ⟨k, 7, aN, 0, false⟩) rfl ?_; clear M c1 c2 c3 c4 c5; intro V M; simp only [kZ, kS] at M; have c1 := kc1 (M.get 3 rfl); have c2 := kc2 (M.get 4 rfl); have c3 := (M.get 2 rfl).cell; have c5 := kc1 (M.get 0 rfl))
   | (refine om_load 214 2 M rfl rfl rfl rfl rfl Try.underlying99 rfl (by kernel_rfl) ?_; simp only [Act.put, kA, kZ, kS])
   | (go_at_call 108; refine (sh_7o M HA.out HCL.out).mono ?_; rintro e V ⟨rfl, M⟩; clear c1 c2 c3 c5; have c1 := kc1 (M.get 3 rfl); have c2 := kc2 (M.get 4 rfl); have c3 := (M.get 2 rfl).cell; have c5 := kc1 (M.get 0 rfl))
   | (refine at_store (.tmp 221) (.tmp 219) rfl ?_; refine om_store 5 (k * 10 + 1) (.int .i64 (((rs k).pos : Int) + 1)) (.tmp 221) (.tmp 219) M rfl rfl rfl rfl rfl rfl (by have := HC.out.lt HK.out (f := 1) (by omega); simpa using this) rfl rfl (by kernel_rfl) (cs' := (cur).setIfInBounds (k * 10 + 1) (.int .i64 (((rs k).pos + 1 : Nat) : Int))) (by simp) ?_; clear M c1 c2 c3 c5; intro V M; simp only [kZ, kS] at M; have c1 := kc1 (M.get 3 rfl); have c2 := kc2 (M.get 4 rfl); have c3 := (M.get 2 rfl).cell; have c5 := kc1 (M.get 0 rfl))
   | (go_at_call 105; refine (tell_any M ⟨k, 7, aN, 0, false⟩ (i := 3) (j := 1) (k := 4) rfl rfl rfl hn).mono ?_; rintro ev V ⟨rfl, v', M⟩; have HM := Lib.hid M; clear M))
 go_end0
 exact ⟨rfl, gw, cw, _, _, hv, HM.out.drop_ 4, HC.out.set_pos HK.out, H1.out, H2.out, by simpa using H3.out⟩
set_option maxRecDepth 100000 in
set_option maxHeartbeats 2000000 in
theorem st_10n  (M : OM w W ((y.wp, 110, wpC y S.nr gw n cw evs) :: (gw, 174, cur) :: (y.bp, 186, pipesA S.nr hv cl) :: (y.bl, 4, arrB y.lk lk) :: (y.bg, 3, arrI y.gr gr) :: (y.bc, 3, arrI y.ce ce) :: (y.ps, 27, sysV S A c R d) :: Lr) ⟨evs, E, S.nr, hv, held⟩) (hC : WhoC cur n rs) (hk : k < n) (hS : SysIn w S A c R d) (hp : (rs k).prog < S.np) (hl : S.lp (rs k).prog ≤ 256) (hn : E.length ≤ 100000) (h1 : n ≤ cw) (h2 : cw ≤ maxLen) (h3 : cur.size = cw * 10) {f : Nat → Int} (hI : instP S (rs k) = some f) (e0 : f 0 = 10) (e1 : f 1 = (aN : Int)) (e2 : f 2 = (b : Int)) (e3 : f 3 = (b3 : Int)) (ha : aN < y.gr) {s : Int} (hs : IntKind.i64.wrap (gr aN + b) = s) (hcl : ¬ s < 0) : Calls Try.prog 91 #[.pointer (some ⟨y.wp, 0, none⟩), .int .i64 (k : Int)] W fun ev W' => ev = .returned (.tuple #[]) ∧ InW w W' S A c R d y Lr ⟨n, fun j => if j = k then { rs k with pos := (rs k).pos + 1 } else rs j, held, cl, lk, updI gr aN s, ce, E ++ [⟨k, 10, aN, s, false⟩]⟩ := by
 have HN := Lib.hid (show ∀ V pw, OM w V ((pw, 104, #[.pointer (some ⟨y.wp, 0, none⟩)]) :: ((y.wp, 110, wpC y S.nr gw n cw evs) :: (gw, 174, cur) :: (y.bp, 186, pipesA S.nr hv cl) :: (y.bl, 4, arrB y.lk lk) :: (y.bg, 3, arrI y.gr gr) :: (y.bc, 3, arrI y.ce ce) :: (y.ps, 27, sysV S A c R d) :: Lr)) ⟨evs, E, S.nr, hv, held⟩ → Calls Try.prog 103 #[.pointer (some ⟨y.wp, 0, none⟩), .pointer (some ⟨gw, k * 10, none⟩)] V fun e W' => e = .returned (.tuple #[.agg #[Value.int .i64 10, .int .i64 (aN : Int), .int .i64 (b : Int), .int .i64 (b3 : Int)], .bool true]) ∧ Keeps V W' [] from fun V pw M => by
   have := wnext_any (M.get 1 rfl) (M.get 2 rfl) (M.get 7 rfl) (hS.kept M.own.keep) hC hk hp
   rw [hI] at this
   simpa [instV, instC, e0, e1, e2, e3] using this)
 have HIC := Lib.hid (show ∀ v ∈ (#[Value.int .i64 10, .int .i64 (aN : Int), .int .i64 (b : Int), .int .i64 (b3 : Int)]).toList, v.oneCell' = true from by
   have := instC_cell f
   simpa [instC, e0, e1, e2, e3] using this)
 have g1 : (k : Int) < n := by omega
 have g2 : (0 : Int) ≤ k := by omega
 have hpos : (rs k).pos < S.lp (rs k).prog := by
   unfold instP at hI
   split at hI
   · assumption
   · cases hI
 have g3 : ((rs k).pos : Int) < 256 := by omega
 have g4 : (0 : Int) ≤ (rs k).pos := by omega
 have HC := Lib.hid hC
 have HK := Lib.hid hk
 have HS := Lib.hid hS
 have HP := Lib.hid hp
 have HPos := Lib.hid hpos
 have H1 := Lib.hid h1
 have H2 := Lib.hid h2
 have H3 := Lib.hid h3
 have ak := add_zero_ gw (k * 10)
 have hmf := kf3
 clear hC hk hS hp hl hI e0 e1 e2 e3 h1 h2 h3 hpos
 have HA := Lib.hid ha
 have HCL := Lib.hid (And.intro hs hcl)
 clear ha hcl hs
 go_enter Try.func91, Try.ntmps91
 go_wp2_with (first
   | go_big_skip
   | (refine om_box1 2 (.pointer (some ⟨y.wp, 0, none⟩)) M rfl rfl rfl rfl rfl ?_; clear M; intro V pw M; simp only [Act.put, kA, kZ, kS]; have c1 := kc1 (M.get 0 rfl); have c2 := kc2 (M.get 1 rfl))
   | (go_at_call 103; refine (HN.out _ _ M).mono ?_; rintro e V ⟨rfl, K⟩; replace M := M.keeps K; clear K c1 c2; have c1 := kc1 (M.get 0 rfl); have c2 := kc2 (M.get 1 rfl))
   | (refine om_alloc 5 (instC fun _ => 0) M rfl rfl rfl (fun _ => by kernel_rfl) ?_; clear M c1 c2; intro V pi M; simp only [Act.put, kA, kZ, kS]; have c1 := kc1 (M.get 1 rfl); have c2 := kc2 (M.get 2 rfl))
   | (refine at_store (.tmp 5) (.tmp 21) rfl ?_; refine om_store_row 0 (.tmp 5) (.tmp 21) (cs' := #[Value.int .i64 10, .int .i64 (aN : Int), .int .i64 (b : Int), .int .i64 (b3 : Int)]) M rfl rfl rfl rfl rfl rfl (by kernel_rfl) (by rfl) HIC.out ?_; clear M c1 c2; intro V M; simp only [kZ] at M; have c1 := kc1 (M.get 1 rfl); have c2 := kc2 (M.get 2 rfl); have c3 := (M.get 0 rfl).cell)
   | (refine om_alloc 7 (evC ⟨0, 0, 0, 0, false⟩) M rfl rfl rfl (fun _ => by kernel_rfl) ?_; clear M c1 c2 c3; intro V pe M; simp only [Act.put, kA, kZ, kS]; have c1 := kc1 (M.get 2 rfl); have c2 := kc2 (M.get 3 rfl); have c3 := (M.get 1 rfl).cell)
   | (refine at_store (.tmp 7) (.tmp 26) rfl ?_; refine om_store_row 0 (.tmp 7) (.tmp 26) (cs' := evC ⟨k, 10, 0, 0, false⟩) M rfl rfl rfl rfl rfl rfl (by kernel_rfl) (by rfl) (evC_cell _) ?_; clear M c1 c2 c3; intro V M; simp only [kZ] at M; have c1 := kc1 (M.get 2 rfl); have c2 := kc2 (M.get 3 rfl); have c3 := (M.get 1 rfl).cell)
   | (refine om_alloc1 8 .nilFunc M rfl rfl rfl (fun _ => by kernel_rfl) rfl ?_; clear M c1 c2 c3; intro V pt M; simp only [Act.put, kA, kZ, kS]; have c1 := kc1 (M.get 3 rfl); have c2 := kc2 (M.get 4 rfl); have c3 := (M.get 2 rfl).cell)
   | (refine at_store (.tmp 8) (.tmp 27) rfl ?_; refine om_store 0 0 (Value.func (.func 105) #[] #[.pointer (some ⟨pw, 0, none⟩), .pointer (some ⟨pe, 0, none⟩)]) (.tmp 8) (.tmp 27) M rfl rfl rfl rfl rfl rfl (by show 0 < 1; omega) rfl rfl (by kernel_rfl) rfl ?_; clear M c1 c2 c3; intro V M; simp only [kZ] at M; have c1 := kc1 (M.get 3 rfl); have c2 := kc2 (M.get 4 rfl); have c3 := (M.get 2 rfl).cell; have c4 : V.cell? ⟨gw, k * 10 + 1, none⟩ = some (.int .i64 (rs k).pos) := ((M.get 5 rfl).cell _).trans (HC.out.pos HK.out); have c5 := kc1 (M.get 0 rfl))
   | (refine at_store (.tmp 211) (.tmp 210) rfl ?_; refine om_store 1 2 (.int .i64 aN) (.tmp 211) (.tmp 210) M rfl rfl rfl rfl rfl rfl (by show 2 < 5; omega) rfl rfl (by kernel_rfl) (cs' := evC ⟨k, 10, aN, 0, false⟩) rfl ?_; clear M c1 c2 c3 c4 c5; intro V M; simp only [kZ, kS] at M; have c1 := kc1 (M.get 3 rfl); have c2 := kc2 (M.get 4 rfl); have c3 := (M.get 2 rfl).cell; have c5 := kc1 (M.get 0 rfl))
   | (refine om_load 214 2 M rfl rfl rfl rfl rfl Try.underlying99 rfl (by kernel_rfl) ?_; simp only [Act.put, kA, kZ, kS])
   | (go_at_call 108; refine (sh_10n M HA.out HCL.out.1 (by have := HCL.out.2; omega)).mono ?_; rintro e V ⟨rfl, M⟩; clear c1 c2 c3 c5; have c1 := kc1 (M.get 3 rfl); have c2 := kc2 (M.get 4 rfl); have c3 := (M.get 2 rfl).cell; have c5 := kc1 (M.get 0 rfl))
   | (refine at_store (.tmp 221) (.tmp 219) rfl ?_; refine om_store 5 (k * 10 + 1) (.int .i64 (((rs k).pos : Int) + 1)) (.tmp 221) (.tmp 219) M rfl rfl rfl rfl rfl rfl (by have := HC.out.lt HK.out (f := 1) (by omega); simpa using this) rfl rfl (by kernel_rfl) (cs' := (cur).setIfInBounds (k * 10 + 1) (.int .i64 (((rs k).pos + 1 : Nat) : Int))) (by simp) ?_; clear M c1 c2 c3 c5; intro V M; simp only [kZ, kS] at M; have c1 := kc1 (M.get 3 rfl); have c2 := kc2 (M.get 4 rfl); have c3 := (M.get 2 rfl).cell; have c5 := kc1 (M.get 0 rfl))
   | (go_at_call 105; refine (tell_any M ⟨k, 10, aN, s, false⟩ (i := 3) (j := 1) (k := 4) rfl rfl rfl hn).mono ?_; rintro ev V ⟨rfl, v', M⟩; have HM := Lib.hid M; clear M))
 go_end0
 exact ⟨rfl, gw, cw, _, _, hv, HM.out.drop_ 4, HC.out.set_pos HK.out, H1.out, H2.out, by simpa using H3.out⟩
set_option maxRecDepth 100000 in
set_option maxHeartbeats 2000000 in
theorem st_11  (M : OM w W ((y.wp, 110, wpC y S.nr gw n cw evs) :: (gw, 174, cur) :: (y.bp, 186, pipesA S.nr hv cl) :: (y.bl, 4, arrB y.lk lk) :: (y.bg, 3, arrI y.gr gr) :: (y.bc, 3, arrI y.ce ce) :: (y.ps, 27, sysV S A c R d) :: Lr) ⟨evs, E, S.nr, hv, held⟩) (hC : WhoC cur n rs) (hk : k < n) (hS : SysIn w S A c R d) (hp : (rs k).prog < S.np) (hl : S.lp (rs k).prog ≤ 256) (hn : E.length ≤ 100000) (h1 : n ≤ cw) (h2 : cw ≤ maxLen) (h3 : cur.size = cw * 10) {f : Nat → Int} (hI : instP S (rs k) = some f) (e0 : f 0 = 11) (e1 : f 1 = (aN : Int)) (e2 : f 2 = (b : Int)) (e3 : f 3 = (b3 : Int))  : Calls Try.prog 91 #[.pointer (some ⟨y.wp, 0, none⟩), .int .i64 (k : Int)] W fun ev W' => ev = .returned (.tuple #[]) ∧ InW w W' S A c R d y Lr ⟨n, fun j => if j = k then { rs k with pos := (rs k).pos + 1 } else rs j, held, cl, lk, gr, ce, E ++ [⟨k, 11, aN, 0, false⟩]⟩ := by
 have HN := Lib.hid (show ∀ V pw, OM w V ((pw, 104, #[.pointer (some ⟨y.wp, 0, none⟩)]) :: ((y.wp, 110, wpC y S.nr gw n cw evs) :: (gw, 174, cur) :: (y.bp, 186, pipesA S.nr hv cl) :: (y.bl, 4, arrB y.lk lk) :: (y.bg, 3, arrI y.gr gr) :: (y.bc, 3, arrI y.ce ce) :: (y.ps, 27, sysV S A c R d) :: Lr)) ⟨evs, E, S.nr, hv, held⟩ → Calls Try.prog 103 #[.pointer (some ⟨y.wp, 0, none⟩), .pointer (some ⟨gw, k * 10, none⟩)] V fun e W' => e = .returned (.tuple #[.agg #[Value.int .i64 11, .int .i64 (aN : Int), .int .i64 (b : Int), .int .i64 (b3 : Int)], .bool true]) ∧ Keeps V W' [] from fun V pw M => by
   have := wnext_any (M.get 1 rfl) (M.get 2 rfl) (M.get 7 rfl) (hS.kept M.own.keep) hC hk hp
   rw [hI] at this
   simpa [instV, instC, e0, e1, e2, e3] using this)
 have HIC := Lib.hid (show ∀ v ∈ (#[Value.int .i64 11, .int .i64 (aN : Int), .int .i64 (b : Int), .int .i64 (b3 : Int)]).toList, v.oneCell' = true from by
   have := instC_cell f
   simpa [instC, e0, e1, e2, e3] using this)
 have g1 : (k : Int) < n := by omega
 have g2 : (0 : Int) ≤ k := by omega
 have hpos : (rs k).pos < S.lp (rs k).prog := by
   unfold instP at hI
   split at hI
   · assumption
   · cases hI
 have g3 : ((rs k).pos : Int) < 256 := by omega
 have g4 : (0 : Int) ≤ (rs k).pos := by omega
 have HC := Lib.hid hC
 have HK := Lib.hid hk
 have HS := Lib.hid hS
 have HP := Lib.hid hp
 have HPos := Lib.hid hpos
 have H1 := Lib.hid h1
 have H2 := Lib.hid h2
 have H3 := Lib.hid h3
 have ak := add_zero_ gw (k * 10)
 have hmf := kf3
 clear hC hk hS hp hl hI e0 e1 e2 e3 h1 h2 h3 hpos
 go_enter Try.func91, Try.ntmps91
 go_wp2_with (first
   | go_big_skip
   | (refine om_box1 2 (.pointer (some ⟨y.wp, 0, none⟩)) M rfl rfl rfl rfl rfl ?_; clear M; intro V pw M; simp only [Act.put, kA, kZ, kS]; have c1 := kc1 (M.get 0 rfl); have c2 := kc2 (M.get 1 rfl))
   | (go_at_call 103; refine (HN.out _ _ M).mono ?_; rintro e V ⟨rfl, K⟩; replace M := M.keeps K; clear K c1 c2; have c1 := kc1 (M.get 0 rfl); have c2 := kc2 (M.get 1 rfl))
   | (refine om_alloc 5 (instC fun _ => 0) M rfl rfl rfl (fun _ => by kernel_rfl) ?_; clear M c1 c2; intro V pi M; simp only [Act.put, kA, kZ, kS]; have c1 := kc1 (M.get 1 rfl); have c2 := kc2 (M.get 2 rfl))
   | (refine at_store (.tmp 5) (.tmp 21) rfl ?_; refine om_store_row 0 (.tmp 5) (.tmp 21) (cs' := #[Value.int .i64 11, .int .i64 (aN : Int), .int .i64 (b : Int), .int .i64 (b3 : Int)]) M rfl rfl rfl rfl rfl rfl (by kernel_rfl) (by rfl) HIC.out ?_; clear M c1 c2; intro V M; simp only [kZ] at M; have c1 := kc1 (M.get 1 rfl); have c2 := kc2 (M.get 2 rfl); have c3 := (M.get 0 rfl).cell)
   | (refine om_alloc 7 (evC ⟨0, 0, 0, 0, false⟩) M rfl rfl rfl (fun _ => by kernel_rfl) ?_; clear M c1 c2 c3; intro V pe M; simp only [Act.put, kA, kZ, kS]; have c1 := kc1 (M.get 2 rfl); have c2 := kc2 (M.get 3 rfl); have c3 := (M.get 1 rfl).cell)
   | (refine at_store (.tmp 7) (.tmp 26) rfl ?_; refine om_store_row 0 (.tmp 7) (.tmp 26) (cs' := evC ⟨k, 11, 0, 0, false⟩) M rfl rfl rfl rfl rfl rfl (by kernel_rfl) (by rfl) (evC_cell _) ?_; clear M c1 c2 c3; intro V M; simp only [kZ] at M; have c1 := kc1 (M.get 2 rfl); have c2 := kc2 (M.get 3 rfl); have c3 := (M.get 1 rfl).cell)
   | (refine om_alloc1 8 .nilFunc M rfl rfl rfl (fun _ => by kernel_rfl) rfl ?_; clear M c1 c2 c3; intro V pt M; simp only [Act.put, kA, kZ, kS]; have c1 := kc1 (M.get 3 rfl); have c2 := kc2 (M.get 4 rfl); have c3 := (M.get 2 rfl).cell)
   | (refine at_store (.tmp 8) (.tmp 27) rfl ?_; refine om_store 0 0 (Value.func (.func 105) #[] #[.pointer (some ⟨pw, 0, none⟩), .pointer (some ⟨pe, 0, none⟩)]) (.tmp 8) (.tmp 27) M rfl rfl rfl rfl rfl rfl (by show 0 < 1; omega) rfl rfl (by kernel_rfl) rfl ?_; clear M c1 c2 c3; intro V M; simp only [kZ] at M; have c1 := kc1 (M.get 3 rfl); have c2 := kc2 (M.get 4 rfl); have c3 := (M.get 2 rfl).cell; have c4 : V.cell? ⟨gw, k * 10 + 1, none⟩ = some (.int .i64 (rs k).pos) := ((M.get 5 rfl).cell _).trans (HC.out.pos HK.out); have c5 := kc1 (M.get 0 rfl))
   | (refine at_store (.tmp 211) (.tmp 210) rfl ?_; refine om_store 1 2 (.int .i64 aN) (.tmp 211) (.tmp 210) M rfl rfl rfl rfl rfl rfl (by show 2 < 5; omega) rfl rfl (by kernel_rfl) (cs' := evC ⟨k, 11, aN, 0, false⟩) rfl ?_; clear M c1 c2 c3 c4 c5; intro V M; simp only [kZ, kS] at M; have c1 := kc1 (M.get 3 rfl); have c2 := kc2 (M.get 4 rfl); have c3 := (M.get 2 rfl).cell; have c5 := kc1 (M.get 0 rfl))
   | (refine om_load 214 2 M rfl rfl rfl rfl rfl Try.underlying99 rfl (by kernel_rfl) ?_; simp only [Act.put, kA, kZ, kS])
   | (go_at_call 108; refine (sh_11 M).mono ?_; rintro e V ⟨rfl, M⟩; clear c1 c2 c3 c5; have c1 := kc1 (M.get 3 rfl); have c2 := kc2 (M.get 4 rfl); have c3 := (M.get 2 rfl).cell; have c5 := kc1 (M.get 0 rfl))
   | (refine at_store (.tmp 221) (.tmp 219) rfl ?_; refine om_store 5 (k * 10 + 1) (.int .i64 (((rs k).pos : Int) + 1)) (.tmp 221) (.tmp 219) M rfl rfl rfl rfl rfl rfl (by have := HC.out.lt HK.out (f := 1) (by omega); simpa using this) rfl rfl (by kernel_rfl) (cs' := (cur).setIfInBounds (k * 10 + 1) (.int .i64 (((rs k).pos + 1 : Nat) : Int))) (by simp) ?_; clear M c1 c2 c3 c5; intro V M; simp only [kZ, kS] at M; have c1 := kc1 (M.get 3 rfl); have c2 := kc2 (M.get 4 rfl); have c3 := (M.get 2 rfl).cell; have c5 := kc1 (M.get 0 rfl))
   | (go_at_call 105; refine (tell_any M ⟨k, 11, aN, 0, false⟩ (i := 3) (j := 1) (k := 4) rfl rfl rfl hn).mono ?_; rintro ev V ⟨rfl, v', M⟩; have HM := Lib.hid M; clear M))
 go_end0
 exact ⟨rfl, gw, cw, _, _, hv, HM.out.drop_ 4, HC.out.set_pos HK.out, H1.out, H2.out, by simpa using H3.out⟩
set_option maxRecDepth 100000 in
set_option maxHeartbeats 2000000 in
theorem st_5o  (M : OM w W ((y.wp, 110, wpC y S.nr gw n cw evs) :: (gw, 174, cur) :: (y.bp, 186, pipesA S.nr hv cl) :: (y.bl, 4, arrB y.lk lk) :: (y.bg, 3, arrI y.gr gr) :: (y.bc, 3, arrI y.ce ce) :: (y.ps, 27, sysV S A c R d) :: Lr) ⟨evs, E, S.nr, hv, held⟩) (hC : WhoC cur n rs) (hk : k < n) (hS : SysIn w S A c R d) (hp : (rs k).prog < S.np) (hl : S.lp (rs k).prog ≤ 256) (hn : E.length ≤ 100000) (h1 : n ≤ cw) (h2 : cw ≤ maxLen) (h3 : cur.size = cw * 10) {f : Nat → Int} (hI : instP S (rs k) = some f) (e0 : f 0 = 5) (e1 : f 1 = (aN : Int)) (e2 : f 2 = (bN : Int)) (e3 : f 3 = (b3 : Int)) (hlh : (held aN).length ≤ 1000000) (ha : aN < S.nr) (hb : bN < 8) (hcl : cl aN = false) : Calls Try.prog 91 #[.pointer (some ⟨y.wp, 0, none⟩), .int .i64 (k : Int)] W fun ev W' => ev = .returned (.tuple #[]) ∧ InW w W' S A c R d y Lr ⟨n, fun j => if j = k then { rs k with pos := (rs k).pos + 1 } else rs j, updN held aN (held aN ++ [(rs k).rg bN]), cl, lk, gr, ce, E ++ [⟨k, 5, aN, ((rs k).rg bN), false⟩]⟩ := by
 have HN := Lib.hid (show ∀ V pw, OM w V ((pw, 104, #[.pointer (some ⟨y.wp, 0, none⟩)]) :: ((y.wp, 110, wpC y S.nr gw n cw evs) :: (gw, 174, cur) :: (y.bp, 186, pipesA S.nr hv cl) :: (y.bl, 4, arrB y.lk lk) :: (y.bg, 3, arrI y.gr gr) :: (y.bc, 3, arrI y.ce ce) :: (y.ps, 27, sysV S A c R d) :: Lr)) ⟨evs, E, S.nr, hv, held⟩ → Calls Try.prog 103 #[.pointer (some ⟨y.wp, 0, none⟩), .pointer (some ⟨gw, k * 10, none⟩)] V fun e W' => e = .returned (.tuple #[.agg #[Value.int .i64 5, .int .i64 (aN : Int), .int .i64 (bN : Int), .int .i64 (b3 : Int)], .bool true]) ∧ Keeps V W' [] from fun V pw M => by
   have := wnext_any (M.get 1 rfl) (M.get 2 rfl) (M.get 7 rfl) (hS.kept M.own.keep) hC hk hp
   rw [hI] at this
   simpa [instV, instC, e0, e1, e2, e3] using this)
 have HIC := Lib.hid (show ∀ v ∈ (#[Value.int .i64 5, .int .i64 (aN : Int), .int .i64 (bN : Int), .int .i64 (b3 : Int)]).toList, v.oneCell' = true from by
   have := instC_cell f
   simpa [instC, e0, e1, e2, e3] using this)
 have g1 : (k : Int) < n := by omega
 have g2 : (0 : Int) ≤ k := by omega
 have hpos : (rs k).pos < S.lp (rs k).prog := by
   unfold instP at hI
   split at hI
   · assumption
   · cases hI
 have g3 : ((rs k).pos : Int) < 256 := by omega
 have g4 : (0 : Int) ≤ (rs k).pos := by omega
 have HC := Lib.hid hC
 have HK := Lib.hid hk
 have HS := Lib.hid hS
 have HP := Lib.hid hp
 have HPos := Lib.hid hpos
 have H1 := Lib.hid h1
 have H2 := Lib.hid h2
 have H3 := Lib.hid h3
 have ak := add_zero_ gw (k * 10)
 have hmf := kf3
 clear hC hk hS hp hl hI e0 e1 e2 e3 h1 h2 h3 hpos
 have HA := Lib.hid (And.intro hlh (And.intro ha (And.intro hb hcl)))
 clear ha hb hcl hlh
 go_enter Try.func91, Try.ntmps91
 go_wp2_with (first
   | go_big_skip
   | (refine om_box1 2 (.pointer (some ⟨y.wp, 0, none⟩)) M rfl rfl rfl rfl rfl ?_; clear M; intro V pw M; simp only [Act.put, kA, kZ, kS]; have c1 := kc1 (M.get 0 rfl); have c2 := kc2 (M.get 1 rfl))
   | (go_at_call 103; refine (HN.out _ _ M).mono ?_; rintro e V ⟨rfl, K⟩; replace M := M.keeps K; clear K c1 c2; have c1 := kc1 (M.get 0 rfl); have c2 := kc2 (M.get 1 rfl))
   | (refine om_alloc 5 (instC fun _ => 0) M rfl rfl rfl (fun _ => by kernel_rfl) ?_; clear M c1 c2; intro V pi M; simp only [Act.put, kA, kZ, kS]; have c1 := kc1 (M.get 1 rfl); have c2 := kc2 (M.get 2 rfl))
   | (refine at_store (.tmp 5) (.tmp 21) rfl ?_; refine om_store_row 0 (.tmp 5) (.tmp 21) (cs' := #[Value.int .i64 5, .int .i64 (aN : Int), .int .i64 (bN : Int), .int .i64 (b3 : Int)]) M rfl rfl rfl rfl rfl rfl (by kernel_rfl) (by rfl) HIC.out ?_; clear M c1 c2; intro V M; simp only [kZ] at M; have c1 := kc1 (M.get 1 rfl); have c2 := kc2 (M.get 2 rfl); have c3 := (M.get 0 rfl).cell)
   | (refine om_alloc 7 (evC ⟨0, 0, 0, 0, false⟩) M rfl rfl rfl (fun _ => by kernel_rfl) ?_; clear M c1 c2 c3; intro V pe M; simp only [Act.put, kA, kZ, kS]; have c1 := kc1 (M.get 2 rfl); have c2 := kc2 (M.get 3 rfl); have c3 := (M.get 1 rfl).cell)
   | (refine at_store (.tmp 7) (.tmp 26) rfl ?_; refine om_store_row 0 (.tmp 7) (.tmp 26) (cs' := evC ⟨k, 5, 0, 0, false⟩) M rfl rfl rfl rfl rfl rfl (by kernel_rfl) (by rfl) (evC_cell _) ?_; clear M c1 c2 c3; intro V M; simp only [kZ] at M; have c1 := kc1 (M.get 2 rfl); have c2 := kc2 (M.get 3 rfl); have c3 := (M.get 1 rfl).cell)
   | (refine om_alloc1 8 .nilFunc M rfl rfl rfl (fun _ => by kernel_rfl) rfl ?_; clear M c1 c2 c3; intro V pt M; simp only [Act.put, kA, kZ, kS]; have c1 := kc1 (M.get 3 rfl); have c2 := kc2 (M.get 4 rfl); have c3 := (M.get 2 rfl).cell)
   | (refine at_store (.tmp 8) (.tmp 27) rfl ?_; refine om_store 0 0 (Value.func (.func 105) #[] #[.pointer (some ⟨pw, 0, none⟩), .pointer (some ⟨pe, 0, none⟩)]) (.tmp 8) (.tmp 27) M rfl rfl rfl rfl rfl rfl (by show 0 < 1; omega) rfl rfl (by kernel_rfl) rfl ?_; clear M c1 c2 c3; intro V M; simp only [kZ] at M; have c1 := kc1 (M.get 3 rfl); have c2 := kc2 (M.get 4 rfl); have c3 := (M.get 2 rfl).cell; have c4 : V.cell? ⟨gw, k * 10 + 1, none⟩ = some (.int .i64 (rs k).pos) := ((M.get 5 rfl).cell _).trans (HC.out.pos HK.out); have c5 := kc1 (M.get 0 rfl))
   | (refine at_store (.tmp 211) (.tmp 210) rfl ?_; refine om_store 1 2 (.int .i64 aN) (.tmp 211) (.tmp 210) M rfl rfl rfl rfl rfl rfl (by show 2 < 5; omega) rfl rfl (by kernel_rfl) (cs' := evC ⟨k, 5, aN, 0, false⟩) rfl ?_; clear M c1 c2 c3 c4 c5; intro V M; simp only [kZ, kS] at M; have c1 := kc1 (M.get 3 rfl); have c2 := kc2 (M.get 4 rfl); have c3 := (M.get 2 rfl).cell; have c5 := kc1 (M.get 0 rfl))
   | (refine om_load 214 2 M rfl rfl rfl rfl rfl Try.underlying99 rfl (by kernel_rfl) ?_; simp only [Act.put, kA, kZ, kS])
   | (go_at_call 108; refine (sh_5o M HA.out.1 HA.out.2.1 HA.out.2.2.1 (HC.out.reg HK.out HA.out.2.2.1) HA.out.2.2.2).mono ?_; rintro e V ⟨rfl, hv1, M⟩; clear c1 c2 c3 c5; have c1 := kc1 (M.get 3 rfl); have c2 := kc2 (M.get 4 rfl); have c3 := (M.get 2 rfl).cell; have c5 := kc1 (M.get 0 rfl))
   | (refine at_store (.tmp 221) (.tmp 219) rfl ?_; refine om_store 5 (k * 10 + 1) (.int .i64 (((rs k).pos : Int) + 1)) (.tmp 221) (.tmp 219) M rfl rfl rfl rfl rfl rfl (by have := HC.out.lt HK.out (f := 1) (by omega); simpa using this) rfl rfl (by kernel_rfl) (cs' := (cur).setIfInBounds (k * 10 + 1) (.int .i64 (((rs k).pos + 1 : Nat) : Int))) (by simp) ?_; clear M c1 c2 c3 c5; intro V M; simp only [kZ, kS] at M; have c1 := kc1 (M.get 3 rfl); have c2 := kc2 (M.get 4 rfl); have c3 := (M.get 2 rfl).cell; have c5 := kc1 (M.get 0 rfl))
   | (go_at_call 105; refine (tell_any M ⟨k, 5, aN, ((rs k).rg bN), false⟩ (i := 3) (j := 1) (k := 4) rfl rfl rfl hn).mono ?_; rintro ev V ⟨rfl, v', M⟩; have HM := Lib.hid M; clear M))
 go_end0
 exact ⟨rfl, gw, cw, _, _, _, HM.out.drop_ 4, HC.out.set_pos HK.out, H1.out, H2.out, by simpa using H3.out⟩
set_option maxRecDepth 100000 in
set_option maxHeartbeats 2000000 in
theorem st_6n  (M : OM w W ((y.wp, 110, wpC y S.nr gw n cw evs) :: (gw, 174, cur) :: (y.bp, 186, pipesA S.nr hv cl) :: (y.bl, 4, arrB y.lk lk) :: (y.bg, 3, arrI y.gr gr) :: (y.bc, 3, arrI y.ce ce) :: (y.ps, 27, sysV S A c R d) :: Lr) ⟨evs, E, S.nr, hv, held⟩) (hC : WhoC cur n rs) (hk : k < n) (hS : SysIn w S A c R d) (hp : (rs k).prog < S.np) (hl : S.lp (rs k).prog ≤ 256) (hn : E.length ≤ 100000) (h1 : n ≤ cw) (h2 : cw ≤ maxLen) (h3 : cur.size = cw * 10) {f : Nat → Int} (hI : instP S (rs k) = some f) (e0 : f 0 = 6) (e1 : f 1 = (aN : Int)) (e2 : f 2 = (b : Int)) (e3 : f 3 = (cN : Int)) {A0 : Option Addr} {c1 : Nat} (hh : hv aN = .slice A0 0 c1) (ha : aN < S.nr) : Calls Try.prog 91 #[.pointer (some ⟨y.wp, 0, none⟩), .int .i64 (k : Int)] W fun ev W' => ev = .returned (.tuple #[]) ∧ InW w W' S A c R d y Lr ⟨n, fun j => if j = k then { rs k with pos := cN } else rs j, held, cl, lk, gr, ce, E ++ [⟨k, 6, aN, 0, true⟩]⟩ := by
 have HN := Lib.hid (show ∀ V pw, OM w V ((pw, 104, #[.pointer (some ⟨y.wp, 0, none⟩)]) :: ((y.wp, 110, wpC y S.nr gw n cw evs) :: (gw, 174, cur) :: (y.bp, 186, pipesA S.nr hv cl) :: (y.bl, 4, arrB y.lk lk) :: (y.bg, 3, arrI y.gr gr) :: (y.bc, 3, arrI y.ce ce) :: (y.ps, 27, sysV S A c R d) :: Lr)) ⟨evs, E, S.nr, hv, held⟩ → Calls Try.prog 103 #[.pointer (some ⟨y.wp, 0, none⟩), .pointer (some ⟨gw, k * 10, none⟩)] V fun e W' => e = .returned (.tuple #[.agg #[Value.int .i64 6, .int .i64 (aN : Int), .int .i64 (b : Int), .int .i64 (cN : Int)], .bool true]) ∧ Keeps V W' [] from fun V pw M => by
   have := wnext_any (M.get 1 rfl) (M.get 2 rfl) (M.get 7 rfl) (hS.kept M.own.keep) hC hk hp
   rw [hI] at this
   simpa [instV, instC, e0, e1, e2, e3] using this)
 have HIC := Lib.hid (show ∀ v ∈ (#[Value.int .i64 6, .int .i64 (aN : Int), .int .i64 (b : Int), .int .i64 (cN : Int)]).toList, v.oneCell' = true from by
   have := instC_cell f
   simpa [instC, e0, e1, e2, e3] using this)
 have g1 : (k : Int) < n := by omega
 have g2 : (0 : Int) ≤ k := by omega
 have hpos : (rs k).pos < S.lp (rs k).prog := by
   unfold instP at hI
   split at hI
   · assumption
   · cases hI
 have g3 : ((rs k).pos : Int) < 256 := by omega
 have g4 : (0 : Int) ≤ (rs k).pos := by omega
 have HC := Lib.hid hC
 have HK := Lib.hid hk
 have HS := Lib.hid hS
 have HP := Lib.hid hp
 have HPos := Lib.hid hpos
 have H1 := Lib.hid h1
 have H2 := Lib.hid h2
 have H3 := Lib.hid h3
 have ak := add_zero_ gw (k * 10)
 have hmf := kf3
 clear hC hk hS hp hl hI e0 e1 e2 e3 h1 h2 h3 hpos
 have HA := Lib.hid (And.intro hh ha)
 clear ha hh
 go_enter Try.func91, Try.ntmps91
 go_wp2_with (first
   | go_big_skip
   | (refine om_box1 2 (.pointer (some ⟨y.wp, 0, none⟩)) M rfl rfl rfl rfl rfl ?_; clear M; intro V pw M; simp only [Act.put, kA, kZ, kS]; have c1 := kc1 (M.get 0 rfl); have c2 := kc2 (M.get 1 rfl))
   | (go_at_call 103; refine (HN.out _ _ M).mono ?_; rintro e V ⟨rfl, K⟩; replace M := M.keeps K; clear K c1 c2; have c1 := kc1 (M.get 0 rfl); have c2 := kc2 (M.get 1 rfl))
   | (refine om_alloc 5 (instC fun _ => 0) M rfl rfl rfl (fun _ => by kernel_rfl) ?_; clear M c1 c2; intro V pi M; simp only [Act.put, kA, kZ, kS]; have c1 := kc1 (M.get 1 rfl); have c2 := kc2 (M.get 2 rfl))
   | (refine at_store (.tmp 5) (.tmp 21) rfl ?_; refine om_store_row 0 (.tmp 5) (.tmp 21) (cs' := #[Value.int .i64 6, .int .i64 (aN : Int), .int .i64 (b : Int), .int .i64 (cN : Int)]) M rfl rfl rfl rfl rfl rfl (by kernel_rfl) (by rfl) HIC.out ?_; clear M c1 c2; intro V M; simp only [kZ] at M; have c1 := kc1 (M.get 1 rfl); have c2 := kc2 (M.get 2 rfl); have c3 := (M.get 0 rfl).cell)
   | (refine om_alloc 7 (evC ⟨0, 0, 0, 0, false⟩) M rfl rfl rfl (fun _ => by kernel_rfl) ?_; clear M c1 c2 c3; intro V pe M; simp only [Act.put, kA, kZ, kS]; have c1 := kc1 (M.get 2 rfl); have c2 := kc2 (M.get 3 rfl); have c3 := (M.get 1 rfl).cell)
   | (refine at_store (.tmp 7) (.tmp 26) rfl ?_; refine om_store_row 0 (.tmp 7) (.tmp 26) (cs' := evC ⟨k, 6, 0, 0, false⟩) M rfl rfl rfl rfl rfl rfl (by kernel_rfl) (by rfl) (evC_cell _) ?_; clear M c1 c2 c3; intro V M; simp only [kZ] at M; have c1 := kc1 (M.get 2 rfl); have c2 := kc2 (M.get 3 rfl); have c3 := (M.get 1 rfl).cell)
   | (refine om_alloc1 8 .nilFunc M rfl rfl rfl (fun _ => by kernel_rfl) rfl ?_; clear M c1 c2 c3; intro V pt M; simp only [Act.put, kA, kZ, kS]; have c1 := kc1 (M.get 3 rfl); have c2 := kc2 (M.get 4 rfl); have c3 := (M.get 2 rfl).cell)
   | (refine at_store (.tmp 8) (.tmp 27) rfl ?_; refine om_store 0 0 (Value.func (.func 105) #[] #[.pointer (some ⟨pw, 0, none⟩), .pointer (some ⟨pe, 0, none⟩)]) (.tmp 8) (.tmp 27) M rfl rfl rfl rfl rfl rfl (by show 0 < 1; omega) rfl rfl (by kernel_rfl) rfl ?_; clear M c1 c2 c3; intro V M; simp only [kZ] at M; have c1 := kc1 (M.get 3 rfl); have c2 := kc2 (M.get 4 rfl); have c3 := (M.get 2 rfl).cell; have c4 : V.cell? ⟨gw, k * 10 + 1, none⟩ = some (.int .i64 (rs k).pos) := ((M.get 5 rfl).cell _).trans (HC.out.pos HK.out); have c5 := kc1 (M.get 0 rfl))
   | (refine at_store (.tmp 211) (.tmp 210) rfl ?_; refine om_store 1 2 (.int .i64 aN) (.tmp 211) (.tmp 210) M rfl rfl rfl rfl rfl rfl (by show 2 < 5; omega) rfl rfl (by kernel_rfl) (cs' := evC ⟨k, 6, aN, 0, false⟩) rfl ?_; clear M c1 c2 c3 c4 c5; intro V M; simp only [kZ, kS] at M; have c1 := kc1 (M.get 3 rfl); have c2 := kc2 (M.get 4 rfl); have c3 := (M.get 2 rfl).cell; have c5 := kc1 (M.get 0 rfl))
   | (refine om_load 214 2 M rfl rfl rfl rfl rfl Try.underlying99 rfl (by kernel_rfl) ?_; simp only [Act.put, kA, kZ, kS])
   | (go_at_call 108; refine (sh_6n M HA.out.1 HA.out.2).mono ?_; rintro e V ⟨rfl, M⟩; clear c1 c2 c3 c5; have c1 := kc1 (M.get 3 rfl); have c2 := kc2 (M.get 4 rfl); have c3 := (M.get 2 rfl).cell; have c5 := kc1 (M.get 0 rfl))
   | (refine at_store (.tmp 221) (.tmp 219) rfl ?_; refine om_store 5 (k * 10 + 1) (.int .i64 (cN : Int)) (.tmp 221) (.tmp 219) M rfl rfl rfl rfl rfl rfl (by have := HC.out.lt HK.out (f := 1) (by omega); simpa using this) rfl rfl (by kernel_rfl) (cs' := (cur).setIfInBounds (k * 10 + 1) (.int .i64 ((cN : Nat) : Int))) (by simp) ?_; clear M c1 c2 c3 c5; intro V M; simp only [kZ, kS] at M; have c1 := kc1 (M.get 3 rfl); have c2 := kc2 (M.get 4 rfl); have c3 := (M.get 2 rfl).cell; have c5 := kc1 (M.get 0 rfl))
   | (go_at_call 105; refine (tell_any M ⟨k, 6, aN, 0, true⟩ (i := 3) (j := 1) (k := 4) rfl rfl rfl hn).mono ?_; rintro ev V ⟨rfl, v', M⟩; have HM := Lib.hid M; clear M))
 go_end0
 exact ⟨rfl, gw, cw, _, _, hv, HM.out.drop_ 4, HC.out.set_pos HK.out, H1.out, H2.out, by simpa using H3.out⟩
set_option maxRecDepth 100000 in
set_option maxHeartbeats 2000000 in
theorem st_6a  (M : OM w W ((y.wp, 110, wpC y S.nr gw n cw evs) :: (gw, 174, cur) :: (y.bp, 186, pipesA S.nr hv cl) :: (y.bl, 4, arrB y.lk lk) :: (y.bg, 3, arrI y.gr gr) :: (y.bc, 3, arrI y.ce ce) :: (y.ps, 27, sysV S A c R d) :: Lr) ⟨evs, E, S.nr, hv, held⟩) (hC : WhoC cur n rs) (hk : k < n) (hS : SysIn w S A c R d) (hp : (rs k).prog < S.np) (hl : S.lp (rs k).prog ≤ 256) (hn : E.length ≤ 100000) (h1 : n ≤ cw) (h2 : cw ≤ maxLen) (h3 : cur.size = cw * 10) {f : Nat → Int} (hI : instP S (rs k) = some f) (e0 : f 0 = 6) (e1 : f 1 = (aN : Int)) (e2 : f 2 = (bN : Int)) (e3 : f 3 = (b3 : Int)) {g off cc : Nat} {x : Int} {l : List Int} (hh : hv aN = .slice (some ⟨g, off, none⟩) (l.length + 1) cc) (hx : held aN = x :: l) (hc : cc = 1) (ha : aN < S.nr) (hb : bN < 8) : Calls Try.prog 91 #[.pointer (some ⟨y.wp, 0, none⟩), .int .i64 (k : Int)] W fun ev W' => ev = .returned (.tuple #[]) ∧ InW w W' S A c R d y Lr ⟨n, fun j => if j = k then { setReg (rs k) bN x with pos := (rs k).pos + 1 } else rs j, updN held aN l, cl, lk, gr, ce, E ++ [⟨k, 6, aN, x, false⟩]⟩ := by
 have HN := Lib.hid (show ∀ V pw, OM w V ((pw, 104, #[.pointer (some ⟨y.wp, 0, none⟩)]) :: ((y.wp, 110, wpC y S.nr gw n cw evs) :: (gw, 174, cur) :: (y.bp, 186, pipesA S.nr hv cl) :: (y.bl, 4, arrB y.lk lk) :: (y.bg, 3, arrI y.gr gr) :: (y.bc, 3, arrI y.ce ce) :: (y.ps, 27, sysV S A c R d) :: Lr)) ⟨evs, E, S.nr, hv, held⟩ → Calls Try.prog 103 #[.pointer (some ⟨y.wp, 0, none⟩), .pointer (some ⟨gw, k * 10, none⟩)] V fun e W' => e = .returned (.tuple #[.agg #[Value.int .i64 6, .int .i64 (aN : Int), .int .i64 (bN : Int), .int .i64 (b3 : Int)], .bool true]) ∧ Keeps V W' [] from fun V pw M => by
   have := wnext_any (M.get 1 rfl) (M.get 2 rfl) (M.get 7 rfl) (hS.kept M.own.keep) hC hk hp
   rw [hI] at this
   simpa [instV, instC, e0, e1, e2, e3] using this)
 have HIC := Lib.hid (show ∀ v ∈ (#[Value.int .i64 6, .int .i64 (aN : Int), .int .i64 (bN : Int), .int .i64 (b3 : Int)]).toList, v.oneCell' = true from by
   have := instC_cell f
   simpa [instC, e0, e1, e2, e3] using this)
 have g1 : (k : Int) < n := by omega
 have g2 : (0 : Int) ≤ k := by omega
 have hpos : (rs k).pos < S.lp (rs k).prog := by
   unfold instP at hI
   split at hI
   · assumption
   · cases hI
 have g3 : ((rs k).pos : Int) < 256 := by omega
 have g4 : (0 : Int) ≤ (rs k).pos := by omega
 have HC := Lib.hid hC
 have HK := Lib.hid hk
 have HS := Lib.hid hS
 have HP := Lib.hid hp
 have HPos := Lib.hid hpos
 have H1 := Lib.hid h1
 have H2 := Lib.hid h2
 have H3 := Lib.hid h3
 have ak := add_zero_ gw (k * 10)
 have hmf := kf3
 clear hC hk hS hp hl hI e0 e1 e2 e3 h1 h2 h3 hpos
 have HA := Lib.hid (And.intro hh (And.intro hx (And.intro hc (And.intro ha hb))))
 clear hh hx hc ha hb
 go_enter Try.func91, Try.ntmps91
 go_wp2_with (first
   | go_big_skip
   | (refine om_box1 2 (.pointer (some ⟨y.wp, 0, none⟩)) M rfl rfl rfl rfl rfl ?_; clear M; intro V pw M; simp only [Act.put, kA, kZ, kS]; have c1 := kc1 (M.get 0 rfl); have c2 := kc2 (M.get 1 rfl))
   | (go_at_call 103; refine (HN.out _ _ M).mono ?_; rintro e V ⟨rfl, K⟩; replace M := M.keeps K; clear K c1 c2; have c1 := kc1 (M.get 0 rfl); have c2 := kc2 (M.get 1 rfl))
   | (refine om_alloc 5 (instC fun _ => 0) M rfl rfl rfl (fun _ => by kernel_rfl) ?_; clear M c1 c2; intro V pi M; simp only [Act.put, kA, kZ, kS]; have c1 := kc1 (M.get 1 rfl); have c2 := kc2 (M.get 2 rfl))
   | (refine at_store (.tmp 5) (.tmp 21) rfl ?_; refine om_store_row 0 (.tmp 5) (.tmp 21) (cs' := #[Value.int .i64 6, .int .i64 (aN : Int), .int .i64 (bN : Int), .int .i64 (b3 : Int)]) M rfl rfl rfl rfl rfl rfl (by kernel_rfl) (by rfl) HIC.out ?_; clear M c1 c2; intro V M; simp only [kZ] at M; have c1 := kc1 (M.get 1 rfl); have c2 := kc2 (M.get 2 rfl); have c3 := (M.get 0 rfl).cell)
   | (refine om_alloc 7 (evC ⟨0, 0, 0, 0, false⟩) M rfl rfl rfl (fun _ => by kernel_rfl) ?_; clear M c1 c2 c3; intro V pe M; simp only [Act.put, kA, kZ, kS]; have c1 := kc1 (M.get 2 rfl); have c2 := kc2 (M.get 3 rfl); have c3 := (M.get 1 rfl).cell)
   | (refine at_store (.tmp 7) (.tmp 26) rfl ?_; refine om_store_row 0 (.tmp 7) (.tmp 26) (cs' := evC ⟨k, 6, 0, 0, false⟩) M rfl rfl rfl rfl rfl rfl (by kernel_rfl) (by rfl) (evC_cell _) ?_; clear M c1 c2 c3; intro V M; simp only [kZ] at M; have c1 := kc1 (M.get 2 rfl); have c2 := kc2 (M.get 3 rfl); have c3 := (M.get 1 rfl).cell)
   | (refine om_alloc1 8 .nilFunc M rfl rfl rfl (fun _ => by kernel_rfl) rfl ?_; clear M c1 c2 c3; intro V pt M; simp only [Act.put, kA, kZ, kS]; have c1 := kc1 (M.get 3 rfl); have c2 := kc2 (M.get 4 rfl); have c3 := (M.get 2 rfl).cell)
   | (refine at_store (.tmp 8) (.tmp 27) rfl ?_; refine om_store 0 0 (Value.func (.func 105) #[] #[.pointer (some ⟨pw, 0, none⟩), .pointer (some ⟨pe, 0, none⟩)]) (.tmp 8) (.tmp 27) M rfl rfl rfl rfl rfl rfl (by show 0 < 1; omega) rfl rfl (by kernel_rfl) rfl ?_; clear M c1 c2 c3; intro V M; simp only [kZ] at M; have c1 := kc1 (M.get 3 rfl); have c2 := kc2 (M.get 4 rfl); have c3 := (M.get 2 rfl).cell; have c4 : V.cell? ⟨gw, k * 10 + 1, none⟩ = some (.int .i64 (rs k).pos) := ((M.get 5 rfl).cell _).trans (HC.out.pos HK.out); have c5 := kc1 (M.get 0 rfl))
   | (refine at_store (.tmp 211) (.tmp 210) rfl ?_; refine om_store 1 2 (.int .i64 aN) (.tmp 211) (.tmp 210) M rfl rfl rfl rfl rfl rfl (by show 2 < 5; omega) rfl rfl (by kernel_rfl) (cs' := evC ⟨k, 6, aN, 0, false⟩) rfl ?_; clear M c1 c2 c3 c4 c5; intro V M; simp only [kZ, kS] at M; have c1 := kc1 (M.get 3 rfl); have c2 := kc2 (M.get 4 rfl); have c3 := (M.get 2 rfl).cell; have c5 := kc1 (M.get 0 rfl))
   | (refine om_load 214 2 M rfl rfl rfl rfl rfl Try.underlying99 rfl (by kernel_rfl) ?_; simp only [Act.put, kA, kZ, kS])
   | (go_at_call 108; refine (sh_6a M HA.out.1 HA.out.2.1 HA.out.2.2.1 HA.out.2.2.2.1 HA.out.2.2.2.2 HK.out HC.out).mono ?_; rintro e V ⟨rfl, hv1, cur1, hC1, hs1, M⟩; have HC1 := Lib.hid hC1; have HS1 := Lib.hid hs1; clear hC1 hs1; clear c1 c2 c3 c5; have c1 := kc1 (M.get 3 rfl); have c2 := kc2 (M.get 4 rfl); have c3 := (M.get 2 rfl).cell; have c5 := kc1 (M.get 0 rfl))
   | (refine at_store (.tmp 221) (.tmp 219) rfl ?_; refine om_store 5 (k * 10 + 1) (.int .i64 (((rs k).pos : Int) + 1)) (.tmp 221) (.tmp 219) M rfl rfl rfl rfl rfl rfl (by have := HC1.out.lt HK.out (f := 1) (by omega); simpa using this) rfl rfl (by kernel_rfl) (cs' := (cur1).setIfInBounds (k * 10 + 1) (.int .i64 (((rs k).pos + 1 : Nat) : Int))) (by simp) ?_; clear M c1 c2 c3 c5; intro V M; simp only [kZ, kS] at M; have c1 := kc1 (M.get 3 rfl); have c2 := kc2 (M.get 4 rfl); have c3 := (M.get 2 rfl).cell; have c5 := kc1 (M.get 0 rfl))
   | (go_at_call 105; refine (tell_any M ⟨k, 6, aN, x, false⟩ (i := 3) (j := 1) (k := 4) rfl rfl rfl hn).mono ?_; rintro ev V ⟨rfl, v', M⟩; have HM := Lib.hid M; clear M))
 go_end0
 exact ⟨rfl, gw, cw, _, _, _, HM.out.drop_ 4, ((HC1.out.set_pos HK.out).congr fun j hj => by by_cases h : j = k <;> simp [h]), H1.out, H2.out, by rw [Array.size_setIfInBounds, HS1.out]; exact H3.out⟩
set_option maxRecDepth 100000 in
set_option maxHeartbeats 2000000 in
theorem st_6b  (M : OM w W ((y.wp, 110, wpC y S.nr gw n cw evs) :: (gw, 174, cur) :: (y.bp, 186, pipesA S.nr hv cl) :: (y.bl, 4, arrB y.lk lk) :: (y.bg, 3, arrI y.gr gr) :: (y.bc, 3, arrI y.ce ce) :: (y.ps, 27, sysV S A c R d) :: Lr) ⟨evs, E, S.nr, hv, held⟩) (hC : WhoC cur n rs) (hk : k < n) (hS : SysIn w S A c R d) (hp : (rs k).prog < S.np) (hl : S.lp (rs k).prog ≤ 256) (hn : E.length ≤ 100000) (h1 : n ≤ cw) (h2 : cw ≤ maxLen) (h3 : cur.size = cw * 10) {f : Nat → Int} (hI : instP S (rs k) = some f) (e0 : f 0 = 6) (e1 : f 1 = (aN : Int)) (e2 : f 2 = (bN : Int)) (e3 : f 3 = (b3 : Int)) {g off cc : Nat} {x : Int} {l : List Int} (hh : hv aN = .slice (some ⟨g, off, none⟩) (l.length + 1) cc) (hx : held aN = x :: l) (hc : 1 < cc) (ha : aN < S.nr) (hb : bN < 8) : Calls Try.prog 91 #[.pointer (some ⟨y.wp, 0, none⟩), .int .i64 (k : Int)] W fun ev W' => ev = .returned (.tuple #[]) ∧ InW w W' S A c R d y Lr ⟨n, fun j => if j = k then { setReg (rs k) bN x with pos := (rs k).pos + 1 } else rs j, updN held aN l, cl, lk, gr, ce, E ++ [⟨k, 6, aN, x, false⟩]⟩ := by
 have HN := Lib.hid (show ∀ V pw, OM w V ((pw, 104, #[.pointer (some ⟨y.wp, 0, none⟩)]) :: ((y.wp, 110, wpC y S.nr gw n cw evs) :: (gw, 174, cur) :: (y.bp, 186, pipesA S.nr hv cl) :: (y.bl, 4, arrB y.lk lk) :: (y.bg, 3, arrI y.gr gr) :: (y.bc, 3, arrI y.ce ce) :: (y.ps, 27, sysV S A c R d) :: Lr)) ⟨evs, E, S.nr, hv, held⟩ → Calls Try.prog 103 #[.pointer (some ⟨y.wp, 0, none⟩), .pointer (some ⟨gw, k * 10, none⟩)] V fun e W' => e = .returned (.tuple #[.agg #[Value.int .i64 6, .int .i64 (aN : Int), .int .i64 (bN : Int), .int .i64 (b3 : Int)], .bool true]) ∧ Keeps V W' [] from fun V pw M => by
   have := wnext_any (M.get 1 rfl) (M.get 2 rfl) (M.get 7 rfl) (hS.kept M.own.keep) hC hk hp
   rw [hI] at this
   simpa [instV, instC, e0, e1, e2, e3] using this)
 have HIC := Lib.hid (show ∀ v ∈ (#[Value.int .i64 6, .int .i64 (aN : Int), .int .i64 (bN : Int), .int .i64 (b3 : Int)]).toList, v.oneCell' = true from by
   have := instC_cell f
   simpa [instC, e0, e1, e2, e3] using this)
 have g1 : (k : Int) < n := by omega
 have g2 : (0 : Int) ≤ k := by omega
 have hpos : (rs k).pos < S.lp (rs k).prog := by
   unfold instP at hI
   split at hI
   · assumption
   · cases hI
 have g3 : ((rs k).pos : Int) < 256 := by omega
 have g4 : (0 : Int) ≤ (rs k).pos := by omega
 have HC := Lib.hid hC
 have HK := Lib.hid hk
 have HS := Lib.hid hS
 have HP := Lib.hid hp
 have HPos := Lib.hid hpos
 have H1 := Lib.hid h1
 have H2 := Lib.hid h2
 have H3 := Lib.hid h3
 have ak := add_zero_ gw (k * 10)
 have hmf := kf3
 clear hC hk hS hp hl hI e0 e1 e2 e3 h1 h2 h3 hpos
 have HA := Lib.hid (And.intro hh (And.intro hx (And.intro hc (And.intro ha hb))))
 clear hh hx hc ha hb
 go_enter Try.func91, Try.ntmps91
 go_wp2_with (first
   | go_big_skip
   | (refine om_box1 2 (.pointer (some ⟨y.wp, 0, none⟩)) M rfl rfl rfl rfl rfl ?_; clear M; intro V pw M; simp only [Act.put, kA, kZ, kS]; have c1 := kc1 (M.get 0 rfl); have c2 := kc2 (M.get 1 rfl))
   | (go_at_call 103; refine (HN.out _ _ M).mono ?_; rintro e V ⟨rfl, K⟩; replace M := M.keeps K; clear K c1 c2; have c1 := kc1 (M.get 0 rfl); have c2 := kc2 (M.get 1 rfl))
   | (refine om_alloc 5 (instC fun _ => 0) M rfl rfl rfl (fun _ => by kernel_rfl) ?_; clear M c1 c2; intro V pi M; simp only [Act.put, kA, kZ, kS]; have c1 := kc1 (M.get 1 rfl); have c2 := kc2 (M.get 2 rfl))
   | (refine at_store (.tmp 5) (.tmp 21) rfl ?_; refine om_store_row 0 (.tmp 5) (.tmp 21) (cs' := #[Value.int .i64 6, .int .i64 (aN : Int), .int .i64 (bN : Int), .int .i64 (b3 : Int)]) M rfl rfl rfl rfl rfl rfl (by kernel_rfl) (by rfl) HIC.out ?_; clear M c1 c2; intro V M; simp only [kZ] at M; have c1 := kc1 (M.get 1 rfl); have c2 := kc2 (M.get 2 rfl); have c3 := (M.get 0 rfl).cell)
   | (refine om_alloc 7 (evC ⟨0, 0, 0, 0, false⟩) M rfl rfl rfl (fun _ => by kernel_rfl) ?_; clear M c1 c2 c3; intro V pe M; simp only [Act.put, kA, kZ, kS]; have c1 := kc1 (M.get 2 rfl); have c2 := kc2 (M.get 3 rfl); have c3 := (M.get 1 rfl).cell)
   | (refine at_store (.tmp 7) (.tmp 26) rfl ?_; refine om_store_row 0 (.tmp 7) (.tmp 26) (cs' := evC ⟨k, 6, 0, 0, false⟩) M rfl rfl rfl rfl rfl rfl (by kernel_rfl) (by rfl) (evC_cell _) ?_; clear M c1 c2 c3; intro V M; simp only [kZ] at M; have c1 := kc1 (M.get 2 rfl); have c2 := kc2 (M.get 3 rfl); have c3 := (M.get 1 rfl).cell)
   | (refine om_alloc1 8 .nilFunc M rfl rfl rfl (fun _ => by kernel_rfl) rfl ?_; clear M c1 c2 c3; intro V pt M; simp only [Act.put, kA, kZ, kS]; have c1 := kc1 (M.get 3 rfl); have c2 := kc2 (M.get 4 rfl); have c3 := (M.get 2 rfl).cell)
   | (refine at_store (.tmp 8) (.tmp 27) rfl ?_; refine om_store 0 0 (Value.func (.func 105) #[] #[.pointer (some ⟨pw, 0, none⟩), .pointer (some ⟨pe, 0, none⟩)]) (.tmp 8) (.tmp 27) M rfl rfl rfl rfl rfl rfl (by show 0 < 1; omega) rfl rfl (by kernel_rfl) rfl ?_; clear M c1 c2 c3; intro V M; simp only [kZ] at M; have c1 := kc1 (M.get 3 rfl); have c2 := kc2 (M.get 4 rfl); have c3 := (M.get 2 rfl).cell; have c4 : V.cell? ⟨gw, k * 10 + 1, none⟩ = some (.int .i64 (rs k).pos) := ((M.get 5 rfl).cell _).trans (HC.out.pos HK.out); have c5 := kc1 (M.get 0 rfl))
   | (refine at_store (.tmp 211) (.tmp 210) rfl ?_; refine om_store 1 2 (.int .i64 aN) (.tmp 211) (.tmp 210) M rfl rfl rfl rfl rfl rfl (by show 2 < 5; omega) rfl rfl (by kernel_rfl) (cs' := evC ⟨k, 6, aN, 0, false⟩) rfl ?_; clear M c1 c2 c3 c4 c5; intro V M; simp only [kZ, kS] at M; have c1 := kc1 (M.get 3 rfl); have c2 := kc2 (M.get 4 rfl); have c3 := (M.get 2 rfl).cell; have c5 := kc1 (M.get 0 rfl))
   | (refine om_load 214 2 M rfl rfl rfl rfl rfl Try.underlying99 rfl (by kernel_rfl) ?_; simp only [Act.put, kA, kZ, kS])
   | (go_at_call 108; refine (sh_6b M HA.out.1 HA.out.2.1 HA.out.2.2.1 HA.out.2.2.2.1 HA.out.2.2.2.2 HK.out HC.out).mono ?_; rintro e V ⟨rfl, hv1, cur1, hC1, hs1, M⟩; have HC1 := Lib.hid hC1; have HS1 := Lib.hid hs1; clear hC1 hs1; clear c1 c2 c3 c5; have c1 := kc1 (M.get 3 rfl); have c2 := kc2 (M.get 4 rfl); have c3 := (M.get 2 rfl).cell; have c5 := kc1 (M.get 0 rfl))
   | (refine at_store (.tmp 221) (.tmp 219) rfl ?_; refine om_store 5 (k * 10 + 1) (.int .i64 (((rs k).pos : Int) + 1)) (.tmp 221) (.tmp 219) M rfl rfl rfl rfl rfl rfl (by have := HC1.out.lt HK.out (f := 1) (by omega); simpa using this) rfl rfl (by kernel_rfl) (cs' := (cur1).setIfInBounds (k * 10 + 1) (.int .i64 (((rs k).pos + 1 : Nat) : Int))) (by simp) ?_; clear M c1 c2 c3 c5; intro V M; simp only [kZ, kS] at M; have c1 := kc1 (M.get 3 rfl); have c2 := kc2 (M.get 4 rfl); have c3 := (M.get 2 rfl).cell; have c5 := kc1 (M.get 0 rfl))
   | (go_at_call 105; refine (tell_any M ⟨k, 6, aN, x, false⟩ (i := 3) (j := 1) (k := 4) rfl rfl rfl hn).mono ?_; rintro ev V ⟨rfl, v', M⟩; have HM := Lib.hid M; clear M))
 go_end0
 exact ⟨rfl, gw, cw, _, _, _, HM.out.drop_ 4, ((HC1.out.set_pos HK.out).congr fun j hj => by by_cases h : j = k <;> simp [h]), H1.out, H2.out, by rw [Array.size_setIfInBounds, HS1.out]; exact H3.out⟩
set_option maxRecDepth 100000 in
set_option maxHeartbeats 2000000 in
theorem st_5c  (M : OM w W ((y.wp, 110, wpC y S.nr gw n cw evs) :: (gw, 174, cur) :: (y.bp, 186, pipesA S.nr hv cl) :: (y.bl, 4, arrB y.lk lk) :: (y.bg, 3, arrI y.gr gr) :: (y.bc, 3, arrI y.ce ce) :: (y.ps, 27, sysV S A c R d) :: Lr) ⟨evs, E, S.nr, hv, held⟩) (hC : WhoC cur n rs) (hk : k < n) (hS : SysIn w S A c R d) (hp : (rs k).prog < S.np) (hl : S.lp (rs k).prog ≤ 256) (hn : E.length ≤ 100000) (h1 : n ≤ cw) (h2 : cw ≤ maxLen) (h3 : cur.size = cw * 10) {f : Nat → Int} (hI : instP S (rs k) = some f) (e0 : f 0 = 5) (e1 : f 1 = (aN : Int)) (e2 : f 2 = (bN : Int)) (e3 : f 3 = (b3 : Int)) (ha : aN < S.nr) (hb : bN < 8) (hcl : cl aN = true) : Calls Try.prog 91 #[.pointer (some ⟨y.wp, 0, none⟩), .int .i64 (k : Int)] W fun ev W' => ev = .panicked [{ v := .iface 22 (.int .i64 131), recovered := false }] ∧ InW w W' S A c R d y Lr ⟨n, rs, held, cl, lk, gr, ce, E ++ [⟨k, 5, aN, ((rs k).rg bN), false⟩]⟩ := by
 have HN := Lib.hid (show ∀ V pw, OM w V ((pw, 104, #[.pointer (some ⟨y.wp, 0, none⟩)]) :: ((y.wp, 110, wpC y S.nr gw n cw evs) :: (gw, 174, cur) :: (y.bp, 186, pipesA S.nr hv cl) :: (y.bl, 4, arrB y.lk lk) :: (y.bg, 3, arrI y.gr gr) :: (y.bc, 3, arrI y.ce ce) :: (y.ps, 27, sysV S A c R d) :: Lr)) ⟨evs, E, S.nr, hv, held⟩ → Calls Try.prog 103 #[.pointer (some ⟨y.wp, 0, none⟩), .pointer (some ⟨gw, k * 10, none⟩)] V fun e W' => e = .returned (.tuple #[.agg #[Value.int .i64 5, .int .i64 (aN : Int), .int .i64 (bN : Int), .int .i64 (b3 : Int)], .bool true]) ∧ Keeps V W' [] from fun V pw M => by
   have := wnext_any (M.get 1 rfl) (M.get 2 rfl) (M.get 7 rfl) (hS.kept M.own.keep) hC hk hp
   rw [hI] at this
   simpa [instV, instC, e0, e1, e2, e3] using this)
 have HIC := Lib.hid (show ∀ v ∈ (#[Value.int .i64 5, .int .i64 (aN : Int), .int .i64 (bN : Int), .int .i64 (b3 : Int)]).toList, v.oneCell' = true from by
   have := instC_cell f
   simpa [instC, e0, e1, e2, e3] using this)
 have g1 : (k : Int) < n := by omega
 have g2 : (0 : Int) ≤ k := by omega
 have hpos : (rs k).pos < S.lp (rs k).prog := by
   unfold instP at hI
   split at hI
   · assumption
   · cases hI
 have g3 : ((rs k).pos : Int) < 256 := by omega
 have g4 : (0 : Int) ≤ (rs k).pos := by omega
 have HC := Lib.hid hC
 have HK := Lib.hid hk
 have HS := Lib.hid hS
 have HP := Lib.hid hp
 have HPos := Lib.hid hpos
 have H1 := Lib.hid h1
 have H2 := Lib.hid h2
 have H3 := Lib.hid h3
 have ak := add_zero_ gw (k * 10)
 have hmf := kf3
 clear hC hk hS hp hl hI e0 e1 e2 e3 h1 h2 h3 hpos
 have HA := Lib.hid (And.intro ha (And.intro hb hcl))
 clear ha hb hcl
 go_enter Try.func91, Try.ntmps91
 go_wp2_with (first
   | go_big_skip
   | (refine om_box1 2 (.pointer (some ⟨y.wp, 0, none⟩)) M rfl rfl rfl rfl rfl ?_; clear M; intro V pw M; simp only [Act.put, kA, kZ, kS]; have c1 := kc1 (M.get 0 rfl); have c2 := kc2 (M.get 1 rfl))
   | (go_at_call 103; refine (HN.out _ _ M).mono ?_; rintro e V ⟨rfl, K⟩; replace M := M.keeps K; clear K c1 c2; have c1 := kc1 (M.get 0 rfl); have c2 := kc2 (M.get 1 rfl))
   | (refine om_alloc 5 (instC fun _ => 0) M rfl rfl rfl (fun _ => by kernel_rfl) ?_; clear M c1 c2; intro V pi M; simp only [Act.put, kA, kZ, kS]; have c1 := kc1 (M.get 1 rfl); have c2 := kc2 (M.get 2 rfl))
   | (refine at_store (.tmp 5) (.tmp 21) rfl ?_; refine om_store_row 0 (.tmp 5) (.tmp 21) (cs' := #[Value.int .i64 5, .int .i64 (aN : Int), .int .i64 (bN : Int), .int .i64 (b3 : Int)]) M rfl rfl rfl rfl rfl rfl (by kernel_rfl) (by rfl) HIC.out ?_; clear M c1 c2; intro V M; simp only [kZ] at M; have c1 := kc1 (M.get 1 rfl); have c2 := kc2 (M.get 2 rfl); have c3 := (M.get 0 rfl).cell)
   | (refine om_alloc 7 (evC ⟨0, 0, 0, 0, false⟩) M rfl rfl rfl (fun _ => by kernel_rfl) ?_; clear M c1 c2 c3; intro V pe M; simp only [Act.put, kA, kZ, kS]; have c1 := kc1 (M.get 2 rfl); have c2 := kc2 (M.get 3 rfl); have c3 := (M.get 1 rfl).cell)
   | (refine at_store (.tmp 7) (.tmp 26) rfl ?_; refine om_store_row 0 (.tmp 7) (.tmp 26) (cs' := evC ⟨k, 5, 0, 0, false⟩) M rfl rfl rfl rfl rfl rfl (by kernel_rfl) (by rfl) (evC_cell _) ?_; clear M c1 c2 c3; intro V M; simp only [kZ] at M; have c1 := kc1 (M.get 2 rfl); have c2 := kc2 (M.get 3 rfl); have c3 := (M.get 1 rfl).cell)
   | (refine om_alloc1 8 .nilFunc M rfl rfl rfl (fun _ => by kernel_rfl) rfl ?_; clear M c1 c2 c3; intro V pt M; simp only [Act.put, kA, kZ, kS]; have c1 := kc1 (M.get 3 rfl); have c2 := kc2 (M.get 4 rfl); have c3 := (M.get 2 rfl).cell)
   | (refine at_store (.tmp 8) (.tmp 27) rfl ?_; refine om_store 0 0 (Value.func (.func 105) #[] #[.pointer (some ⟨pw, 0, none⟩), .pointer (some ⟨pe, 0, none⟩)]) (.tmp 8) (.tmp 27) M rfl rfl rfl rfl rfl rfl (by show 0 < 1; omega) rfl rfl (by kernel_rfl) rfl ?_; clear M c1 c2 c3; intro V M; simp only [kZ] at M; have c1 := kc1 (M.get 3 rfl); have c2 := kc2 (M.get 4 rfl); have c3 := (M.get 2 rfl).cell; have c4 : V.cell? ⟨gw, k * 10 + 1, none⟩ = some (.int .i64 (rs k).pos) := ((M.get 5 rfl).cell _).trans (HC.out.pos HK.out); have c5 := kc1 (M.get 0 rfl))
   | (refine at_store (.tmp 211) (.tmp 210) rfl ?_; refine om_store 1 2 (.int .i64 aN) (.tmp 211) (.tmp 210) M rfl rfl rfl rfl rfl rfl (by show 2 < 5; omega) rfl rfl (by kernel_rfl) (cs' := evC ⟨k, 5, aN, 0, false⟩) rfl ?_; clear M c1 c2 c3 c4 c5; intro V M; simp only [kZ, kS] at M; have c1 := kc1 (M.get 3 rfl); have c2 := kc2 (M.get 4 rfl); have c3 := (M.get 2 rfl).cell; have c5 := kc1 (M.get 0 rfl))
   | (refine om_load 214 2 M rfl rfl rfl rfl rfl Try.underlying99 rfl (by kernel_rfl) ?_; simp only [Act.put, kA, kZ, kS])
   | (go_at_call 108; refine (sh_5c M hn HA.out.1 HA.out.2.1 (HC.out.reg HK.out HA.out.2.1) HA.out.2.2).mono ?_; rintro e V ⟨rfl, v', M⟩; have HM := Lib.hid M; clear M))
 exact ⟨rfl, rfl, gw, cw, _, _, hv, HM.out.drop_ 4, HC.out, H1.out, H2.out, H3.out⟩
set_option maxRecDepth 100000 in
set_option maxHeartbeats 2000000 in
theorem st_7c  (M : OM w W ((y.wp, 110, wpC y S.nr gw n cw evs) :: (gw, 174, cur) :: (y.bp, 186, pipesA S.nr hv cl) :: (y.bl, 4, arrB y.lk lk) :: (y.bg, 3, arrI y.gr gr) :: (y.bc, 3, arrI y.ce ce) :: (y.ps, 27, sysV S A c R d) :: Lr) ⟨evs, E, S.nr, hv, held⟩) (hC : WhoC cur n rs) (hk : k < n) (hS : SysIn w S A c R d) (hp : (rs k).prog < S.np) (hl : S.lp (rs k).prog ≤ 256) (hn : E.length ≤ 100000) (h1 : n ≤ cw) (h2 : cw ≤ maxLen) (h3 : cur.size = cw * 10) {f : Nat → Int} (hI : instP S (rs k) = some f) (e0 : f 0 = 7) (e1 : f 1 = (aN : Int)) (e2 : f 2 = (b : Int)) (e3 : f 3 = (b3 : Int)) (ha : aN < S.nr) (hcl : cl aN = true) : Calls Try.prog 91 #[.pointer (some ⟨y.wp, 0, none⟩), .int .i64 (k : Int)] W fun ev W' => ev = .panicked [{ v := .iface 22 (.int .i64 132), recovered := false }] ∧ InW w W' S A c R d y Lr ⟨n, rs, held, cl, lk, gr, ce, E ++ [⟨k, 7, aN, 0, false⟩]⟩ := by
 have HN := Lib.hid (show ∀ V pw, OM w V ((pw, 104, #[.pointer (some ⟨y.wp, 0, none⟩)]) :: ((y.wp, 110, wpC y S.nr gw n cw evs) :: (gw, 174, cur) :: (y.bp, 186, pipesA S.nr hv cl) :: (y.bl, 4, arrB y.lk lk) :: (y.bg, 3, arrI y.gr gr) :: (y.bc, 3, arrI y.ce ce) :: (y.ps, 27, sysV S A c R d) :: Lr)) ⟨evs, E, S.nr, hv, held⟩ → Calls Try.prog 103 #[.pointer (some ⟨y.wp, 0, none⟩), .pointer (some ⟨gw, k * 10, none⟩)] V fun e W' => e = .returned (.tuple #[.agg #[Value.int .i64 7, .int .i64 (aN : Int), .int .i64 (b : Int), .int .i64 (b3 : Int)], .bool true]) ∧ Keeps V W' [] from fun V pw M => by
   have := wnext_any (M.get 1 rfl) (M.get 2 rfl) (M.get 7 rfl) (hS.kept M.own.keep) hC hk hp
   rw [hI] at this
   simpa [instV, instC, e0, e1, e2, e3] using this)
 have HIC := Lib.hid (show ∀ v ∈ (#[Value.int .i64 7, .int .i64 (aN : Int), .int .i64 (b : Int), .int .i64 (b3 : Int)]).toList, v.oneCell' = true from by
   have := instC_cell f
   simpa [instC, e0, e1, e2, e3] using this)
 have g1 : (k : Int) < n := by omega
 have g2 : (0 : Int) ≤ k := by omega
 have hpos : (rs k).pos < S.lp (rs k).prog := by
   unfold instP at hI
   split at hI
   · assumption
   · cases hI
 have g3 : ((rs k).pos : Int) < 256 := by omega
 have g4 : (0 : Int) ≤ (rs k).pos := by omega
 have HC := Lib.hid hC
 have HK := Lib.hid hk
 have HS := Lib.hid hS
 have HP := Lib.hid hp
 have HPos := Lib.hid hpos
 have H1 := Lib.hid h1
 have H2 := Lib.hid h2
 have H3 := Lib.hid h3
 have ak := add_zero_ gw (k * 10)
 have hmf := kf3
 clear hC hk hS hp hl hI e0 e1 e2 e3 h1 h2 h3 hpos
 have HA := Lib.hid (And.intro ha hcl)
 clear ha hcl
 go_enter Try.func91, Try.ntmps91
 go_wp2_with (first
   | go_big_skip
   | (refine om_box1 2 (.pointer (some ⟨y.wp, 0, none⟩)) M rfl rfl rfl rfl rfl ?_; clear M; intro V pw M; simp only [Act.put, kA, kZ, kS]; have c1 := kc1 (M.get 0 rfl); have c2 := kc2 (M.get 1 rfl))
   | (go_at_call 103; refine (HN.out _ _ M).mono ?_; rintro e V ⟨rfl, K⟩; replace M := M.keeps K; clear K c1 c2; have c1 := kc1 (M.get 0 rfl); have c2 := kc2 (M.get 1 rfl))
   | (refine om_alloc 5 (instC fun _ => 0) M rfl rfl rfl (fun _ => by kernel_rfl) ?_; clear M c1 c2; intro V pi M; simp only [Act.put, kA, kZ, kS]; have c1 := kc1 (M.get 1 rfl); have c2 := kc2 (M.get 2 rfl))
   | (refine at_store (.tmp 5) (.tmp 21) rfl ?_; refine om_store_row 0 (.tmp 5) (.tmp 21) (cs' := #[Value.int .i64 7, .int .i64 (aN : Int), .int .i64 (b : Int), .int .i64 (b3 : Int)]) M rfl rfl rfl rfl rfl rfl (by kernel_rfl) (by rfl) HIC.out ?_; clear M c1 c2; intro V M; simp only [kZ] at M; have c1 := kc1 (M.get 1 rfl); have c2 := kc2 (M.get 2 rfl); have c3 := (M.get 0 rfl).cell)
   | (refine om_alloc 7 (evC ⟨0, 0, 0, 0, false⟩) M rfl rfl rfl (fun _ => by kernel_rfl) ?_; clear M c1 c2 c3; intro V pe M; simp only [Act.put, kA, kZ, kS]; have c1 := kc1 (M.get 2 rfl); have c2 := kc2 (M.get 3 rfl); have c3 := (M.get 1 rfl).cell)
   | (refine at_store (.tmp 7) (.tmp 26) rfl ?_; refine om_store_row 0 (.tmp 7) (.tmp 26) (cs' := evC ⟨k, 7, 0, 0, false⟩) M rfl rfl rfl rfl rfl rfl (by kernel_rfl) (by rfl) (evC_cell _) ?_; clear M c1 c2 c3; intro V M; simp only [kZ] at M; have c1 := kc1 (M.get 2 rfl); have c2 := kc2 (M.get 3 rfl); have c3 := (M.get 1 rfl).cell)
   | (refine om_alloc1 8 .nilFunc M rfl rfl rfl (fun _ => by kernel_rfl) rfl ?_; clear M c1 c2 c3; intro V pt M; simp only [Act.put, kA, kZ, kS]; have c1 := kc1 (M.get 3 rfl); have c2 := kc2 (M.get 4 rfl); have c3 := (M.get 2 rfl).cell)
   | (refine at_store (.tmp 8) (.tmp 27) rfl ?_; refine om_store 0 0 (Value.func (.func 105) #[] #[.pointer (some ⟨pw, 0, none⟩), .pointer (some ⟨pe, 0, none⟩)]) (.tmp 8) (.tmp 27) M rfl rfl rfl rfl rfl rfl (by show 0 < 1; omega) rfl rfl (by kernel_rfl) rfl ?_; clear M c1 c2 c3; intro V M; simp only [kZ] at M; have c1 := kc1 (M.get 3 rfl); have c2 := kc2 (M.get 4 rfl); have c3 := (M.get 2 rfl).cell; have c4 : V.cell? ⟨gw, k * 10 + 1, none⟩ = some (.int .i64 (rs k).pos) := ((M.get 5 rfl).cell _).trans (HC.out.pos HK.out); have c5 := kc1 (M.get 0 rfl))
   | (refine at_store (.tmp 211) (.tmp 210) rfl ?_; refine om_store 1 2 (.int .i64 aN) (.tmp 211) (.tmp 210) M rfl rfl rfl rfl rfl rfl (by show 2 < 5; omega) rfl rfl (by kernel_rfl) (cs' := evC ⟨k, 7, aN, 0, false⟩) rfl ?_; clear M c1 c2 c3 c4 c5; intro V M; simp only [kZ, kS] at M; have c1 := kc1 (M.get 3 rfl); have c2 := kc2 (M.get 4 rfl); have c3 := (M.get 2 rfl).cell; have c5 := kc1 (M.get 0 rfl))
   | (refine om_load 214 2 M rfl rfl rfl rfl rfl Try.underlying99 rfl (by kernel_rfl) ?_; simp only [Act.put, kA, kZ, kS])
   | (go_at_call 108; refine (sh_7c M hn HA.out.1 HA.out.2).mono ?_; rintro e V ⟨rfl, v', M⟩; have HM := Lib.hid M; clear M))
 exact ⟨rfl, rfl, gw, cw, _, _, hv, HM.out.drop_ 4, HC.out, H1.out, H2.out, H3.out⟩
set_option maxRecDepth 100000 in
set_option maxHeartbeats 2000000 in
theorem st_9f  (M : OM w W ((y.wp, 110, wpC y S.nr gw n cw evs) :: (gw, 174, cur) :: (y.bp, 186, pipesA S.nr hv cl) :: (y.bl, 4, arrB y.lk lk) :: (y.bg, 3, arrI y.gr gr) :: (y.bc, 3, arrI y.ce ce) :: (y.ps, 27, sysV S A c R d) :: Lr) ⟨evs, E, S.nr, hv, held⟩) (hC : WhoC cur n rs) (hk : k < n) (hS : SysIn w S A c R d) (hp : (rs k).prog < S.np) (hl : S.lp (rs k).prog ≤ 256) (hn : E.length ≤ 100000) (h1 : n ≤ cw) (h2 : cw ≤ maxLen) (h3 : cur.size = cw * 10) {f : Nat → Int} (hI : instP S (rs k) = some f) (e0 : f 0 = 9) (e1 : f 1 = (aN : Int)) (e2 : f 2 = (b : Int)) (e3 : f 3 = (b3 : Int)) (ha : aN < y.lk) (hcl : lk aN = false) : Calls Try.prog 91 #[.pointer (some ⟨y.wp, 0, none⟩), .int .i64 (k : Int)] W fun ev W' => ev = .panicked [{ v := .iface 22 (.int .i64 133), recovered := false }] ∧ InW w W' S A c R d y Lr ⟨n, rs, held, cl, lk, gr, ce, E ++ [⟨k, 9, aN, 0, false⟩]⟩ := by
 have HN := Lib.hid (show ∀ V pw, OM w V ((pw, 104, #[.pointer (some ⟨y.wp, 0, none⟩)]) :: ((y.wp, 110, wpC y S.nr gw n cw evs) :: (gw, 174, cur) :: (y.bp, 186, pipesA S.nr hv cl) :: (y.bl, 4, arrB y.lk lk) :: (y.bg, 3, arrI y.gr gr) :: (y.bc, 3, arrI y.ce ce) :: (y.ps, 27, sysV S A c R d) :: Lr)) ⟨evs, E, S.nr, hv, held⟩ → Calls Try.prog 103 #[.pointer (some ⟨y.wp, 0, none⟩), .pointer (some ⟨gw, k * 10, none⟩)] V fun e W' => e = .returned (.tuple #[.agg #[Value.int .i64 9, .int .i64 (aN : Int), .int .i64 (b : Int), .int .i64 (b3 : Int)], .bool true]) ∧ Keeps V W' [] from fun V pw M => by
   have := wnext_any (M.get 1 rfl) (M.get 2 rfl) (M.get 7 rfl) (hS.kept M.own.keep) hC hk hp
   rw [hI] at this
   simpa [instV, instC, e0, e1, e2, e3] using this)
 have HIC := Lib.hid (show ∀ v ∈ (#[Value.int .i64 9, .int .i64 (aN : Int), .int .i64 (b : Int), .int .i64 (b3 : Int)]).toList, v.oneCell' = true from by
   have := instC_cell f
   simpa [instC, e0, e1, e2, e3] using this)
 have g1 : (k : Int) < n := by omega
 have g2 : (0 : Int) ≤ k := by omega
 have hpos : (rs k).pos < S.lp (rs k).prog := by
   unfold instP at hI
   split at hI
   · assumption
   · cases hI
 have g3 : ((rs k).pos : Int) < 256 := by omega
 have g4 : (0 : Int) ≤ (rs k).pos := by omega
 have HC := Lib.hid hC
 have HK := Lib.hid hk
 have HS := Lib.hid hS
 have HP := Lib.hid hp
 have HPos := Lib.hid hpos
 have H1 := Lib.hid h1
 have H2 := Lib.hid h2
 have H3 := Lib.hid h3
 have ak := add_zero_ gw (k * 10)
 have hmf := kf3
 clear hC hk hS hp hl hI e0 e1 e2 e3 h1 h2 h3 hpos
 have HA := Lib.hid (And.intro ha hcl)
 clear ha hcl
 go_enter Try.func91, Try.ntmps91
 go_wp2_with (first
   | go_big_skip
   | (refine om_box1 2 (.pointer (some ⟨y.wp, 0, none⟩)) M rfl rfl rfl rfl rfl ?_; clear M; intro V pw M; simp only [Act.put, kA, kZ, kS]; have c1 := kc1 (M.get 0 rfl); have c2 := kc2 (M.get 1 rfl))
   | (go_at_call 103; refine (HN.out _ _ M).mono ?_; rintro e V ⟨rfl, K⟩; replace M := M.keeps K; clear K c1 c2; have c1 := kc1 (M.get 0 rfl); have c2 := kc2 (M.get 1 rfl))
   | (refine om_alloc 5 (instC fun _ => 0) M rfl rfl rfl (fun _ => by kernel_rfl) ?_; clear M c1 c2; intro V pi M; simp only [Act.put, kA, kZ, kS]; have c1 := kc1 (M.get 1 rfl); have c2 := kc2 (M.get 2 rfl))
   | (refine at_store (.tmp 5) (.tmp 21) rfl ?_; refine om_store_row 0 (.tmp 5) (.tmp 21) (cs' := #[Value.int .i64 9, .int .i64 (aN : Int), .int .i64 (b : Int), .int .i64 (b3 : Int)]) M rfl rfl rfl rfl rfl rfl (by kernel_rfl) (by rfl) HIC.out ?_; clear M c1 c2; intro V M; simp only [kZ] at M; have c1 := kc1 (M.get 1 rfl); have c2 := kc2 (M.get 2 rfl); have c3 := (M.get 0 rfl).cell)
   | (refine om_alloc 7 (evC ⟨0, 0, 0, 0, false⟩) M rfl rfl rfl (fun _ => by kernel_rfl) ?_; clear M c1 c2 c3; intro V pe M; simp only [Act.put, kA, kZ, kS]; have c1 := kc1 (M.get 2 rfl); have c2 := kc2 (M.get 3 rfl); have c3 := (M.get 1 rfl).cell)
   | (refine at_store (.tmp 7) (.tmp 26) rfl ?_; refine om_store_row 0 (.tmp 7) (.tmp 26) (cs' := evC ⟨k, 9, 0, 0, false⟩) M rfl rfl rfl rfl rfl rfl (by kernel_rfl) (by rfl) (evC_cell _) ?_; clear M c1 c2 c3; intro V M; simp only [kZ] at M; have c1 := kc1 (M.get 2 rfl); have c2 := kc2 (M.get 3 rfl); have c3 := (M.get 1 rfl).cell)
   | (refine om_alloc1 8 .nilFunc M rfl rfl rfl (fun _ => by kernel_rfl) rfl ?_; clear M c1 c2 c3; intro V pt M; simp only [Act.put, kA, kZ, kS]; have c1 := kc1 (M.get 3 rfl); have c2 := kc2 (M.get 4 rfl); have c3 := (M.get 2 rfl).cell)
   | (refine at_store (.tmp 8) (.tmp 27) rfl ?_; refine om_store 0 0 (Value.func (.func 105) #[] #[.pointer (some ⟨pw, 0, none⟩), .pointer (some ⟨pe, 0, none⟩)]) (.tmp 8) (.tmp 27) M rfl rfl rfl rfl rfl rfl (by show 0 < 1; omega) rfl rfl (by kernel_rfl) rfl ?_; clear M c1 c2 c3; intro V M; simp only [kZ] at M; have c1 := kc1 (M.get 3 rfl); have c2 := kc2 (M.get 4 rfl); have c3 := (M.get 2 rfl).cell; have c4 : V.cell? ⟨gw, k * 10 + 1, none⟩ = some (.int .i64 (rs k).pos) := ((M.get 5 rfl).cell _).trans (HC.out.pos HK.out); have c5 := kc1 (M.get 0 rfl))
   | (refine at_store (.tmp 211) (.tmp 210) rfl ?_; refine om_store 1 2 (.int .i64 aN) (.tmp 211) (.tmp 210) M rfl rfl rfl rfl rfl rfl (by show 2 < 5; omega) rfl rfl (by kernel_rfl) (cs' := evC ⟨k, 9, aN, 0, false⟩) rfl ?_; clear M c1 c2 c3 c4 c5; intro V M; simp only [kZ, kS] at M; have c1 := kc1 (M.get 3 rfl); have c2 := kc2 (M.get 4 rfl); have c3 := (M.get 2 rfl).cell; have c5 := kc1 (M.get 0 rfl))
   | (refine om_load 214 2 M rfl rfl rfl rfl rfl Try.underlying99 rfl (by kernel_rfl) ?_; simp only [Act.put, kA, kZ, kS])
   | (go_at_call 108; refine (sh_9f M hn HA.out.1 HA.out.2).mono ?_; rintro e V ⟨rfl, v', M⟩; have HM := Lib.hid M; clear M))
 exact ⟨rfl, rfl, gw, cw, _, _, hv, HM.out.drop_ 4, HC.out, H1.out, H2.out, H3.out⟩
set_option maxRecDepth 100000 in
set_option maxHeartbeats 2000000 in
theorem st_10g  (M : OM w W ((y.wp, 110, wpC y S.nr gw n cw evs) :: (gw, 174, cur) :: (y.bp, 186, pipesA S.nr hv cl) :: (y.bl, 4, arrB y.lk lk) :: (y.bg, 3, arrI y.gr gr) :: (y.bc, 3, arrI y.ce ce) :: (y.ps, 27, sysV S A c R d) :: Lr) ⟨evs, E, S.nr, hv, held⟩) (hC : WhoC cur n rs) (hk : k < n) (hS : SysIn w S A c R d) (hp : (rs k).prog < S.np) (hl : S.lp (rs k).prog ≤ 256) (hn : E.length ≤ 100000) (h1 : n ≤ cw) (h2 : cw ≤ maxLen) (h3 : cur.size = cw * 10) {f : Nat → Int} (hI : instP S (rs k) = some f) (e0 : f 0 = 10) (e1 : f 1 = (aN : Int)) (e2 : f 2 = (b : Int)) (e3 : f 3 = (b3 : Int)) (ha : aN < y.gr) {s : Int} (hs : IntKind.i64.wrap (gr aN + b) = s) (hcl : s < 0) : Calls Try.prog 91 #[.pointer (some ⟨y.wp, 0, none⟩), .int .i64 (k : Int)] W fun ev W' => ev = .panicked [{ v := .iface 22 (.int .i64 134), recovered := false }] ∧ InW w W' S A c R d y Lr ⟨n, rs, held, cl, lk, gr, ce, E ++ [⟨k, 10, aN, s, false⟩]⟩ := by
 have HN := Lib.hid (show ∀ V pw, OM w V ((pw, 104, #[.pointer (some ⟨y.wp, 0, none⟩)]) :: ((y.wp, 110, wpC y S.nr gw n cw evs) :: (gw, 174, cur) :: (y.bp, 186, pipesA S.nr hv cl) :: (y.bl, 4, arrB y.lk lk) :: (y.bg, 3, arrI y.gr gr) :: (y.bc, 3, arrI y.ce ce) :: (y.ps, 27, sysV S A c R d) :: Lr)) ⟨evs, E, S.nr, hv, held⟩ → Calls Try.prog 103 #[.pointer (some ⟨y.wp, 0, none⟩), .pointer (some ⟨gw, k * 10, none⟩)] V fun e W' => e = .returned (.tuple #[.agg #[Value.int .i64 10, .int .i64 (aN : Int), .int .i64 (b : Int), .int .i64 (b3 : Int)], .bool true]) ∧ Keeps V W' [] from fun V pw M => by
   have := wnext_any (M.get 1 rfl) (M.get 2 rfl) (M.get 7 rfl) (hS.kept M.own.keep) hC hk hp
   rw [hI] at this
   simpa [instV, instC, e0, e1, e2, e3] using this)
 have HIC := Lib.hid (show ∀ v ∈ (#[Value.int .i64 10, .int .i64 (aN : Int), .int .i64 (b : Int), .int .i64 (b3 : Int)]).toList, v.oneCell' = true from by
   have := instC_cell f
   simpa [instC, e0, e1, e2, e3] using this)
 have g1 : (k : Int) < n := by omega
 have g2 : (0 : Int) ≤ k := by omega
 have hpos : (rs k).pos < S.lp (rs k).prog := by
   unfold instP at hI
   split at hI
   · assumption
   · cases hI
 have g3 : ((rs k).pos : Int) < 256 := by omega
 have g4 : (0 : Int) ≤ (rs k).pos := by omega
 have HC := Lib.hid hC
 have HK := Lib.hid hk
 have HS := Lib.hid hS
 have HP := Lib.hid hp
 have HPos := Lib.hid hpos
 have H1 := Lib.hid h1
 have H2 := Lib.hid h2
 have H3 := Lib.hid h3
 have ak := add_zero_ gw (k * 10)
 have hmf := kf3
 clear hC hk hS hp hl hI e0 e1 e2 e3 h1 h2 h3 hpos
 have HA := Lib.hid (And.intro ha (And.intro hs hcl))
 clear ha hs hcl
 go_enter Try.func91, Try.ntmps91
 go_wp2_with (first
   | go_big_skip
   | (refine om_box1 2 (.pointer (some ⟨y.wp, 0, none⟩)) M rfl rfl rfl rfl rfl ?_; clear M; intro V pw M; simp only [Act.put, kA, kZ, kS]; have c1 := kc1 (M.get 0 rfl); have c2 := kc2 (M.get 1 rfl))
   | (go_at_call 103; refine (HN.out _ _ M).mono ?_; rintro e V ⟨rfl, K⟩; replace M := M.keeps K; clear K c1 c2; have c1 := kc1 (M.get 0 rfl); have c2 := kc2 (M.get 1 rfl))
   | (refine om_alloc 5 (instC fun _ => 0) M rfl rfl rfl (fun _ => by kernel_rfl) ?_; clear M c1 c2; intro V pi M; simp only [Act.put, kA, kZ, kS]; have c1 := kc1 (M.get 1 rfl); have c2 := kc2 (M.get 2 rfl))
   | (refine at_store (.tmp 5) (.tmp 21) rfl ?_; refine om_store_row 0 (.tmp 5) (.tmp 21) (cs' := #[Value.int .i64 10, .int .i64 (aN : Int), .int .i64 (b : Int), .int .i64 (b3 : Int)]) M rfl rfl rfl rfl rfl rfl (by kernel_rfl) (by rfl) HIC.out ?_; clear M c1 c2; intro V M; simp only [kZ] at M; have c1 := kc1 (M.get 1 rfl); have c2 := kc2 (M.get 2 rfl); have c3 := (M.get 0 rfl).cell)
   | (refine om_alloc 7 (evC ⟨0, 0, 0, 0, false⟩) M rfl rfl rfl (fun _ => by kernel_rfl) ?_; clear M c1 c2 c3; intro V pe M; simp only [Act.put, kA, kZ, kS]; have c1 := kc1 (M.get 2 rfl); have c2 := kc2 (M.get 3 rfl); have c3 := (M.get 1 rfl).cell)
   | (refine at_store (.tmp 7) (.tmp 26) rfl ?_; refine om_store_row 0 (.tmp 7) (.tmp 26) (cs' := evC ⟨k, 10, 0, 0, false⟩) M rfl rfl rfl rfl rfl rfl (by kernel_rfl) (by rfl) (evC_cell _) ?_; clear M c1 c2 c3; intro V M; simp only [kZ] at M; have c1 := kc1 (M.get 2 rfl); have c2 := kc2 (M.get 3 rfl); have c3 := (M.get 1 rfl).cell)
   | (refine om_alloc1 8 .nilFunc M rfl rfl rfl (fun _ => by kernel_rfl) rfl ?_; clear M c1 c2 c3; intro V pt M; simp only [Act.put, kA, kZ, kS]; have c1 := kc1 (M.get 3 rfl); have c2 := kc2 (M.get 4 rfl); have c3 := (M.get 2 rfl).cell)
   | (refine at_store (.tmp 8) (.tmp 27) rfl ?_; refine om_store 0 0 (Value.func (.func 105) #[] #[.pointer (some ⟨pw, 0, none⟩), .pointer (some ⟨pe, 0, none⟩)]) (.tmp 8) (.tmp 27) M rfl rfl rfl rfl rfl rfl (by show 0 < 1; omega) rfl rfl (by kernel_rfl) rfl ?_; clear M c1 c2 c3; intro V M; simp only [kZ] at M; have c1 := kc1 (M.get 3 rfl); have c2 := kc2 (M.get 4 rfl); have c3 := (M.get 2 rfl).cell; have c4 : V.cell? ⟨gw, k * 10 + 1, none⟩ = some (.int .i64 (rs k).pos) := ((M.get 5 rfl).cell _).trans (HC.out.pos HK.out); have c5 := kc1 (M.get 0 rfl))
   | (refine at_store (.tmp 211) (.tmp 210) rfl ?_; refine om_store 1 2 (.int .i64 aN) (.tmp 211) (.tmp 210) M rfl rfl rfl rfl rfl rfl (by show 2 < 5; omega) rfl rfl (by kernel_rfl) (cs' := evC ⟨k, 10, aN, 0, false⟩) rfl ?_; clear M c1 c2 c3 c4 c5; intro V M; simp only [kZ, kS] at M; have c1 := kc1 (M.get 3 rfl); have c2 := kc2 (M.get 4 rfl); have c3 := (M.get 2 rfl).cell; have c5 := kc1 (M.get 0 rfl))
   | (refine om_load 214 2 M rfl rfl rfl rfl rfl Try.underlying99 rfl (by kernel_rfl) ?_; simp only [Act.put, kA, kZ, kS])
   | (go_at_call 108; refine (sh_10g M hn HA.out.1 HA.out.2.1 HA.out.2.2).mono ?_; rintro e V ⟨rfl, v', M⟩; have HM := Lib.hid M; clear M))
 exact ⟨rfl, rfl, gw, cw, _, _, hv, HM.out.drop_ 4, HC.out, H1.out, H2.out, H3.out⟩
end
end Go.Proofs.Ytakmcpadkanggaa
