/-
 Part 12 of what this claim rests on.
-/
import Derived.Test.YtakmcpadkanggaaSf11
namespace Go.Proofs.Ytakmcpadkanggaa
open Go.RowKit Go.Maps Go.Deep
theorem fun_zero131 (w : World) : (zeroValue 131).run Try.prog w = .ok (.slice none 0 0) w := by kernel_rfl
theorem gr_one {W : World} {base e size n : Nat} {v : Value} {xs : List Value} (h : W.ownsRow base e size v n xs) : v.cells = #[v] ∧ v.oneCell' = true := by
 obtain ⟨A, c, rfl, _⟩ := gr_shape h
 exact ⟨rfl, rfl⟩
section
variable {w0 u : World} {E : Nat → Ev} {rm : Int → Int} {B : Option Addr} {n cb most b4 b10 b5 b11 mt r k g : Nat} {D : List Nat}
def rcCont (E : Nat → Ev) (rm : Int → Int) (most k : Nat) : Bool := decide (((raceA E rm (k + 1)).take most).length < most)
set_option maxRecDepth 100000 in
set_option maxHeartbeats 2000000 in
theorem rc_other (hI : RcInv w0 E rm B n cb most b4 b10 b5 b11 mt k u D) (hE : EvsAt w0 B n E) (hk : k < n) (hn : n ≤ 40000) (hm : most ≤ 4096) (ho : acB E k = false) (q12 : (E k).op ≠ 12) (q13 : (E k).op ≠ 13) :
   Calls Try.prog 75 #[.int .i64 (k : Int), .slice (some ⟨g, 0, none⟩) r r, .pointer (some ⟨b4, 0, none⟩), .pointer (some ⟨b10, 0, none⟩), .pointer (some ⟨b5, 0, none⟩), .pointer (some ⟨b11, 0, none⟩)] u (SeePost (RcInv w0 E rm B n cb most b4 b10 b5 b11 mt (k + 1)) (rcCont E rm most k) u D) := by
 obtain ⟨v, f, Dc, mc, rfl, hmc, K0, h4, h10, h5, h11, M, C, hD, hl, hb⟩ := hI
 obtain ⟨Av, cv, rfl, _⟩ := gr_shape M
 have hra : raceA E rm (k + 1) = raceA E rm k := by rw [raceA, raceJ_not ho, List.append_nil]
 have O : Own w0 u [] [] := (Own.start w0 []).keeps K0
 obtain ⟨ad, rfl, hc⟩ := EvsAt.row (u := w0) hE hk
 have HC := Lib.hid (fun W (K : Keeps w0 W []) => hc [] W K (by simp))
 have HI := Lib.hid (And.intro hmc (And.intro h4 (And.intro h10 (And.intro h5 (And.intro h11 (And.intro M (And.intro C (And.intro hD (And.intro hl hb)))))))))
 have HRA := Lib.hid hra
 have HCT := Lib.hid (show rcCont E rm most k = decide (((raceA E rm k).take most).length < most) by unfold rcCont; rw [hra])
 obtain ⟨ln, hln⟩ : ∃ ln, ln = ((raceA E rm k).take most).length := ⟨_, rfl⟩
 have e12 : ((E k).op != 12) = true := by simpa using q12
 have e13 : ((E k).op != 13) = true := by simpa using q13
 have HSAME := Lib.hid (C.same ho)
 obtain ⟨e, he⟩ : ∃ e, e = E k := ⟨_, rfl⟩
 rw [← he] at HC e12 e13
 rw [← hln]
 rw [← hln] at HCT
 have c4 := h4.cell 0
 have c10 := h10.cell 0
 have c5 := h5.cell 0
 rw [← hln] at c10
 have g1 : (k : Int) < n := by omega
 have g0 : (0 : Int) ≤ k := by omega
 have KU := Lib.hid (Keeps.refl u [])
 have HK0 := Lib.hid K0
 have HLN := Lib.hid hln
 have hlm : ln ≤ most := by rw [hln, List.length_take]; omega
 clear hc h4 h10 h5 h11 M C hD hl hb hra ho q12 q13 he hE K0 hln hmc
 cases hlt : decide (ln < most) with
 | true =>
   have y1 : decide ((ln : Int) < (most : Int)) = true := decide_eq_true (by have := of_decide_eq_true hlt; omega)
   have y2 : (ln : Int) < (most : Int) := by have := of_decide_eq_true hlt; omega
   rw [hlt] at HCT
   clear hlt
   go_enter Try.func75, Try.ntmps75
   go_wp2_with (first
     | go_big_skip
     | (refine wpList_load_at 16 rfl rfl rfl rfl (HC.out _ O.keep) Try.underlying37 rfl (by kernel_rfl) ?_; simp only [Act.put, kA, kZ, kS])
     | (refine own_allocK 9 (evC ⟨0, 0, 0, 0, false⟩) O rfl rfl rfl (fun _ => by kernel_rfl) ?_; clear O c4 c10 c5; intro W1 b9 O K1 hb; have HW1 := Lib.hid (And.intro K1 hb); clear K1 hb; simp only [Act.put, kA, kZ, kS])
     | (refine own_store_rowK 0 (.tmp 9) (.tmp 16) O rfl rfl rfl rfl rfl rfl (by kernel_rfl) (by rfl) (evC_cell _) ?_; clear O; intro W2 O K2; simp only [kZ] at O; replace KU := Lib.hid (HW1.out.1.trans K2 (fun b hb hlt => by rw [List.mem_singleton.1 hb] at hlt; have := HW1.out.2; omega)); clear K2 HW1; have c9 : ∀ i : Nat, W2.cell? ⟨b9, i, none⟩ = (evC e)[i]? := (O.get 0 rfl).cell; simp only [evC] at c9; have c10 : W2.cell? ⟨b10, 0, none⟩ = some (.slice Av ln cv) := (by have := (HI.out.2.2.1.keeps KU.out (by simp)).cell 0; rw [← HLN.out] at this; exact this); have c5 : W2.cell? ⟨b5, 0, none⟩ = some (.int .i64 (most : Int)) := (HI.out.2.2.2.1.keeps KU.out (by simp)).cell 0))
   go_ret
   have hKU := KU.out
   obtain ⟨hmc, h4, h10, h5, h11, M, C, hD, hl, hb⟩ := HI.out
   have hct := HCT.out
   have hl' := HLN.out
   subst hl'
   refine ⟨by rw [hct]; rfl, ⟨_, ⟨_, f, Dc, mc, rfl, by omega, O.keep, h4.keeps hKU (by simp), h10.keeps hKU (by simp), h5.keeps hKU (by simp), h11.keeps hKU (by simp), by rw [HRA.out]; exact gr_keeps M hKU (by simp), HSAME.out.new hKU, hD, fun b hb' => Nat.lt_of_lt_of_le (hl b hb') hKU.size, hb⟩, fun q hq => .inl hq, fun q hq => ?_⟩, hKU.wide (by simp)⟩
   simp only [List.mem_cons, List.mem_append] at hq
   rcases hq with rfl | rfl | rfl | rfl | rfl | hq | hq
   · exact (h4.keeps hKU (by simp)).lt
   · exact (h10.keeps hKU (by simp)).lt
   · exact (h5.keeps hKU (by simp)).lt
   · exact (h11.keeps hKU (by simp)).lt
   · exact (C.new hKU).map.lt
   · exact (gr_own (gr_keeps M hKU (S := []) (by simp)) (by simpa using hq)).2.1
   · exact Nat.lt_of_lt_of_le (hl _ hq) hKU.size
 | false =>
   have y1 : decide ((ln : Int) < (most : Int)) = false := decide_eq_false (by have := of_decide_eq_false hlt; omega)
   have y2 : ¬ (ln : Int) < (most : Int) := by have := of_decide_eq_false hlt; omega
   rw [hlt] at HCT
   clear hlt
   go_enter Try.func75, Try.ntmps75
   go_wp2_with (first
     | go_big_skip
     | (refine wpList_load_at 16 rfl rfl rfl rfl (HC.out _ O.keep) Try.underlying37 rfl (by kernel_rfl) ?_; simp only [Act.put, kA, kZ, kS])
     | (refine own_allocK 9 (evC ⟨0, 0, 0, 0, false⟩) O rfl rfl rfl (fun _ => by kernel_rfl) ?_; clear O c4 c10 c5; intro W1 b9 O K1 hb; have HW1 := Lib.hid (And.intro K1 hb); clear K1 hb; simp only [Act.put, kA, kZ, kS])
     | (refine own_store_rowK 0 (.tmp 9) (.tmp 16) O rfl rfl rfl rfl rfl rfl (by kernel_rfl) (by rfl) (evC_cell _) ?_; clear O; intro W2 O K2; simp only [kZ] at O; replace KU := Lib.hid (HW1.out.1.trans K2 (fun b hb hlt => by rw [List.mem_singleton.1 hb] at hlt; have := HW1.out.2; omega)); clear K2 HW1; have c9 : ∀ i : Nat, W2.cell? ⟨b9, i, none⟩ = (evC e)[i]? := (O.get 0 rfl).cell; simp only [evC] at c9; have c10 : W2.cell? ⟨b10, 0, none⟩ = some (.slice Av ln cv) := (by have := (HI.out.2.2.1.keeps KU.out (by simp)).cell 0; rw [← HLN.out] at this; exact this); have c5 : W2.cell? ⟨b5, 0, none⟩ = some (.int .i64 (most : Int)) := (HI.out.2.2.2.1.keeps KU.out (by simp)).cell 0))
   go_ret
   have hKU := KU.out
   obtain ⟨hmc, h4, h10, h5, h11, M, C, hD, hl, hb⟩ := HI.out
   have hct := HCT.out
   have hl' := HLN.out
   subst hl'
   refine ⟨by rw [hct]; rfl, ⟨_, ⟨_, f, Dc, mc, rfl, by omega, O.keep, h4.keeps hKU (by simp), h10.keeps hKU (by simp), h5.keeps hKU (by simp), h11.keeps hKU (by simp), by rw [HRA.out]; exact gr_keeps M hKU (by simp), HSAME.out.new hKU, hD, fun b hb' => Nat.lt_of_lt_of_le (hl b hb') hKU.size, hb⟩, fun q hq => .inl hq, fun q hq => ?_⟩, hKU.wide (by simp)⟩
   simp only [List.mem_cons, List.mem_append] at hq
   rcases hq with rfl | rfl | rfl | rfl | rfl | hq | hq
   · exact (h4.keeps hKU (by simp)).lt
   · exact (h10.keeps hKU (by simp)).lt
   · exact (h5.keeps hKU (by simp)).lt
   · exact (h11.keeps hKU (by simp)).lt
   · exact (C.new hKU).map.lt
   · exact (gr_own (gr_keeps M hKU (S := []) (by simp)) (by simpa using hq)).2.1
   · exact Nat.lt_of_lt_of_le (hl _ hq) hKU.size
set_option maxRecDepth 100000 in
set_option maxHeartbeats 4000000 in
theorem rc_acc12 (hI : RcInv w0 E rm B n cb most b4 b10 b5 b11 mt k u D) (hE : EvsAt w0 B n E) (hk : k < n) (hn : n ≤ 40000) (hm : most ≤ 4096) (hop : (E k).op = 12) (hwf : (Lit.int .i64 (E k).a).wf = true) (hg : g ∉ D) (hC : ClkAt u g r (clk E rm (k : Int))) (hw : ∀ i, i < n → 0 ≤ (E i).who ∧ (E i).who < (r : Int)) :
   Calls Try.prog 75 #[.int .i64 (k : Int), .slice (some ⟨g, 0, none⟩) r r, .pointer (some ⟨b4, 0, none⟩), .pointer (some ⟨b10, 0, none⟩), .pointer (some ⟨b5, 0, none⟩), .pointer (some ⟨b11, 0, none⟩)] u (SeePost (RcInv w0 E rm B n cb most b4 b10 b5 b11 mt (k + 1)) (rcCont E rm most k) u D) := by
 obtain ⟨v, f, Dc, mc, rfl, hmc, K0, h4, h10, h5, h11, M, C, hD, hl, hb⟩ := hI
 have hac : acB E k = true := by simp [acB, hop]
 have O : Own w0 u [] [] := (Own.start w0 []).keeps K0
 obtain ⟨ad, rfl, hc⟩ := EvsAt.row (u := w0) hE hk
 have HC := Lib.hid (fun W (K : Keeps w0 W []) => hc [] W K (by simp))
 -- what stands where the pairs' row and its name are not written
 have HST := Lib.hid (fun W (K : Keeps u W (b10 :: v.ownBlock.toList)) => (show Blk W b4 31 #[.slice (some ad) n cb] ∧ Blk W b5 3 #[.int .i64 (most : Int)] ∧ Blk W b11 128 #[.map (some mt)] ∧ CelAt w0.heap.size W mt mc f E rm k ∧ ClkAt W g r (clk E rm (k : Int)) from by
   have nv : ∀ {x ty : Nat} {cs : Array Value}, Blk u x ty cs → ty ≠ 73 → ty ≠ 79 → x ∉ b10 :: v.ownBlock.toList := fun {x ty cs} hB h1 h2 hm' => by
     rcases List.mem_cons.1 hm' with e | e
     · subst e; exact blk_ne hB h10 h1 rfl
     · exact gr_ne M hB h2 (by simpa using e)
   refine ⟨h4.keeps K (nv h4 (by decide) (by decide)), h5.keeps K (nv h5 (by decide) (by decide)), h11.keeps K (nv h11 (by decide) (by decide)), C.keeps K (fun hm' => ?_) (fun a x hx => ?_), ?_⟩
   · rcases List.mem_cons.1 hm' with e | e
     · exact C.map.not_blk h10 e.symm
     · obtain ⟨_, _, cur, hB⟩ := gr_own M (g := mt) (by simpa using e)
       exact C.map.not_blk hB rfl
   · obtain ⟨_, _, cur, hB⟩ := gr_own (C.row a) hx
     exact nv hB (by decide) (by decide)
   · obtain ⟨cur, hB, hcu⟩ := hC
     exact ⟨cur, hB.keeps K (nv hB (by decide) (by decide)), hcu⟩))
 have HI := Lib.hid (And.intro hmc (And.intro h10 (And.intro M (And.intro hD (And.intro hl hb)))))
 have HC0 := Lib.hid C
 have HWF := Lib.hid hwf
 have HAC := Lib.hid hac
 have HOP := Lib.hid hop
 have HW := Lib.hid hw
 have HKN := Lib.hid hk
 have g1 : (k : Int) < n := by omega
 have g0 : (0 : Int) ≤ k := by omega
 have hgu : g < u.heap.size := hC.lt
 have c4 := h4.cell 0
 have KU := Lib.hid (Keeps.refl u [])
 have hEk : E k = ⟨(E k).who, 12, (E k).a, (E k).v, (E k).sh⟩ := by rw [← hop]
 have HEK := Lib.hid hEk
 obtain ⟨wj, hwj⟩ : ∃ wj : Nat, (E k).who = (wj : Int) := ⟨(E k).who.toNat, by have := hw k hk; omega⟩
 have hwjr : wj < r := by have := hw k hk; omega
 have HWJ := Lib.hid hwj
 rw [hEk, hwj] at HC
 obtain ⟨a, ha⟩ : ∃ a, a = (E k).a := ⟨_, rfl⟩
 have HA := Lib.hid ha
 rw [← ha] at HC
 generalize (E k).v = ev at HC
 generalize (E k).sh = es at HC
 have g2 : (wj : Int) < r := by omega
 have g3 : (0 : Int) ≤ wj := by omega
 clear hc h4 h10 h5 h11 M C hD hl hb hac hE K0 hmc hop hwf hg hC hw hk hEk hwj ha
 go_enter Try.func75, Try.ntmps75
 go_wp2_with (first
   | go_big_skip
   | (refine wpList_load_at 16 rfl rfl rfl rfl (HC.out _ O.keep) Try.underlying37 rfl (by kernel_rfl) ?_; simp only [Act.put, kA, kZ, kS])
   | (refine own_allocK 9 (evC ⟨0, 0, 0, 0, false⟩) O rfl rfl rfl (fun _ => by kernel_rfl) ?_; clear O c4; intro W1 b9 O K1 hb; have HW1 := Lib.hid (And.intro K1 hb); clear K1 hb; simp only [Act.put, kA, kZ, kS])
   | (refine own_store_rowK 0 (.tmp 9) (.tmp 16) O rfl rfl rfl rfl rfl rfl (by kernel_rfl) (by rfl) (evC_cell _) ?_; clear O; intro W2 O K2; simp only [kZ] at O; replace KU := Lib.hid (HW1.out.1.trans K2 (fun b hb hlt => by rw [List.mem_singleton.1 hb] at hlt; have := HW1.out.2; omega)); clear K2 HW1; have c9 : ∀ i : Nat, W2.cell? ⟨b9, i, none⟩ = (evC ⟨(wj : Int), 12, a, ev, es⟩)[i]? := (O.get 0 rfl).cell; simp only [evC] at c9))
 -- the access is laid out
 have hSW := HST.out _ (KU.out.wide (by simp))
 obtain ⟨xj, hxj⟩ : ∃ xj, xj = clk E rm (k : Int) (wj : Int) := ⟨_, rfl⟩
 have HXJ := Lib.hid hxj
 have HCG := Lib.hid (fun W (K : Keeps u W (b10 :: v.ownBlock.toList)) => (show W.cell? ⟨g, wj, none⟩ = some (.int .i64 xj) from by
   obtain ⟨cur, hB, hcu⟩ := (HST.out W K).2.2.2.2
   rw [HXJ.out]
   exact (hB.cell wj).trans (hcu.2 wj hwjr)))
 clear hSW hxj c9
 refine wp_headH (S := fun u' => Blk u' b9 37 (evC ⟨(wj : Int), 12, a, ev, es⟩) ∧ u'.cell? ⟨g, wj, none⟩ = some (.int .i64 xj)) 13 (by kernel_rfl) (by kernel_rfl) ?_
 replace O := O.drew
 replace KU := Lib.hid (KU.out.trans (Keeps.refl _ []).drew (by simp))
 have HS1 := Lib.hid (And.intro (O.get 0 rfl) (HCG.out _ (KU.out.wide (by simp))))
 refine ah_take (f := 1) (L' := #[true, true, true, true, true, true, true, true, true, true, true, true, false, false]) ((by first | exact HS1.out | exact HS2.out)) [0, 1, 2, 3, 4, 5, 6, 7, 8, 9, 10, 11] [_, _, _, _, _, _, _, _, _, _, _, _] _ _ rfl (by decide) (by kernel_rfl) ?_
 simp only [List.getElem_toArray, List.getElem_cons_zero, List.getElem_cons_succ]
 repeat (first
   | (refine take_pure (v := ?_) (by rfl) ?_ ?_; rotate_left; (· (intro w hSw; have c9 : ∀ i : Nat, w.cell? ⟨b9, i, none⟩ = #[Value.int .i64 (wj : Int), .int .i64 12, .int .i64 a, .int .i64 ev, .bool es][i]? := hSw.1.cell; have cg := hSw.2; clear hSw; go_simp; try with_reducible rfl)); simp only [Act.put, kA, kZ, kS]))
 refine takeA_done ?_
 refine ah_sole 12 #[true, true, true, true, true, true, true, true, true, true, true, true, true, false] rfl (by decide) (by kernel_rfl) ?_
 try simp only [List.getElem_toArray, List.getElem_cons_zero, List.getElem_cons_succ]
 refine own_allocK 10 (#[.int .i64 0, .int .i64 0, .int .i64 0, .bool false]) O rfl rfl rfl (fun _ => by kernel_rfl) ?_; clear O; intro W4 bt O K1 hb; have HBT := Lib.hid (show u.heap.size ≤ bt from by have := KU.out.size; omega); replace KU := Lib.hid (KU.out.trans K1 (by simp)); have HS2 := Lib.hid (And.intro (O.get 1 rfl) (HCG.out _ (KU.out.wide (by simp)))); clear K1 hb HS1; simp only [Act.put, kA, kZ, kS]
 (first | refine backA_intro2 HS2.out ?_ | refine backA_intro HS2.out ?_)
 refine ah_tail (by kernel_rfl) ?_
 try simp only [List.drop]
 refine own_store_rowK 0 (.tmp 10) (.tmp 40) (cs' := #[.int .i64 (k : Int), .int .i64 (wj : Int), .int .i64 xj, .bool false]) O rfl rfl rfl rfl rfl rfl (by kernel_rfl) (by rfl) (by simp [Value.oneCell']) ?_
 clear O
 intro W5 O K2
 simp only [kZ] at O
 replace KU := Lib.hid (KU.out.trans K2 (fun b hb hlt => by rw [List.mem_singleton.1 hb] at hlt; have := HBT.out; omega))
 clear K2 HS2
 refine np_intro ?_
 have c9 : ∀ i : Nat, W5.cell? ⟨b9, i, none⟩ = (evC ⟨(wj : Int), 12, a, ev, es⟩)[i]? := (O.get 1 rfl).cell
 simp only [evC] at c9
 have hSW := HST.out _ (KU.out.wide (by simp))
 have c11 := hSW.2.2.1.cell 0
 obtain ⟨Ax, cx, hax, hnx, _⟩ := gr_shape (hSW.2.2.2.1.row a)
 have lk : (Instr.lookup 128 (.map (some mt)) (.int .i64 a) false).run Try.prog W5 = .ok (.slice Ax (pickL (isAcc E a) k).length cx) W5 := by
   have := look_eqV hSW.2.2.2.1.map 128 131 (.slice none 0 0) Try.underlying128 (fun_zero131 _) a (by rw [HA.out]; exact HWF.out)
   rwa [show (f a).getD (.slice none 0 0) = .slice Ax (pickL (isAcc E a) k).length cx from hax] at this
 have HAX := Lib.hid hax
 obtain ⟨m, hm'⟩ : ∃ m, m = (pickL (isAcc E a) k).length := ⟨_, rfl⟩
 have HM := Lib.hid hm'
 have hmk : m ≤ k := by rw [hm']; exact pickL_length _ _
 rw [← hm'] at lk
 have HNX := Lib.hid hnx
 clear hSW hax hnx hm'
 go_wp2
 clear c9 c11 lk
 obtain ⟨v0, hv0⟩ : ∃ v0, v0 = v := ⟨_, rfl⟩
 have KU0 := KU.out.wide (L' := b10 :: v.ownBlock.toList) (by simp)
 have B10 := HI.out.2.1.keeps KU.out (by simp)
 have MV := gr_keeps HI.out.2.2.1 KU.out (by simp)
 clear hv0
 go_loopg [46] m (fun gg s46 wr => ∃ (q : Nat) (v' : Value), q ≤ m ∧ gg = m - q ∧ s46 = .int .i64 (q : Int) ∧ Own w0 wr [] [(bt, 130, #[.int .i64 (k : Int), .int .i64 (wj : Int), .int .i64 xj, .bool false]), (b9, 37, evC ⟨(wj : Int), 12, a, ev, es⟩)] ∧ Keeps u wr (b10 :: v.ownBlock.toList) ∧ Blk wr b10 73 #[v'] ∧ MintP 79 w0.heap.size wr v' ((raceA E rm k ++ rcQ E rm k q).take most) ∧ ∀ x, v'.ownBlock = some x → v.ownBlock = some x ∨ u.heap.size ≤ x)
 case atStart => exact ⟨0, v, by omega, by omega, rfl, O, KU0, B10, by rw [rcQ_zero, List.append_nil]; exact MV, fun x hx => .inl hx⟩
 case round =>
   clear O KU0 B10 MV KU
   obtain ⟨q, v', hq, hgq, rfl, O, KU, B10, MV, hv'⟩ := hrel
   have HG := Lib.hid hgq
   have HVO := Lib.hid hv'
   have HKU := Lib.hid KU
   clear hgq hv' KU
   obtain ⟨Av, cv, rfl, _⟩ := gr_shape MV
   obtain ⟨ln, hln⟩ : ∃ ln, ln = ((raceA E rm k ++ rcQ E rm k q).take most).length := ⟨_, rfl⟩
   have hlm : ln ≤ most := by rw [hln, List.length_take]; omega
   have HLN := Lib.hid hln
   rw [← hln] at B10
   have HB10 := Lib.hid B10
   have HMV := Lib.hid MV
   clear hln B10 MV
   have c10 := HB10.out.cell 0
   by_cases hqt : q < m
   · have g4 : (q : Int) < m := by omega
     have g5 : (0 : Int) ≤ q := by omega
     have hql : q < (pickL (isAcc E a) k).length := by rw [← HM.out]; exact hqt
     have HQS := Lib.hid (rcQ_succ (E := E) (rm := rm) (j := k) (q := q) (by rw [← HA.out]; exact hql))
     rw [← HA.out] at HQS
     have hxm := (pickL_mem (isAcc E a) k ((pickL (isAcc E a) k).getD q 0)).1 (by rw [List.getD_eq_getElem?_getD, List.getElem?_eq_getElem hql]; exact List.getElem_mem _)
     obtain ⟨x, hx⟩ : ∃ x, x = (pickL (isAcc E a) k).getD q 0 := ⟨_, rfl⟩
     rw [← hx] at hxm HQS
     have HX := Lib.hid hx
     obtain ⟨ax, rfl⟩ : ∃ ax, Ax = some ax := Option.ne_none_iff_exists'.1 (fun e => by have := (HNX.out e).1; omega)
     have HROW := Lib.hid (fun W (K : Keeps u W (b10 :: v.ownBlock.toList)) => (by have := arow (q := q) ((HST.out W K).2.2.2.1.row a) HAX.out hql; rw [← hx] at this; exact this : ∀ j, j < (accC E rm x).size → W.cell? ((ax.add (q * 4)).add j) = (accC E rm x)[j]?))
     have hxk := hxm.1
     have hxa : acB E x = true ∧ (E x).a = a := by simpa [isAcc] using hxm.2
     obtain ⟨wx, hwx⟩ : ∃ wx : Nat, (E x).who = (wx : Int) := ⟨(E x).who.toNat, by have := HW.out x (by have := HKN.out; omega); omega⟩
     have hwxr : wx < r := by have := HW.out x (by have := HKN.out; omega); omega
     have HWX := Lib.hid hwx
     have HXA := Lib.hid hxa
     obtain ⟨bx, hbx⟩ : ∃ bx, bx = decide ((E x).op = 13) := ⟨_, rfl⟩
     obtain ⟨ox, hox⟩ : ∃ ox, ox = clk E rm (x : Int) (wx : Int) := ⟨_, rfl⟩
     obtain ⟨cx', hcx⟩ : ∃ cx', cx' = clk E rm (k : Int) (wx : Int) := ⟨_, rfl⟩
     have hacc : accC E rm x = #[.int .i64 (x : Int), .int .i64 (wx : Int), .int .i64 ox, .bool bx] := by unfold accC; rw [hwx, ← hox, ← hbx]
     rw [hacc] at HROW
     have HRC := Lib.hid (show rcB E rm x k = ((bx || false) && (!decide (wx = wj) && !decide (ox ≤ cx'))) by
       unfold rcB
       rw [HXA.out.1, HAC.out, HXA.out.2, HOP.out, ← HA.out, hwx, HWJ.out, hbx, hox, hcx]
       simp [Int.natCast_inj])
     have HCX := Lib.hid hcx
     have g6 : (wx : Int) < r := by omega
     have g7 : (0 : Int) ≤ wx := by omega
     have hx4 : x ≤ 40000 := by have := HKN.out; omega
     clear hx hxm hxa hwx hbx hox hcx hacc hql hxk
     go_wp2_with (first
       | (refine wpList_load_at 49 rfl rfl rfl rfl (HROW.out _ HKU.out) Try.underlying130 rfl (by kernel_rfl) ?_; simp only [Act.put, kA, kZ, kS])
       | (refine own_allocK 12 (#[.int .i64 0, .int .i64 0, .int .i64 0, .bool false]) O rfl rfl rfl (fun _ => by kernel_rfl) ?_; clear O c10; intro W6 b12 O K1 hb; have HW1 := Lib.hid (And.intro K1 hb); clear K1 hb; simp only [Act.put, kA, kZ, kS])
       | (refine own_store_rowK 0 (.tmp 12) (.tmp 49) (cs' := #[.int .i64 (x : Int), .int .i64 (wx : Int), .int .i64 ox, .bool bx]) O rfl rfl rfl rfl rfl rfl (by kernel_rfl) (by rfl) (by simp [Value.oneCell']) ?_; clear O; intro W7 O K2; simp only [kZ] at O; have K3 := (HW1.out.1.trans K2 (fun b hb hlt => by rw [List.mem_singleton.1 hb] at hlt; have := HW1.out.2; omega) : Keeps wr W7 []); replace HKU := Lib.hid (HKU.out.trans K3 (by simp)); replace HB10 := Lib.hid (HB10.out.keeps K3 (by simp)); replace HMV := Lib.hid (gr_keeps HMV.out K3 (by simp)); clear K2 K3 HW1))
     have hSW := HST.out _ HKU.out
     have c12 : ∀ i : Nat, W7.cell? ⟨b12, i, none⟩ = #[Value.int .i64 (x : Int), .int .i64 (wx : Int), .int .i64 ox, .bool bx][i]? := (O.get 0 rfl).cell
     have ct : ∀ i : Nat, W7.cell? ⟨bt, i, none⟩ = #[Value.int .i64 (k : Int), .int .i64 (wj : Int), .int .i64 xj, .bool false][i]? := (O.get 1 rfl).cell
     have cg : W7.cell? ⟨g, wx, none⟩ = some (.int .i64 cx') := by
       obtain ⟨cur, hB, hcu⟩ := hSW.2.2.2.2
       rw [HCX.out]
       exact (hB.cell wx).trans (hcu.2 wx hwxr)
     have c10 := HB10.out.cell 0
     have c5 := hSW.2.1.cell 0
     clear hSW
     by_cases hww : wx = wj
     · have z1 : ((wx : Int) != (wj : Int)) = false := by simp [hww]
       have hF : rcB E rm x k = false := by rw [HRC.out]; simp [hww]
       have HQE := Lib.hid (show (raceA E rm k ++ rcQ E rm k (q + 1)).take most = (raceA E rm k ++ rcQ E rm k q).take most from by rw [HQS.out, hF, if_neg (by simp), List.append_nil])
       clear hF
       go_quiet (fail)
       clear c12 ct cg c10 c5
       generalize hW : World.drewN W7 _ = W8
       have KD : Keeps W7 W8 [] := by rw [← hW]; exact (Keeps.refl W7 []).drewN _
       clear hW
       replace O := O.keeps KD
       replace HKU := Lib.hid (HKU.out.trans KD (by simp))
       replace HB10 := Lib.hid (HB10.out.keeps KD (by simp))
       replace HMV := Lib.hid (gr_keeps HMV.out KD (by simp))
       clear KD
       go_wp2
       go_roundg (m - (q + 1))
       case measure => (have := HG.out; omega)
       case rel =>
         have hl' := HLN.out
         subst hl'
         exact ⟨q + 1, .slice Av _ cv, by omega, rfl, by go_num, O.drop_ 1, HKU.out, HB10.out, by rw [HQE.out]; exact HMV.out, HVO.out⟩
     · cases bx with
       | false =>
         have z1 : ((wx : Int) != (wj : Int)) = true := by simpa [Int.natCast_inj] using hww
         have hF : rcB E rm x k = false := by rw [HRC.out]; simp
         have HQE := Lib.hid (show (raceA E rm k ++ rcQ E rm k (q + 1)).take most = (raceA E rm k ++ rcQ E rm k q).take most from by rw [HQS.out, hF, if_neg (by simp), List.append_nil])
         clear hF
         go_quiet (fail)
         clear c12 ct cg c10 c5
         generalize hW : World.drewN W7 _ = W8
         have KD : Keeps W7 W8 [] := by rw [← hW]; exact (Keeps.refl W7 []).drewN _
         clear hW
         replace O := O.keeps KD
         replace HKU := Lib.hid (HKU.out.trans KD (by simp))
         replace HB10 := Lib.hid (HB10.out.keeps KD (by simp))
         replace HMV := Lib.hid (gr_keeps HMV.out KD (by simp))
         clear KD
         go_wp2
         go_roundg (m - (q + 1))
         case measure => (have := HG.out; omega)
         case rel =>
           have hl' := HLN.out
           subst hl'
           exact ⟨q + 1, .slice Av _ cv, by omega, rfl, by go_num, O.drop_ 1, HKU.out, HB10.out, by rw [HQE.out]; exact HMV.out, HVO.out⟩
       | true =>
         by_cases hle : ox ≤ cx'
         · have z1 : ((wx : Int) != (wj : Int)) = true := by simpa [Int.natCast_inj] using hww
           have z2 : decide (cx' < ox) = false := decide_eq_false (by omega)
           have z3 : ¬ cx' < ox := by omega
           have hF : rcB E rm x k = false := by rw [HRC.out]; simp [hle]
           have HQE := Lib.hid (show (raceA E rm k ++ rcQ E rm k (q + 1)).take most = (raceA E rm k ++ rcQ E rm k q).take most from by rw [HQS.out, hF, if_neg (by simp), List.append_nil])
           clear hF
           go_quiet (fail)
           clear c12 ct cg c10 c5
           generalize hW : World.drewN W7 _ = W8
           have KD : Keeps W7 W8 [] := by rw [← hW]; exact (Keeps.refl W7 []).drewN _
           clear hW
           replace O := O.keeps KD
           replace HKU := Lib.hid (HKU.out.trans KD (by simp))
           replace HB10 := Lib.hid (HB10.out.keeps KD (by simp))
           replace HMV := Lib.hid (gr_keeps HMV.out KD (by simp))
           clear KD
           go_wp2
           go_roundg (m - (q + 1))
           case measure => (have := HG.out; omega)
           case rel =>
             have hl' := HLN.out
             subst hl'
             exact ⟨q + 1, .slice Av _ cv, by omega, rfl, by go_num, O.drop_ 1, HKU.out, HB10.out, by rw [HQE.out]; exact HMV.out, HVO.out⟩
         · by_cases hfull : ln < most
           · have z1 : ((wx : Int) != (wj : Int)) = true := by simpa [Int.natCast_inj] using hww
             have z2 : decide (cx' < ox) = true := decide_eq_true (by omega)
             have z3 : cx' < ox := by omega
             have hF : rcB E rm x k = true := by rw [HRC.out]; simp [hww, hle]
             have y1 : decide ((ln : Int) < (most : Int)) = true := decide_eq_true (by omega)
             have y2 : (ln : Int) < (most : Int) := by omega
             have HQE := Lib.hid (show (raceA E rm k ++ rcQ E rm k (q + 1)).take most = (raceA E rm k ++ rcQ E rm k q).take most ++ [prR x k] from by rw [HQS.out, hF, if_pos rfl, ← List.append_assoc, take_snoc, if_pos ((take_len_lt _ _).1 (by rw [← HLN.out]; exact hfull))])
             clear hF
             go_quiet (fail)
             clear c12 ct cg c10 c5
             generalize hW : World.drewN W7 _ = W8
             have KD : Keeps W7 W8 [] := by rw [← hW]; exact (Keeps.refl W7 []).drewN _
             clear hW
             replace O := O.keeps KD
             replace HKU := Lib.hid (HKU.out.trans KD (by simp))
             replace HB10 := Lib.hid (HB10.out.keeps KD (by simp))
             replace HMV := Lib.hid (gr_keeps HMV.out KD (by simp))
             clear KD
             have HMVL := Lib.hid (show W8.ownsRow w0.heap.size 79 2 (.slice Av ln cv) ln (prL ((raceA E rm k ++ rcQ E rm k q).take most)) from by have h := HMV.out; unfold MintP at h; rw [← HLN.out] at h; exact h)
             have HVOL := Lib.hid (show ∀ x, (Value.slice Av ln cv).ownBlock = some x → v.ownBlock = some x ∨ u.heap.size ≤ x from by rw [HLN.out]; exact HVO.out)
             clear HMV
             have c12 : ∀ i : Nat, W8.cell? ⟨b12, i, none⟩ = #[Value.int .i64 (x : Int), .int .i64 (wx : Int), .int .i64 ox, .bool _][i]? := (O.get 0 rfl).cell
             have c10 := HB10.out.cell 0
             go_wp2_with (first
               | (refine own_litK 84 73 79 1 2 (.agg #[.int .i64 0, .int .i64 0]) _ (#[.int .i64 (x : Int), .int .i64 (k : Int)]) O rfl rfl rfl Try.underlying73 (by kernel_rfl) (by decide) (by decide) (by first | rfl | kernel_rfl) ?_; clear O c12 c10; intro W9 gl O K hgl; replace HKU := Lib.hid (HKU.out.trans K (by simp)); replace HB10 := Lib.hid (HB10.out.keeps K (by simp)); replace HMVL := Lib.hid (gr_keeps HMVL.out K (by simp)); clear K hgl; simp only [Act.put, kA, kZ, kS])
               | (at_builtin; go_loud (refine gr_app (.tmp 79) (.tmp 84) rowT73 O HMVL.out rfl (by simp [Value.oneCell']) rfl rfl rfl rfl (Nat.le_refl _) O.keep.size (fun z hz => ?_) (by omega) (by decide) ?_; (· (have hz2 : Blk W9 z.1 z.2.1 z.2.2 := O.blk z (List.mem_cons_of_mem _ hz); simp only [List.mem_cons, List.not_mem_nil, or_false] at hz; rcases hz with rfl | rfl | rfl; (· exact gr_ne HMVL.out hz2 (show (130 : Nat) ≠ 79 by decide)); (· exact gr_ne HMVL.out hz2 (show (130 : Nat) ≠ 79 by decide)); (· exact gr_ne HMVL.out hz2 (show (37 : Nat) ≠ 79 by decide)))); clear O; intro v9 W10 O MR K hf; have HF := Lib.hid hf; have HMR := Lib.hid MR; have h10' := HB10.out.keeps K (by simpa using gr_ne HMVL.out HB10.out (by decide)); have HSZ9 := Lib.hid HKU.out.size; replace HKU := Lib.hid (HKU.out.trans K (fun z hz hlt => by rcases HVOL.out z (by simpa using hz) with h | h; (· simp [h]); (· omega))); clear hf K MR HMVL HB10; simp only [Act.put, kA, kZ, kS]))
               | (refine at_store (.tmp 3) (.tmp 85) rfl ?_; go_loud (refine wpList_store_blk b10 0 73 _ v9 rfl rfl rfl rfl rfl h10' (by simp) (gr_one HMR.out).1 (gr_one HMR.out).2 (by kernel_rfl) ?_; intro W11 K Bn; replace HMR := Lib.hid (gr_keeps HMR.out K (fun z hz hq => by rw [List.mem_singleton.1 hq] at hz; exact gr_ne HMR.out h10' (by decide) hz)); have HB11x := Lib.hid (show Blk W11 b10 73 #[v9] from Bn); replace O := O.wrote K (fun z hz hlt => by rw [List.mem_singleton.1 hz] at hlt; have := HI.out.2.2.2.2.2.2.1; omega) (fun z hz hq => by have hz2 := O.blk z hz; simp only [List.mem_cons, List.not_mem_nil, or_false] at hz; rcases hz with rfl | rfl | rfl; (· exact blk_ne hz2 h10' (show (130 : Nat) ≠ 73 by decide) (List.mem_singleton.1 hq)); (· exact blk_ne hz2 h10' (show (130 : Nat) ≠ 73 by decide) (List.mem_singleton.1 hq)); (· exact blk_ne hz2 h10' (show (37 : Nat) ≠ 73 by decide) (List.mem_singleton.1 hq))); replace HKU := Lib.hid (HKU.out.trans K (fun z hz _ => by rw [List.mem_singleton.1 hz]; simp)); clear K Bn h10')))
             go_roundg (m - (q + 1))
             case measure => (have := HG.out; omega)
             case rel =>
               refine ⟨q + 1, v9, by omega, rfl, by go_num, O.drop_ 1, HKU.out, HB11x.out, ?_, fun z hz => ?_⟩
               · rw [HQE.out]
                 unfold MintP
                 rw [prL_snoc, List.length_append, ← HLN.out]
                 exact HMR.out
               · rcases HF.out with h | h
                 · rw [h] at hz; exact HVOL.out z hz
                 · rw [h] at hz
                   injection hz with hz
                   have := HSZ9.out
                   exact .inr (by omega)
           · have z1 : ((wx : Int) != (wj : Int)) = true := by simpa [Int.natCast_inj] using hww
             have z2 : decide (cx' < ox) = true := decide_eq_true (by omega)
             have z3 : cx' < ox := by omega
             have hF : rcB E rm x k = true := by rw [HRC.out]; simp [hww, hle]
             have y1 : decide ((ln : Int) < (most : Int)) = false := decide_eq_false (by omega)
             have y2 : ¬ (ln : Int) < (most : Int) := by omega
             have HQE := Lib.hid (show (raceA E rm k ++ rcQ E rm k (q + 1)).take most = (raceA E rm k ++ rcQ E rm k q).take most from by rw [HQS.out, hF, if_pos rfl, ← List.append_assoc, take_snoc, if_neg (fun h => hfull (by rw [HLN.out]; exact (take_len_lt _ _).2 h))])
             clear hF
             go_quiet (fail)
             clear c12 ct cg c10 c5
             generalize hW : World.drewN W7 _ = W8
             have KD : Keeps W7 W8 [] := by rw [← hW]; exact (Keeps.refl W7 []).drewN _
             clear hW
             replace O := O.keeps KD
             replace HKU := Lib.hid (HKU.out.trans KD (by simp))
             replace HB10 := Lib.hid (HB10.out.keeps KD (by simp))
             replace HMV := Lib.hid (gr_keeps HMV.out KD (by simp))
             clear KD
             go_wp2
             go_roundg (m - (q + 1))
             case measure => (have := HG.out; omega)
             case rel =>
               have hl' := HLN.out
               subst hl'
               exact ⟨q + 1, .slice Av _ cv, by omega, rfl, by go_num, O.drop_ 1, HKU.out, HB10.out, by rw [HQE.out]; exact HMV.out, HVO.out⟩
   · obtain rfl : m = q := by omega
     clear hqt c10
     have HALL := Lib.hid (show raceA E rm k ++ rcQ E rm k m = raceA E rm (k + 1) by
       rw [HM.out, HA.out, rcQ_all HAC.out]; rfl)
     rw [HALL.out] at HMV HLN HVO
     have hSW := HST.out _ HKU.out
     have HCEL := Lib.hid hSW.2.2.2.1
     have HTK := Lib.hid (fun W (K : Keeps wr W []) (O' : Own w0 W [] [(bt, 130, #[.int .i64 (k : Int), .int .i64 (wj : Int), .int .i64 xj, .bool false]), (b9, 37, evC ⟨(wj : Int), 12, a, ev, es⟩)]) => And.intro (O'.get 1 rfl) (And.intro (hSW.2.2.1.keeps K (by simp)) (And.intro (hSW.2.2.2.1.map.keeps K (by simp)) (O'.get 0 rfl))))
     clear hSW
     obtain ⟨bb, hbb⟩ : ∃ bb, decide ((ln : Int) < (most : Int)) = bb := ⟨_, rfl⟩
     have HBB := Lib.hid hbb
     go_wp2
     refine wp_headH (S := fun u' => Blk u' b9 37 (evC ⟨(wj : Int), 12, a, ev, es⟩) ∧ Blk u' b11 128 #[.map (some mt)] ∧ MapV u' mt mc f ∧ Blk u' bt 130 #[.int .i64 (k : Int), .int .i64 (wj : Int), .int .i64 xj, .bool false]) 10 (by kernel_rfl) (by kernel_rfl) ?_
     have KW := (Keeps.refl wr []).drew
     replace O := O.drew
     have HS1 := Lib.hid (HTK.out _ KW O)
     replace HKU := Lib.hid (HKU.out.trans KW (by simp))
     replace HB10 := Lib.hid (HB10.out.keeps KW (by simp))
     replace HMV := Lib.hid (gr_keeps HMV.out KW (by simp))
     replace HCEL := Lib.hid (HCEL.out.new KW)
     have HRW := Lib.hid (show (wr.drew).ownsRow w0.heap.size 130 4 (.slice Ax m cx) m (accL E rm (pickL (isAcc E a) k)) from (by have := HCEL.out.row a; rw [show celV f a = .slice Ax (pickL (isAcc E a) k).length cx from HAX.out, ← HM.out] at this; exact this))
     refine ah_take (f := 2) (L' := #[true, true, true, true, true, true, true, true, false, false, false]) ((by first | exact HS1.out | exact HS2.out | exact HS3.out)) [0, 1, 2, 3, 4, 5, 6, 7] [_, _, _, _, _, _, _, _] _ _ rfl (by decide) (by kernel_rfl) ?_
     simp only [List.getElem_toArray, List.getElem_cons_zero, List.getElem_cons_succ]
     repeat (first
       | (refine take_load 94 rfl (by rfl) rfl rfl (fun _ h => h.2.2.2) Try.underlying130 rfl (by kernel_rfl) ?_; simp only [Act.put, kA, kZ, kS])
       | (refine take_pure (v := ?_) (by rfl) ?_ ?_; rotate_left; (· (intro w hSw; have c9 : ∀ i : Nat, w.cell? ⟨b9, i, none⟩ = #[Value.int .i64 (wj : Int), .int .i64 12, .int .i64 a, .int .i64 ev, .bool es][i]? := hSw.1.cell; have c11 : w.cell? ⟨b11, 0, none⟩ = some (.map (some mt)) := hSw.2.1.cell 0; have lk : (Instr.lookup 128 (.map (some mt)) (.int .i64 a) false).run Try.prog w = .ok (.slice Ax m cx) w := (by have := look_eqV hSw.2.2.1 128 131 (.slice none 0 0) Try.underlying128 (fun_zero131 _) a (by rw [HA.out]; exact HWF.out); rw [show (f a).getD (.slice none 0 0) = .slice Ax (pickL (isAcc E a) k).length cx from HAX.out] at this; rw [HM.out]; exact this); clear hSw; go_simp; try with_reducible rfl)); simp only [Act.put, kA, kZ, kS]))
     refine takeA_done ?_
     refine ah_sole 8 #[true, true, true, true, true, true, true, true, true, false, false] rfl (by decide) (by kernel_rfl) ?_
     try simp only [List.getElem_toArray, List.getElem_cons_zero, List.getElem_cons_succ]
     refine own_litK 95 131 130 1 4 (.agg #[.int .i64 0, .int .i64 0, .int .i64 0, .bool false]) _ (#[.int .i64 (k : Int), .int .i64 (wj : Int), .int .i64 xj, .bool false]) O rfl rfl rfl Try.underlying131 (by kernel_rfl) (by decide) (by decide) (by first | rfl | kernel_rfl) ?_; clear O; intro W9 gl O K hgl; have HS2 := Lib.hid (HTK.out W9 (KW.trans K (by simp)) (O.drop_ 1)); replace HKU := Lib.hid (HKU.out.trans K (by simp)); replace HB10 := Lib.hid (HB10.out.keeps K (by simp)); replace HMV := Lib.hid (gr_keeps HMV.out K (by simp)); replace HCEL := Lib.hid (HCEL.out.new K); replace HRW := Lib.hid (gr_keeps HRW.out K (by simp)); clear K hgl HS1 KW; simp only [Act.put, kA, kZ, kS]
     (first | refine backA_intro2 HS2.out ?_ | refine backA_intro HS2.out ?_)
     refine ah_sole 9 #[true, true, true, true, true, true, true, true, true, true, false] rfl (by decide) (by kernel_rfl) ?_
     try simp only [List.getElem_toArray, List.getElem_cons_zero, List.getElem_cons_succ]
     go_wp2_with (go_loud (at_builtin; refine gr_app (.tmp 93) (.tmp 95) rowT131 O HRW.out rfl (by simp [Value.oneCell']) rfl rfl rfl rfl (Nat.le_refl _) O.keep.size (fun z hz => ?_) (by omega) (by decide) ?_; (· (have hz2 : Blk W9 z.1 z.2.1 z.2.2 := O.blk z (List.mem_cons_of_mem _ hz); simp only [List.mem_cons, List.not_mem_nil, or_false] at hz; rcases hz with rfl | rfl; (· (intro e1; have e2 := (show (celV f a).ownBlock = some bt from by rw [show celV f a = .slice Ax (pickL (isAcc E a) k).length cx from HAX.out, ← HM.out]; exact e1); have h1 := HI.out.2.2.2.2.1 bt (HI.out.2.2.2.1 a bt e2); have h2 := HBT.out; omega)); (· exact gr_ne HRW.out hz2 (show (37 : Nat) ≠ 130 by decide)))); clear O; intro v9 W10 O MR K hf; have HF := Lib.hid hf; have HK9 := Lib.hid K; have HMR := Lib.hid MR; have HS3 := Lib.hid (And.intro (O.get 1 rfl) (And.intro (HS2.out.2.1.keeps K (by simpa using gr_ne HRW.out HS2.out.2.1 (by decide))) (And.intro (HS2.out.2.2.1.keeps K (fun hq => by obtain ⟨_, _, cur', hB'⟩ := gr_own HRW.out (g := mt) (by simpa using hq); exact HS2.out.2.2.1.not_blk hB' rfl)) (O.get 0 rfl)))); clear hf K MR; simp only [Act.put, kA, kZ, kS]))
     (first | refine backA_intro2 HS3.out ?_ | refine backA_intro HS3.out ?_)
     refine ah_tail (by kernel_rfl) ?_
     try simp only [List.drop]
     refine map_storeV HS3.out.2.2.1 128 131 Try.underlying128 rfl rfl rfl rfl (by rw [HA.out]; exact HWF.out) rfl (by simp only [maxLen]; have := HI.out.1; omega) ?_
     intro W11 K11 M11
     have HK11 := Lib.hid K11
     have HM11 := Lib.hid M11
     clear K11 M11
     refine np_intro ?_
     have HN := Lib.hid (fun x ty cs (hB : Blk W9 x ty cs) (h : ty ≠ 130) => (And.intro (gr_ne HRW.out hB h) (HCEL.out.map.not_blk hB) : (Value.slice Ax m cx).ownBlock ≠ some x ∧ x ≠ mt))
     have HTR := Lib.hid (fun x ty cs (hB : Blk W9 x ty cs) (h : ty ≠ 130) => ((hB.keeps HK9.out (by simpa using (HN.out x ty cs hB h).1)).keeps HK11.out (by simpa using (HN.out x ty cs hB h).2) : Blk W11 x ty cs))
     have HSW := Lib.hid (HST.out _ HKU.out)
     have c10 : W11.cell? ⟨b10, 0, none⟩ = some (.slice Av ln cv) := (HTR.out _ _ _ HB10.out (by decide)).cell 0
     have c5 : W11.cell? ⟨b5, 0, none⟩ = some (.int .i64 (most : Int)) := (HTR.out _ _ _ HSW.out.2.1 (by decide)).cell 0
     go_wp2
     go_ret
     have hl' := HLN.out
     have ha' := HA.out
     have hm' := HM.out
     obtain ⟨hmc, h10, M0, hD, hl, hb⟩ := HI.out
     have hN := HN.out
     have hTR := HTR.out
     have hSW := HSW.out
     have hMR := HMR.out
     have hF := HF.out
     have hAX := HAX.out
     have hK9 := HK9.out
     have hK11 := HK11.out
     have hHKU := HKU.out
     have hacc : accC E rm k = #[.int .i64 (k : Int), .int .i64 (wj : Int), .int .i64 xj, .bool false] := by
       unfold accC
       rw [HWJ.out, ← HXJ.out, HOP.out]
       rfl
     subst ha' hm'
     have hAX' : celV f (E k).a = .slice Ax (pickL (isAcc E (E k).a) k).length cx := hAX
     have hC2 := CelAt.add (v' := v9) hSW.2.2.2.1 HAC.out (U := W10) (by rw [hAX']; exact hK9) (by rw [hacc]; exact hMR) (by rw [hAX']; exact hF.elim .inl (fun h => .inr ⟨_, h, Nat.le_refl _⟩)) hK11 HM11.out
     have hM2 := gr_keeps (gr_keeps HMV.out hK9 (fun x hx hq => (hN x _ _ (gr_own HMV.out hx).2.2.choose_spec (by decide)).1 (by simpa using hq))) hK11 (fun x hx hq => (hN x _ _ (gr_own HMV.out hx).2.2.choose_spec (by decide)).2 (by simpa using hq))
     have hsz9 := hK9.size
     have hsz11 := hK11.size
     have hszu := hHKU.size
     have hKD : Keeps u W11 (b4 :: b10 :: b5 :: b11 :: mt :: (v.ownBlock.toList ++ Dc)) := by
       refine ((hHKU.wide (fun x hx => ?_)).trans hK9 (fun x hx _ => ?_)).trans hK11 (fun x hx _ => ?_)
       · rcases List.mem_cons.1 hx with rfl | hx
         · simp
         · simp [List.mem_append.2 (.inl hx)]
       · have := hD (E k).a x (by rw [hAX']; simpa using hx)
         simp [this]
       · rw [List.mem_singleton.1 hx]; simp
     subst hl'
     refine ⟨?_, ⟨_, ⟨_, _, v9.ownBlock.toList ++ Dc, mc + 1, rfl, by omega, O.keep.trans hK11 (fun x hx hlt => by rw [List.mem_singleton.1 hx] at hlt; omega), hTR _ _ _ hSW.1 (by decide), hTR _ _ _ HB10.out (by decide), hTR _ _ _ hSW.2.1 (by decide), hTR _ _ _ hSW.2.2.1 (by decide), hM2, hC2, fun a g hg => ?_, fun x hx => ?_, hb⟩, fun x hx => ?_, fun x hx => ?_⟩, hKD⟩
     · have := HBB.out
       unfold rcCont
       first
         | rfl
         | (subst this; rfl)
         | (subst this; simp [Int.ofNat_lt])
     · by_cases e : a = (E k).a
       · subst e
         rw [show celV (updI f (E k).a (some v9)) (E k).a = v9 by simp [celV]] at hg
         simp [hg]
       · rw [show celV (updI f (E k).a (some v9)) a = celV f a by unfold celV; rw [updI_other _ _ _ _ e]] at hg
         exact List.mem_append.2 (.inr (hD a g hg))
     · rcases List.mem_append.1 hx with hx | hx
       · have := (gr_own hMR (by simpa using hx)).2.1; omega
       · have := hl x hx; omega
     · simp only [List.mem_cons, List.mem_append] at hx ⊢
       rcases hx with rfl | rfl | rfl | rfl | rfl | hx | hx | hx
       · exact .inl (.inl rfl)
       · exact .inl (.inr (.inl rfl))
       · exact .inl (.inr (.inr (.inl rfl)))
       · exact .inl (.inr (.inr (.inr (.inl rfl))))
       · exact .inl (.inr (.inr (.inr (.inr (.inl rfl)))))
       · rcases HVO.out x (by simpa using hx) with h | h
         · exact .inl (.inr (.inr (.inr (.inr (.inr (.inl (by simpa using h)))))))
         · exact .inr h
       · rcases hF with h | h
         · have h2 : v9.ownBlock = some x := by simpa using hx
           rw [h] at h2
           exact .inl (.inr (.inr (.inr (.inr (.inr (.inr (hD (E k).a x (by rw [hAX']; exact h2))))))))
         · have h2 : v9.ownBlock = some x := by simpa using hx
           rw [h] at h2
           injection h2 with h2
           exact .inr (by omega)
       · exact .inl (.inr (.inr (.inr (.inr (.inr (.inr hx))))))
     · simp only [List.mem_cons, List.mem_append] at hx
       rcases hx with rfl | rfl | rfl | rfl | rfl | hx | hx | hx
       · exact (hTR _ _ _ hSW.1 (by decide)).lt
       · exact (hTR _ _ _ HB10.out (by decide)).lt
       · exact (hTR _ _ _ hSW.2.1 (by decide)).lt
       · exact (hTR _ _ _ hSW.2.2.1 (by decide)).lt
       · exact hC2.map.lt
       · exact (gr_own hM2 (by simpa using hx)).2.1
       · have := (gr_own hMR (by simpa using hx)).2.1; omega
       · have := hl x hx; omega
set_option maxRecDepth 100000 in
set_option maxHeartbeats 4000000 in
theorem rc_acc13 (hI : RcInv w0 E rm B n cb most b4 b10 b5 b11 mt k u D) (hE : EvsAt w0 B n E) (hk : k < n) (hn : n ≤ 40000) (hm : most ≤ 4096) (hop : (E k).op = 13) (hwf : (Lit.int .i64 (E k).a).wf = true) (hg : g ∉ D) (hC : ClkAt u g r (clk E rm (k : Int))) (hw : ∀ i, i < n → 0 ≤ (E i).who ∧ (E i).who < (r : Int)) :
   Calls Try.prog 75 #[.int .i64 (k : Int), .slice (some ⟨g, 0, none⟩) r r, .pointer (some ⟨b4, 0, none⟩), .pointer (some ⟨b10, 0, none⟩), .pointer (some ⟨b5, 0, none⟩), .pointer (some ⟨b11, 0, none⟩)] u (SeePost (RcInv w0 E rm B n cb most b4 b10 b5 b11 mt (k + 1)) (rcCont E rm most k) u D) := by
 obtain ⟨v, f, Dc, mc, rfl, hmc, K0, h4, h10, h5, h11, M, C, hD, hl, hb⟩ := hI
 have hac : acB E k = true := by simp [acB, hop]
 have O : Own w0 u [] [] := (Own.start w0 []).keeps K0
 obtain ⟨ad, rfl, hc⟩ := EvsAt.row (u := w0) hE hk
 have HC := Lib.hid (fun W (K : Keeps w0 W []) => hc [] W K (by simp))
 -- what stands where the pairs' row and its name are not written
 have HST := Lib.hid (fun W (K : Keeps u W (b10 :: v.ownBlock.toList)) => (show Blk W b4 31 #[.slice (some ad) n cb] ∧ Blk W b5 3 #[.int .i64 (most : Int)] ∧ Blk W b11 128 #[.map (some mt)] ∧ CelAt w0.heap.size W mt mc f E rm k ∧ ClkAt W g r (clk E rm (k : Int)) from by
   have nv : ∀ {x ty : Nat} {cs : Array Value}, Blk u x ty cs → ty ≠ 73 → ty ≠ 79 → x ∉ b10 :: v.ownBlock.toList := fun {x ty cs} hB h1 h2 hm' => by
     rcases List.mem_cons.1 hm' with e | e
     · subst e; exact blk_ne hB h10 h1 rfl
     · exact gr_ne M hB h2 (by simpa using e)
   refine ⟨h4.keeps K (nv h4 (by decide) (by decide)), h5.keeps K (nv h5 (by decide) (by decide)), h11.keeps K (nv h11 (by decide) (by decide)), C.keeps K (fun hm' => ?_) (fun a x hx => ?_), ?_⟩
   · rcases List.mem_cons.1 hm' with e | e
     · exact C.map.not_blk h10 e.symm
     · obtain ⟨_, _, cur, hB⟩ := gr_own M (g := mt) (by simpa using e)
       exact C.map.not_blk hB rfl
   · obtain ⟨_, _, cur, hB⟩ := gr_own (C.row a) hx
     exact nv hB (by decide) (by decide)
   · obtain ⟨cur, hB, hcu⟩ := hC
     exact ⟨cur, hB.keeps K (nv hB (by decide) (by decide)), hcu⟩))
 have HI := Lib.hid (And.intro hmc (And.intro h10 (And.intro M (And.intro hD (And.intro hl hb)))))
 have HC0 := Lib.hid C
 have HWF := Lib.hid hwf
 have HAC := Lib.hid hac
 have HOP := Lib.hid hop
 have HW := Lib.hid hw
 have HKN := Lib.hid hk
 have g1 : (k : Int) < n := by omega
 have g0 : (0 : Int) ≤ k := by omega
 have hgu : g < u.heap.size := hC.lt
 have c4 := h4.cell 0
 have KU := Lib.hid (Keeps.refl u [])
 have hEk : E k = ⟨(E k).who, 13, (E k).a, (E k).v, (E k).sh⟩ := by rw [← hop]
 have HEK := Lib.hid hEk
 obtain ⟨wj, hwj⟩ : ∃ wj : Nat, (E k).who = (wj : Int) := ⟨(E k).who.toNat, by have := hw k hk; omega⟩
 have hwjr : wj < r := by have := hw k hk; omega
 have HWJ := Lib.hid hwj
 rw [hEk, hwj] at HC
 obtain ⟨a, ha⟩ : ∃ a, a = (E k).a := ⟨_, rfl⟩
 have HA := Lib.hid ha
 rw [← ha] at HC
 generalize (E k).v = ev at HC
 generalize (E k).sh = es at HC
 have g2 : (wj : Int) < r := by omega
 have g3 : (0 : Int) ≤ wj := by omega
 clear hc h4 h10 h5 h11 M C hD hl hb hac hE K0 hmc hop hwf hg hC hw hk hEk hwj ha
 go_enter Try.func75, Try.ntmps75
 go_wp2_with (first
   | go_big_skip
   | (refine wpList_load_at 16 rfl rfl rfl rfl (HC.out _ O.keep) Try.underlying37 rfl (by kernel_rfl) ?_; simp only [Act.put, kA, kZ, kS])
   | (refine own_allocK 9 (evC ⟨0, 0, 0, 0, false⟩) O rfl rfl rfl (fun _ => by kernel_rfl) ?_; clear O c4; intro W1 b9 O K1 hb; have HW1 := Lib.hid (And.intro K1 hb); clear K1 hb; simp only [Act.put, kA, kZ, kS])
   | (refine own_store_rowK 0 (.tmp 9) (.tmp 16) O rfl rfl rfl rfl rfl rfl (by kernel_rfl) (by rfl) (evC_cell _) ?_; clear O; intro W2 O K2; simp only [kZ] at O; replace KU := Lib.hid (HW1.out.1.trans K2 (fun b hb hlt => by rw [List.mem_singleton.1 hb] at hlt; have := HW1.out.2; omega)); clear K2 HW1; have c9 : ∀ i : Nat, W2.cell? ⟨b9, i, none⟩ = (evC ⟨(wj : Int), 13, a, ev, es⟩)[i]? := (O.get 0 rfl).cell; simp only [evC] at c9))
 -- the access is laid out
 have hSW := HST.out _ (KU.out.wide (by simp))
 obtain ⟨xj, hxj⟩ : ∃ xj, xj = clk E rm (k : Int) (wj : Int) := ⟨_, rfl⟩
 have HXJ := Lib.hid hxj
 have HCG := Lib.hid (fun W (K : Keeps u W (b10 :: v.ownBlock.toList)) => (show W.cell? ⟨g, wj, none⟩ = some (.int .i64 xj) from by
   obtain ⟨cur, hB, hcu⟩ := (HST.out W K).2.2.2.2
   rw [HXJ.out]
   exact (hB.cell wj).trans (hcu.2 wj hwjr)))
 clear hSW hxj c9
 refine wp_headH (S := fun u' => Blk u' b9 37 (evC ⟨(wj : Int), 13, a, ev, es⟩) ∧ u'.cell? ⟨g, wj, none⟩ = some (.int .i64 xj)) 13 (by kernel_rfl) (by kernel_rfl) ?_
 replace O := O.drew
 replace KU := Lib.hid (KU.out.trans (Keeps.refl _ []).drew (by simp))
 have HS1 := Lib.hid (And.intro (O.get 0 rfl) (HCG.out _ (KU.out.wide (by simp))))
 refine ah_take (f := 1) (L' := #[true, true, true, true, true, true, true, true, true, true, true, true, false, false]) ((by first | exact HS1.out | exact HS2.out)) [0, 1, 2, 3, 4, 5, 6, 7, 8, 9, 10, 11] [_, _, _, _, _, _, _, _, _, _, _, _] _ _ rfl (by decide) (by kernel_rfl) ?_
 simp only [List.getElem_toArray, List.getElem_cons_zero, List.getElem_cons_succ]
 repeat (first
   | (refine take_pure (v := ?_) (by rfl) ?_ ?_; rotate_left; (· (intro w hSw; have c9 : ∀ i : Nat, w.cell? ⟨b9, i, none⟩ = #[Value.int .i64 (wj : Int), .int .i64 13, .int .i64 a, .int .i64 ev, .bool es][i]? := hSw.1.cell; have cg := hSw.2; clear hSw; go_simp; try with_reducible rfl)); simp only [Act.put, kA, kZ, kS]))
 refine takeA_done ?_
 refine ah_sole 12 #[true, true, true, true, true, true, true, true, true, true, true, true, true, false] rfl (by decide) (by kernel_rfl) ?_
 try simp only [List.getElem_toArray, List.getElem_cons_zero, List.getElem_cons_succ]
 refine own_allocK 10 (#[.int .i64 0, .int .i64 0, .int .i64 0, .bool false]) O rfl rfl rfl (fun _ => by kernel_rfl) ?_; clear O; intro W4 bt O K1 hb; have HBT := Lib.hid (show u.heap.size ≤ bt from by have := KU.out.size; omega); replace KU := Lib.hid (KU.out.trans K1 (by simp)); have HS2 := Lib.hid (And.intro (O.get 1 rfl) (HCG.out _ (KU.out.wide (by simp)))); clear K1 hb HS1; simp only [Act.put, kA, kZ, kS]
 (first | refine backA_intro2 HS2.out ?_ | refine backA_intro HS2.out ?_)
 refine ah_tail (by kernel_rfl) ?_
 try simp only [List.drop]
 refine own_store_rowK 0 (.tmp 10) (.tmp 40) (cs' := #[.int .i64 (k : Int), .int .i64 (wj : Int), .int .i64 xj, .bool true]) O rfl rfl rfl rfl rfl rfl (by kernel_rfl) (by rfl) (by simp [Value.oneCell']) ?_
 clear O
 intro W5 O K2
 simp only [kZ] at O
 replace KU := Lib.hid (KU.out.trans K2 (fun b hb hlt => by rw [List.mem_singleton.1 hb] at hlt; have := HBT.out; omega))
 clear K2 HS2
 refine np_intro ?_
 have c9 : ∀ i : Nat, W5.cell? ⟨b9, i, none⟩ = (evC ⟨(wj : Int), 13, a, ev, es⟩)[i]? := (O.get 1 rfl).cell
 simp only [evC] at c9
 have hSW := HST.out _ (KU.out.wide (by simp))
 have c11 := hSW.2.2.1.cell 0
 obtain ⟨Ax, cx, hax, hnx, _⟩ := gr_shape (hSW.2.2.2.1.row a)
 have lk : (Instr.lookup 128 (.map (some mt)) (.int .i64 a) false).run Try.prog W5 = .ok (.slice Ax (pickL (isAcc E a) k).length cx) W5 := by
   have := look_eqV hSW.2.2.2.1.map 128 131 (.slice none 0 0) Try.underlying128 (fun_zero131 _) a (by rw [HA.out]; exact HWF.out)
   rwa [show (f a).getD (.slice none 0 0) = .slice Ax (pickL (isAcc E a) k).length cx from hax] at this
 have HAX := Lib.hid hax
 obtain ⟨m, hm'⟩ : ∃ m, m = (pickL (isAcc E a) k).length := ⟨_, rfl⟩
 have HM := Lib.hid hm'
 have hmk : m ≤ k := by rw [hm']; exact pickL_length _ _
 rw [← hm'] at lk
 have HNX := Lib.hid hnx
 clear hSW hax hnx hm'
 go_wp2
 clear c9 c11 lk
 obtain ⟨v0, hv0⟩ : ∃ v0, v0 = v := ⟨_, rfl⟩
 have KU0 := KU.out.wide (L' := b10 :: v.ownBlock.toList) (by simp)
 have B10 := HI.out.2.1.keeps KU.out (by simp)
 have MV := gr_keeps HI.out.2.2.1 KU.out (by simp)
 clear hv0
 go_loopg [46] m (fun gg s46 wr => ∃ (q : Nat) (v' : Value), q ≤ m ∧ gg = m - q ∧ s46 = .int .i64 (q : Int) ∧ Own w0 wr [] [(bt, 130, #[.int .i64 (k : Int), .int .i64 (wj : Int), .int .i64 xj, .bool true]), (b9, 37, evC ⟨(wj : Int), 13, a, ev, es⟩)] ∧ Keeps u wr (b10 :: v.ownBlock.toList) ∧ Blk wr b10 73 #[v'] ∧ MintP 79 w0.heap.size wr v' ((raceA E rm k ++ rcQ E rm k q).take most) ∧ ∀ x, v'.ownBlock = some x → v.ownBlock = some x ∨ u.heap.size ≤ x)
 case atStart => exact ⟨0, v, by omega, by omega, rfl, O, KU0, B10, by rw [rcQ_zero, List.append_nil]; exact MV, fun x hx => .inl hx⟩
 case round =>
   clear O KU0 B10 MV KU
   obtain ⟨q, v', hq, hgq, rfl, O, KU, B10, MV, hv'⟩ := hrel
   have HG := Lib.hid hgq
   have HVO := Lib.hid hv'
   have HKU := Lib.hid KU
   clear hgq hv' KU
   obtain ⟨Av, cv, rfl, _⟩ := gr_shape MV
   obtain ⟨ln, hln⟩ : ∃ ln, ln = ((raceA E rm k ++ rcQ E rm k q).take most).length := ⟨_, rfl⟩
   have hlm : ln ≤ most := by rw [hln, List.length_take]; omega
   have HLN := Lib.hid hln
   rw [← hln] at B10
   have HB10 := Lib.hid B10
   have HMV := Lib.hid MV
   clear hln B10 MV
   have c10 := HB10.out.cell 0
   by_cases hqt : q < m
   · have g4 : (q : Int) < m := by omega
     have g5 : (0 : Int) ≤ q := by omega
     have hql : q < (pickL (isAcc E a) k).length := by rw [← HM.out]; exact hqt
     have HQS := Lib.hid (rcQ_succ (E := E) (rm := rm) (j := k) (q := q) (by rw [← HA.out]; exact hql))
     rw [← HA.out] at HQS
     have hxm := (pickL_mem (isAcc E a) k ((pickL (isAcc E a) k).getD q 0)).1 (by rw [List.getD_eq_getElem?_getD, List.getElem?_eq_getElem hql]; exact List.getElem_mem _)
     obtain ⟨x, hx⟩ : ∃ x, x = (pickL (isAcc E a) k).getD q 0 := ⟨_, rfl⟩
     rw [← hx] at hxm HQS
     have HX := Lib.hid hx
     obtain ⟨ax, rfl⟩ : ∃ ax, Ax = some ax := Option.ne_none_iff_exists'.1 (fun e => by have := (HNX.out e).1; omega)
     have HROW := Lib.hid (fun W (K : Keeps u W (b10 :: v.ownBlock.toList)) => (by have := arow (q := q) ((HST.out W K).2.2.2.1.row a) HAX.out hql; rw [← hx] at this; exact this : ∀ j, j < (accC E rm x).size → W.cell? ((ax.add (q * 4)).add j) = (accC E rm x)[j]?))
     have hxk := hxm.1
     have hxa : acB E x = true ∧ (E x).a = a := by simpa [isAcc] using hxm.2
     obtain ⟨wx, hwx⟩ : ∃ wx : Nat, (E x).who = (wx : Int) := ⟨(E x).who.toNat, by have := HW.out x (by have := HKN.out; omega); omega⟩
     have hwxr : wx < r := by have := HW.out x (by have := HKN.out; omega); omega
     have HWX := Lib.hid hwx
     have HXA := Lib.hid hxa
     obtain ⟨bx, hbx⟩ : ∃ bx, bx = decide ((E x).op = 13) := ⟨_, rfl⟩
     obtain ⟨ox, hox⟩ : ∃ ox, ox = clk E rm (x : Int) (wx : Int) := ⟨_, rfl⟩
     obtain ⟨cx', hcx⟩ : ∃ cx', cx' = clk E rm (k : Int) (wx : Int) := ⟨_, rfl⟩
     have hacc : accC E rm x = #[.int .i64 (x : Int), .int .i64 (wx : Int), .int .i64 ox, .bool bx] := by unfold accC; rw [hwx, ← hox, ← hbx]
     rw [hacc] at HROW
     have HRC := Lib.hid (show rcB E rm x k = ((bx || true) && (!decide (wx = wj) && !decide (ox ≤ cx'))) by
       unfold rcB
       rw [HXA.out.1, HAC.out, HXA.out.2, HOP.out, ← HA.out, hwx, HWJ.out, hbx, hox, hcx]
       simp [Int.natCast_inj])
     have HCX := Lib.hid hcx
     have g6 : (wx : Int) < r := by omega
     have g7 : (0 : Int) ≤ wx := by omega
     have hx4 : x ≤ 40000 := by have := HKN.out; omega
     clear hx hxm hxa hwx hbx hox hcx hacc hql hxk
     go_wp2_with (first
       | (refine wpList_load_at 49 rfl rfl rfl rfl (HROW.out _ HKU.out) Try.underlying130 rfl (by kernel_rfl) ?_; simp only [Act.put, kA, kZ, kS])
       | (refine own_allocK 12 (#[.int .i64 0, .int .i64 0, .int .i64 0, .bool false]) O rfl rfl rfl (fun _ => by kernel_rfl) ?_; clear O c10; intro W6 b12 O K1 hb; have HW1 := Lib.hid (And.intro K1 hb); clear K1 hb; simp only [Act.put, kA, kZ, kS])
       | (refine own_store_rowK 0 (.tmp 12) (.tmp 49) (cs' := #[.int .i64 (x : Int), .int .i64 (wx : Int), .int .i64 ox, .bool bx]) O rfl rfl rfl rfl rfl rfl (by kernel_rfl) (by rfl) (by simp [Value.oneCell']) ?_; clear O; intro W7 O K2; simp only [kZ] at O; have K3 := (HW1.out.1.trans K2 (fun b hb hlt => by rw [List.mem_singleton.1 hb] at hlt; have := HW1.out.2; omega) : Keeps wr W7 []); replace HKU := Lib.hid (HKU.out.trans K3 (by simp)); replace HB10 := Lib.hid (HB10.out.keeps K3 (by simp)); replace HMV := Lib.hid (gr_keeps HMV.out K3 (by simp)); clear K2 K3 HW1))
     have hSW := HST.out _ HKU.out
     have c12 : ∀ i : Nat, W7.cell? ⟨b12, i, none⟩ = #[Value.int .i64 (x : Int), .int .i64 (wx : Int), .int .i64 ox, .bool bx][i]? := (O.get 0 rfl).cell
     have ct : ∀ i : Nat, W7.cell? ⟨bt, i, none⟩ = #[Value.int .i64 (k : Int), .int .i64 (wj : Int), .int .i64 xj, .bool true][i]? := (O.get 1 rfl).cell
     have cg : W7.cell? ⟨g, wx, none⟩ = some (.int .i64 cx') := by
       obtain ⟨cur, hB, hcu⟩ := hSW.2.2.2.2
       rw [HCX.out]
       exact (hB.cell wx).trans (hcu.2 wx hwxr)
     have c10 := HB10.out.cell 0
     have c5 := hSW.2.1.cell 0
     clear hSW
     by_cases hww : wx = wj
     · have z1 : ((wx : Int) != (wj : Int)) = false := by simp [hww]
       have hF : rcB E rm x k = false := by rw [HRC.out]; simp [hww]
       have HQE := Lib.hid (show (raceA E rm k ++ rcQ E rm k (q + 1)).take most = (raceA E rm k ++ rcQ E rm k q).take most from by rw [HQS.out, hF, if_neg (by simp), List.append_nil])
       clear hF
       go_quiet (fail)
       clear c12 ct cg c10 c5
       generalize hW : World.drewN W7 _ = W8
       have KD : Keeps W7 W8 [] := by rw [← hW]; exact (Keeps.refl W7 []).drewN _
       clear hW
       replace O := O.keeps KD
       replace HKU := Lib.hid (HKU.out.trans KD (by simp))
       replace HB10 := Lib.hid (HB10.out.keeps KD (by simp))
       replace HMV := Lib.hid (gr_keeps HMV.out KD (by simp))
       clear KD
       go_wp2
       go_roundg (m - (q + 1))
       case measure => (have := HG.out; omega)
       case rel =>
         have hl' := HLN.out
         subst hl'
         exact ⟨q + 1, .slice Av _ cv, by omega, rfl, by go_num, O.drop_ 1, HKU.out, HB10.out, by rw [HQE.out]; exact HMV.out, HVO.out⟩
     · by_cases hle : ox ≤ cx'
       · have z1 : ((wx : Int) != (wj : Int)) = true := by simpa [Int.natCast_inj] using hww
         have z2 : decide (cx' < ox) = false := decide_eq_false (by omega)
         have z3 : ¬ cx' < ox := by omega
         have hF : rcB E rm x k = false := by rw [HRC.out]; simp [hle]
         have HQE := Lib.hid (show (raceA E rm k ++ rcQ E rm k (q + 1)).take most = (raceA E rm k ++ rcQ E rm k q).take most from by rw [HQS.out, hF, if_neg (by simp), List.append_nil])
         clear hF
         go_quiet (fail)
         clear c12 ct cg c10 c5
         generalize hW : World.drewN W7 _ = W8
         have KD : Keeps W7 W8 [] := by rw [← hW]; exact (Keeps.refl W7 []).drewN _
         clear hW
         replace O := O.keeps KD
         replace HKU := Lib.hid (HKU.out.trans KD (by simp))
         replace HB10 := Lib.hid (HB10.out.keeps KD (by simp))
         replace HMV := Lib.hid (gr_keeps HMV.out KD (by simp))
         clear KD
         go_wp2
         go_roundg (m - (q + 1))
         case measure => (have := HG.out; omega)
         case rel =>
           have hl' := HLN.out
           subst hl'
           exact ⟨q + 1, .slice Av _ cv, by omega, rfl, by go_num, O.drop_ 1, HKU.out, HB10.out, by rw [HQE.out]; exact HMV.out, HVO.out⟩
       · by_cases hfull : ln < most
         · have z1 : ((wx : Int) != (wj : Int)) = true := by simpa [Int.natCast_inj] using hww
           have z2 : decide (cx' < ox) = true := decide_eq_true (by omega)
           have z3 : cx' < ox := by omega
           have hF : rcB E rm x k = true := by rw [HRC.out]; simp [hww, hle]
           have y1 : decide ((ln : Int) < (most : Int)) = true := decide_eq_true (by omega)
           have y2 : (ln : Int) < (most : Int) := by omega
           have HQE := Lib.hid (show (raceA E rm k ++ rcQ E rm k (q + 1)).take most = (raceA E rm k ++ rcQ E rm k q).take most ++ [prR x k] from by rw [HQS.out, hF, if_pos rfl, ← List.append_assoc, take_snoc, if_pos ((take_len_lt _ _).1 (by rw [← HLN.out]; exact hfull))])
           clear hF
           go_quiet (fail)
           clear c12 ct cg c10 c5
           generalize hW : World.drewN W7 _ = W8
           have KD : Keeps W7 W8 [] := by rw [← hW]; exact (Keeps.refl W7 []).drewN _
           clear hW
           replace O := O.keeps KD
           replace HKU := Lib.hid (HKU.out.trans KD (by simp))
           replace HB10 := Lib.hid (HB10.out.keeps KD (by simp))
           replace HMV := Lib.hid (gr_keeps HMV.out KD (by simp))
           clear KD
           have HMVL := Lib.hid (show W8.ownsRow w0.heap.size 79 2 (.slice Av ln cv) ln (prL ((raceA E rm k ++ rcQ E rm k q).take most)) from by have h := HMV.out; unfold MintP at h; rw [← HLN.out] at h; exact h)
           have HVOL := Lib.hid (show ∀ x, (Value.slice Av ln cv).ownBlock = some x → v.ownBlock = some x ∨ u.heap.size ≤ x from by rw [HLN.out]; exact HVO.out)
           clear HMV
           have c12 : ∀ i : Nat, W8.cell? ⟨b12, i, none⟩ = #[Value.int .i64 (x : Int), .int .i64 (wx : Int), .int .i64 ox, .bool _][i]? := (O.get 0 rfl).cell
           have c10 := HB10.out.cell 0
           go_wp2_with (first
             | (refine own_litK 84 73 79 1 2 (.agg #[.int .i64 0, .int .i64 0]) _ (#[.int .i64 (x : Int), .int .i64 (k : Int)]) O rfl rfl rfl Try.underlying73 (by kernel_rfl) (by decide) (by decide) (by first | rfl | kernel_rfl) ?_; clear O c12 c10; intro W9 gl O K hgl; replace HKU := Lib.hid (HKU.out.trans K (by simp)); replace HB10 := Lib.hid (HB10.out.keeps K (by simp)); replace HMVL := Lib.hid (gr_keeps HMVL.out K (by simp)); clear K hgl; simp only [Act.put, kA, kZ, kS])
             | (at_builtin; go_loud (refine gr_app (.tmp 79) (.tmp 84) rowT73 O HMVL.out rfl (by simp [Value.oneCell']) rfl rfl rfl rfl (Nat.le_refl _) O.keep.size (fun z hz => ?_) (by omega) (by decide) ?_; (· (have hz2 : Blk W9 z.1 z.2.1 z.2.2 := O.blk z (List.mem_cons_of_mem _ hz); simp only [List.mem_cons, List.not_mem_nil, or_false] at hz; rcases hz with rfl | rfl | rfl; (· exact gr_ne HMVL.out hz2 (show (130 : Nat) ≠ 79 by decide)); (· exact gr_ne HMVL.out hz2 (show (130 : Nat) ≠ 79 by decide)); (· exact gr_ne HMVL.out hz2 (show (37 : Nat) ≠ 79 by decide)))); clear O; intro v9 W10 O MR K hf; have HF := Lib.hid hf; have HMR := Lib.hid MR; have h10' := HB10.out.keeps K (by simpa using gr_ne HMVL.out HB10.out (by decide)); have HSZ9 := Lib.hid HKU.out.size; replace HKU := Lib.hid (HKU.out.trans K (fun z hz hlt => by rcases HVOL.out z (by simpa using hz) with h | h; (· simp [h]); (· omega))); clear hf K MR HMVL HB10; simp only [Act.put, kA, kZ, kS]))
             | (refine at_store (.tmp 3) (.tmp 85) rfl ?_; go_loud (refine wpList_store_blk b10 0 73 _ v9 rfl rfl rfl rfl rfl h10' (by simp) (gr_one HMR.out).1 (gr_one HMR.out).2 (by kernel_rfl) ?_; intro W11 K Bn; replace HMR := Lib.hid (gr_keeps HMR.out K (fun z hz hq => by rw [List.mem_singleton.1 hq] at hz; exact gr_ne HMR.out h10' (by decide) hz)); have HB11x := Lib.hid (show Blk W11 b10 73 #[v9] from Bn); replace O := O.wrote K (fun z hz hlt => by rw [List.mem_singleton.1 hz] at hlt; have := HI.out.2.2.2.2.2.2.1; omega) (fun z hz hq => by have hz2 := O.blk z hz; simp only [List.mem_cons, List.not_mem_nil, or_false] at hz; rcases hz with rfl | rfl | rfl; (· exact blk_ne hz2 h10' (show (130 : Nat) ≠ 73 by decide) (List.mem_singleton.1 hq)); (· exact blk_ne hz2 h10' (show (130 : Nat) ≠ 73 by decide) (List.mem_singleton.1 hq)); (· exact blk_ne hz2 h10' (show (37 : Nat) ≠ 73 by decide) (List.mem_singleton.1 hq))); replace HKU := Lib.hid (HKU.out.trans K (fun z hz _ => by rw [List.mem_singleton.1 hz]; simp)); clear K Bn h10')))
           go_roundg (m - (q + 1))
           case measure => (have := HG.out; omega)
           case rel =>
             refine ⟨q + 1, v9, by omega, rfl, by go_num, O.drop_ 1, HKU.out, HB11x.out, ?_, fun z hz => ?_⟩
             · rw [HQE.out]
               unfold MintP
               rw [prL_snoc, List.length_append, ← HLN.out]
               exact HMR.out
             · rcases HF.out with h | h
               · rw [h] at hz; exact HVOL.out z hz
               · rw [h] at hz
                 injection hz with hz
                 have := HSZ9.out
                 exact .inr (by omega)
         · have z1 : ((wx : Int) != (wj : Int)) = true := by simpa [Int.natCast_inj] using hww
           have z2 : decide (cx' < ox) = true := decide_eq_true (by omega)
           have z3 : cx' < ox := by omega
           have hF : rcB E rm x k = true := by rw [HRC.out]; simp [hww, hle]
           have y1 : decide ((ln : Int) < (most : Int)) = false := decide_eq_false (by omega)
           have y2 : ¬ (ln : Int) < (most : Int) := by omega
           have HQE := Lib.hid (show (raceA E rm k ++ rcQ E rm k (q + 1)).take most = (raceA E rm k ++ rcQ E rm k q).take most from by rw [HQS.out, hF, if_pos rfl, ← List.append_assoc, take_snoc, if_neg (fun h => hfull (by rw [HLN.out]; exact (take_len_lt _ _).2 h))])
           clear hF
           go_quiet (fail)
           clear c12 ct cg c10 c5
           generalize hW : World.drewN W7 _ = W8
           have KD : Keeps W7 W8 [] := by rw [← hW]; exact (Keeps.refl W7 []).drewN _
           clear hW
           replace O := O.keeps KD
           replace HKU := Lib.hid (HKU.out.trans KD (by simp))
           replace HB10 := Lib.hid (HB10.out.keeps KD (by simp))
           replace HMV := Lib.hid (gr_keeps HMV.out KD (by simp))
           clear KD
           go_wp2
           go_roundg (m - (q + 1))
           case measure => (have := HG.out; omega)
           case rel =>
             have hl' := HLN.out
             subst hl'
             exact ⟨q + 1, .slice Av _ cv, by omega, rfl, by go_num, O.drop_ 1, HKU.out, HB10.out, by rw [HQE.out]; exact HMV.out, HVO.out⟩
   · obtain rfl : m = q := by omega
     clear hqt c10
     have HALL := Lib.hid (show raceA E rm k ++ rcQ E rm k m = raceA E rm (k + 1) by
       rw [HM.out, HA.out, rcQ_all HAC.out]; rfl)
     rw [HALL.out] at HMV HLN HVO
     have hSW := HST.out _ HKU.out
     have HCEL := Lib.hid hSW.2.2.2.1
     have HTK := Lib.hid (fun W (K : Keeps wr W []) (O' : Own w0 W [] [(bt, 130, #[.int .i64 (k : Int), .int .i64 (wj : Int), .int .i64 xj, .bool true]), (b9, 37, evC ⟨(wj : Int), 13, a, ev, es⟩)]) => And.intro (O'.get 1 rfl) (And.intro (hSW.2.2.1.keeps K (by simp)) (And.intro (hSW.2.2.2.1.map.keeps K (by simp)) (O'.get 0 rfl))))
     clear hSW
     obtain ⟨bb, hbb⟩ : ∃ bb, decide ((ln : Int) < (most : Int)) = bb := ⟨_, rfl⟩
     have HBB := Lib.hid hbb
     go_wp2
     refine wp_headH (S := fun u' => Blk u' b9 37 (evC ⟨(wj : Int), 13, a, ev, es⟩) ∧ Blk u' b11 128 #[.map (some mt)] ∧ MapV u' mt mc f ∧ Blk u' bt 130 #[.int .i64 (k : Int), .int .i64 (wj : Int), .int .i64 xj, .bool true]) 10 (by kernel_rfl) (by kernel_rfl) ?_
     have KW := (Keeps.refl wr []).drew
     replace O := O.drew
     have HS1 := Lib.hid (HTK.out _ KW O)
     replace HKU := Lib.hid (HKU.out.trans KW (by simp))
     replace HB10 := Lib.hid (HB10.out.keeps KW (by simp))
     replace HMV := Lib.hid (gr_keeps HMV.out KW (by simp))
     replace HCEL := Lib.hid (HCEL.out.new KW)
     have HRW := Lib.hid (show (wr.drew).ownsRow w0.heap.size 130 4 (.slice Ax m cx) m (accL E rm (pickL (isAcc E a) k)) from (by have := HCEL.out.row a; rw [show celV f a = .slice Ax (pickL (isAcc E a) k).length cx from HAX.out, ← HM.out] at this; exact this))
     refine ah_take (f := 2) (L' := #[true, true, true, true, true, true, true, true, false, false, false]) ((by first | exact HS1.out | exact HS2.out | exact HS3.out)) [0, 1, 2, 3, 4, 5, 6, 7] [_, _, _, _, _, _, _, _] _ _ rfl (by decide) (by kernel_rfl) ?_
     simp only [List.getElem_toArray, List.getElem_cons_zero, List.getElem_cons_succ]
     repeat (first
       | (refine take_load 94 rfl (by rfl) rfl rfl (fun _ h => h.2.2.2) Try.underlying130 rfl (by kernel_rfl) ?_; simp only [Act.put, kA, kZ, kS])
       | (refine take_pure (v := ?_) (by rfl) ?_ ?_; rotate_left; (· (intro w hSw; have c9 : ∀ i : Nat, w.cell? ⟨b9, i, none⟩ = #[Value.int .i64 (wj : Int), .int .i64 13, .int .i64 a, .int .i64 ev, .bool es][i]? := hSw.1.cell; have c11 : w.cell? ⟨b11, 0, none⟩ = some (.map (some mt)) := hSw.2.1.cell 0; have lk : (Instr.lookup 128 (.map (some mt)) (.int .i64 a) false).run Try.prog w = .ok (.slice Ax m cx) w := (by have := look_eqV hSw.2.2.1 128 131 (.slice none 0 0) Try.underlying128 (fun_zero131 _) a (by rw [HA.out]; exact HWF.out); rw [show (f a).getD (.slice none 0 0) = .slice Ax (pickL (isAcc E a) k).length cx from HAX.out] at this; rw [HM.out]; exact this); clear hSw; go_simp; try with_reducible rfl)); simp only [Act.put, kA, kZ, kS]))
     refine takeA_done ?_
     refine ah_sole 8 #[true, true, true, true, true, true, true, true, true, false, false] rfl (by decide) (by kernel_rfl) ?_
     try simp only [List.getElem_toArray, List.getElem_cons_zero, List.getElem_cons_succ]
     refine own_litK 95 131 130 1 4 (.agg #[.int .i64 0, .int .i64 0, .int .i64 0, .bool false]) _ (#[.int .i64 (k : Int), .int .i64 (wj : Int), .int .i64 xj, .bool true]) O rfl rfl rfl Try.underlying131 (by kernel_rfl) (by decide) (by decide) (by first | rfl | kernel_rfl) ?_; clear O; intro W9 gl O K hgl; have HS2 := Lib.hid (HTK.out W9 (KW.trans K (by simp)) (O.drop_ 1)); replace HKU := Lib.hid (HKU.out.trans K (by simp)); replace HB10 := Lib.hid (HB10.out.keeps K (by simp)); replace HMV := Lib.hid (gr_keeps HMV.out K (by simp)); replace HCEL := Lib.hid (HCEL.out.new K); replace HRW := Lib.hid (gr_keeps HRW.out K (by simp)); clear K hgl HS1 KW; simp only [Act.put, kA, kZ, kS]
     (first | refine backA_intro2 HS2.out ?_ | refine backA_intro HS2.out ?_)
     refine ah_sole 9 #[true, true, true, true, true, true, true, true, true, true, false] rfl (by decide) (by kernel_rfl) ?_
     try simp only [List.getElem_toArray, List.getElem_cons_zero, List.getElem_cons_succ]
     go_wp2_with (go_loud (at_builtin; refine gr_app (.tmp 93) (.tmp 95) rowT131 O HRW.out rfl (by simp [Value.oneCell']) rfl rfl rfl rfl (Nat.le_refl _) O.keep.size (fun z hz => ?_) (by omega) (by decide) ?_; (· (have hz2 : Blk W9 z.1 z.2.1 z.2.2 := O.blk z (List.mem_cons_of_mem _ hz); simp only [List.mem_cons, List.not_mem_nil, or_false] at hz; rcases hz with rfl | rfl; (· (intro e1; have e2 := (show (celV f a).ownBlock = some bt from by rw [show celV f a = .slice Ax (pickL (isAcc E a) k).length cx from HAX.out, ← HM.out]; exact e1); have h1 := HI.out.2.2.2.2.1 bt (HI.out.2.2.2.1 a bt e2); have h2 := HBT.out; omega)); (· exact gr_ne HRW.out hz2 (show (37 : Nat) ≠ 130 by decide)))); clear O; intro v9 W10 O MR K hf; have HF := Lib.hid hf; have HK9 := Lib.hid K; have HMR := Lib.hid MR; have HS3 := Lib.hid (And.intro (O.get 1 rfl) (And.intro (HS2.out.2.1.keeps K (by simpa using gr_ne HRW.out HS2.out.2.1 (by decide))) (And.intro (HS2.out.2.2.1.keeps K (fun hq => by obtain ⟨_, _, cur', hB'⟩ := gr_own HRW.out (g := mt) (by simpa using hq); exact HS2.out.2.2.1.not_blk hB' rfl)) (O.get 0 rfl)))); clear hf K MR; simp only [Act.put, kA, kZ, kS]))
     (first | refine backA_intro2 HS3.out ?_ | refine backA_intro HS3.out ?_)
     refine ah_tail (by kernel_rfl) ?_
     try simp only [List.drop]
     refine map_storeV HS3.out.2.2.1 128 131 Try.underlying128 rfl rfl rfl rfl (by rw [HA.out]; exact HWF.out) rfl (by simp only [maxLen]; have := HI.out.1; omega) ?_
     intro W11 K11 M11
     have HK11 := Lib.hid K11
     have HM11 := Lib.hid M11
     clear K11 M11
     refine np_intro ?_
     have HN := Lib.hid (fun x ty cs (hB : Blk W9 x ty cs) (h : ty ≠ 130) => (And.intro (gr_ne HRW.out hB h) (HCEL.out.map.not_blk hB) : (Value.slice Ax m cx).ownBlock ≠ some x ∧ x ≠ mt))
     have HTR := Lib.hid (fun x ty cs (hB : Blk W9 x ty cs) (h : ty ≠ 130) => ((hB.keeps HK9.out (by simpa using (HN.out x ty cs hB h).1)).keeps HK11.out (by simpa using (HN.out x ty cs hB h).2) : Blk W11 x ty cs))
     have HSW := Lib.hid (HST.out _ HKU.out)
     have c10 : W11.cell? ⟨b10, 0, none⟩ = some (.slice Av ln cv) := (HTR.out _ _ _ HB10.out (by decide)).cell 0
     have c5 : W11.cell? ⟨b5, 0, none⟩ = some (.int .i64 (most : Int)) := (HTR.out _ _ _ HSW.out.2.1 (by decide)).cell 0
     go_wp2
     go_ret
     have hl' := HLN.out
     have ha' := HA.out
     have hm' := HM.out
     obtain ⟨hmc, h10, M0, hD, hl, hb⟩ := HI.out
     have hN := HN.out
     have hTR := HTR.out
     have hSW := HSW.out
     have hMR := HMR.out
     have hF := HF.out
     have hAX := HAX.out
     have hK9 := HK9.out
     have hK11 := HK11.out
     have hHKU := HKU.out
     have hacc : accC E rm k = #[.int .i64 (k : Int), .int .i64 (wj : Int), .int .i64 xj, .bool true] := by
       unfold accC
       rw [HWJ.out, ← HXJ.out, HOP.out]
       rfl
     subst ha' hm'
     have hAX' : celV f (E k).a = .slice Ax (pickL (isAcc E (E k).a) k).length cx := hAX
     have hC2 := CelAt.add (v' := v9) hSW.2.2.2.1 HAC.out (U := W10) (by rw [hAX']; exact hK9) (by rw [hacc]; exact hMR) (by rw [hAX']; exact hF.elim .inl (fun h => .inr ⟨_, h, Nat.le_refl _⟩)) hK11 HM11.out
     have hM2 := gr_keeps (gr_keeps HMV.out hK9 (fun x hx hq => (hN x _ _ (gr_own HMV.out hx).2.2.choose_spec (by decide)).1 (by simpa using hq))) hK11 (fun x hx hq => (hN x _ _ (gr_own HMV.out hx).2.2.choose_spec (by decide)).2 (by simpa using hq))
     have hsz9 := hK9.size
     have hsz11 := hK11.size
     have hszu := hHKU.size
     have hKD : Keeps u W11 (b4 :: b10 :: b5 :: b11 :: mt :: (v.ownBlock.toList ++ Dc)) := by
       refine ((hHKU.wide (fun x hx => ?_)).trans hK9 (fun x hx _ => ?_)).trans hK11 (fun x hx _ => ?_)
       · rcases List.mem_cons.1 hx with rfl | hx
         · simp
         · simp [List.mem_append.2 (.inl hx)]
       · have := hD (E k).a x (by rw [hAX']; simpa using hx)
         simp [this]
       · rw [List.mem_singleton.1 hx]; simp
     subst hl'
     refine ⟨?_, ⟨_, ⟨_, _, v9.ownBlock.toList ++ Dc, mc + 1, rfl, by omega, O.keep.trans hK11 (fun x hx hlt => by rw [List.mem_singleton.1 hx] at hlt; omega), hTR _ _ _ hSW.1 (by decide), hTR _ _ _ HB10.out (by decide), hTR _ _ _ hSW.2.1 (by decide), hTR _ _ _ hSW.2.2.1 (by decide), hM2, hC2, fun a g hg => ?_, fun x hx => ?_, hb⟩, fun x hx => ?_, fun x hx => ?_⟩, hKD⟩
     · have := HBB.out
       unfold rcCont
       first
         | rfl
         | (subst this; rfl)
         | (subst this; simp [Int.ofNat_lt])
     · by_cases e : a = (E k).a
       · subst e
         rw [show celV (updI f (E k).a (some v9)) (E k).a = v9 by simp [celV]] at hg
         simp [hg]
       · rw [show celV (updI f (E k).a (some v9)) a = celV f a by unfold celV; rw [updI_other _ _ _ _ e]] at hg
         exact List.mem_append.2 (.inr (hD a g hg))
     · rcases List.mem_append.1 hx with hx | hx
       · have := (gr_own hMR (by simpa using hx)).2.1; omega
       · have := hl x hx; omega
     · simp only [List.mem_cons, List.mem_append] at hx ⊢
       rcases hx with rfl | rfl | rfl | rfl | rfl | hx | hx | hx
       · exact .inl (.inl rfl)
       · exact .inl (.inr (.inl rfl))
       · exact .inl (.inr (.inr (.inl rfl)))
       · exact .inl (.inr (.inr (.inr (.inl rfl))))
       · exact .inl (.inr (.inr (.inr (.inr (.inl rfl)))))
       · rcases HVO.out x (by simpa using hx) with h | h
         · exact .inl (.inr (.inr (.inr (.inr (.inr (.inl (by simpa using h)))))))
         · exact .inr h
       · rcases hF with h | h
         · have h2 : v9.ownBlock = some x := by simpa using hx
           rw [h] at h2
           exact .inl (.inr (.inr (.inr (.inr (.inr (.inr (hD (E k).a x (by rw [hAX']; exact h2))))))))
         · have h2 : v9.ownBlock = some x := by simpa using hx
           rw [h] at h2
           injection h2 with h2
           exact .inr (by omega)
       · exact .inl (.inr (.inr (.inr (.inr (.inr (.inr hx))))))
     · simp only [List.mem_cons, List.mem_append] at hx
       rcases hx with rfl | rfl | rfl | rfl | rfl | hx | hx | hx
       · exact (hTR _ _ _ hSW.1 (by decide)).lt
       · exact (hTR _ _ _ HB10.out (by decide)).lt
       · exact (hTR _ _ _ hSW.2.1 (by decide)).lt
       · exact (hTR _ _ _ hSW.2.2.1 (by decide)).lt
       · exact hC2.map.lt
       · exact (gr_own hM2 (by simpa using hx)).2.1
       · have := (gr_own hMR (by simpa using hx)).2.1; omega
       · have := hl x hx; omega
end
open Go.RowKit Go.Maps Go.Deep
section
variable {ops : Array Oper} {rest : List Oper} {o : Oper} {a : Act} {w W : World} {Q : Exit → Act → World → Prop} {S : List Nat} {L : List Ent} {T : TypeId}
theorem own_alloc1K (d : Nat) (v : Value) (O : Own w W S L) (_hd : o.dst = some d) (hgd : o.guard = none) (ho : o.op = .alloc T) (hz : ∀ w, (zeroValue T).run Try.prog w = .ok v w) (hv : v.cells = #[v])
   (h : ∀ u g, Own w u S ((g, T, #[v]) :: L) → Keeps W u [] → W.heap.size ≤ g → wpList Try.prog ops Q rest (a.put o.dst (.pointer (some ⟨g, 0, none⟩))) u) : wpList Try.prog ops Q (o :: rest) a W := by
 refine wpList_plain hgd fun K hK => ?_
 have hr : (Instr.alloc T true (.tuple #[])).run Try.prog W = .ok (.pointer (some ⟨W.heap.size, 0, none⟩)) (W.alloc (.cells #[v] T)) := by
   simp [Instr.alloc, hz W, newVar, newRow, hv]
 have k := (Keeps.refl W []).alloc (.cells #[v] T)
 unfold Oper.wp execOp
 simp only [ho, Sem.run_bind, hr, Result.andThen_ok, Sem.run_pure]
 exact hK _ _ (h _ _ (O.add k (Blk.new _ _ _)) k (Nat.le_refl _))
end
def RacPost (x : List (Int × Int) × Int) (w : World) (e : Ending) (u : World) : Prop :=
 (∃ v, e = .returned (.tuple #[v, .int .i64 x.2]) ∧ MintP 79 w.heap.size u v x.1) ∧ Keeps w u []
theorem racP_nil (w u : World) : MintP 79 w.heap.size u (.slice none 0 0) [] := gr_nil w.heap.size 79 2 u
section
variable {w0 u : World} {E : Nat → Ev} {rm : Int → Int} {B : Option Addr} {n cb most b4 b10 b5 b11 mt r k g : Nat} {D : List Nat}
theorem rc_see (hI : RcInv w0 E rm B n cb most b4 b10 b5 b11 mt k u D) (hE : EvsAt w0 B n E) (hk : k < n) (hn : n ≤ 40000) (hm : most ≤ 4096) (hwf : ∀ i, i < n → (Lit.int .i64 (E i).a).wf = true) (hg : g ∉ D) (hC : ClkAt u g r (clk E rm (k : Int))) (hw : ∀ i, i < n → 0 ≤ (E i).who ∧ (E i).who < (r : Int)) :
   Calls Try.prog 75 (#[.int .i64 (k : Int), .slice (some ⟨g, 0, none⟩) r r] ++ #[.pointer (some ⟨b4, 0, none⟩), .pointer (some ⟨b10, 0, none⟩), .pointer (some ⟨b5, 0, none⟩), .pointer (some ⟨b11, 0, none⟩)]) u (SeePost (RcInv w0 E rm B n cb most b4 b10 b5 b11 mt (k + 1)) (rcCont E rm most k) u D) := by
 show Calls Try.prog 75 #[.int .i64 (k : Int), .slice (some ⟨g, 0, none⟩) r r, .pointer (some ⟨b4, 0, none⟩), .pointer (some ⟨b10, 0, none⟩), .pointer (some ⟨b5, 0, none⟩), .pointer (some ⟨b11, 0, none⟩)] u _
 by_cases h12 : (E k).op = 12
 · exact rc_acc12 hI hE hk hn hm h12 (hwf k hk) hg hC hw
 · by_cases h13 : (E k).op = 13
   · exact rc_acc13 hI hE hk hn hm h13 (hwf k hk) hg hC hw
   · exact rc_other hI hE hk hn hm (by simp [acB, h12, h13]) h12 h13
theorem celAt_nil (base : Nat) {W : World} {mt : Nat} (E : Nat → Ev) (rm : Int → Int) (h : MapV W mt 0 (fun _ => none)) : CelAt base W mt 0 (fun _ => none) E rm 0 :=
 ⟨h, fun a => gr_nil base 130 4 W, fun a a' g h1 _ => by simp [celV, Value.ownBlock] at h1⟩
theorem rcInv_start {W : World} (hk : Keeps w0 W []) (h4 : Blk W b4 31 #[.slice B n cb]) (h10 : Blk W b10 73 #[.slice none 0 0]) (h5 : Blk W b5 3 #[.int .i64 (most : Int)]) (h11 : Blk W b11 128 #[.map (some mt)]) (M : MapV W mt 0 (fun _ => none)) (hb : w0.heap.size ≤ b4 ∧ w0.heap.size ≤ b10 ∧ w0.heap.size ≤ b5 ∧ w0.heap.size ≤ b11 ∧ w0.heap.size ≤ mt) :
   RcInv w0 E rm B n cb most b4 b10 b5 b11 mt 0 W [b4, b10, b5, b11, mt] := by
 refine ⟨.slice none 0 0, fun _ => none, [], 0, rfl, Nat.le_refl _, hk, h4, h10, h5, h11, ?_, celAt_nil _ _ _ M, fun a g h => ?_, by simp, hb⟩
 · rw [show (raceA E rm 0).take most = [] by simp [raceA]]
   exact gr_nil w0.heap.size 79 2 W
 · simp [celV, Value.ownBlock] at h
theorem race_end {k n : Nat} (h : (k = n ∧ ∀ i, i < n → rcCont E rm most i = true) ∨ ∃ i, k = i + 1 ∧ i < n ∧ rcCont E rm most i = false ∧ ∀ q, q < i → rcCont E rm most q = true) : (raceA E rm k).take most = (raceA E rm n).take most := by
 rcases h with ⟨rfl, _⟩ | ⟨i, rfl, hi, hc, _⟩
 · rfl
 · have h1 : ¬ ((raceA E rm (i + 1)).take most).length < most := of_decide_eq_false hc
   rw [take_len_lt] at h1
   exact (take_pre (raceA_pre (i + 1) n (by omega)) (by omega)).symm
end
section
variable {w : World} {S : Sys} {A : Option Addr} {c : Nat} {R : Option Addr} {d n : Nat} {E : Nat → Ev} {B : Option Addr} {cb : Nat}
theorem askN_ok (h : (thr S E n).2.2 = 0) : askedR S E n [] = ((stN E n).r, 0) := by
 unfold askedR
 rw [if_pos h, if_pos (by simp), thr_r h]
theorem askN_bad (h : ¬ (thr S E n).2.2 = 0) : askedR S E n [] = (0, (thr S E n).2.2) := by
 unfold askedR
 rw [if_neg h]
theorem askN_call (hS : SysIn w S A c R d) (hE : EvsAt w B n E) (hwf : ∀ i, i < n → (Lit.int .i64 (E i).a).wf = true) : Calls Try.prog 62 #[.agg (sysV S A c R d), .slice B n cb, .slice none 0 0] w fun e w' => e = .returned (askV (askedR S E n [])) ∧ Keeps w w' [] :=
 asked_any hS hE hwf _ [] ⟨none, 0, rfl, fun h => absurd h (by simp)⟩ (by simp)
set_option maxRecDepth 100000 in
set_option maxHeartbeats 1000000 in
theorem traces_bad (hS : SysIn w S A c R d) (hE : EvsAt w B n E) (hwf : ∀ i, i < n → (Lit.int .i64 (E i).a).wf = true) (most : Int) (h : ¬ (thr S E n).2.2 = 0) : Calls Try.prog 41 #[.agg (sysV S A c R d), .slice B n cb, .int .i64 most] w (RacPost (racesR S E (rmS S) n most) w) := by
 have O := Own.start w []
 have HT := Lib.hid (fun u (k : Keeps w u []) => show Calls Try.prog 62 #[.agg (sysV S A c R d), .slice B n cb, .slice none 0 0] u fun e w' => e = .returned (.tuple #[.int .i64 0, .int .i64 (thr S E n).2.2]) ∧ Keeps u w' [] from by
   have hz := askN_call (cb := cb) (hS.kept k) (hE.kept k) hwf
   rw [askN_bad h] at hz
   exact hz)
 have HF := Lib.hid (show racesR S E (rmS S) n most = ([], (thr S E n).2.2) by unfold racesR; rw [if_neg h])
 generalize (thr S E n).2.2 = er at HT HF h
 rw [HF.out]
 clear hS hE hwf HF
 go_enter Try.func41, Try.ntmps41
 go_wp2_with (first
   | go_big_skip
   | (refine own_box 3 (sysV S A c R d) O rfl rfl rfl rfl ?_; clear O; intro W b3 O; simp only [Act.put, kA, kZ, kS])
   | (refine own_box1 4 (.slice B n cb) O rfl rfl rfl rfl rfl ?_; clear O; intro W b4 O; simp only [Act.put, kA, kZ, kS])
   | (refine own_box1 5 (.int .i64 most) O rfl rfl rfl rfl rfl ?_; clear O; intro W b5 O; simp only [Act.put, kA, kZ, kS]; have c4 := (O.get 1 rfl).cell 0; have c5 := (O.get 0 rfl).cell 0)
   | (refine own_load 13 2 O rfl rfl rfl rfl rfl Try.underlying27 rfl (by kernel_rfl) ?_; simp only [Act.put, kA, kZ, kS])
   | (go_at_call 62; refine (HT.out _ O.keep).mono ?_; rintro e W ⟨rfl, K⟩; replace O := O.keeps K; clear K c4 c5; have c5 := (O.get 0 rfl).cell 0))
 go_returns
 exact ⟨⟨_, rfl, racP_nil _ _⟩, O.keep⟩
set_option maxRecDepth 100000 in
set_option maxHeartbeats 1000000 in
theorem traces_low (hS : SysIn w S A c R d) (hE : EvsAt w B n E) (hwf : ∀ i, i < n → (Lit.int .i64 (E i).a).wf = true) (most : Int) (h : (thr S E n).2.2 = 0) (h0 : most < 0) : Calls Try.prog 41 #[.agg (sysV S A c R d), .slice B n cb, .int .i64 most] w (RacPost (racesR S E (rmS S) n most) w) := by
 have O := Own.start w []
 have HT := Lib.hid (fun u (k : Keeps w u []) => show Calls Try.prog 62 #[.agg (sysV S A c R d), .slice B n cb, .slice none 0 0] u fun e w' => e = .returned (.tuple #[.int .i64 (stN E n).r, .int .i64 0]) ∧ Keeps u w' [] from by
   have hz := askN_call (cb := cb) (hS.kept k) (hE.kept k) hwf
   rw [askN_ok h] at hz
   exact hz)
 have HF := Lib.hid (show racesR S E (rmS S) n most = ([], 1) by unfold racesR; rw [if_pos h, if_pos (by omega)])
 clear h
 have q1 : decide (most < 0) = true := decide_eq_true h0
 rw [HF.out]
 clear hS hE hwf HF
 go_enter Try.func41, Try.ntmps41
 go_wp2_with (first
   | go_big_skip
   | (refine own_box 3 (sysV S A c R d) O rfl rfl rfl rfl ?_; clear O; intro W b3 O; simp only [Act.put, kA, kZ, kS])
   | (refine own_box1 4 (.slice B n cb) O rfl rfl rfl rfl rfl ?_; clear O; intro W b4 O; simp only [Act.put, kA, kZ, kS])
   | (refine own_box1 5 (.int .i64 most) O rfl rfl rfl rfl rfl ?_; clear O; intro W b5 O; simp only [Act.put, kA, kZ, kS]; have c4 := (O.get 1 rfl).cell 0; have c5 := (O.get 0 rfl).cell 0)
   | (refine own_load 13 2 O rfl rfl rfl rfl rfl Try.underlying27 rfl (by kernel_rfl) ?_; simp only [Act.put, kA, kZ, kS])
   | (go_at_call 62; refine (HT.out _ O.keep).mono ?_; rintro e W ⟨rfl, K⟩; replace O := O.keeps K; clear K c4 c5; have c5 := (O.get 0 rfl).cell 0))
 go_returns
 exact ⟨⟨_, rfl, racP_nil _ _⟩, O.keep⟩
set_option maxRecDepth 100000 in
set_option maxHeartbeats 1000000 in
theorem traces_high (hS : SysIn w S A c R d) (hE : EvsAt w B n E) (hwf : ∀ i, i < n → (Lit.int .i64 (E i).a).wf = true) (most : Int) (h : (thr S E n).2.2 = 0) (h0 : ¬ most < 0) (h1 : 4096 < most) : Calls Try.prog 41 #[.agg (sysV S A c R d), .slice B n cb, .int .i64 most] w (RacPost (racesR S E (rmS S) n most) w) := by
 have O := Own.start w []
 have HT := Lib.hid (fun u (k : Keeps w u []) => show Calls Try.prog 62 #[.agg (sysV S A c R d), .slice B n cb, .slice none 0 0] u fun e w' => e = .returned (.tuple #[.int .i64 (stN E n).r, .int .i64 0]) ∧ Keeps u w' [] from by
   have hz := askN_call (cb := cb) (hS.kept k) (hE.kept k) hwf
   rw [askN_ok h] at hz
   exact hz)
 have HF := Lib.hid (show racesR S E (rmS S) n most = ([], 1) by unfold racesR; rw [if_pos h, if_pos (by omega)])
 clear h
 have q1 : decide (most < 0) = false := decide_eq_false h0
 have q3 : decide (4096 < most) = true := decide_eq_true h1
 rw [HF.out]
 clear hS hE hwf HF
 go_enter Try.func41, Try.ntmps41
 go_wp2_with (first
   | go_big_skip
   | (refine own_box 3 (sysV S A c R d) O rfl rfl rfl rfl ?_; clear O; intro W b3 O; simp only [Act.put, kA, kZ, kS])
   | (refine own_box1 4 (.slice B n cb) O rfl rfl rfl rfl rfl ?_; clear O; intro W b4 O; simp only [Act.put, kA, kZ, kS])
   | (refine own_box1 5 (.int .i64 most) O rfl rfl rfl rfl rfl ?_; clear O; intro W b5 O; simp only [Act.put, kA, kZ, kS]; have c4 := (O.get 1 rfl).cell 0; have c5 := (O.get 0 rfl).cell 0)
   | (refine own_load 13 2 O rfl rfl rfl rfl rfl Try.underlying27 rfl (by kernel_rfl) ?_; simp only [Act.put, kA, kZ, kS])
   | (go_at_call 62; refine (HT.out _ O.keep).mono ?_; rintro e W ⟨rfl, K⟩; replace O := O.keeps K; clear K c4 c5; have c5 := (O.get 0 rfl).cell 0))
 go_returns
 exact ⟨⟨_, rfl, racP_nil _ _⟩, O.keep⟩
set_option maxRecDepth 100000 in
set_option maxHeartbeats 2000000 in
theorem traces_good (hS : SysIn w S A c R d) (hE : EvsAt w B n E) (hwf : ∀ i, i < n → (Lit.int .i64 (E i).a).wf = true) (most : Nat) (h : (thr S E n).2.2 = 0) (hm : most ≤ 4096) : Calls Try.prog 41 #[.agg (sysV S A c R d), .slice B n cb, .int .i64 (most : Int)] w (RacPost (racesR S E (rmS S) n (most : Int)) w) := by
 have O := Own.start w []
 obtain ⟨hv, hn, hok⟩ := thr_zero h
 have hl0 := stN_le E n
 obtain ⟨r, hr⟩ : ∃ r : Nat, (stN E n).r = (r : Int) := ⟨(stN E n).r.toNat, by omega⟩
 have hr6 : r ≤ 1000000 := by omega
 have HT := Lib.hid (fun u (k : Keeps w u []) => show Calls Try.prog 62 #[.agg (sysV S A c R d), .slice B n cb, .slice none 0 0] u fun e w' => e = .returned (.tuple #[.int .i64 (r : Int), .int .i64 0]) ∧ Keeps u w' [] from by
   have hz := askN_call (cb := cb) (hS.kept k) (hE.kept k) hwf
   rw [askN_ok h, hr] at hz
   exact hz)
 have hwr : ∀ i, i < n → 0 ≤ (E i).who ∧ (E i).who < (r : Int) := fun i hi => by
   have h0 := ok_head (hok i hi)
   have h2 := stN_r_mono E (show i ≤ n by omega)
   have := h0.1
   have := h0.2.1
   omega
 have HF := Lib.hid (show racesR S E (rmS S) n (most : Int) = ((raceA E (rmS S) n).take most, 0) by unfold racesR; rw [if_pos h, if_neg (by omega)]; simp)
 have HTK := Lib.hid (fun W (K : Keeps w W []) b4 b10 b5 b11 mt (h0 : RcInv w E (rmS S) B n cb most b4 b10 b5 b11 mt 0 W [b4, b10, b5, b11, mt]) (hlt : ∀ b ∈ [b4, b10, b5, b11, mt], w.heap.size ≤ b ∧ b < W.heap.size) => ticks_any (cb := cb) (m := n) (r := r) 75 #[.pointer (some ⟨b4, 0, none⟩), .pointer (some ⟨b10, 0, none⟩), .pointer (some ⟨b5, 0, none⟩), .pointer (some ⟨b11, 0, none⟩)] (RcInv w E (rmS S) B n cb most b4 b10 b5 b11 mt) (rcCont E (rmS S) most) [b4, b10, b5, b11, mt] K hS hE (val_rooms hv) hok hn hwf (by omega) hr6 fn75 (fun k => rcInv_ok) h0 hlt (fun k hk u D g h1 h2 h3 => rc_see h1 hE hk hn hm hwf h2 h3 hwr))
 have q1 : decide ((most : Int) < 0) = false := decide_eq_false (by omega)
 have q2 : ¬ (most : Int) < 0 := by omega
 have q3 : decide ((4096 : Int) < (most : Int)) = false := decide_eq_false (by omega)
 have q4 : ¬ (4096 : Int) < (most : Int) := by omega
 rw [HF.out]
 clear hS hE hwf HF h hok hv hr hwr
 go_enter Try.func41, Try.ntmps41
 go_wp2_with (first
   | go_big_skip
   | (refine own_box 3 (sysV S A c R d) O rfl rfl rfl rfl ?_; clear O; intro W b3 O; simp only [Act.put, kA, kZ, kS])
   | (refine own_box1 4 (.slice B n cb) O rfl rfl rfl rfl rfl ?_; clear O; intro W b4 O; simp only [Act.put, kA, kZ, kS])
   | (refine own_box1 5 (.int .i64 (most : Int)) O rfl rfl rfl rfl rfl ?_; clear O; intro W b5 O; simp only [Act.put, kA, kZ, kS]; have c4 := (O.get 1 rfl).cell 0; have c5 := (O.get 0 rfl).cell 0)
   | (refine own_load 13 2 O rfl rfl rfl rfl rfl Try.underlying27 rfl (by kernel_rfl) ?_; simp only [Act.put, kA, kZ, kS])
   | (go_at_call 62; refine (HT.out _ O.keep).mono ?_; rintro e W ⟨rfl, K⟩; replace O := O.keeps K; clear K c4 c5; have c5 := (O.get 0 rfl).cell 0)
   | (refine own_alloc1 10 (.slice none 0 0) O rfl rfl rfl (fun _ => by kernel_rfl) rfl ?_; clear O c5; intro W b10 O; simp only [Act.put, kA, kZ, kS])
   | (refine at_dst 27 rfl ?_; go_loud (have hW0 := O.keep.size; refine own_makeMapV 27 O rfl rfl rfl ?_; clear O; intro W mt O K M hb; clear K; have HMT := Lib.hid (Nat.le_trans hW0 hb); clear hW0 hb; simp only [Act.put, kA, kZ, kS]))
   | (refine own_alloc1K 11 (.map none) O rfl rfl rfl (fun _ => by kernel_rfl) rfl ?_; clear O; intro W b11 O K hb; replace M := M.keeps K (by simp); clear K hb; simp only [Act.put, kA, kZ, kS])
   | (refine at_store (.tmp 11) (.tmp 27) rfl ?_; go_loud (refine wpList_store_blk b11 0 128 #[.map none] (.map (some mt)) rfl rfl rfl rfl rfl (O.get 0 rfl) (by simp) rfl rfl (by kernel_rfl) ?_; intro W7 K Bn; replace M := M.keeps K (fun hq => M.not_blk (O.get 0 rfl) (List.mem_singleton.1 hq).symm); replace O := O.set 0 rfl K (cs' := #[.map (some mt)]) Bn; simp only [kZ] at O; clear K Bn; have c4 := (O.get 3 rfl).cell 0))
   | (refine own_load 28 4 O rfl rfl rfl rfl rfl Try.underlying27 rfl (by kernel_rfl) ?_; simp only [Act.put, kA, kZ, kS])
   | (go_at_call 72; go_loud (refine (HTK.out _ O.keep b4 b10 b5 b11 mt (rcInv_start O.keep (O.get 3 rfl) (O.get 1 rfl) (O.get 2 rfl) (O.get 0 rfl) M ⟨(own_at O 3 rfl).1, (own_at O 1 rfl).1, (own_at O 2 rfl).1, (own_at O 0 rfl).1, HMT.out⟩) (fun b hb => by simp only [List.mem_cons, List.not_mem_nil, or_false] at hb; rcases hb with rfl | rfl | rfl | rfl | rfl; (· exact own_at O 3 rfl); (· exact own_at O 1 rfl); (· exact own_at O 2 rfl); (· exact own_at O 0 rfl); (· exact ⟨HMT.out, M.lt⟩))).mono ?_; rintro e W3 ⟨rfl, K3, k, D, hI, hk⟩; have HKE := Lib.hid (race_end hk); clear hk; obtain ⟨v, f, Dc, mc, rfl, _, hK, _, h10, _, _, MM, _⟩ := hI; have HK := Lib.hid K3; obtain ⟨Av, cv, hvs, _⟩ := gr_shape MM; obtain ⟨ln, hln⟩ : ∃ ln, ln = ((raceA E (rmS S) k).take most).length := ⟨_, rfl⟩; rw [← hln] at hvs; have HMM := Lib.hid MM; have HVS := Lib.hid hvs; rw [hvs] at h10; have c10 := h10.cell 0; clear h10 hK MM hln hvs c4)))
 go_returns
 exact ⟨⟨_, rfl, by have hh := HMM.out; rw [HVS.out] at hh; show MintP 79 _ _ _ ((raceA E (rmS S) n).take most); rw [← HKE.out]; exact hh⟩, HK.out⟩
theorem traces_any (hS : SysIn w S A c R d) (hE : EvsAt w B n E) (hwf : ∀ i, i < n → (Lit.int .i64 (E i).a).wf = true) (most : Int) : Calls Try.prog 41 #[.agg (sysV S A c R d), .slice B n cb, .int .i64 most] w (RacPost (racesR S E (rmS S) n most) w) := by
 by_cases h : (thr S E n).2.2 = 0
 · by_cases h0 : most < 0
   · exact traces_low hS hE hwf most h h0
   · by_cases h1 : 4096 < most
     · exact traces_high hS hE hwf most h h0 h1
     · obtain ⟨m, rfl⟩ : ∃ m : Nat, most = (m : Int) := ⟨most.toNat, by omega⟩
       exact traces_good hS hE hwf m h (by omega)
 · exact traces_bad hS hE hwf most h
end
open Go.ChangeShapes Go.WideShapes Go.RowKit Go.Maps Go.Deep
section
variable {w : World}
set_option maxRecDepth 100000 in
set_option maxHeartbeats 1000000 in
theorem safe_bad (jb : Nat) (hj : jb ≤ 255) (x y : Int) (pv : Value) (h : plB x y = false) : Calls Try.prog 20 #[.int .u8 (jb : Int), .agg (plV x y), pv] w fun e u => e = .returned (.bool true) ∧ Keeps w u [] := by
 have O := Own.start w []
 obtain ⟨J, hJ⟩ : ∃ J, J = jb % 24 := ⟨_, rfl⟩
 have hmod : ((jb : Nat) : Int) % 24 = (J : Int) := by omega
 have htm : Int.tmod (jb : Int) 24 = (J : Int) := by rw [Int.tmod_eq_emod_of_nonneg (by omega)]; exact hmod
 have hJ2 : J ≤ 23 := by omega
 have HS := Lib.hid (fun u => psys_bad (w := u) x y J h)
 have HV := Lib.hid (fun u => rpvalid_any (w := u) x y)
 unfold plE at HV
 rw [h] at HV
 clear h hJ
 go_enter Try.func20, Try.ntmps20
 go_wp2_with (first
   | go_big_skip
   | (refine own_box 4 (plV x y) O rfl rfl rfl rfl ?_; clear O; intro W b4 O; simp only [Act.put, kA, kZ, kS])
   | (refine own_load 23 0 O rfl rfl rfl rfl rfl Try.underlying89 rfl (by kernel_rfl) ?_; simp only [Act.put, kA, kZ, kS])
   | (go_at_call 50; refine (HS.out _).mono ?_; rintro e W ⟨rfl, K⟩; replace O := O.keeps K; clear K)
   | (refine own_alloc 8 sysZ O rfl rfl rfl (fun _ => by kernel_rfl) ?_; clear O; intro W b8 O; simp only [Act.put, kA, kZ, kS])
   | (refine own_store_row 0 (.tmp 8) (.tmp 25) (cs' := sysZ) O rfl rfl rfl rfl rfl rfl (by kernel_rfl) (by rfl) (by decide) ?_; clear O; intro W O; simp only [kZ] at O)
   | (refine own_load 27 1 O rfl rfl rfl rfl rfl Try.underlying89 rfl (by kernel_rfl) ?_; simp only [Act.put, kA, kZ, kS])
   | (go_at_call 48; refine (HV.out _).mono ?_; rintro e W ⟨rfl, K⟩; replace O := O.keeps K; clear K))
 go_returns
 exact ⟨rfl, O.keep⟩
theorem pl_nat {x y : Int} (h : plB x y = true) : ∃ a b : Nat, x = (a : Int) ∧ y = (b : Int) ∧ 1 ≤ a ∧ a ≤ 256 ∧ 1 ≤ b ∧ b ≤ 1024 := by
 simp only [plB, decide_eq_true_eq] at h
 exact ⟨x.toNat, y.toNat, by omega, by omega, by omega, by omega, by omega, by omega⟩
set_option maxRecDepth 100000 in
set_option maxHeartbeats 4000000 in
theorem safe_good (jb : Nat) (hj : jb ≤ 255) (x y : Nat) (pv : Value) (picks : List Int) (hp : IntL w pv picks) (h : plB x y = true) (hx : 1 ≤ x ∧ x ≤ 256 ∧ 1 ≤ y ∧ y ≤ 1024) : Calls Try.prog 20 #[.int .u8 (jb : Int), .agg (plV x y), pv] w fun e u => e = .returned (.bool true) ∧ Keeps w u [] := by
 have O := Own.start w []
 obtain ⟨J, hJ⟩ : ∃ J, J = jb % 24 := ⟨_, rfl⟩
 have hmod : ((jb : Nat) : Int) % 24 = (J : Int) := by omega
 have htm : Int.tmod (jb : Int) 24 = (J : Int) := by rw [Int.tmod_eq_emod_of_nonneg (by omega)]; exact hmod
 have hJ2 : J ≤ 23 := by omega
 have HS := Lib.hid (fun u => psys_good (w := u) x y J h (by omega))
 have HB := Lib.hid (fun u => pbound_good (w := u) x y J h (by omega))
 have HV := Lib.hid (fun u => rpvalid_any (w := u) (x : Int) (y : Int))
 unfold plE at HV
 rw [if_pos h] at HV
 unfold pBd at HB
 obtain ⟨b, hb⟩ : ∃ b, b = min (y + x) 64 := ⟨_, rfl⟩
 rw [← hb] at HS HB
 have pk : PoolOk x y b J := ⟨by omega, by omega, by omega, by omega, by omega, by omega⟩
 have hv := pool_valid pk (by omega)
 obtain ⟨f1, f2, f3, f4, _⟩ := play_pool pk picks (Φ := fun _ _ => True) trivial (fun _ _ _ _ _ _ _ _ => trivial)
 have HPR := Lib.hid (pool_races pk hv picks)
 have HPL := Lib.hid (fun u (hS : ∃ A c R d, SysIn u (poolS x y b J) A c R d) => hS)
 have HP := Lib.hid (fun u A c R d (hS : SysIn u (poolS x y b J) A c R d) (hp : IntL u pv picks) => show Calls Try.prog 25 #[.agg (sysV (poolS x y b J) A c R d), pv] u fun e W => ∃ evs cells, e = .returned (.tuple #[.agg (runC (playP (poolS x y b J) picks).fin (playP (poolS x y b J) picks).fault evs (playP (poolS x y b J) picks).P.n cells), .int .i64 0]) ∧ RunAt u W (poolS x y b J) (playP (poolS x y b J) picks) evs cells from play_good hS hv hp)
 have HWF := Lib.hid (play_awf hv pool_wf picks)
 have HTH := Lib.hid (play_thr hv picks)
 obtain ⟨S, hS⟩ : ∃ S, S = poolS x y b J := ⟨_, rfl⟩
 rw [← hS] at HS HPR HP HWF HTH f1 f2 f3 f4
 obtain ⟨X, hX⟩ : ∃ X, X = playP S picks := ⟨_, rfl⟩
 rw [← hX] at HPR HP HWF HTH f1 f2 f3 f4
 obtain ⟨n, hn⟩ : ∃ n, n = X.P.ev.length := ⟨_, rfl⟩
 rw [← hn] at HPR HWF HTH f4
 rw [← f4] at HB
 rw [f1, f2, f3] at HP
 rw [f3] at HTH
 have HNN := Lib.hid hn
 have HIP := Lib.hid hp
 have hn4 : n ≤ 40000 := by omega
 have g0 : ((n : Int) != (n : Int)) = false := by simp
 have g3 : ((x : Int) + 3 != (x : Int) + 3) = false := by simp
 have hx2 : x ≤ 256 := by omega
 clear h hJ hX hn hS hp hv pk f1 f2 f3 f4 hb HPL hx
 go_enter Try.func20, Try.ntmps20
 go_wp2_with (first
   | go_big_skip
   | (refine own_box 4 (plV x y) O rfl rfl rfl rfl ?_; clear O; intro W b4 O; simp only [Act.put, kA, kZ, kS])
   | (refine own_load 23 0 O rfl rfl rfl rfl rfl Try.underlying89 rfl (by kernel_rfl) ?_; simp only [Act.put, kA, kZ, kS])
   | (go_at_call 50; refine (HS.out _).mono ?_; rintro e W ⟨A, c, R, d, rfl, HI0, K⟩; replace O := O.keeps K; have HI := Lib.hid HI0; clear K HI0)
   | (refine own_allocK 8 sysZ O rfl rfl rfl (fun _ => by kernel_rfl) ?_; clear O; intro W8 b8 O K8 hb8; have HK8 := Lib.hid (And.intro K8 hb8); clear K8 hb8; simp only [Act.put, kA, kZ, kS])
   | (refine own_store_rowK 0 (.tmp 8) (.tmp 25) (cs' := sysV S A c R d) O rfl rfl rfl rfl rfl rfl (by kernel_rfl) (by rfl) (by simp [sysV, Value.oneCell']) ?_; clear O; intro W O K; simp only [kZ] at O; replace HI := Lib.hid (HI.out.kept (HK8.out.1.trans K (fun b hb hlt => by rw [List.mem_singleton.1 hb] at hlt; have := HK8.out.2; omega))); clear K HK8)
   | (refine own_load 27 1 O rfl rfl rfl rfl rfl Try.underlying89 rfl (by kernel_rfl) ?_; simp only [Act.put, kA, kZ, kS])
   | (go_at_call 48; refine (HV.out _).mono ?_; rintro e W ⟨rfl, K⟩; replace O := O.keeps K; replace HI := Lib.hid (HI.out.kept K); clear K)
   | (refine own_load 33 0 O rfl rfl rfl rfl rfl Try.underlying27 rfl (by kernel_rfl) ?_; simp only [Act.put, kA, kZ, kS])
   | (go_at_call 25; refine (HP.out _ _ _ _ _ HI.out (HIP.out.kept O.keep)).mono ?_; rintro e W ⟨evs, cells, rfl, HR⟩; replace O := O.keeps HR.keep; replace HI := Lib.hid (HI.out.kept HR.keep); obtain ⟨Ae, ce, e1, hE, hce, hcm⟩ := HR.evs; obtain ⟨bc, mc, e2, _, _, _⟩ := HR.cell; clear HR; rw [← HNN.out] at e1 hE hce; subst e1; subst e2; have HE := Lib.hid hE; have HCE := Lib.hid hce; clear hE hce hcm)
   | (refine own_allocK 10 (#[Value.int .i64 0, .int .i64 0, .slice none 0 0, .int .i64 0, .slice none 0 0]) O rfl rfl rfl (fun _ => by kernel_rfl) ?_; clear O; intro W10 a10 O K10 hb10; have HK10 := Lib.hid (And.intro K10 hb10); clear K10 hb10; simp only [Act.put, kA, kZ, kS])
   | (refine own_store_rowK 0 (.tmp 10) (.tmp 36) (cs' := runC 1 0 (.slice Ae n ce) (x + 3 : Nat) (.slice (some ⟨bc, 0, none⟩) mc mc)) O rfl rfl rfl rfl rfl rfl (by kernel_rfl) (by rfl) (runC_cell _ _ _ _ _ rfl rfl) ?_; clear O; intro W O K; have KK := (HK10.out.1.trans K (fun b hb hlt => by rw [List.mem_singleton.1 hb] at hlt; have := HK10.out.2; omega) : Keeps _ _ []); replace HE := Lib.hid (HE.out.kept KK); replace HI := Lib.hid (HI.out.kept KK); clear K HK10 KK; simp only [kZ] at O)
   | (refine own_load 40 2 O rfl rfl rfl rfl rfl Try.underlying89 rfl (by kernel_rfl) ?_; simp only [Act.put, kA, kZ, kS])
   | (go_at_call 51; refine (HB.out _).mono ?_; rintro e W ⟨rfl, K⟩; replace O := O.keeps K; replace HE := Lib.hid (HE.out.kept K); replace HI := Lib.hid (HI.out.kept K); clear K; have c0 : W.cell? ⟨a10, 0, none⟩ = some (.int .i64 1) := (O.get 0 rfl).cell 0; have c1 : W.cell? ⟨a10, 1, none⟩ = some (.int .i64 0) := (O.get 0 rfl).cell 1; have c2 : W.cell? ⟨a10, 2, none⟩ = some (.slice Ae n ce) := (O.get 0 rfl).cell 2; have c3 : W.cell? ⟨a10, 3, none⟩ = some (.int .i64 ((x : Int) + 3)) := (O.get 0 rfl).cell 3; have c4 : W.cell? ⟨b4, 0, none⟩ = some (.int .i64 (x : Int)) := (O.get 2 rfl).cell 0)
   | (refine own_load 80 1 O rfl rfl rfl rfl rfl Try.underlying27 rfl (by kernel_rfl) ?_; simp only [Act.put, kA, kZ, kS])
   | (go_at_call 28; have hz := tvalid_any (cb := ce) HI.out HE.out HWF.out; rw [HTH.out] at hz; refine hz.mono ?_; clear hz c0 c1 c2 c3 c4; rintro e W ⟨rfl, K⟩; replace O := O.keeps K; replace HE := Lib.hid (HE.out.kept K); replace HI := Lib.hid (HI.out.kept K); clear K; have c2 : W.cell? ⟨a10, 2, none⟩ = some (.slice Ae n ce) := (O.get 0 rfl).cell 2)
   | (refine own_load 87 1 O rfl rfl rfl rfl rfl Try.underlying27 rfl (by kernel_rfl) ?_; simp only [Act.put, kA, kZ, kS])
   | (go_at_call 41; have hz := traces_any (cb := ce) HI.out HE.out HWF.out 4096; rw [HPR.out] at hz; unfold RacPost at hz; refine hz.mono ?_; clear hz c2; rintro e W ⟨⟨v1, rfl, q1⟩, K⟩; replace O := O.keeps K; obtain ⟨A1, p1, hv1, _⟩ := gr_shape q1; replace hv1 : v1 = .slice A1 0 p1 := hv1; subst hv1; clear K q1))
 go_returns
 exact ⟨rfl, O.keep⟩
theorem safe_walk (jb : Nat) (hj : jb ≤ 255) (x y : Int) (pv : Value) (picks : List Int) (hp : IntL w pv picks) : Calls Try.prog 20 #[.int .u8 (jb : Int), .agg (plV x y), pv] w fun e u => e = .returned (.bool true) ∧ Keeps w u [] := by
 cases h : plB x y with
 | false => exact safe_bad jb hj x y pv h
 | true =>
   obtain ⟨a, b, rfl, rfl, h1⟩ := pl_nat h
   exact safe_good jb hj a b pv picks hp h h1
end
open Go.ChangeShapes Go.WideShapes Go.RowKit Go.Maps Go.Deep
section
variable {w : World}
set_option maxRecDepth 100000 in
theorem open_picks {H : Type} {enc : TypeId × Value → H} {base : Nat} {v : Value} {d : DataW H} {p : List MemPlace} (hval : Value.okWide Try.prog w .any base 25 v) (h : DataW.Trod enc Try.prog w 0 (fun _ => true) true 25 v d p) : ∃ picks, IntL w v picks := by
 obtain ⟨a0, len0, cap0, rfl⟩ := okWide_slice Try.underlying25 hval
 obtain ⟨fuel, hf⟩ := h
 obtain ⟨A, n, c, f, e, h1, h2, h3⟩ := open_rooms (v := .slice a0 len0 cap0) hf
 refine ⟨(List.range n).map fun i => f i, A, c, by rw [e]; simp, fun hn => ?_⟩
 simp only [List.length_map, List.length_range] at hn ⊢
 obtain ⟨ad, e1, hb, hc⟩ := h3 hn
 refine ⟨ad, e1, hb, fun j hj => ?_⟩
 rw [hc j hj]
 simp [List.getD_eq_getElem?_getD, hj]
end
end Go.Proofs.Ytakmcpadkanggaa
