/-
  Part 6 of what this claim rests on.
-/
import Derived.Test.YtakmcpadkanggaaGd5
namespace Go.Proofs.Ytakmcpadkanggaa
open Go.RowKit Go.Maps Go.Deep
theorem fun_zero131 (w : World) : (zeroValue 131).run Try.prog w = .ok (.slice none 0 0) w := by kernel_rfl
theorem gr_one {W : World} {base e size n : Nat} {v : Value} {xs : List Value} (h : W.ownsRow base e size v n xs) : v.cells = #[v] ∧ v.oneCell' = true := by
  obtain ⟨A, c, rfl, _⟩ := gr_shape h
  exact ⟨rfl, rfl⟩
section
variable {w0 u : World} {E : Nat → Ev} {rm : Int → Int} {B : Option Addr} {n cb most b4 b10 b5 b11 mt r k g : Nat} {D : List Nat}
def rcCont (E : Nat → Ev) (rm : Int → Int) (most k : Nat) : Bool := decide (((raceA E rm (k + 1)).take most).length < most)
set_option maxRecDepth 100000 in
set_option maxHeartbeats 2000000 in
theorem rc_other (hI : RcInv w0 E rm B n cb most b4 b10 b5 b11 mt k u D) (hE : EvsAt w0 B n E) (hk : k < n) (hn : n ≤ 40000) (hm : most ≤ 4096) (ho : acB E k = false) (q12 : (E k).op ≠ 12) (q13 : (E k).op ≠ 13) :
    Calls Try.prog 75 #[.int .i64 (k : Int), .slice (some ⟨g, 0, none⟩) r r, .pointer (some ⟨b4, 0, none⟩), .pointer (some ⟨b10, 0, none⟩), .pointer (some ⟨b5, 0, none⟩), .pointer (some ⟨b11, 0, none⟩)] u (SeePost (RcInv w0 E rm B n cb most b4 b10 b5 b11 mt (k + 1)) (rcCont E rm most k) u D) := by
  obtain ⟨v, f, Dc, mc, rfl, hmc, K0, h4, h10, h5, h11, M, C, hD, hl, hb⟩ := hI
  obtain ⟨Av, cv, rfl, _⟩ := gr_shape M
  have hra : raceA E rm (k + 1) = raceA E rm k := by rw [raceA, raceJ_not ho, List.append_nil]
  have O : Own w0 u [] [] := (Own.start w0 []).keeps K0
  obtain ⟨ad, rfl, hc⟩ := EvsAt.row (u := w0) hE hk
  have HC := Lib.hid (fun W (K : Keeps w0 W []) => hc [] W K (by simp))
  have HI := Lib.hid (And.intro hmc (And.intro h4 (And.intro h10 (And.intro h5 (And.intro h11 (And.intro M (And.intro C (And.intro hD (And.intro hl hb)))))))))
  have HRA := Lib.hid hra
  have HCT := Lib.hid (show rcCont E rm most k = decide (((raceA E rm k).take most).length < most) by unfold rcCont; rw [hra])
  obtain ⟨ln, hln⟩ : ∃ ln, ln = ((raceA E rm k).take most).length := ⟨_, rfl⟩
  have e12 : ((E k).op != 12) = true := by simpa using q12
  have e13 : ((E k).op != 13) = true := by simpa using q13
  have HSAME := Lib.hid (C.same ho)
  obtain ⟨e, he⟩ : ∃ e, e = E k := ⟨_, rfl⟩
  rw [← he] at HC e12 e13
  rw [← hln]
  rw [← hln] at HCT
  have c4 := h4.cell 0
  have c10 := h10.cell 0
  have c5 := h5.cell 0
  rw [← hln] at c10
  have g1 : (k : Int) < n := by omega
  have g0 : (0 : Int) ≤ k := by omega
  have KU := Lib.hid (Keeps.refl u [])
  have HK0 := Lib.hid K0
  have HLN := Lib.hid hln
  have hlm : ln ≤ most := by rw [hln, List.length_take]; omega
  clear hc h4 h10 h5 h11 M C hD hl hb hra ho q12 q13 he hE K0 hln hmc
  cases hlt : decide (ln < most) with
  | true =>
    have y1 : decide ((ln : Int) < (most : Int)) = true := decide_eq_true (by have := of_decide_eq_true hlt; omega)
    have y2 : (ln : Int) < (most : Int) := by have := of_decide_eq_true hlt; omega
    rw [hlt] at HCT
    clear hlt
    go_enter Try.func75, Try.ntmps75
    go_wp2_with (first
      | go_big_skip
      | (refine wpList_load_at 16 rfl rfl rfl rfl (HC.out _ O.keep) Try.underlying37 rfl (by kernel_rfl) ?_; simp only [Act.put, List.setIfInBounds_toArray, List.set_cons_zero, List.set_cons_succ])
      | (refine own_allocK 9 (evC ⟨0, 0, 0, 0, false⟩) O rfl rfl rfl (fun _ => by kernel_rfl) ?_; clear O c4 c10 c5; intro W1 b9 O K1 hb; have HW1 := Lib.hid (And.intro K1 hb); clear K1 hb; simp only [Act.put, List.setIfInBounds_toArray, List.set_cons_zero, List.set_cons_succ])
      | (refine own_store_rowK 0 (.tmp 9) (.tmp 16) O rfl rfl rfl rfl rfl rfl (by kernel_rfl) (by rfl) (evC_cell _) ?_; clear O; intro W2 O K2; simp only [List.set_cons_zero] at O; replace KU := Lib.hid (HW1.out.1.trans K2 (fun b hb hlt => by rw [List.mem_singleton.1 hb] at hlt; have := HW1.out.2; omega)); clear K2 HW1; have c9 : ∀ i : Nat, W2.cell? ⟨b9, i, none⟩ = (evC e)[i]? := (O.get 0 rfl).cell; simp only [evC] at c9; have c10 : W2.cell? ⟨b10, 0, none⟩ = some (.slice Av ln cv) := (by have := (HI.out.2.2.1.keeps KU.out (by simp)).cell 0; rw [← HLN.out] at this; exact this); have c5 : W2.cell? ⟨b5, 0, none⟩ = some (.int .i64 (most : Int)) := (HI.out.2.2.2.1.keeps KU.out (by simp)).cell 0))
    go_ret
    have hKU := KU.out
    obtain ⟨hmc, h4, h10, h5, h11, M, C, hD, hl, hb⟩ := HI.out
    have hct := HCT.out
    have hl' := HLN.out
    subst hl'
    refine ⟨by rw [hct]; rfl, ⟨_, ⟨_, f, Dc, mc, rfl, by omega, O.keep, h4.keeps hKU (by simp), h10.keeps hKU (by simp), h5.keeps hKU (by simp), h11.keeps hKU (by simp), by rw [HRA.out]; exact gr_keeps M hKU (by simp), HSAME.out.new hKU, hD, fun b hb' => Nat.lt_of_lt_of_le (hl b hb') hKU.size, hb⟩, fun q hq => .inl hq, fun q hq => ?_⟩, hKU.wide (by simp)⟩
    simp only [List.mem_cons, List.mem_append] at hq
    rcases hq with rfl | rfl | rfl | rfl | rfl | hq | hq
    · exact (h4.keeps hKU (by simp)).lt
    · exact (h10.keeps hKU (by simp)).lt
    · exact (h5.keeps hKU (by simp)).lt
    · exact (h11.keeps hKU (by simp)).lt
    · exact (C.new hKU).map.lt
    · exact (gr_own (gr_keeps M hKU (S := []) (by simp)) (by simpa using hq)).2.1
    · exact Nat.lt_of_lt_of_le (hl _ hq) hKU.size
  | false =>
    have y1 : decide ((ln : Int) < (most : Int)) = false := decide_eq_false (by have := of_decide_eq_false hlt; omega)
    have y2 : ¬ (ln : Int) < (most : Int) := by have := of_decide_eq_false hlt; omega
    rw [hlt] at HCT
    clear hlt
    go_enter Try.func75, Try.ntmps75
    go_wp2_with (first
      | go_big_skip
      | (refine wpList_load_at 16 rfl rfl rfl rfl (HC.out _ O.keep) Try.underlying37 rfl (by kernel_rfl) ?_; simp only [Act.put, List.setIfInBounds_toArray, List.set_cons_zero, List.set_cons_succ])
      | (refine own_allocK 9 (evC ⟨0, 0, 0, 0, false⟩) O rfl rfl rfl (fun _ => by kernel_rfl) ?_; clear O c4 c10 c5; intro W1 b9 O K1 hb; have HW1 := Lib.hid (And.intro K1 hb); clear K1 hb; simp only [Act.put, List.setIfInBounds_toArray, List.set_cons_zero, List.set_cons_succ])
      | (refine own_store_rowK 0 (.tmp 9) (.tmp 16) O rfl rfl rfl rfl rfl rfl (by kernel_rfl) (by rfl) (evC_cell _) ?_; clear O; intro W2 O K2; simp only [List.set_cons_zero] at O; replace KU := Lib.hid (HW1.out.1.trans K2 (fun b hb hlt => by rw [List.mem_singleton.1 hb] at hlt; have := HW1.out.2; omega)); clear K2 HW1; have c9 : ∀ i : Nat, W2.cell? ⟨b9, i, none⟩ = (evC e)[i]? := (O.get 0 rfl).cell; simp only [evC] at c9; have c10 : W2.cell? ⟨b10, 0, none⟩ = some (.slice Av ln cv) := (by have := (HI.out.2.2.1.keeps KU.out (by simp)).cell 0; rw [← HLN.out] at this; exact this); have c5 : W2.cell? ⟨b5, 0, none⟩ = some (.int .i64 (most : Int)) := (HI.out.2.2.2.1.keeps KU.out (by simp)).cell 0))
    go_ret
    have hKU := KU.out
    obtain ⟨hmc, h4, h10, h5, h11, M, C, hD, hl, hb⟩ := HI.out
    have hct := HCT.out
    have hl' := HLN.out
    subst hl'
    refine ⟨by rw [hct]; rfl, ⟨_, ⟨_, f, Dc, mc, rfl, by omega, O.keep, h4.keeps hKU (by simp), h10.keeps hKU (by simp), h5.keeps hKU (by simp), h11.keeps hKU (by simp), by rw [HRA.out]; exact gr_keeps M hKU (by simp), HSAME.out.new hKU, hD, fun b hb' => Nat.lt_of_lt_of_le (hl b hb') hKU.size, hb⟩, fun q hq => .inl hq, fun q hq => ?_⟩, hKU.wide (by simp)⟩
    simp only [List.mem_cons, List.mem_append] at hq
    rcases hq with rfl | rfl | rfl | rfl | rfl | hq | hq
    · exact (h4.keeps hKU (by simp)).lt
    · exact (h10.keeps hKU (by simp)).lt
    · exact (h5.keeps hKU (by simp)).lt
    · exact (h11.keeps hKU (by simp)).lt
    · exact (C.new hKU).map.lt
    · exact (gr_own (gr_keeps M hKU (S := []) (by simp)) (by simpa using hq)).2.1
    · exact Nat.lt_of_lt_of_le (hl _ hq) hKU.size
set_option maxRecDepth 100000 in
set_option maxHeartbeats 4000000 in
theorem rc_acc12 (hI : RcInv w0 E rm B n cb most b4 b10 b5 b11 mt k u D) (hE : EvsAt w0 B n E) (hk : k < n) (hn : n ≤ 40000) (hm : most ≤ 4096) (hop : (E k).op = 12) (hwf : (Lit.int .i64 (E k).a).wf = true) (hg : g ∉ D) (hC : ClkAt u g r (clk E rm (k : Int))) (hw : ∀ i, i < n → 0 ≤ (E i).who ∧ (E i).who < (r : Int)) :
    Calls Try.prog 75 #[.int .i64 (k : Int), .slice (some ⟨g, 0, none⟩) r r, .pointer (some ⟨b4, 0, none⟩), .pointer (some ⟨b10, 0, none⟩), .pointer (some ⟨b5, 0, none⟩), .pointer (some ⟨b11, 0, none⟩)] u (SeePost (RcInv w0 E rm B n cb most b4 b10 b5 b11 mt (k + 1)) (rcCont E rm most k) u D) := by
  obtain ⟨v, f, Dc, mc, rfl, hmc, K0, h4, h10, h5, h11, M, C, hD, hl, hb⟩ := hI
  have hac : acB E k = true := by simp [acB, hop]
  have O : Own w0 u [] [] := (Own.start w0 []).keeps K0
  obtain ⟨ad, rfl, hc⟩ := EvsAt.row (u := w0) hE hk
  have HC := Lib.hid (fun W (K : Keeps w0 W []) => hc [] W K (by simp))
  -- what stands where the pairs' row and its name are not written
  have HST := Lib.hid (fun W (K : Keeps u W (b10 :: v.ownBlock.toList)) => (show Blk W b4 31 #[.slice (some ad) n cb] ∧ Blk W b5 3 #[.int .i64 (most : Int)] ∧ Blk W b11 128 #[.map (some mt)] ∧ CelAt w0.heap.size W mt mc f E rm k ∧ ClkAt W g r (clk E rm (k : Int)) from by
    have nv : ∀ {x ty : Nat} {cs : Array Value}, Blk u x ty cs → ty ≠ 73 → ty ≠ 79 → x ∉ b10 :: v.ownBlock.toList := fun {x ty cs} hB h1 h2 hm' => by
      rcases List.mem_cons.1 hm' with e | e
      · subst e; exact blk_ne hB h10 h1 rfl
      · exact gr_ne M hB h2 (by simpa using e)
    refine ⟨h4.keeps K (nv h4 (by decide) (by decide)), h5.keeps K (nv h5 (by decide) (by decide)), h11.keeps K (nv h11 (by decide) (by decide)), C.keeps K (fun hm' => ?_) (fun a x hx => ?_), ?_⟩
    · rcases List.mem_cons.1 hm' with e | e
      · exact C.map.not_blk h10 e.symm
      · obtain ⟨_, _, cur, hB⟩ := gr_own M (g := mt) (by simpa using e)
        exact C.map.not_blk hB rfl
    · obtain ⟨_, _, cur, hB⟩ := gr_own (C.row a) hx
      exact nv hB (by decide) (by decide)
    · obtain ⟨cur, hB, hcu⟩ := hC
      exact ⟨cur, hB.keeps K (nv hB (by decide) (by decide)), hcu⟩))
  have HI := Lib.hid (And.intro hmc (And.intro h10 (And.intro M (And.intro hD (And.intro hl hb)))))
  have HC0 := Lib.hid C
  have HWF := Lib.hid hwf
  have HAC := Lib.hid hac
  have HOP := Lib.hid hop
  have HW := Lib.hid hw
  have HKN := Lib.hid hk
  have g1 : (k : Int) < n := by omega
  have g0 : (0 : Int) ≤ k := by omega
  have hgu : g < u.heap.size := hC.lt
  have c4 := h4.cell 0
  have KU := Lib.hid (Keeps.refl u [])
  have hEk : E k = ⟨(E k).who, 12, (E k).a, (E k).v, (E k).sh⟩ := by rw [← hop]
  have HEK := Lib.hid hEk
  obtain ⟨wj, hwj⟩ : ∃ wj : Nat, (E k).who = (wj : Int) := ⟨(E k).who.toNat, by have := hw k hk; omega⟩
  have hwjr : wj < r := by have := hw k hk; omega
  have HWJ := Lib.hid hwj
  rw [hEk, hwj] at HC
  obtain ⟨a, ha⟩ : ∃ a, a = (E k).a := ⟨_, rfl⟩
  have HA := Lib.hid ha
  rw [← ha] at HC
  generalize (E k).v = ev at HC
  generalize (E k).sh = es at HC
  have g2 : (wj : Int) < r := by omega
  have g3 : (0 : Int) ≤ wj := by omega
  clear hc h4 h10 h5 h11 M C hD hl hb hac hE K0 hmc hop hwf hg hC hw hk hEk hwj ha
  go_enter Try.func75, Try.ntmps75
  go_wp2_with (first
    | go_big_skip
    | (refine wpList_load_at 16 rfl rfl rfl rfl (HC.out _ O.keep) Try.underlying37 rfl (by kernel_rfl) ?_; simp only [Act.put, List.setIfInBounds_toArray, List.set_cons_zero, List.set_cons_succ])
    | (refine own_allocK 9 (evC ⟨0, 0, 0, 0, false⟩) O rfl rfl rfl (fun _ => by kernel_rfl) ?_; clear O c4; intro W1 b9 O K1 hb; have HW1 := Lib.hid (And.intro K1 hb); clear K1 hb; simp only [Act.put, List.setIfInBounds_toArray, List.set_cons_zero, List.set_cons_succ])
    | (refine own_store_rowK 0 (.tmp 9) (.tmp 16) O rfl rfl rfl rfl rfl rfl (by kernel_rfl) (by rfl) (evC_cell _) ?_; clear O; intro W2 O K2; simp only [List.set_cons_zero] at O; replace KU := Lib.hid (HW1.out.1.trans K2 (fun b hb hlt => by rw [List.mem_singleton.1 hb] at hlt; have := HW1.out.2; omega)); clear K2 HW1; have c9 : ∀ i : Nat, W2.cell? ⟨b9, i, none⟩ = (evC ⟨(wj : Int), 12, a, ev, es⟩)[i]? := (O.get 0 rfl).cell; simp only [evC] at c9))
  -- the access is laid out
  have hSW := HST.out _ (KU.out.wide (by simp))
  obtain ⟨xj, hxj⟩ : ∃ xj, xj = clk E rm (k : Int) (wj : Int) := ⟨_, rfl⟩
  have HXJ := Lib.hid hxj
  have HCG := Lib.hid (fun W (K : Keeps u W (b10 :: v.ownBlock.toList)) => (show W.cell? ⟨g, wj, none⟩ = some (.int .i64 xj) from by
    obtain ⟨cur, hB, hcu⟩ := (HST.out W K).2.2.2.2
    rw [HXJ.out]
    exact (hB.cell wj).trans (hcu.2 wj hwjr)))
  clear hSW hxj c9
  refine wp_headH (S := fun u' => Blk u' b9 37 (evC ⟨(wj : Int), 12, a, ev, es⟩) ∧ u'.cell? ⟨g, wj, none⟩ = some (.int .i64 xj)) 13 (by kernel_rfl) (by kernel_rfl) ?_
  replace O := O.drew
  replace KU := Lib.hid (KU.out.trans (Keeps.refl _ []).drew (by simp))
  have HS1 := Lib.hid (And.intro (O.get 0 rfl) (HCG.out _ (KU.out.wide (by simp))))
  refine ah_take (f := 1) (L' := #[true, true, true, true, true, true, true, true, true, true, true, true, false, false]) ((by first | exact HS1.out | exact HS2.out)) [0, 1, 2, 3, 4, 5, 6, 7, 8, 9, 10, 11] [_, _, _, _, _, _, _, _, _, _, _, _] _ _ rfl (by decide) (by kernel_rfl) ?_
  simp only [List.getElem_toArray, List.getElem_cons_zero, List.getElem_cons_succ]
  repeat (first
    | (refine take_pure (v := ?_) (by rfl) ?_ ?_; rotate_left; (· (intro w hSw; have c9 : ∀ i : Nat, w.cell? ⟨b9, i, none⟩ = #[Value.int .i64 (wj : Int), .int .i64 12, .int .i64 a, .int .i64 ev, .bool es][i]? := hSw.1.cell; have cg := hSw.2; clear hSw; go_simp; try with_reducible rfl)); simp only [Act.put, List.setIfInBounds_toArray, List.set_cons_zero, List.set_cons_succ]))
  refine takeA_done ?_
  refine ah_sole 12 #[true, true, true, true, true, true, true, true, true, true, true, true, true, false] rfl (by decide) (by kernel_rfl) ?_
  try simp only [List.getElem_toArray, List.getElem_cons_zero, List.getElem_cons_succ]
  refine own_allocK 10 (#[.int .i64 0, .int .i64 0, .int .i64 0, .bool false]) O rfl rfl rfl (fun _ => by kernel_rfl) ?_; clear O; intro W4 bt O K1 hb; have HBT := Lib.hid (show u.heap.size ≤ bt from by have := KU.out.size; omega); replace KU := Lib.hid (KU.out.trans K1 (by simp)); have HS2 := Lib.hid (And.intro (O.get 1 rfl) (HCG.out _ (KU.out.wide (by simp)))); clear K1 hb HS1; simp only [Act.put, List.setIfInBounds_toArray, List.set_cons_zero, List.set_cons_succ]
  (first | refine backA_intro2 HS2.out ?_ | refine backA_intro HS2.out ?_)
  refine ah_tail (by kernel_rfl) ?_
  try simp only [List.drop]
  refine own_store_rowK 0 (.tmp 10) (.tmp 40) (cs' := #[.int .i64 (k : Int), .int .i64 (wj : Int), .int .i64 xj, .bool false]) O rfl rfl rfl rfl rfl rfl (by kernel_rfl) (by rfl) (by simp [Value.oneCell']) ?_
  clear O
  intro W5 O K2
  simp only [List.set_cons_zero] at O
  replace KU := Lib.hid (KU.out.trans K2 (fun b hb hlt => by rw [List.mem_singleton.1 hb] at hlt; have := HBT.out; omega))
  clear K2 HS2
  refine np_intro ?_
  have c9 : ∀ i : Nat, W5.cell? ⟨b9, i, none⟩ = (evC ⟨(wj : Int), 12, a, ev, es⟩)[i]? := (O.get 1 rfl).cell
  simp only [evC] at c9
  have hSW := HST.out _ (KU.out.wide (by simp))
  have c11 := hSW.2.2.1.cell 0
  obtain ⟨Ax, cx, hax, hnx, _⟩ := gr_shape (hSW.2.2.2.1.row a)
  have lk : (Instr.lookup 128 (.map (some mt)) (.int .i64 a) false).run Try.prog W5 = .ok (.slice Ax (pickL (isAcc E a) k).length cx) W5 := by
    have := look_eqV hSW.2.2.2.1.map 128 131 (.slice none 0 0) Try.underlying128 (fun_zero131 _) a (by rw [HA.out]; exact HWF.out)
    rwa [show (f a).getD (.slice none 0 0) = .slice Ax (pickL (isAcc E a) k).length cx from hax] at this
  have HAX := Lib.hid hax
  obtain ⟨m, hm'⟩ : ∃ m, m = (pickL (isAcc E a) k).length := ⟨_, rfl⟩
  have HM := Lib.hid hm'
  have hmk : m ≤ k := by rw [hm']; exact pickL_length _ _
  rw [← hm'] at lk
  have HNX := Lib.hid hnx
  clear hSW hax hnx hm'
  go_wp2
  clear c9 c11 lk
  obtain ⟨v0, hv0⟩ : ∃ v0, v0 = v := ⟨_, rfl⟩
  have KU0 := KU.out.wide (L' := b10 :: v.ownBlock.toList) (by simp)
  have B10 := HI.out.2.1.keeps KU.out (by simp)
  have MV := gr_keeps HI.out.2.2.1 KU.out (by simp)
  clear hv0
  go_loopg [46] m (fun gg s46 wr => ∃ (q : Nat) (v' : Value), q ≤ m ∧ gg = m - q ∧ s46 = .int .i64 (q : Int) ∧ Own w0 wr [] [(bt, 130, #[.int .i64 (k : Int), .int .i64 (wj : Int), .int .i64 xj, .bool false]), (b9, 37, evC ⟨(wj : Int), 12, a, ev, es⟩)] ∧ Keeps u wr (b10 :: v.ownBlock.toList) ∧ Blk wr b10 73 #[v'] ∧ MintP 79 w0.heap.size wr v' ((raceA E rm k ++ rcQ E rm k q).take most) ∧ ∀ x, v'.ownBlock = some x → v.ownBlock = some x ∨ u.heap.size ≤ x)
  case atStart => exact ⟨0, v, by omega, by omega, rfl, O, KU0, B10, by rw [rcQ_zero, List.append_nil]; exact MV, fun x hx => .inl hx⟩
  case round =>
    clear O KU0 B10 MV KU
    obtain ⟨q, v', hq, hgq, rfl, O, KU, B10, MV, hv'⟩ := hrel
    have HG := Lib.hid hgq
    have HVO := Lib.hid hv'
    have HKU := Lib.hid KU
    clear hgq hv' KU
    obtain ⟨Av, cv, rfl, _⟩ := gr_shape MV
    obtain ⟨ln, hln⟩ : ∃ ln, ln = ((raceA E rm k ++ rcQ E rm k q).take most).length := ⟨_, rfl⟩
    have hlm : ln ≤ most := by rw [hln, List.length_take]; omega
    have HLN := Lib.hid hln
    rw [← hln] at B10
    have HB10 := Lib.hid B10
    have HMV := Lib.hid MV
    clear hln B10 MV
    have c10 := HB10.out.cell 0
    by_cases hqt : q < m
    · have g4 : (q : Int) < m := by omega
      have g5 : (0 : Int) ≤ q := by omega
      have hql : q < (pickL (isAcc E a) k).length := by rw [← HM.out]; exact hqt
      have HQS := Lib.hid (rcQ_succ (E := E) (rm := rm) (j := k) (q := q) (by rw [← HA.out]; exact hql))
      rw [← HA.out] at HQS
      have hxm := (pickL_mem (isAcc E a) k ((pickL (isAcc E a) k).getD q 0)).1 (by rw [List.getD_eq_getElem?_getD, List.getElem?_eq_getElem hql]; exact List.getElem_mem _)
      obtain ⟨x, hx⟩ : ∃ x, x = (pickL (isAcc E a) k).getD q 0 := ⟨_, rfl⟩
      rw [← hx] at hxm HQS
      have HX := Lib.hid hx
      obtain ⟨ax, rfl⟩ : ∃ ax, Ax = some ax := Option.ne_none_iff_exists'.1 (fun e => by have := (HNX.out e).1; omega)
      have HROW := Lib.hid (fun W (K : Keeps u W (b10 :: v.ownBlock.toList)) => (by have := arow (q := q) ((HST.out W K).2.2.2.1.row a) HAX.out hql; rw [← hx] at this; exact this : ∀ j, j < (accC E rm x).size → W.cell? ((ax.add (q * 4)).add j) = (accC E rm x)[j]?))
      have hxk := hxm.1
      have hxa : acB E x = true ∧ (E x).a = a := by simpa [isAcc] using hxm.2
      obtain ⟨wx, hwx⟩ : ∃ wx : Nat, (E x).who = (wx : Int) := ⟨(E x).who.toNat, by have := HW.out x (by have := HKN.out; omega); omega⟩
      have hwxr : wx < r := by have := HW.out x (by have := HKN.out; omega); omega
      have HWX := Lib.hid hwx
      have HXA := Lib.hid hxa
      obtain ⟨bx, hbx⟩ : ∃ bx, bx = decide ((E x).op = 13) := ⟨_, rfl⟩
      obtain ⟨ox, hox⟩ : ∃ ox, ox = clk E rm (x : Int) (wx : Int) := ⟨_, rfl⟩
      obtain ⟨cx', hcx⟩ : ∃ cx', cx' = clk E rm (k : Int) (wx : Int) := ⟨_, rfl⟩
      have hacc : accC E rm x = #[.int .i64 (x : Int), .int .i64 (wx : Int), .int .i64 ox, .bool bx] := by unfold accC; rw [hwx, ← hox, ← hbx]
      rw [hacc] at HROW
      have HRC := Lib.hid (show rcB E rm x k = ((bx || false) && (!decide (wx = wj) && !decide (ox ≤ cx'))) by
        unfold rcB
        rw [HXA.out.1, HAC.out, HXA.out.2, HOP.out, ← HA.out, hwx, HWJ.out, hbx, hox, hcx]
        simp [Int.natCast_inj])
      have HCX := Lib.hid hcx
      have g6 : (wx : Int) < r := by omega
      have g7 : (0 : Int) ≤ wx := by omega
      have hx4 : x ≤ 40000 := by have := HKN.out; omega
      clear hx hxm hxa hwx hbx hox hcx hacc hql hxk
      go_wp2_with (first
        | (refine wpList_load_at 49 rfl rfl rfl rfl (HROW.out _ HKU.out) Try.underlying130 rfl (by kernel_rfl) ?_; simp only [Act.put, List.setIfInBounds_toArray, List.set_cons_zero, List.set_cons_succ])
        | (refine own_allocK 12 (#[.int .i64 0, .int .i64 0, .int .i64 0, .bool false]) O rfl rfl rfl (fun _ => by kernel_rfl) ?_; clear O c10; intro W6 b12 O K1 hb; have HW1 := Lib.hid (And.intro K1 hb); clear K1 hb; simp only [Act.put, List.setIfInBounds_toArray, List.set_cons_zero, List.set_cons_succ])
        | (refine own_store_rowK 0 (.tmp 12) (.tmp 49) (cs' := #[.int .i64 (x : Int), .int .i64 (wx : Int), .int .i64 ox, .bool bx]) O rfl rfl rfl rfl rfl rfl (by kernel_rfl) (by rfl) (by simp [Value.oneCell']) ?_; clear O; intro W7 O K2; simp only [List.set_cons_zero] at O; have K3 := (HW1.out.1.trans K2 (fun b hb hlt => by rw [List.mem_singleton.1 hb] at hlt; have := HW1.out.2; omega) : Keeps wr W7 []); replace HKU := Lib.hid (HKU.out.trans K3 (by simp)); replace HB10 := Lib.hid (HB10.out.keeps K3 (by simp)); replace HMV := Lib.hid (gr_keeps HMV.out K3 (by simp)); clear K2 K3 HW1))
      have hSW := HST.out _ HKU.out
      have c12 : ∀ i : Nat, W7.cell? ⟨b12, i, none⟩ = #[Value.int .i64 (x : Int), .int .i64 (wx : Int), .int .i64 ox, .bool bx][i]? := (O.get 0 rfl).cell
      have ct : ∀ i : Nat, W7.cell? ⟨bt, i, none⟩ = #[Value.int .i64 (k : Int), .int .i64 (wj : Int), .int .i64 xj, .bool false][i]? := (O.get 1 rfl).cell
      have cg : W7.cell? ⟨g, wx, none⟩ = some (.int .i64 cx') := by
        obtain ⟨cur, hB, hcu⟩ := hSW.2.2.2.2
        rw [HCX.out]
        exact (hB.cell wx).trans (hcu.2 wx hwxr)
      have c10 := HB10.out.cell 0
      have c5 := hSW.2.1.cell 0
      clear hSW
      by_cases hww : wx = wj
      · have z1 : ((wx : Int) != (wj : Int)) = false := by simp [hww]
        have hF : rcB E rm x k = false := by rw [HRC.out]; simp [hww]
        have HQE := Lib.hid (show (raceA E rm k ++ rcQ E rm k (q + 1)).take most = (raceA E rm k ++ rcQ E rm k q).take most from by rw [HQS.out, hF, if_neg (by simp), List.append_nil])
        clear hF
        go_quiet (fail)
        clear c12 ct cg c10 c5
        generalize hW : World.drewN W7 _ = W8
        have KD : Keeps W7 W8 [] := by rw [← hW]; exact (Keeps.refl W7 []).drewN _
        clear hW
        replace O := O.keeps KD
        replace HKU := Lib.hid (HKU.out.trans KD (by simp))
        replace HB10 := Lib.hid (HB10.out.keeps KD (by simp))
        replace HMV := Lib.hid (gr_keeps HMV.out KD (by simp))
        clear KD
        go_wp2
        go_roundg (m - (q + 1))
        case measure => (have := HG.out; omega)
        case rel =>
          have hl' := HLN.out
          subst hl'
          exact ⟨q + 1, .slice Av _ cv, by omega, rfl, by go_num, O.drop_ 1, HKU.out, HB10.out, by rw [HQE.out]; exact HMV.out, HVO.out⟩
      · cases bx with
        | false =>
          have z1 : ((wx : Int) != (wj : Int)) = true := by simpa [Int.natCast_inj] using hww
          have hF : rcB E rm x k = false := by rw [HRC.out]; simp
          have HQE := Lib.hid (show (raceA E rm k ++ rcQ E rm k (q + 1)).take most = (raceA E rm k ++ rcQ E rm k q).take most from by rw [HQS.out, hF, if_neg (by simp), List.append_nil])
          clear hF
          go_quiet (fail)
          clear c12 ct cg c10 c5
          generalize hW : World.drewN W7 _ = W8
          have KD : Keeps W7 W8 [] := by rw [← hW]; exact (Keeps.refl W7 []).drewN _
          clear hW
          replace O := O.keeps KD
          replace HKU := Lib.hid (HKU.out.trans KD (by simp))
          replace HB10 := Lib.hid (HB10.out.keeps KD (by simp))
          replace HMV := Lib.hid (gr_keeps HMV.out KD (by simp))
          clear KD
          go_wp2
          go_roundg (m - (q + 1))
          case measure => (have := HG.out; omega)
          case rel =>
            have hl' := HLN.out
            subst hl'
            exact ⟨q + 1, .slice Av _ cv, by omega, rfl, by go_num, O.drop_ 1, HKU.out, HB10.out, by rw [HQE.out]; exact HMV.out, HVO.out⟩
        | true =>
          by_cases hle : ox ≤ cx'
          · have z1 : ((wx : Int) != (wj : Int)) = true := by simpa [Int.natCast_inj] using hww
            have z2 : decide (cx' < ox) = false := decide_eq_false (by omega)
            have z3 : ¬ cx' < ox := by omega
            have hF : rcB E rm x k = false := by rw [HRC.out]; simp [hle]
            have HQE := Lib.hid (show (raceA E rm k ++ rcQ E rm k (q + 1)).take most = (raceA E rm k ++ rcQ E rm k q).take most from by rw [HQS.out, hF, if_neg (by simp), List.append_nil])
            clear hF
            go_quiet (fail)
            clear c12 ct cg c10 c5
            generalize hW : World.drewN W7 _ = W8
            have KD : Keeps W7 W8 [] := by rw [← hW]; exact (Keeps.refl W7 []).drewN _
            clear hW
            replace O := O.keeps KD
            replace HKU := Lib.hid (HKU.out.trans KD (by simp))
            replace HB10 := Lib.hid (HB10.out.keeps KD (by simp))
            replace HMV := Lib.hid (gr_keeps HMV.out KD (by simp))
            clear KD
            go_wp2
            go_roundg (m - (q + 1))
            case measure => (have := HG.out; omega)
            case rel =>
              have hl' := HLN.out
              subst hl'
              exact ⟨q + 1, .slice Av _ cv, by omega, rfl, by go_num, O.drop_ 1, HKU.out, HB10.out, by rw [HQE.out]; exact HMV.out, HVO.out⟩
          · by_cases hfull : ln < most
            · have z1 : ((wx : Int) != (wj : Int)) = true := by simpa [Int.natCast_inj] using hww
              have z2 : decide (cx' < ox) = true := decide_eq_true (by omega)
              have z3 : cx' < ox := by omega
              have hF : rcB E rm x k = true := by rw [HRC.out]; simp [hww, hle]
              have y1 : decide ((ln : Int) < (most : Int)) = true := decide_eq_true (by omega)
              have y2 : (ln : Int) < (most : Int) := by omega
              have HQE := Lib.hid (show (raceA E rm k ++ rcQ E rm k (q + 1)).take most = (raceA E rm k ++ rcQ E rm k q).take most ++ [prR x k] from by rw [HQS.out, hF, if_pos rfl, ← List.append_assoc, take_snoc, if_pos ((take_len_lt _ _).1 (by rw [← HLN.out]; exact hfull))])
              clear hF
              go_quiet (fail)
              clear c12 ct cg c10 c5
              generalize hW : World.drewN W7 _ = W8
              have KD : Keeps W7 W8 [] := by rw [← hW]; exact (Keeps.refl W7 []).drewN _
              clear hW
              replace O := O.keeps KD
              replace HKU := Lib.hid (HKU.out.trans KD (by simp))
              replace HB10 := Lib.hid (HB10.out.keeps KD (by simp))
              replace HMV := Lib.hid (gr_keeps HMV.out KD (by simp))
              clear KD
              have HMVL := Lib.hid (show W8.ownsRow w0.heap.size 79 2 (.slice Av ln cv) ln (prL ((raceA E rm k ++ rcQ E rm k q).take most)) from by have h := HMV.out; unfold MintP at h; rw [← HLN.out] at h; exact h)
              have HVOL := Lib.hid (show ∀ x, (Value.slice Av ln cv).ownBlock = some x → v.ownBlock = some x ∨ u.heap.size ≤ x from by rw [HLN.out]; exact HVO.out)
              clear HMV
              have c12 : ∀ i : Nat, W8.cell? ⟨b12, i, none⟩ = #[Value.int .i64 (x : Int), .int .i64 (wx : Int), .int .i64 ox, .bool _][i]? := (O.get 0 rfl).cell
              have c10 := HB10.out.cell 0
              go_wp2_with (first
                | (refine own_litK 84 73 79 1 2 (.agg #[.int .i64 0, .int .i64 0]) _ (#[.int .i64 (x : Int), .int .i64 (k : Int)]) O rfl rfl rfl Try.underlying73 (by kernel_rfl) (by decide) (by decide) (by first | rfl | kernel_rfl) ?_; clear O c12 c10; intro W9 gl O K hgl; replace HKU := Lib.hid (HKU.out.trans K (by simp)); replace HB10 := Lib.hid (HB10.out.keeps K (by simp)); replace HMVL := Lib.hid (gr_keeps HMVL.out K (by simp)); clear K hgl; simp only [Act.put, List.setIfInBounds_toArray, List.set_cons_zero, List.set_cons_succ])
                | (at_builtin; go_loud (refine gr_app (.tmp 79) (.tmp 84) rowT73 O HMVL.out rfl (by simp [Value.oneCell']) rfl rfl rfl rfl (Nat.le_refl _) O.keep.size (fun z hz => ?_) (by omega) (by decide) ?_; (· (have hz2 : Blk W9 z.1 z.2.1 z.2.2 := O.blk z (List.mem_cons_of_mem _ hz); simp only [List.mem_cons, List.not_mem_nil, or_false] at hz; rcases hz with rfl | rfl | rfl; (· exact gr_ne HMVL.out hz2 (show (130 : Nat) ≠ 79 by decide)); (· exact gr_ne HMVL.out hz2 (show (130 : Nat) ≠ 79 by decide)); (· exact gr_ne HMVL.out hz2 (show (37 : Nat) ≠ 79 by decide)))); clear O; intro v9 W10 O MR K hf; have HF := Lib.hid hf; have HMR := Lib.hid MR; have h10' := HB10.out.keeps K (by simpa using gr_ne HMVL.out HB10.out (by decide)); have HSZ9 := Lib.hid HKU.out.size; replace HKU := Lib.hid (HKU.out.trans K (fun z hz hlt => by rcases HVOL.out z (by simpa using hz) with h | h; (· simp [h]); (· omega))); clear hf K MR HMVL HB10; simp only [Act.put, List.setIfInBounds_toArray, List.set_cons_zero, List.set_cons_succ]))
                | (refine at_store (.tmp 3) (.tmp 85) rfl ?_; go_loud (refine wpList_store_blk b10 0 73 _ v9 rfl rfl rfl rfl rfl h10' (by simp) (gr_one HMR.out).1 (gr_one HMR.out).2 (by kernel_rfl) ?_; intro W11 K Bn; replace HMR := Lib.hid (gr_keeps HMR.out K (fun z hz hq => by rw [List.mem_singleton.1 hq] at hz; exact gr_ne HMR.out h10' (by decide) hz)); have HB11x := Lib.hid (show Blk W11 b10 73 #[v9] from Bn); replace O := O.wrote K (fun z hz hlt => by rw [List.mem_singleton.1 hz] at hlt; have := HI.out.2.2.2.2.2.2.1; omega) (fun z hz hq => by have hz2 := O.blk z hz; simp only [List.mem_cons, List.not_mem_nil, or_false] at hz; rcases hz with rfl | rfl | rfl; (· exact blk_ne hz2 h10' (show (130 : Nat) ≠ 73 by decide) (List.mem_singleton.1 hq)); (· exact blk_ne hz2 h10' (show (130 : Nat) ≠ 73 by decide) (List.mem_singleton.1 hq)); (· exact blk_ne hz2 h10' (show (37 : Nat) ≠ 73 by decide) (List.mem_singleton.1 hq))); replace HKU := Lib.hid (HKU.out.trans K (fun z hz _ => by rw [List.mem_singleton.1 hz]; simp)); clear K Bn h10')))
              go_roundg (m - (q + 1))
              case measure => (have := HG.out; omega)
              case rel =>
                refine ⟨q + 1, v9, by omega, rfl, by go_num, O.drop_ 1, HKU.out, HB11x.out, ?_, fun z hz => ?_⟩
                · rw [HQE.out]
                  unfold MintP
                  rw [prL_snoc, List.length_append, ← HLN.out]
                  exact HMR.out
                · rcases HF.out with h | h
                  · rw [h] at hz; exact HVOL.out z hz
                  · rw [h] at hz
                    injection hz with hz
                    have := HSZ9.out
                    exact .inr (by omega)
            · have z1 : ((wx : Int) != (wj : Int)) = true := by simpa [Int.natCast_inj] using hww
              have z2 : decide (cx' < ox) = true := decide_eq_true (by omega)
              have z3 : cx' < ox := by omega
              have hF : rcB E rm x k = true := by rw [HRC.out]; simp [hww, hle]
              have y1 : decide ((ln : Int) < (most : Int)) = false := decide_eq_false (by omega)
              have y2 : ¬ (ln : Int) < (most : Int) := by omega
              have HQE := Lib.hid (show (raceA E rm k ++ rcQ E rm k (q + 1)).take most = (raceA E rm k ++ rcQ E rm k q).take most from by rw [HQS.out, hF, if_pos rfl, ← List.append_assoc, take_snoc, if_neg (fun h => hfull (by rw [HLN.out]; exact (take_len_lt _ _).2 h))])
              clear hF
              go_quiet (fail)
              clear c12 ct cg c10 c5
              generalize hW : World.drewN W7 _ = W8
              have KD : Keeps W7 W8 [] := by rw [← hW]; exact (Keeps.refl W7 []).drewN _
              clear hW
              replace O := O.keeps KD
              replace HKU := Lib.hid (HKU.out.trans KD (by simp))
              replace HB10 := Lib.hid (HB10.out.keeps KD (by simp))
              replace HMV := Lib.hid (gr_keeps HMV.out KD (by simp))
              clear KD
              go_wp2
              go_roundg (m - (q + 1))
              case measure => (have := HG.out; omega)
              case rel =>
                have hl' := HLN.out
                subst hl'
                exact ⟨q + 1, .slice Av _ cv, by omega, rfl, by go_num, O.drop_ 1, HKU.out, HB10.out, by rw [HQE.out]; exact HMV.out, HVO.out⟩
    · obtain rfl : m = q := by omega
      clear hqt c10
      have HALL := Lib.hid (show raceA E rm k ++ rcQ E rm k m = raceA E rm (k + 1) by
        rw [HM.out, HA.out, rcQ_all HAC.out]; rfl)
      rw [HALL.out] at HMV HLN HVO
      have hSW := HST.out _ HKU.out
      have HCEL := Lib.hid hSW.2.2.2.1
      have HTK := Lib.hid (fun W (K : Keeps wr W []) (O' : Own w0 W [] [(bt, 130, #[.int .i64 (k : Int), .int .i64 (wj : Int), .int .i64 xj, .bool false]), (b9, 37, evC ⟨(wj : Int), 12, a, ev, es⟩)]) => And.intro (O'.get 1 rfl) (And.intro (hSW.2.2.1.keeps K (by simp)) (And.intro (hSW.2.2.2.1.map.keeps K (by simp)) (O'.get 0 rfl))))
      clear hSW
      obtain ⟨bb, hbb⟩ : ∃ bb, decide ((ln : Int) < (most : Int)) = bb := ⟨_, rfl⟩
      have HBB := Lib.hid hbb
      go_wp2
      refine wp_headH (S := fun u' => Blk u' b9 37 (evC ⟨(wj : Int), 12, a, ev, es⟩) ∧ Blk u' b11 128 #[.map (some mt)] ∧ MapV u' mt mc f ∧ Blk u' bt 130 #[.int .i64 (k : Int), .int .i64 (wj : Int), .int .i64 xj, .bool false]) 10 (by kernel_rfl) (by kernel_rfl) ?_
      have KW := (Keeps.refl wr []).drew
      replace O := O.drew
      have HS1 := Lib.hid (HTK.out _ KW O)
      replace HKU := Lib.hid (HKU.out.trans KW (by simp))
      replace HB10 := Lib.hid (HB10.out.keeps KW (by simp))
      replace HMV := Lib.hid (gr_keeps HMV.out KW (by simp))
      replace HCEL := Lib.hid (HCEL.out.new KW)
      have HRW := Lib.hid (show (wr.drew).ownsRow w0.heap.size 130 4 (.slice Ax m cx) m (accL E rm (pickL (isAcc E a) k)) from (by have := HCEL.out.row a; rw [show celV f a = .slice Ax (pickL (isAcc E a) k).length cx from HAX.out, ← HM.out] at this; exact this))
      refine ah_take (f := 2) (L' := #[true, true, true, true, true, true, true, true, false, false, false]) ((by first | exact HS1.out | exact HS2.out | exact HS3.out)) [0, 1, 2, 3, 4, 5, 6, 7] [_, _, _, _, _, _, _, _] _ _ rfl (by decide) (by kernel_rfl) ?_
      simp only [List.getElem_toArray, List.getElem_cons_zero, List.getElem_cons_succ]
      repeat (first
        | (refine take_load 94 rfl (by rfl) rfl rfl (fun _ h => h.2.2.2) Try.underlying130 rfl (by kernel_rfl) ?_; simp only [Act.put, List.setIfInBounds_toArray, List.set_cons_zero, List.set_cons_succ])
        | (refine take_pure (v := ?_) (by rfl) ?_ ?_; rotate_left; (· (intro w hSw; have c9 : ∀ i : Nat, w.cell? ⟨b9, i, none⟩ = #[Value.int .i64 (wj : Int), .int .i64 12, .int .i64 a, .int .i64 ev, .bool es][i]? := hSw.1.cell; have c11 : w.cell? ⟨b11, 0, none⟩ = some (.map (some mt)) := hSw.2.1.cell 0; have lk : (Instr.lookup 128 (.map (some mt)) (.int .i64 a) false).run Try.prog w = .ok (.slice Ax m cx) w := (by have := look_eqV hSw.2.2.1 128 131 (.slice none 0 0) Try.underlying128 (fun_zero131 _) a (by rw [HA.out]; exact HWF.out); rw [show (f a).getD (.slice none 0 0) = .slice Ax (pickL (isAcc E a) k).length cx from HAX.out] at this; rw [HM.out]; exact this); clear hSw; go_simp; try with_reducible rfl)); simp only [Act.put, List.setIfInBounds_toArray, List.set_cons_zero, List.set_cons_succ]))
      refine takeA_done ?_
      refine ah_sole 8 #[true, true, true, true, true, true, true, true, true, false, false] rfl (by decide) (by kernel_rfl) ?_
      try simp only [List.getElem_toArray, List.getElem_cons_zero, List.getElem_cons_succ]
      refine own_litK 95 131 130 1 4 (.agg #[.int .i64 0, .int .i64 0, .int .i64 0, .bool false]) _ (#[.int .i64 (k : Int), .int .i64 (wj : Int), .int .i64 xj, .bool false]) O rfl rfl rfl Try.underlying131 (by kernel_rfl) (by decide) (by decide) (by first | rfl | kernel_rfl) ?_; clear O; intro W9 gl O K hgl; have HS2 := Lib.hid (HTK.out W9 (KW.trans K (by simp)) (O.drop_ 1)); replace HKU := Lib.hid (HKU.out.trans K (by simp)); replace HB10 := Lib.hid (HB10.out.keeps K (by simp)); replace HMV := Lib.hid (gr_keeps HMV.out K (by simp)); replace HCEL := Lib.hid (HCEL.out.new K); replace HRW := Lib.hid (gr_keeps HRW.out K (by simp)); clear K hgl HS1 KW; simp only [Act.put, List.setIfInBounds_toArray, List.set_cons_zero, List.set_cons_succ]
      (first | refine backA_intro2 HS2.out ?_ | refine backA_intro HS2.out ?_)
      refine ah_sole 9 #[true, true, true, true, true, true, true, true, true, true, false] rfl (by decide) (by kernel_rfl) ?_
      try simp only [List.getElem_toArray, List.getElem_cons_zero, List.getElem_cons_succ]
      go_wp2_with (go_loud (at_builtin; refine gr_app (.tmp 93) (.tmp 95) rowT131 O HRW.out rfl (by simp [Value.oneCell']) rfl rfl rfl rfl (Nat.le_refl _) O.keep.size (fun z hz => ?_) (by omega) (by decide) ?_; (· (have hz2 : Blk W9 z.1 z.2.1 z.2.2 := O.blk z (List.mem_cons_of_mem _ hz); simp only [List.mem_cons, List.not_mem_nil, or_false] at hz; rcases hz with rfl | rfl; (· (intro e1; have e2 := (show (celV f a).ownBlock = some bt from by rw [show celV f a = .slice Ax (pickL (isAcc E a) k).length cx from HAX.out, ← HM.out]; exact e1); have h1 := HI.out.2.2.2.2.1 bt (HI.out.2.2.2.1 a bt e2); have h2 := HBT.out; omega)); (· exact gr_ne HRW.out hz2 (show (37 : Nat) ≠ 130 by decide)))); clear O; intro v9 W10 O MR K hf; have HF := Lib.hid hf; have HK9 := Lib.hid K; have HMR := Lib.hid MR; have HS3 := Lib.hid (And.intro (O.get 1 rfl) (And.intro (HS2.out.2.1.keeps K (by simpa using gr_ne HRW.out HS2.out.2.1 (by decide))) (And.intro (HS2.out.2.2.1.keeps K (fun hq => by obtain ⟨_, _, cur', hB'⟩ := gr_own HRW.out (g := mt) (by simpa using hq); exact HS2.out.2.2.1.not_blk hB' rfl)) (O.get 0 rfl)))); clear hf K MR; simp only [Act.put, List.setIfInBounds_toArray, List.set_cons_zero, List.set_cons_succ]))
      (first | refine backA_intro2 HS3.out ?_ | refine backA_intro HS3.out ?_)
      refine ah_tail (by kernel_rfl) ?_
      try simp only [List.drop]
      refine map_storeV HS3.out.2.2.1 128 131 Try.underlying128 rfl rfl rfl rfl (by rw [HA.out]; exact HWF.out) rfl (by simp only [maxLen]; have := HI.out.1; omega) ?_
      intro W11 K11 M11
      have HK11 := Lib.hid K11
      have HM11 := Lib.hid M11
      clear K11 M11
      refine np_intro ?_
      have HN := Lib.hid (fun x ty cs (hB : Blk W9 x ty cs) (h : ty ≠ 130) => (And.intro (gr_ne HRW.out hB h) (HCEL.out.map.not_blk hB) : (Value.slice Ax m cx).ownBlock ≠ some x ∧ x ≠ mt))
      have HTR := Lib.hid (fun x ty cs (hB : Blk W9 x ty cs) (h : ty ≠ 130) => ((hB.keeps HK9.out (by simpa using (HN.out x ty cs hB h).1)).keeps HK11.out (by simpa using (HN.out x ty cs hB h).2) : Blk W11 x ty cs))
      have HSW := Lib.hid (HST.out _ HKU.out)
      have c10 : W11.cell? ⟨b10, 0, none⟩ = some (.slice Av ln cv) := (HTR.out _ _ _ HB10.out (by decide)).cell 0
      have c5 : W11.cell? ⟨b5, 0, none⟩ = some (.int .i64 (most : Int)) := (HTR.out _ _ _ HSW.out.2.1 (by decide)).cell 0
      go_wp2
      go_ret
      have hl' := HLN.out
      have ha' := HA.out
      have hm' := HM.out
      obtain ⟨hmc, h10, M0, hD, hl, hb⟩ := HI.out
      have hN := HN.out
      have hTR := HTR.out
      have hSW := HSW.out
      have hMR := HMR.out
      have hF := HF.out
      have hAX := HAX.out
      have hK9 := HK9.out
      have hK11 := HK11.out
      have hHKU := HKU.out
      have hacc : accC E rm k = #[.int .i64 (k : Int), .int .i64 (wj : Int), .int .i64 xj, .bool false] := by
        unfold accC
        rw [HWJ.out, ← HXJ.out, HOP.out]
        rfl
      subst ha' hm'
      have hAX' : celV f (E k).a = .slice Ax (pickL (isAcc E (E k).a) k).length cx := hAX
      have hC2 := CelAt.add (v' := v9) hSW.2.2.2.1 HAC.out (U := W10) (by rw [hAX']; exact hK9) (by rw [hacc]; exact hMR) (by rw [hAX']; exact hF.elim .inl (fun h => .inr ⟨_, h, Nat.le_refl _⟩)) hK11 HM11.out
      have hM2 := gr_keeps (gr_keeps HMV.out hK9 (fun x hx hq => (hN x _ _ (gr_own HMV.out hx).2.2.choose_spec (by decide)).1 (by simpa using hq))) hK11 (fun x hx hq => (hN x _ _ (gr_own HMV.out hx).2.2.choose_spec (by decide)).2 (by simpa using hq))
      have hsz9 := hK9.size
      have hsz11 := hK11.size
      have hszu := hHKU.size
      have hKD : Keeps u W11 (b4 :: b10 :: b5 :: b11 :: mt :: (v.ownBlock.toList ++ Dc)) := by
        refine ((hHKU.wide (fun x hx => ?_)).trans hK9 (fun x hx _ => ?_)).trans hK11 (fun x hx _ => ?_)
        · rcases List.mem_cons.1 hx with rfl | hx
          · simp
          · simp [List.mem_append.2 (.inl hx)]
        · have := hD (E k).a x (by rw [hAX']; simpa using hx)
          simp [this]
        · rw [List.mem_singleton.1 hx]; simp
      subst hl'
      refine ⟨?_, ⟨_, ⟨_, _, v9.ownBlock.toList ++ Dc, mc + 1, rfl, by omega, O.keep.trans hK11 (fun x hx hlt => by rw [List.mem_singleton.1 hx] at hlt; omega), hTR _ _ _ hSW.1 (by decide), hTR _ _ _ HB10.out (by decide), hTR _ _ _ hSW.2.1 (by decide), hTR _ _ _ hSW.2.2.1 (by decide), hM2, hC2, fun a g hg => ?_, fun x hx => ?_, hb⟩, fun x hx => ?_, fun x hx => ?_⟩, hKD⟩
      · have := HBB.out
        unfold rcCont
        first
          | rfl
          | (subst this; rfl)
          | (subst this; simp [Int.ofNat_lt])
      · by_cases e : a = (E k).a
        · subst e
          rw [show celV (updI f (E k).a (some v9)) (E k).a = v9 by simp [celV]] at hg
          simp [hg]
        · rw [show celV (updI f (E k).a (some v9)) a = celV f a by unfold celV; rw [updI_other _ _ _ _ e]] at hg
          exact List.mem_append.2 (.inr (hD a g hg))
      · rcases List.mem_append.1 hx with hx | hx
        · have := (gr_own hMR (by simpa using hx)).2.1; omega
        · have := hl x hx; omega
      · simp only [List.mem_cons, List.mem_append] at hx ⊢
        rcases hx with rfl | rfl | rfl | rfl | rfl | hx | hx | hx
        · exact .inl (.inl rfl)
        · exact .inl (.inr (.inl rfl))
        · exact .inl (.inr (.inr (.inl rfl)))
        · exact .inl (.inr (.inr (.inr (.inl rfl))))
        · exact .inl (.inr (.inr (.inr (.inr (.inl rfl)))))
        · rcases HVO.out x (by simpa using hx) with h | h
          · exact .inl (.inr (.inr (.inr (.inr (.inr (.inl (by simpa using h)))))))
          · exact .inr h
        · rcases hF with h | h
          · have h2 : v9.ownBlock = some x := by simpa using hx
            rw [h] at h2
            exact .inl (.inr (.inr (.inr (.inr (.inr (.inr (hD (E k).a x (by rw [hAX']; exact h2))))))))
          · have h2 : v9.ownBlock = some x := by simpa using hx
            rw [h] at h2
            injection h2 with h2
            exact .inr (by omega)
        · exact .inl (.inr (.inr (.inr (.inr (.inr (.inr hx))))))
      · simp only [List.mem_cons, List.mem_append] at hx
        rcases hx with rfl | rfl | rfl | rfl | rfl | hx | hx | hx
        · exact (hTR _ _ _ hSW.1 (by decide)).lt
        · exact (hTR _ _ _ HB10.out (by decide)).lt
        · exact (hTR _ _ _ hSW.2.1 (by decide)).lt
        · exact (hTR _ _ _ hSW.2.2.1 (by decide)).lt
        · exact hC2.map.lt
        · exact (gr_own hM2 (by simpa using hx)).2.1
        · have := (gr_own hMR (by simpa using hx)).2.1; omega
        · have := hl x hx; omega
set_option maxRecDepth 100000 in
set_option maxHeartbeats 4000000 in
theorem rc_acc13 (hI : RcInv w0 E rm B n cb most b4 b10 b5 b11 mt k u D) (hE : EvsAt w0 B n E) (hk : k < n) (hn : n ≤ 40000) (hm : most ≤ 4096) (hop : (E k).op = 13) (hwf : (Lit.int .i64 (E k).a).wf = true) (hg : g ∉ D) (hC : ClkAt u g r (clk E rm (k : Int))) (hw : ∀ i, i < n → 0 ≤ (E i).who ∧ (E i).who < (r : Int)) :
    Calls Try.prog 75 #[.int .i64 (k : Int), .slice (some ⟨g, 0, none⟩) r r, .pointer (some ⟨b4, 0, none⟩), .pointer (some ⟨b10, 0, none⟩), .pointer (some ⟨b5, 0, none⟩), .pointer (some ⟨b11, 0, none⟩)] u (SeePost (RcInv w0 E rm B n cb most b4 b10 b5 b11 mt (k + 1)) (rcCont E rm most k) u D) := by
  obtain ⟨v, f, Dc, mc, rfl, hmc, K0, h4, h10, h5, h11, M, C, hD, hl, hb⟩ := hI
  have hac : acB E k = true := by simp [acB, hop]
  have O : Own w0 u [] [] := (Own.start w0 []).keeps K0
  obtain ⟨ad, rfl, hc⟩ := EvsAt.row (u := w0) hE hk
  have HC := Lib.hid (fun W (K : Keeps w0 W []) => hc [] W K (by simp))
  -- what stands where the pairs' row and its name are not written
  have HST := Lib.hid (fun W (K : Keeps u W (b10 :: v.ownBlock.toList)) => (show Blk W b4 31 #[.slice (some ad) n cb] ∧ Blk W b5 3 #[.int .i64 (most : Int)] ∧ Blk W b11 128 #[.map (some mt)] ∧ CelAt w0.heap.size W mt mc f E rm k ∧ ClkAt W g r (clk E rm (k : Int)) from by
    have nv : ∀ {x ty : Nat} {cs : Array Value}, Blk u x ty cs → ty ≠ 73 → ty ≠ 79 → x ∉ b10 :: v.ownBlock.toList := fun {x ty cs} hB h1 h2 hm' => by
      rcases List.mem_cons.1 hm' with e | e
      · subst e; exact blk_ne hB h10 h1 rfl
      · exact gr_ne M hB h2 (by simpa using e)
    refine ⟨h4.keeps K (nv h4 (by decide) (by decide)), h5.keeps K (nv h5 (by decide) (by decide)), h11.keeps K (nv h11 (by decide) (by decide)), C.keeps K (fun hm' => ?_) (fun a x hx => ?_), ?_⟩
    · rcases List.mem_cons.1 hm' with e | e
      · exact C.map.not_blk h10 e.symm
      · obtain ⟨_, _, cur, hB⟩ := gr_own M (g := mt) (by simpa using e)
        exact C.map.not_blk hB rfl
    · obtain ⟨_, _, cur, hB⟩ := gr_own (C.row a) hx
      exact nv hB (by decide) (by decide)
    · obtain ⟨cur, hB, hcu⟩ := hC
      exact ⟨cur, hB.keeps K (nv hB (by decide) (by decide)), hcu⟩))
  have HI := Lib.hid (And.intro hmc (And.intro h10 (And.intro M (And.intro hD (And.intro hl hb)))))
  have HC0 := Lib.hid C
  have HWF := Lib.hid hwf
  have HAC := Lib.hid hac
  have HOP := Lib.hid hop
  have HW := Lib.hid hw
  have HKN := Lib.hid hk
  have g1 : (k : Int) < n := by omega
  have g0 : (0 : Int) ≤ k := by omega
  have hgu : g < u.heap.size := hC.lt
  have c4 := h4.cell 0
  have KU := Lib.hid (Keeps.refl u [])
  have hEk : E k = ⟨(E k).who, 13, (E k).a, (E k).v, (E k).sh⟩ := by rw [← hop]
  have HEK := Lib.hid hEk
  obtain ⟨wj, hwj⟩ : ∃ wj : Nat, (E k).who = (wj : Int) := ⟨(E k).who.toNat, by have := hw k hk; omega⟩
  have hwjr : wj < r := by have := hw k hk; omega
  have HWJ := Lib.hid hwj
  rw [hEk, hwj] at HC
  obtain ⟨a, ha⟩ : ∃ a, a = (E k).a := ⟨_, rfl⟩
  have HA := Lib.hid ha
  rw [← ha] at HC
  generalize (E k).v = ev at HC
  generalize (E k).sh = es at HC
  have g2 : (wj : Int) < r := by omega
  have g3 : (0 : Int) ≤ wj := by omega
  clear hc h4 h10 h5 h11 M C hD hl hb hac hE K0 hmc hop hwf hg hC hw hk hEk hwj ha
  go_enter Try.func75, Try.ntmps75
  go_wp2_with (first
    | go_big_skip
    | (refine wpList_load_at 16 rfl rfl rfl rfl (HC.out _ O.keep) Try.underlying37 rfl (by kernel_rfl) ?_; simp only [Act.put, List.setIfInBounds_toArray, List.set_cons_zero, List.set_cons_succ])
    | (refine own_allocK 9 (evC ⟨0, 0, 0, 0, false⟩) O rfl rfl rfl (fun _ => by kernel_rfl) ?_; clear O c4; intro W1 b9 O K1 hb; have HW1 := Lib.hid (And.intro K1 hb); clear K1 hb; simp only [Act.put, List.setIfInBounds_toArray, List.set_cons_zero, List.set_cons_succ])
    | (refine own_store_rowK 0 (.tmp 9) (.tmp 16) O rfl rfl rfl rfl rfl rfl (by kernel_rfl) (by rfl) (evC_cell _) ?_; clear O; intro W2 O K2; simp only [List.set_cons_zero] at O; replace KU := Lib.hid (HW1.out.1.trans K2 (fun b hb hlt => by rw [List.mem_singleton.1 hb] at hlt; have := HW1.out.2; omega)); clear K2 HW1; have c9 : ∀ i : Nat, W2.cell? ⟨b9, i, none⟩ = (evC ⟨(wj : Int), 13, a, ev, es⟩)[i]? := (O.get 0 rfl).cell; simp only [evC] at c9))
  -- the access is laid out
  have hSW := HST.out _ (KU.out.wide (by simp))
  obtain ⟨xj, hxj⟩ : ∃ xj, xj = clk E rm (k : Int) (wj : Int) := ⟨_, rfl⟩
  have HXJ := Lib.hid hxj
  have HCG := Lib.hid (fun W (K : Keeps u W (b10 :: v.ownBlock.toList)) => (show W.cell? ⟨g, wj, none⟩ = some (.int .i64 xj) from by
    obtain ⟨cur, hB, hcu⟩ := (HST.out W K).2.2.2.2
    rw [HXJ.out]
    exact (hB.cell wj).trans (hcu.2 wj hwjr)))
  clear hSW hxj c9
  refine wp_headH (S := fun u' => Blk u' b9 37 (evC ⟨(wj : Int), 13, a, ev, es⟩) ∧ u'.cell? ⟨g, wj, none⟩ = some (.int .i64 xj)) 13 (by kernel_rfl) (by kernel_rfl) ?_
  replace O := O.drew
  replace KU := Lib.hid (KU.out.trans (Keeps.refl _ []).drew (by simp))
  have HS1 := Lib.hid (And.intro (O.get 0 rfl) (HCG.out _ (KU.out.wide (by simp))))
  refine ah_take (f := 1) (L' := #[true, true, true, true, true, true, true, true, true, true, true, true, false, false]) ((by first | exact HS1.out | exact HS2.out)) [0, 1, 2, 3, 4, 5, 6, 7, 8, 9, 10, 11] [_, _, _, _, _, _, _, _, _, _, _, _] _ _ rfl (by decide) (by kernel_rfl) ?_
  simp only [List.getElem_toArray, List.getElem_cons_zero, List.getElem_cons_succ]
  repeat (first
    | (refine take_pure (v := ?_) (by rfl) ?_ ?_; rotate_left; (· (intro w hSw; have c9 : ∀ i : Nat, w.cell? ⟨b9, i, none⟩ = #[Value.int .i64 (wj : Int), .int .i64 13, .int .i64 a, .int .i64 ev, .bool es][i]? := hSw.1.cell; have cg := hSw.2; clear hSw; go_simp; try with_reducible rfl)); simp only [Act.put, List.setIfInBounds_toArray, List.set_cons_zero, List.set_cons_succ]))
  refine takeA_done ?_
  refine ah_sole 12 #[true, true, true, true, true, true, true, true, true, true, true, true, true, false] rfl (by decide) (by kernel_rfl) ?_
  try simp only [List.getElem_toArray, List.getElem_cons_zero, List.getElem_cons_succ]
  refine own_allocK 10 (#[.int .i64 0, .int .i64 0, .int .i64 0, .bool false]) O rfl rfl rfl (fun _ => by kernel_rfl) ?_; clear O; intro W4 bt O K1 hb; have HBT := Lib.hid (show u.heap.size ≤ bt from by have := KU.out.size; omega); replace KU := Lib.hid (KU.out.trans K1 (by simp)); have HS2 := Lib.hid (And.intro (O.get 1 rfl) (HCG.out _ (KU.out.wide (by simp)))); clear K1 hb HS1; simp only [Act.put, List.setIfInBounds_toArray, List.set_cons_zero, List.set_cons_succ]
  (first | refine backA_intro2 HS2.out ?_ | refine backA_intro HS2.out ?_)
  refine ah_tail (by kernel_rfl) ?_
  try simp only [List.drop]
  refine own_store_rowK 0 (.tmp 10) (.tmp 40) (cs' := #[.int .i64 (k : Int), .int .i64 (wj : Int), .int .i64 xj, .bool true]) O rfl rfl rfl rfl rfl rfl (by kernel_rfl) (by rfl) (by simp [Value.oneCell']) ?_
  clear O
  intro W5 O K2
  simp only [List.set_cons_zero] at O
  replace KU := Lib.hid (KU.out.trans K2 (fun b hb hlt => by rw [List.mem_singleton.1 hb] at hlt; have := HBT.out; omega))
  clear K2 HS2
  refine np_intro ?_
  have c9 : ∀ i : Nat, W5.cell? ⟨b9, i, none⟩ = (evC ⟨(wj : Int), 13, a, ev, es⟩)[i]? := (O.get 1 rfl).cell
  simp only [evC] at c9
  have hSW := HST.out _ (KU.out.wide (by simp))
  have c11 := hSW.2.2.1.cell 0
  obtain ⟨Ax, cx, hax, hnx, _⟩ := gr_shape (hSW.2.2.2.1.row a)
  have lk : (Instr.lookup 128 (.map (some mt)) (.int .i64 a) false).run Try.prog W5 = .ok (.slice Ax (pickL (isAcc E a) k).length cx) W5 := by
    have := look_eqV hSW.2.2.2.1.map 128 131 (.slice none 0 0) Try.underlying128 (fun_zero131 _) a (by rw [HA.out]; exact HWF.out)
    rwa [show (f a).getD (.slice none 0 0) = .slice Ax (pickL (isAcc E a) k).length cx from hax] at this
  have HAX := Lib.hid hax
  obtain ⟨m, hm'⟩ : ∃ m, m = (pickL (isAcc E a) k).length := ⟨_, rfl⟩
  have HM := Lib.hid hm'
  have hmk : m ≤ k := by rw [hm']; exact pickL_length _ _
  rw [← hm'] at lk
  have HNX := Lib.hid hnx
  clear hSW hax hnx hm'
  go_wp2
  clear c9 c11 lk
  obtain ⟨v0, hv0⟩ : ∃ v0, v0 = v := ⟨_, rfl⟩
  have KU0 := KU.out.wide (L' := b10 :: v.ownBlock.toList) (by simp)
  have B10 := HI.out.2.1.keeps KU.out (by simp)
  have MV := gr_keeps HI.out.2.2.1 KU.out (by simp)
  clear hv0
  go_loopg [46] m (fun gg s46 wr => ∃ (q : Nat) (v' : Value), q ≤ m ∧ gg = m - q ∧ s46 = .int .i64 (q : Int) ∧ Own w0 wr [] [(bt, 130, #[.int .i64 (k : Int), .int .i64 (wj : Int), .int .i64 xj, .bool true]), (b9, 37, evC ⟨(wj : Int), 13, a, ev, es⟩)] ∧ Keeps u wr (b10 :: v.ownBlock.toList) ∧ Blk wr b10 73 #[v'] ∧ MintP 79 w0.heap.size wr v' ((raceA E rm k ++ rcQ E rm k q).take most) ∧ ∀ x, v'.ownBlock = some x → v.ownBlock = some x ∨ u.heap.size ≤ x)
  case atStart => exact ⟨0, v, by omega, by omega, rfl, O, KU0, B10, by rw [rcQ_zero, List.append_nil]; exact MV, fun x hx => .inl hx⟩
  case round =>
    clear O KU0 B10 MV KU
    obtain ⟨q, v', hq, hgq, rfl, O, KU, B10, MV, hv'⟩ := hrel
    have HG := Lib.hid hgq
    have HVO := Lib.hid hv'
    have HKU := Lib.hid KU
    clear hgq hv' KU
    obtain ⟨Av, cv, rfl, _⟩ := gr_shape MV
    obtain ⟨ln, hln⟩ : ∃ ln, ln = ((raceA E rm k ++ rcQ E rm k q).take most).length := ⟨_, rfl⟩
    have hlm : ln ≤ most := by rw [hln, List.length_take]; omega
    have HLN := Lib.hid hln
    rw [← hln] at B10
    have HB10 := Lib.hid B10
    have HMV := Lib.hid MV
    clear hln B10 MV
    have c10 := HB10.out.cell 0
    by_cases hqt : q < m
    · have g4 : (q : Int) < m := by omega
      have g5 : (0 : Int) ≤ q := by omega
      have hql : q < (pickL (isAcc E a) k).length := by rw [← HM.out]; exact hqt
      have HQS := Lib.hid (rcQ_succ (E := E) (rm := rm) (j := k) (q := q) (by rw [← HA.out]; exact hql))
      rw [← HA.out] at HQS
      have hxm := (pickL_mem (isAcc E a) k ((pickL (isAcc E a) k).getD q 0)).1 (by rw [List.getD_eq_getElem?_getD, List.getElem?_eq_getElem hql]; exact List.getElem_mem _)
      obtain ⟨x, hx⟩ : ∃ x, x = (pickL (isAcc E a) k).getD q 0 := ⟨_, rfl⟩
      rw [← hx] at hxm HQS
      have HX := Lib.hid hx
      obtain ⟨ax, rfl⟩ : ∃ ax, Ax = some ax := Option.ne_none_iff_exists'.1 (fun e => by have := (HNX.out e).1; omega)
      have HROW := Lib.hid (fun W (K : Keeps u W (b10 :: v.ownBlock.toList)) => (by have := arow (q := q) ((HST.out W K).2.2.2.1.row a) HAX.out hql; rw [← hx] at this; exact this : ∀ j, j < (accC E rm x).size → W.cell? ((ax.add (q * 4)).add j) = (accC E rm x)[j]?))
      have hxk := hxm.1
      have hxa : acB E x = true ∧ (E x).a = a := by simpa [isAcc] using hxm.2
      obtain ⟨wx, hwx⟩ : ∃ wx : Nat, (E x).who = (wx : Int) := ⟨(E x).who.toNat, by have := HW.out x (by have := HKN.out; omega); omega⟩
      have hwxr : wx < r := by have := HW.out x (by have := HKN.out; omega); omega
      have HWX := Lib.hid hwx
      have HXA := Lib.hid hxa
      obtain ⟨bx, hbx⟩ : ∃ bx, bx = decide ((E x).op = 13) := ⟨_, rfl⟩
      obtain ⟨ox, hox⟩ : ∃ ox, ox = clk E rm (x : Int) (wx : Int) := ⟨_, rfl⟩
      obtain ⟨cx', hcx⟩ : ∃ cx', cx' = clk E rm (k : Int) (wx : Int) := ⟨_, rfl⟩
      have hacc : accC E rm x = #[.int .i64 (x : Int), .int .i64 (wx : Int), .int .i64 ox, .bool bx] := by unfold accC; rw [hwx, ← hox, ← hbx]
      rw [hacc] at HROW
      have HRC := Lib.hid (show rcB E rm x k = ((bx || true) && (!decide (wx = wj) && !decide (ox ≤ cx'))) by
        unfold rcB
        rw [HXA.out.1, HAC.out, HXA.out.2, HOP.out, ← HA.out, hwx, HWJ.out, hbx, hox, hcx]
        simp [Int.natCast_inj])
      have HCX := Lib.hid hcx
      have g6 : (wx : Int) < r := by omega
      have g7 : (0 : Int) ≤ wx := by omega
      have hx4 : x ≤ 40000 := by have := HKN.out; omega
      clear hx hxm hxa hwx hbx hox hcx hacc hql hxk
      go_wp2_with (first
        | (refine wpList_load_at 49 rfl rfl rfl rfl (HROW.out _ HKU.out) Try.underlying130 rfl (by kernel_rfl) ?_; simp only [Act.put, List.setIfInBounds_toArray, List.set_cons_zero, List.set_cons_succ])
        | (refine own_allocK 12 (#[.int .i64 0, .int .i64 0, .int .i64 0, .bool false]) O rfl rfl rfl (fun _ => by kernel_rfl) ?_; clear O c10; intro W6 b12 O K1 hb; have HW1 := Lib.hid (And.intro K1 hb); clear K1 hb; simp only [Act.put, List.setIfInBounds_toArray, List.set_cons_zero, List.set_cons_succ])
        | (refine own_store_rowK 0 (.tmp 12) (.tmp 49) (cs' := #[.int .i64 (x : Int), .int .i64 (wx : Int), .int .i64 ox, .bool bx]) O rfl rfl rfl rfl rfl rfl (by kernel_rfl) (by rfl) (by simp [Value.oneCell']) ?_; clear O; intro W7 O K2; simp only [List.set_cons_zero] at O; have K3 := (HW1.out.1.trans K2 (fun b hb hlt => by rw [List.mem_singleton.1 hb] at hlt; have := HW1.out.2; omega) : Keeps wr W7 []); replace HKU := Lib.hid (HKU.out.trans K3 (by simp)); replace HB10 := Lib.hid (HB10.out.keeps K3 (by simp)); replace HMV := Lib.hid (gr_keeps HMV.out K3 (by simp)); clear K2 K3 HW1))
      have hSW := HST.out _ HKU.out
      have c12 : ∀ i : Nat, W7.cell? ⟨b12, i, none⟩ = #[Value.int .i64 (x : Int), .int .i64 (wx : Int), .int .i64 ox, .bool bx][i]? := (O.get 0 rfl).cell
      have ct : ∀ i : Nat, W7.cell? ⟨bt, i, none⟩ = #[Value.int .i64 (k : Int), .int .i64 (wj : Int), .int .i64 xj, .bool true][i]? := (O.get 1 rfl).cell
      have cg : W7.cell? ⟨g, wx, none⟩ = some (.int .i64 cx') := by
        obtain ⟨cur, hB, hcu⟩ := hSW.2.2.2.2
        rw [HCX.out]
        exact (hB.cell wx).trans (hcu.2 wx hwxr)
      have c10 := HB10.out.cell 0
      have c5 := hSW.2.1.cell 0
      clear hSW
      by_cases hww : wx = wj
      · have z1 : ((wx : Int) != (wj : Int)) = false := by simp [hww]
        have hF : rcB E rm x k = false := by rw [HRC.out]; simp [hww]
        have HQE := Lib.hid (show (raceA E rm k ++ rcQ E rm k (q + 1)).take most = (raceA E rm k ++ rcQ E rm k q).take most from by rw [HQS.out, hF, if_neg (by simp), List.append_nil])
        clear hF
        go_quiet (fail)
        clear c12 ct cg c10 c5
        generalize hW : World.drewN W7 _ = W8
        have KD : Keeps W7 W8 [] := by rw [← hW]; exact (Keeps.refl W7 []).drewN _
        clear hW
        replace O := O.keeps KD
        replace HKU := Lib.hid (HKU.out.trans KD (by simp))
        replace HB10 := Lib.hid (HB10.out.keeps KD (by simp))
        replace HMV := Lib.hid (gr_keeps HMV.out KD (by simp))
        clear KD
        go_wp2
        go_roundg (m - (q + 1))
        case measure => (have := HG.out; omega)
        case rel =>
          have hl' := HLN.out
          subst hl'
          exact ⟨q + 1, .slice Av _ cv, by omega, rfl, by go_num, O.drop_ 1, HKU.out, HB10.out, by rw [HQE.out]; exact HMV.out, HVO.out⟩
      · by_cases hle : ox ≤ cx'
        · have z1 : ((wx : Int) != (wj : Int)) = true := by simpa [Int.natCast_inj] using hww
          have z2 : decide (cx' < ox) = false := decide_eq_false (by omega)
          have z3 : ¬ cx' < ox := by omega
          have hF : rcB E rm x k = false := by rw [HRC.out]; simp [hle]
          have HQE := Lib.hid (show (raceA E rm k ++ rcQ E rm k (q + 1)).take most = (raceA E rm k ++ rcQ E rm k q).take most from by rw [HQS.out, hF, if_neg (by simp), List.append_nil])
          clear hF
          go_quiet (fail)
          clear c12 ct cg c10 c5
          generalize hW : World.drewN W7 _ = W8
          have KD : Keeps W7 W8 [] := by rw [← hW]; exact (Keeps.refl W7 []).drewN _
          clear hW
          replace O := O.keeps KD
          replace HKU := Lib.hid (HKU.out.trans KD (by simp))
          replace HB10 := Lib.hid (HB10.out.keeps KD (by simp))
          replace HMV := Lib.hid (gr_keeps HMV.out KD (by simp))
          clear KD
          go_wp2
          go_roundg (m - (q + 1))
          case measure => (have := HG.out; omega)
          case rel =>
            have hl' := HLN.out
            subst hl'
            exact ⟨q + 1, .slice Av _ cv, by omega, rfl, by go_num, O.drop_ 1, HKU.out, HB10.out, by rw [HQE.out]; exact HMV.out, HVO.out⟩
        · by_cases hfull : ln < most
          · have z1 : ((wx : Int) != (wj : Int)) = true := by simpa [Int.natCast_inj] using hww
            have z2 : decide (cx' < ox) = true := decide_eq_true (by omega)
            have z3 : cx' < ox := by omega
            have hF : rcB E rm x k = true := by rw [HRC.out]; simp [hww, hle]
            have y1 : decide ((ln : Int) < (most : Int)) = true := decide_eq_true (by omega)
            have y2 : (ln : Int) < (most : Int) := by omega
            have HQE := Lib.hid (show (raceA E rm k ++ rcQ E rm k (q + 1)).take most = (raceA E rm k ++ rcQ E rm k q).take most ++ [prR x k] from by rw [HQS.out, hF, if_pos rfl, ← List.append_assoc, take_snoc, if_pos ((take_len_lt _ _).1 (by rw [← HLN.out]; exact hfull))])
            clear hF
            go_quiet (fail)
            clear c12 ct cg c10 c5
            generalize hW : World.drewN W7 _ = W8
            have KD : Keeps W7 W8 [] := by rw [← hW]; exact (Keeps.refl W7 []).drewN _
            clear hW
            replace O := O.keeps KD
            replace HKU := Lib.hid (HKU.out.trans KD (by simp))
            replace HB10 := Lib.hid (HB10.out.keeps KD (by simp))
            replace HMV := Lib.hid (gr_keeps HMV.out KD (by simp))
            clear KD
            have HMVL := Lib.hid (show W8.ownsRow w0.heap.size 79 2 (.slice Av ln cv) ln (prL ((raceA E rm k ++ rcQ E rm k q).take most)) from by have h := HMV.out; unfold MintP at h; rw [← HLN.out] at h; exact h)
            have HVOL := Lib.hid (show ∀ x, (Value.slice Av ln cv).ownBlock = some x → v.ownBlock = some x ∨ u.heap.size ≤ x from by rw [HLN.out]; exact HVO.out)
            clear HMV
            have c12 : ∀ i : Nat, W8.cell? ⟨b12, i, none⟩ = #[Value.int .i64 (x : Int), .int .i64 (wx : Int), .int .i64 ox, .bool _][i]? := (O.get 0 rfl).cell
            have c10 := HB10.out.cell 0
            go_wp2_with (first
              | (refine own_litK 84 73 79 1 2 (.agg #[.int .i64 0, .int .i64 0]) _ (#[.int .i64 (x : Int), .int .i64 (k : Int)]) O rfl rfl rfl Try.underlying73 (by kernel_rfl) (by decide) (by decide) (by first | rfl | kernel_rfl) ?_; clear O c12 c10; intro W9 gl O K hgl; replace HKU := Lib.hid (HKU.out.trans K (by simp)); replace HB10 := Lib.hid (HB10.out.keeps K (by simp)); replace HMVL := Lib.hid (gr_keeps HMVL.out K (by simp)); clear K hgl; simp only [Act.put, List.setIfInBounds_toArray, List.set_cons_zero, List.set_cons_succ])
              | (at_builtin; go_loud (refine gr_app (.tmp 79) (.tmp 84) rowT73 O HMVL.out rfl (by simp [Value.oneCell']) rfl rfl rfl rfl (Nat.le_refl _) O.keep.size (fun z hz => ?_) (by omega) (by decide) ?_; (· (have hz2 : Blk W9 z.1 z.2.1 z.2.2 := O.blk z (List.mem_cons_of_mem _ hz); simp only [List.mem_cons, List.not_mem_nil, or_false] at hz; rcases hz with rfl | rfl | rfl; (· exact gr_ne HMVL.out hz2 (show (130 : Nat) ≠ 79 by decide)); (· exact gr_ne HMVL.out hz2 (show (130 : Nat) ≠ 79 by decide)); (· exact gr_ne HMVL.out hz2 (show (37 : Nat) ≠ 79 by decide)))); clear O; intro v9 W10 O MR K hf; have HF := Lib.hid hf; have HMR := Lib.hid MR; have h10' := HB10.out.keeps K (by simpa using gr_ne HMVL.out HB10.out (by decide)); have HSZ9 := Lib.hid HKU.out.size; replace HKU := Lib.hid (HKU.out.trans K (fun z hz hlt => by rcases HVOL.out z (by simpa using hz) with h | h; (· simp [h]); (· omega))); clear hf K MR HMVL HB10; simp only [Act.put, List.setIfInBounds_toArray, List.set_cons_zero, List.set_cons_succ]))
              | (refine at_store (.tmp 3) (.tmp 85) rfl ?_; go_loud (refine wpList_store_blk b10 0 73 _ v9 rfl rfl rfl rfl rfl h10' (by simp) (gr_one HMR.out).1 (gr_one HMR.out).2 (by kernel_rfl) ?_; intro W11 K Bn; replace HMR := Lib.hid (gr_keeps HMR.out K (fun z hz hq => by rw [List.mem_singleton.1 hq] at hz; exact gr_ne HMR.out h10' (by decide) hz)); have HB11x := Lib.hid (show Blk W11 b10 73 #[v9] from Bn); replace O := O.wrote K (fun z hz hlt => by rw [List.mem_singleton.1 hz] at hlt; have := HI.out.2.2.2.2.2.2.1; omega) (fun z hz hq => by have hz2 := O.blk z hz; simp only [List.mem_cons, List.not_mem_nil, or_false] at hz; rcases hz with rfl | rfl | rfl; (· exact blk_ne hz2 h10' (show (130 : Nat) ≠ 73 by decide) (List.mem_singleton.1 hq)); (· exact blk_ne hz2 h10' (show (130 : Nat) ≠ 73 by decide) (List.mem_singleton.1 hq)); (· exact blk_ne hz2 h10' (show (37 : Nat) ≠ 73 by decide) (List.mem_singleton.1 hq))); replace HKU := Lib.hid (HKU.out.trans K (fun z hz _ => by rw [List.mem_singleton.1 hz]; simp)); clear K Bn h10')))
            go_roundg (m - (q + 1))
            case measure => (have := HG.out; omega)
            case rel =>
              refine ⟨q + 1, v9, by omega, rfl, by go_num, O.drop_ 1, HKU.out, HB11x.out, ?_, fun z hz => ?_⟩
              · rw [HQE.out]
                unfold MintP
                rw [prL_snoc, List.length_append, ← HLN.out]
                exact HMR.out
              · rcases HF.out with h | h
                · rw [h] at hz; exact HVOL.out z hz
                · rw [h] at hz
                  injection hz with hz
                  have := HSZ9.out
                  exact .inr (by omega)
          · have z1 : ((wx : Int) != (wj : Int)) = true := by simpa [Int.natCast_inj] using hww
            have z2 : decide (cx' < ox) = true := decide_eq_true (by omega)
            have z3 : cx' < ox := by omega
            have hF : rcB E rm x k = true := by rw [HRC.out]; simp [hww, hle]
            have y1 : decide ((ln : Int) < (most : Int)) = false := decide_eq_false (by omega)
            have y2 : ¬ (ln : Int) < (most : Int) := by omega
            have HQE := Lib.hid (show (raceA E rm k ++ rcQ E rm k (q + 1)).take most = (raceA E rm k ++ rcQ E rm k q).take most from by rw [HQS.out, hF, if_pos rfl, ← List.append_assoc, take_snoc, if_neg (fun h => hfull (by rw [HLN.out]; exact (take_len_lt _ _).2 h))])
            clear hF
            go_quiet (fail)
            clear c12 ct cg c10 c5
            generalize hW : World.drewN W7 _ = W8
            have KD : Keeps W7 W8 [] := by rw [← hW]; exact (Keeps.refl W7 []).drewN _
            clear hW
            replace O := O.keeps KD
            replace HKU := Lib.hid (HKU.out.trans KD (by simp))
            replace HB10 := Lib.hid (HB10.out.keeps KD (by simp))
            replace HMV := Lib.hid (gr_keeps HMV.out KD (by simp))
            clear KD
            go_wp2
            go_roundg (m - (q + 1))
            case measure => (have := HG.out; omega)
            case rel =>
              have hl' := HLN.out
              subst hl'
              exact ⟨q + 1, .slice Av _ cv, by omega, rfl, by go_num, O.drop_ 1, HKU.out, HB10.out, by rw [HQE.out]; exact HMV.out, HVO.out⟩
    · obtain rfl : m = q := by omega
      clear hqt c10
      have HALL := Lib.hid (show raceA E rm k ++ rcQ E rm k m = raceA E rm (k + 1) by
        rw [HM.out, HA.out, rcQ_all HAC.out]; rfl)
      rw [HALL.out] at HMV HLN HVO
      have hSW := HST.out _ HKU.out
      have HCEL := Lib.hid hSW.2.2.2.1
      have HTK := Lib.hid (fun W (K : Keeps wr W []) (O' : Own w0 W [] [(bt, 130, #[.int .i64 (k : Int), .int .i64 (wj : Int), .int .i64 xj, .bool true]), (b9, 37, evC ⟨(wj : Int), 13, a, ev, es⟩)]) => And.intro (O'.get 1 rfl) (And.intro (hSW.2.2.1.keeps K (by simp)) (And.intro (hSW.2.2.2.1.map.keeps K (by simp)) (O'.get 0 rfl))))
      clear hSW
      obtain ⟨bb, hbb⟩ : ∃ bb, decide ((ln : Int) < (most : Int)) = bb := ⟨_, rfl⟩
      have HBB := Lib.hid hbb
      go_wp2
      refine wp_headH (S := fun u' => Blk u' b9 37 (evC ⟨(wj : Int), 13, a, ev, es⟩) ∧ Blk u' b11 128 #[.map (some mt)] ∧ MapV u' mt mc f ∧ Blk u' bt 130 #[.int .i64 (k : Int), .int .i64 (wj : Int), .int .i64 xj, .bool true]) 10 (by kernel_rfl) (by kernel_rfl) ?_
      have KW := (Keeps.refl wr []).drew
      replace O := O.drew
      have HS1 := Lib.hid (HTK.out _ KW O)
      replace HKU := Lib.hid (HKU.out.trans KW (by simp))
      replace HB10 := Lib.hid (HB10.out.keeps KW (by simp))
      replace HMV := Lib.hid (gr_keeps HMV.out KW (by simp))
      replace HCEL := Lib.hid (HCEL.out.new KW)
      have HRW := Lib.hid (show (wr.drew).ownsRow w0.heap.size 130 4 (.slice Ax m cx) m (accL E rm (pickL (isAcc E a) k)) from (by have := HCEL.out.row a; rw [show celV f a = .slice Ax (pickL (isAcc E a) k).length cx from HAX.out, ← HM.out] at this; exact this))
      refine ah_take (f := 2) (L' := #[true, true, true, true, true, true, true, true, false, false, false]) ((by first | exact HS1.out | exact HS2.out | exact HS3.out)) [0, 1, 2, 3, 4, 5, 6, 7] [_, _, _, _, _, _, _, _] _ _ rfl (by decide) (by kernel_rfl) ?_
      simp only [List.getElem_toArray, List.getElem_cons_zero, List.getElem_cons_succ]
      repeat (first
        | (refine take_load 94 rfl (by rfl) rfl rfl (fun _ h => h.2.2.2) Try.underlying130 rfl (by kernel_rfl) ?_; simp only [Act.put, List.setIfInBounds_toArray, List.set_cons_zero, List.set_cons_succ])
        | (refine take_pure (v := ?_) (by rfl) ?_ ?_; rotate_left; (· (intro w hSw; have c9 : ∀ i : Nat, w.cell? ⟨b9, i, none⟩ = #[Value.int .i64 (wj : Int), .int .i64 13, .int .i64 a, .int .i64 ev, .bool es][i]? := hSw.1.cell; have c11 : w.cell? ⟨b11, 0, none⟩ = some (.map (some mt)) := hSw.2.1.cell 0; have lk : (Instr.lookup 128 (.map (some mt)) (.int .i64 a) false).run Try.prog w = .ok (.slice Ax m cx) w := (by have := look_eqV hSw.2.2.1 128 131 (.slice none 0 0) Try.underlying128 (fun_zero131 _) a (by rw [HA.out]; exact HWF.out); rw [show (f a).getD (.slice none 0 0) = .slice Ax (pickL (isAcc E a) k).length cx from HAX.out] at this; rw [HM.out]; exact this); clear hSw; go_simp; try with_reducible rfl)); simp only [Act.put, List.setIfInBounds_toArray, List.set_cons_zero, List.set_cons_succ]))
      refine takeA_done ?_
      refine ah_sole 8 #[true, true, true, true, true, true, true, true, true, false, false] rfl (by decide) (by kernel_rfl) ?_
      try simp only [List.getElem_toArray, List.getElem_cons_zero, List.getElem_cons_succ]
      refine own_litK 95 131 130 1 4 (.agg #[.int .i64 0, .int .i64 0, .int .i64 0, .bool false]) _ (#[.int .i64 (k : Int), .int .i64 (wj : Int), .int .i64 xj, .bool true]) O rfl rfl rfl Try.underlying131 (by kernel_rfl) (by decide) (by decide) (by first | rfl | kernel_rfl) ?_; clear O; intro W9 gl O K hgl; have HS2 := Lib.hid (HTK.out W9 (KW.trans K (by simp)) (O.drop_ 1)); replace HKU := Lib.hid (HKU.out.trans K (by simp)); replace HB10 := Lib.hid (HB10.out.keeps K (by simp)); replace HMV := Lib.hid (gr_keeps HMV.out K (by simp)); replace HCEL := Lib.hid (HCEL.out.new K); replace HRW := Lib.hid (gr_keeps HRW.out K (by simp)); clear K hgl HS1 KW; simp only [Act.put, List.setIfInBounds_toArray, List.set_cons_zero, List.set_cons_succ]
      (first | refine backA_intro2 HS2.out ?_ | refine backA_intro HS2.out ?_)
      refine ah_sole 9 #[true, true, true, true, true, true, true, true, true, true, false] rfl (by decide) (by kernel_rfl) ?_
      try simp only [List.getElem_toArray, List.getElem_cons_zero, List.getElem_cons_succ]
      go_wp2_with (go_loud (at_builtin; refine gr_app (.tmp 93) (.tmp 95) rowT131 O HRW.out rfl (by simp [Value.oneCell']) rfl rfl rfl rfl (Nat.le_refl _) O.keep.size (fun z hz => ?_) (by omega) (by decide) ?_; (· (have hz2 : Blk W9 z.1 z.2.1 z.2.2 := O.blk z (List.mem_cons_of_mem _ hz); simp only [List.mem_cons, List.not_mem_nil, or_false] at hz; rcases hz with rfl | rfl; (· (intro e1; have e2 := (show (celV f a).ownBlock = some bt from by rw [show celV f a = .slice Ax (pickL (isAcc E a) k).length cx from HAX.out, ← HM.out]; exact e1); have h1 := HI.out.2.2.2.2.1 bt (HI.out.2.2.2.1 a bt e2); have h2 := HBT.out; omega)); (· exact gr_ne HRW.out hz2 (show (37 : Nat) ≠ 130 by decide)))); clear O; intro v9 W10 O MR K hf; have HF := Lib.hid hf; have HK9 := Lib.hid K; have HMR := Lib.hid MR; have HS3 := Lib.hid (And.intro (O.get 1 rfl) (And.intro (HS2.out.2.1.keeps K (by simpa using gr_ne HRW.out HS2.out.2.1 (by decide))) (And.intro (HS2.out.2.2.1.keeps K (fun hq => by obtain ⟨_, _, cur', hB'⟩ := gr_own HRW.out (g := mt) (by simpa using hq); exact HS2.out.2.2.1.not_blk hB' rfl)) (O.get 0 rfl)))); clear hf K MR; simp only [Act.put, List.setIfInBounds_toArray, List.set_cons_zero, List.set_cons_succ]))
      (first | refine backA_intro2 HS3.out ?_ | refine backA_intro HS3.out ?_)
      refine ah_tail (by kernel_rfl) ?_
      try simp only [List.drop]
      refine map_storeV HS3.out.2.2.1 128 131 Try.underlying128 rfl rfl rfl rfl (by rw [HA.out]; exact HWF.out) rfl (by simp only [maxLen]; have := HI.out.1; omega) ?_
      intro W11 K11 M11
      have HK11 := Lib.hid K11
      have HM11 := Lib.hid M11
      clear K11 M11
      refine np_intro ?_
      have HN := Lib.hid (fun x ty cs (hB : Blk W9 x ty cs) (h : ty ≠ 130) => (And.intro (gr_ne HRW.out hB h) (HCEL.out.map.not_blk hB) : (Value.slice Ax m cx).ownBlock ≠ some x ∧ x ≠ mt))
      have HTR := Lib.hid (fun x ty cs (hB : Blk W9 x ty cs) (h : ty ≠ 130) => ((hB.keeps HK9.out (by simpa using (HN.out x ty cs hB h).1)).keeps HK11.out (by simpa using (HN.out x ty cs hB h).2) : Blk W11 x ty cs))
      have HSW := Lib.hid (HST.out _ HKU.out)
      have c10 : W11.cell? ⟨b10, 0, none⟩ = some (.slice Av ln cv) := (HTR.out _ _ _ HB10.out (by decide)).cell 0
      have c5 : W11.cell? ⟨b5, 0, none⟩ = some (.int .i64 (most : Int)) := (HTR.out _ _ _ HSW.out.2.1 (by decide)).cell 0
      go_wp2
      go_ret
      have hl' := HLN.out
      have ha' := HA.out
      have hm' := HM.out
      obtain ⟨hmc, h10, M0, hD, hl, hb⟩ := HI.out
      have hN := HN.out
      have hTR := HTR.out
      have hSW := HSW.out
      have hMR := HMR.out
      have hF := HF.out
      have hAX := HAX.out
      have hK9 := HK9.out
      have hK11 := HK11.out
      have hHKU := HKU.out
      have hacc : accC E rm k = #[.int .i64 (k : Int), .int .i64 (wj : Int), .int .i64 xj, .bool true] := by
        unfold accC
        rw [HWJ.out, ← HXJ.out, HOP.out]
        rfl
      subst ha' hm'
      have hAX' : celV f (E k).a = .slice Ax (pickL (isAcc E (E k).a) k).length cx := hAX
      have hC2 := CelAt.add (v' := v9) hSW.2.2.2.1 HAC.out (U := W10) (by rw [hAX']; exact hK9) (by rw [hacc]; exact hMR) (by rw [hAX']; exact hF.elim .inl (fun h => .inr ⟨_, h, Nat.le_refl _⟩)) hK11 HM11.out
      have hM2 := gr_keeps (gr_keeps HMV.out hK9 (fun x hx hq => (hN x _ _ (gr_own HMV.out hx).2.2.choose_spec (by decide)).1 (by simpa using hq))) hK11 (fun x hx hq => (hN x _ _ (gr_own HMV.out hx).2.2.choose_spec (by decide)).2 (by simpa using hq))
      have hsz9 := hK9.size
      have hsz11 := hK11.size
      have hszu := hHKU.size
      have hKD : Keeps u W11 (b4 :: b10 :: b5 :: b11 :: mt :: (v.ownBlock.toList ++ Dc)) := by
        refine ((hHKU.wide (fun x hx => ?_)).trans hK9 (fun x hx _ => ?_)).trans hK11 (fun x hx _ => ?_)
        · rcases List.mem_cons.1 hx with rfl | hx
          · simp
          · simp [List.mem_append.2 (.inl hx)]
        · have := hD (E k).a x (by rw [hAX']; simpa using hx)
          simp [this]
        · rw [List.mem_singleton.1 hx]; simp
      subst hl'
      refine ⟨?_, ⟨_, ⟨_, _, v9.ownBlock.toList ++ Dc, mc + 1, rfl, by omega, O.keep.trans hK11 (fun x hx hlt => by rw [List.mem_singleton.1 hx] at hlt; omega), hTR _ _ _ hSW.1 (by decide), hTR _ _ _ HB10.out (by decide), hTR _ _ _ hSW.2.1 (by decide), hTR _ _ _ hSW.2.2.1 (by decide), hM2, hC2, fun a g hg => ?_, fun x hx => ?_, hb⟩, fun x hx => ?_, fun x hx => ?_⟩, hKD⟩
      · have := HBB.out
        unfold rcCont
        first
          | rfl
          | (subst this; rfl)
          | (subst this; simp [Int.ofNat_lt])
      · by_cases e : a = (E k).a
        · subst e
          rw [show celV (updI f (E k).a (some v9)) (E k).a = v9 by simp [celV]] at hg
          simp [hg]
        · rw [show celV (updI f (E k).a (some v9)) a = celV f a by unfold celV; rw [updI_other _ _ _ _ e]] at hg
          exact List.mem_append.2 (.inr (hD a g hg))
      · rcases List.mem_append.1 hx with hx | hx
        · have := (gr_own hMR (by simpa using hx)).2.1; omega
        · have := hl x hx; omega
      · simp only [List.mem_cons, List.mem_append] at hx ⊢
        rcases hx with rfl | rfl | rfl | rfl | rfl | hx | hx | hx
        · exact .inl (.inl rfl)
        · exact .inl (.inr (.inl rfl))
        · exact .inl (.inr (.inr (.inl rfl)))
        · exact .inl (.inr (.inr (.inr (.inl rfl))))
        · exact .inl (.inr (.inr (.inr (.inr (.inl rfl)))))
        · rcases HVO.out x (by simpa using hx) with h | h
          · exact .inl (.inr (.inr (.inr (.inr (.inr (.inl (by simpa using h)))))))
          · exact .inr h
        · rcases hF with h | h
          · have h2 : v9.ownBlock = some x := by simpa using hx
            rw [h] at h2
            exact .inl (.inr (.inr (.inr (.inr (.inr (.inr (hD (E k).a x (by rw [hAX']; exact h2))))))))
          · have h2 : v9.ownBlock = some x := by simpa using hx
            rw [h] at h2
            injection h2 with h2
            exact .inr (by omega)
        · exact .inl (.inr (.inr (.inr (.inr (.inr (.inr hx))))))
      · simp only [List.mem_cons, List.mem_append] at hx
        rcases hx with rfl | rfl | rfl | rfl | rfl | hx | hx | hx
        · exact (hTR _ _ _ hSW.1 (by decide)).lt
        · exact (hTR _ _ _ HB10.out (by decide)).lt
        · exact (hTR _ _ _ hSW.2.1 (by decide)).lt
        · exact (hTR _ _ _ hSW.2.2.1 (by decide)).lt
        · exact hC2.map.lt
        · exact (gr_own hM2 (by simpa using hx)).2.1
        · have := (gr_own hMR (by simpa using hx)).2.1; omega
        · have := hl x hx; omega
end
end Go.Proofs.Ytakmcpadkanggaa
namespace Go.Proofs.Ytakmcpadkanggaa
open Go.RowKit Go.Maps Go.Deep
section
variable {ops : Array Oper} {rest : List Oper} {o : Oper} {a : Act} {w W : World} {Q : Exit → Act → World → Prop} {S : List Nat} {L : List Ent} {T : TypeId}
theorem own_alloc1K (d : Nat) (v : Value) (O : Own w W S L) (_hd : o.dst = some d) (hgd : o.guard = none) (ho : o.op = .alloc T) (hz : ∀ w, (zeroValue T).run Try.prog w = .ok v w) (hv : v.cells = #[v])
    (h : ∀ u g, Own w u S ((g, T, #[v]) :: L) → Keeps W u [] → W.heap.size ≤ g → wpList Try.prog ops Q rest (a.put o.dst (.pointer (some ⟨g, 0, none⟩))) u) : wpList Try.prog ops Q (o :: rest) a W := by
  refine wpList_plain hgd fun K hK => ?_
  have hr : (Instr.alloc T true (.tuple #[])).run Try.prog W = .ok (.pointer (some ⟨W.heap.size, 0, none⟩)) (W.alloc (.cells #[v] T)) := by
    simp [Instr.alloc, hz W, newVar, newRow, hv]
  have k := (Keeps.refl W []).alloc (.cells #[v] T)
  unfold Oper.wp execOp
  simp only [ho, Sem.run_bind, hr, Result.andThen_ok, Sem.run_pure]
  exact hK _ _ (h _ _ (O.add k (Blk.new _ _ _)) k (Nat.le_refl _))
end
/-- What both Races hand out. -/
def RacPost (x : List (Int × Int) × Int) (w : World) (e : Ending) (u : World) : Prop :=
  (∃ v, e = .returned (.tuple #[v, .int .i64 x.2]) ∧ MintP 79 w.heap.size u v x.1) ∧ Keeps w u []
theorem racP_nil (w u : World) : MintP 79 w.heap.size u (.slice none 0 0) [] := gr_nil w.heap.size 79 2 u
section
variable {w0 u : World} {E : Nat → Ev} {rm : Int → Int} {B : Option Addr} {n cb most b4 b10 b5 b11 mt r k g : Nat} {D : List Nat}
theorem rc_see (hI : RcInv w0 E rm B n cb most b4 b10 b5 b11 mt k u D) (hE : EvsAt w0 B n E) (hk : k < n) (hn : n ≤ 40000) (hm : most ≤ 4096) (hwf : ∀ i, i < n → (Lit.int .i64 (E i).a).wf = true) (hg : g ∉ D) (hC : ClkAt u g r (clk E rm (k : Int))) (hw : ∀ i, i < n → 0 ≤ (E i).who ∧ (E i).who < (r : Int)) :
    Calls Try.prog 75 (#[.int .i64 (k : Int), .slice (some ⟨g, 0, none⟩) r r] ++ #[.pointer (some ⟨b4, 0, none⟩), .pointer (some ⟨b10, 0, none⟩), .pointer (some ⟨b5, 0, none⟩), .pointer (some ⟨b11, 0, none⟩)]) u (SeePost (RcInv w0 E rm B n cb most b4 b10 b5 b11 mt (k + 1)) (rcCont E rm most k) u D) := by
  show Calls Try.prog 75 #[.int .i64 (k : Int), .slice (some ⟨g, 0, none⟩) r r, .pointer (some ⟨b4, 0, none⟩), .pointer (some ⟨b10, 0, none⟩), .pointer (some ⟨b5, 0, none⟩), .pointer (some ⟨b11, 0, none⟩)] u _
  by_cases h12 : (E k).op = 12
  · exact rc_acc12 hI hE hk hn hm h12 (hwf k hk) hg hC hw
  · by_cases h13 : (E k).op = 13
    · exact rc_acc13 hI hE hk hn hm h13 (hwf k hk) hg hC hw
    · exact rc_other hI hE hk hn hm (by simp [acB, h12, h13]) h12 h13
theorem celAt_nil (base : Nat) {W : World} {mt : Nat} (E : Nat → Ev) (rm : Int → Int) (h : MapV W mt 0 (fun _ => none)) : CelAt base W mt 0 (fun _ => none) E rm 0 :=
  ⟨h, fun a => gr_nil base 130 4 W, fun a a' g h1 _ => by simp [celV, Value.ownBlock] at h1⟩
theorem rcInv_start {W : World} (hk : Keeps w0 W []) (h4 : Blk W b4 31 #[.slice B n cb]) (h10 : Blk W b10 73 #[.slice none 0 0]) (h5 : Blk W b5 3 #[.int .i64 (most : Int)]) (h11 : Blk W b11 128 #[.map (some mt)]) (M : MapV W mt 0 (fun _ => none)) (hb : w0.heap.size ≤ b4 ∧ w0.heap.size ≤ b10 ∧ w0.heap.size ≤ b5 ∧ w0.heap.size ≤ b11 ∧ w0.heap.size ≤ mt) :
    RcInv w0 E rm B n cb most b4 b10 b5 b11 mt 0 W [b4, b10, b5, b11, mt] := by
  refine ⟨.slice none 0 0, fun _ => none, [], 0, rfl, Nat.le_refl _, hk, h4, h10, h5, h11, ?_, celAt_nil _ _ _ M, fun a g h => ?_, by simp, hb⟩
  · rw [show (raceA E rm 0).take most = [] by simp [raceA]]
    exact gr_nil w0.heap.size 79 2 W
  · simp [celV, Value.ownBlock] at h
theorem race_end {k n : Nat} (h : (k = n ∧ ∀ i, i < n → rcCont E rm most i = true) ∨ ∃ i, k = i + 1 ∧ i < n ∧ rcCont E rm most i = false ∧ ∀ q, q < i → rcCont E rm most q = true) : (raceA E rm k).take most = (raceA E rm n).take most := by
  rcases h with ⟨rfl, _⟩ | ⟨i, rfl, hi, hc, _⟩
  · rfl
  · have h1 : ¬ ((raceA E rm (i + 1)).take most).length < most := of_decide_eq_false hc
    rw [take_len_lt] at h1
    exact (take_pre (raceA_pre (i + 1) n (by omega)) (by omega)).symm
end
section
variable {w : World} {S : Sys} {A : Option Addr} {c : Nat} {R : Option Addr} {d n : Nat} {E : Nat → Ev} {B : Option Addr} {cb : Nat}
theorem askN_ok (h : (thr S E n).2.2 = 0) : askedR S E n [] = ((stN E n).r, 0) := by
  unfold askedR
  rw [if_pos h, if_pos (by simp), thr_r h]
theorem askN_bad (h : ¬ (thr S E n).2.2 = 0) : askedR S E n [] = (0, (thr S E n).2.2) := by
  unfold askedR
  rw [if_neg h]
theorem askN_call (hS : SysIn w S A c R d) (hE : EvsAt w B n E) (hwf : ∀ i, i < n → (Lit.int .i64 (E i).a).wf = true) : Calls Try.prog 62 #[.agg (sysV S A c R d), .slice B n cb, .slice none 0 0] w fun e w' => e = .returned (askV (askedR S E n [])) ∧ Keeps w w' [] :=
  asked_any hS hE hwf _ [] ⟨none, 0, rfl, fun h => absurd h (by simp)⟩ (by simp)
set_option maxRecDepth 100000 in
set_option maxHeartbeats 1000000 in
theorem traces_bad (hS : SysIn w S A c R d) (hE : EvsAt w B n E) (hwf : ∀ i, i < n → (Lit.int .i64 (E i).a).wf = true) (most : Int) (h : ¬ (thr S E n).2.2 = 0) : Calls Try.prog 41 #[.agg (sysV S A c R d), .slice B n cb, .int .i64 most] w (RacPost (racesR S E (rmS S) n most) w) := by
  have O := Own.start w []
  have HT := Lib.hid (fun u (k : Keeps w u []) => show Calls Try.prog 62 #[.agg (sysV S A c R d), .slice B n cb, .slice none 0 0] u fun e w' => e = .returned (.tuple #[.int .i64 0, .int .i64 (thr S E n).2.2]) ∧ Keeps u w' [] from by
    have hz := askN_call (cb := cb) (hS.kept k) (hE.kept k) hwf
    rw [askN_bad h] at hz
    exact hz)
  have HF := Lib.hid (show racesR S E (rmS S) n most = ([], (thr S E n).2.2) by unfold racesR; rw [if_neg h])
  generalize (thr S E n).2.2 = er at HT HF h
  rw [HF.out]
  clear hS hE hwf HF
  go_enter Try.func41, Try.ntmps41
  go_wp2_with (first
    | go_big_skip
    | (refine own_box 3 (sysV S A c R d) O rfl rfl rfl rfl ?_; clear O; intro W b3 O; simp only [Act.put, List.setIfInBounds_toArray, List.set_cons_zero, List.set_cons_succ])
    | (refine own_box1 4 (.slice B n cb) O rfl rfl rfl rfl rfl ?_; clear O; intro W b4 O; simp only [Act.put, List.setIfInBounds_toArray, List.set_cons_zero, List.set_cons_succ])
    | (refine own_box1 5 (.int .i64 most) O rfl rfl rfl rfl rfl ?_; clear O; intro W b5 O; simp only [Act.put, List.setIfInBounds_toArray, List.set_cons_zero, List.set_cons_succ]; have c4 := (O.get 1 rfl).cell 0; have c5 := (O.get 0 rfl).cell 0)
    | (refine own_load 13 2 O rfl rfl rfl rfl rfl Try.underlying27 rfl (by kernel_rfl) ?_; simp only [Act.put, List.setIfInBounds_toArray, List.set_cons_zero, List.set_cons_succ])
    | (go_at_call 62; refine (HT.out _ O.keep).mono ?_; rintro e W ⟨rfl, K⟩; replace O := O.keeps K; clear K c4 c5; have c5 := (O.get 0 rfl).cell 0))
  go_returns
  exact ⟨⟨_, rfl, racP_nil _ _⟩, O.keep⟩
set_option maxRecDepth 100000 in
set_option maxHeartbeats 1000000 in
theorem traces_low (hS : SysIn w S A c R d) (hE : EvsAt w B n E) (hwf : ∀ i, i < n → (Lit.int .i64 (E i).a).wf = true) (most : Int) (h : (thr S E n).2.2 = 0) (h0 : most < 0) : Calls Try.prog 41 #[.agg (sysV S A c R d), .slice B n cb, .int .i64 most] w (RacPost (racesR S E (rmS S) n most) w) := by
  have O := Own.start w []
  have HT := Lib.hid (fun u (k : Keeps w u []) => show Calls Try.prog 62 #[.agg (sysV S A c R d), .slice B n cb, .slice none 0 0] u fun e w' => e = .returned (.tuple #[.int .i64 (stN E n).r, .int .i64 0]) ∧ Keeps u w' [] from by
    have hz := askN_call (cb := cb) (hS.kept k) (hE.kept k) hwf
    rw [askN_ok h] at hz
    exact hz)
  have HF := Lib.hid (show racesR S E (rmS S) n most = ([], 1) by unfold racesR; rw [if_pos h, if_pos (by omega)])
  clear h
  have q1 : decide (most < 0) = true := decide_eq_true h0
  rw [HF.out]
  clear hS hE hwf HF
  go_enter Try.func41, Try.ntmps41
  go_wp2_with (first
    | go_big_skip
    | (refine own_box 3 (sysV S A c R d) O rfl rfl rfl rfl ?_; clear O; intro W b3 O; simp only [Act.put, List.setIfInBounds_toArray, List.set_cons_zero, List.set_cons_succ])
    | (refine own_box1 4 (.slice B n cb) O rfl rfl rfl rfl rfl ?_; clear O; intro W b4 O; simp only [Act.put, List.setIfInBounds_toArray, List.set_cons_zero, List.set_cons_succ])
    | (refine own_box1 5 (.int .i64 most) O rfl rfl rfl rfl rfl ?_; clear O; intro W b5 O; simp only [Act.put, List.setIfInBounds_toArray, List.set_cons_zero, List.set_cons_succ]; have c4 := (O.get 1 rfl).cell 0; have c5 := (O.get 0 rfl).cell 0)
    | (refine own_load 13 2 O rfl rfl rfl rfl rfl Try.underlying27 rfl (by kernel_rfl) ?_; simp only [Act.put, List.setIfInBounds_toArray, List.set_cons_zero, List.set_cons_succ])
    | (go_at_call 62; refine (HT.out _ O.keep).mono ?_; rintro e W ⟨rfl, K⟩; replace O := O.keeps K; clear K c4 c5; have c5 := (O.get 0 rfl).cell 0))
  go_returns
  exact ⟨⟨_, rfl, racP_nil _ _⟩, O.keep⟩
set_option maxRecDepth 100000 in
set_option maxHeartbeats 1000000 in
theorem traces_high (hS : SysIn w S A c R d) (hE : EvsAt w B n E) (hwf : ∀ i, i < n → (Lit.int .i64 (E i).a).wf = true) (most : Int) (h : (thr S E n).2.2 = 0) (h0 : ¬ most < 0) (h1 : 4096 < most) : Calls Try.prog 41 #[.agg (sysV S A c R d), .slice B n cb, .int .i64 most] w (RacPost (racesR S E (rmS S) n most) w) := by
  have O := Own.start w []
  have HT := Lib.hid (fun u (k : Keeps w u []) => show Calls Try.prog 62 #[.agg (sysV S A c R d), .slice B n cb, .slice none 0 0] u fun e w' => e = .returned (.tuple #[.int .i64 (stN E n).r, .int .i64 0]) ∧ Keeps u w' [] from by
    have hz := askN_call (cb := cb) (hS.kept k) (hE.kept k) hwf
    rw [askN_ok h] at hz
    exact hz)
  have HF := Lib.hid (show racesR S E (rmS S) n most = ([], 1) by unfold racesR; rw [if_pos h, if_pos (by omega)])
  clear h
  have q1 : decide (most < 0) = false := decide_eq_false h0
  have q3 : decide (4096 < most) = true := decide_eq_true h1
  rw [HF.out]
  clear hS hE hwf HF
  go_enter Try.func41, Try.ntmps41
  go_wp2_with (first
    | go_big_skip
    | (refine own_box 3 (sysV S A c R d) O rfl rfl rfl rfl ?_; clear O; intro W b3 O; simp only [Act.put, List.setIfInBounds_toArray, List.set_cons_zero, List.set_cons_succ])
    | (refine own_box1 4 (.slice B n cb) O rfl rfl rfl rfl rfl ?_; clear O; intro W b4 O; simp only [Act.put, List.setIfInBounds_toArray, List.set_cons_zero, List.set_cons_succ])
    | (refine own_box1 5 (.int .i64 most) O rfl rfl rfl rfl rfl ?_; clear O; intro W b5 O; simp only [Act.put, List.setIfInBounds_toArray, List.set_cons_zero, List.set_cons_succ]; have c4 := (O.get 1 rfl).cell 0; have c5 := (O.get 0 rfl).cell 0)
    | (refine own_load 13 2 O rfl rfl rfl rfl rfl Try.underlying27 rfl (by kernel_rfl) ?_; simp only [Act.put, List.setIfInBounds_toArray, List.set_cons_zero, List.set_cons_succ])
    | (go_at_call 62; refine (HT.out _ O.keep).mono ?_; rintro e W ⟨rfl, K⟩; replace O := O.keeps K; clear K c4 c5; have c5 := (O.get 0 rfl).cell 0))
  go_returns
  exact ⟨⟨_, rfl, racP_nil _ _⟩, O.keep⟩
set_option maxRecDepth 100000 in
set_option maxHeartbeats 2000000 in
theorem traces_good (hS : SysIn w S A c R d) (hE : EvsAt w B n E) (hwf : ∀ i, i < n → (Lit.int .i64 (E i).a).wf = true) (most : Nat) (h : (thr S E n).2.2 = 0) (hm : most ≤ 4096) : Calls Try.prog 41 #[.agg (sysV S A c R d), .slice B n cb, .int .i64 (most : Int)] w (RacPost (racesR S E (rmS S) n (most : Int)) w) := by
  have O := Own.start w []
  obtain ⟨hv, hn, hok⟩ := thr_zero h
  have hl0 := stN_le E n
  obtain ⟨r, hr⟩ : ∃ r : Nat, (stN E n).r = (r : Int) := ⟨(stN E n).r.toNat, by omega⟩
  have hr6 : r ≤ 1000000 := by omega
  have HT := Lib.hid (fun u (k : Keeps w u []) => show Calls Try.prog 62 #[.agg (sysV S A c R d), .slice B n cb, .slice none 0 0] u fun e w' => e = .returned (.tuple #[.int .i64 (r : Int), .int .i64 0]) ∧ Keeps u w' [] from by
    have hz := askN_call (cb := cb) (hS.kept k) (hE.kept k) hwf
    rw [askN_ok h, hr] at hz
    exact hz)
  have hwr : ∀ i, i < n → 0 ≤ (E i).who ∧ (E i).who < (r : Int) := fun i hi => by
    have h0 := ok_head (hok i hi)
    have h2 := stN_r_mono E (show i ≤ n by omega)
    have := h0.1
    have := h0.2.1
    omega
  have HF := Lib.hid (show racesR S E (rmS S) n (most : Int) = ((raceA E (rmS S) n).take most, 0) by unfold racesR; rw [if_pos h, if_neg (by omega)]; simp)
  have HTK := Lib.hid (fun W (K : Keeps w W []) b4 b10 b5 b11 mt (h0 : RcInv w E (rmS S) B n cb most b4 b10 b5 b11 mt 0 W [b4, b10, b5, b11, mt]) (hlt : ∀ b ∈ [b4, b10, b5, b11, mt], w.heap.size ≤ b ∧ b < W.heap.size) => ticks_any (cb := cb) (m := n) (r := r) 75 #[.pointer (some ⟨b4, 0, none⟩), .pointer (some ⟨b10, 0, none⟩), .pointer (some ⟨b5, 0, none⟩), .pointer (some ⟨b11, 0, none⟩)] (RcInv w E (rmS S) B n cb most b4 b10 b5 b11 mt) (rcCont E (rmS S) most) [b4, b10, b5, b11, mt] K hS hE (val_rooms hv) hok hn hwf (by omega) hr6 fn75 (fun k => rcInv_ok) h0 hlt (fun k hk u D g h1 h2 h3 => rc_see h1 hE hk hn hm hwf h2 h3 hwr))
  have q1 : decide ((most : Int) < 0) = false := decide_eq_false (by omega)
  have q2 : ¬ (most : Int) < 0 := by omega
  have q3 : decide ((4096 : Int) < (most : Int)) = false := decide_eq_false (by omega)
  have q4 : ¬ (4096 : Int) < (most : Int) := by omega
  rw [HF.out]
  clear hS hE hwf HF h hok hv hr hwr
  go_enter Try.func41, Try.ntmps41
  go_wp2_with (first
    | go_big_skip
    | (refine own_box 3 (sysV S A c R d) O rfl rfl rfl rfl ?_; clear O; intro W b3 O; simp only [Act.put, List.setIfInBounds_toArray, List.set_cons_zero, List.set_cons_succ])
    | (refine own_box1 4 (.slice B n cb) O rfl rfl rfl rfl rfl ?_; clear O; intro W b4 O; simp only [Act.put, List.setIfInBounds_toArray, List.set_cons_zero, List.set_cons_succ])
    | (refine own_box1 5 (.int .i64 (most : Int)) O rfl rfl rfl rfl rfl ?_; clear O; intro W b5 O; simp only [Act.put, List.setIfInBounds_toArray, List.set_cons_zero, List.set_cons_succ]; have c4 := (O.get 1 rfl).cell 0; have c5 := (O.get 0 rfl).cell 0)
    | (refine own_load 13 2 O rfl rfl rfl rfl rfl Try.underlying27 rfl (by kernel_rfl) ?_; simp only [Act.put, List.setIfInBounds_toArray, List.set_cons_zero, List.set_cons_succ])
    | (go_at_call 62; refine (HT.out _ O.keep).mono ?_; rintro e W ⟨rfl, K⟩; replace O := O.keeps K; clear K c4 c5; have c5 := (O.get 0 rfl).cell 0)
    | (refine own_alloc1 10 (.slice none 0 0) O rfl rfl rfl (fun _ => by kernel_rfl) rfl ?_; clear O c5; intro W b10 O; simp only [Act.put, List.setIfInBounds_toArray, List.set_cons_zero, List.set_cons_succ])
    | (refine at_dst 27 rfl ?_; go_loud (have hW0 := O.keep.size; refine own_makeMapV 27 O rfl rfl rfl ?_; clear O; intro W mt O K M hb; clear K; have HMT := Lib.hid (Nat.le_trans hW0 hb); clear hW0 hb; simp only [Act.put, List.setIfInBounds_toArray, List.set_cons_zero, List.set_cons_succ]))
    | (refine own_alloc1K 11 (.map none) O rfl rfl rfl (fun _ => by kernel_rfl) rfl ?_; clear O; intro W b11 O K hb; replace M := M.keeps K (by simp); clear K hb; simp only [Act.put, List.setIfInBounds_toArray, List.set_cons_zero, List.set_cons_succ])
    | (refine at_store (.tmp 11) (.tmp 27) rfl ?_; go_loud (refine wpList_store_blk b11 0 128 #[.map none] (.map (some mt)) rfl rfl rfl rfl rfl (O.get 0 rfl) (by simp) rfl rfl (by kernel_rfl) ?_; intro W7 K Bn; replace M := M.keeps K (fun hq => M.not_blk (O.get 0 rfl) (List.mem_singleton.1 hq).symm); replace O := O.set 0 rfl K (cs' := #[.map (some mt)]) Bn; simp only [List.set_cons_zero] at O; clear K Bn; have c4 := (O.get 3 rfl).cell 0))
    | (refine own_load 28 4 O rfl rfl rfl rfl rfl Try.underlying27 rfl (by kernel_rfl) ?_; simp only [Act.put, List.setIfInBounds_toArray, List.set_cons_zero, List.set_cons_succ])
    | (go_at_call 72; go_loud (refine (HTK.out _ O.keep b4 b10 b5 b11 mt (rcInv_start O.keep (O.get 3 rfl) (O.get 1 rfl) (O.get 2 rfl) (O.get 0 rfl) M ⟨(own_at O 3 rfl).1, (own_at O 1 rfl).1, (own_at O 2 rfl).1, (own_at O 0 rfl).1, HMT.out⟩) (fun b hb => by simp only [List.mem_cons, List.not_mem_nil, or_false] at hb; rcases hb with rfl | rfl | rfl | rfl | rfl; (· exact own_at O 3 rfl); (· exact own_at O 1 rfl); (· exact own_at O 2 rfl); (· exact own_at O 0 rfl); (· exact ⟨HMT.out, M.lt⟩))).mono ?_; rintro e W3 ⟨rfl, K3, k, D, hI, hk⟩; have HKE := Lib.hid (race_end hk); clear hk; obtain ⟨v, f, Dc, mc, rfl, _, hK, _, h10, _, _, MM, _⟩ := hI; have HK := Lib.hid K3; obtain ⟨Av, cv, hvs, _⟩ := gr_shape MM; obtain ⟨ln, hln⟩ : ∃ ln, ln = ((raceA E (rmS S) k).take most).length := ⟨_, rfl⟩; rw [← hln] at hvs; have HMM := Lib.hid MM; have HVS := Lib.hid hvs; rw [hvs] at h10; have c10 := h10.cell 0; clear h10 hK MM hln hvs c4)))
  go_returns
  exact ⟨⟨_, rfl, by have hh := HMM.out; rw [HVS.out] at hh; show MintP 79 _ _ _ ((raceA E (rmS S) n).take most); rw [← HKE.out]; exact hh⟩, HK.out⟩
theorem traces_any (hS : SysIn w S A c R d) (hE : EvsAt w B n E) (hwf : ∀ i, i < n → (Lit.int .i64 (E i).a).wf = true) (most : Int) : Calls Try.prog 41 #[.agg (sysV S A c R d), .slice B n cb, .int .i64 most] w (RacPost (racesR S E (rmS S) n most) w) := by
  by_cases h : (thr S E n).2.2 = 0
  · by_cases h0 : most < 0
    · exact traces_low hS hE hwf most h h0
    · by_cases h1 : 4096 < most
      · exact traces_high hS hE hwf most h h0 h1
      · obtain ⟨m, rfl⟩ : ∃ m : Nat, most = (m : Int) := ⟨most.toNat, by omega⟩
        exact traces_good hS hE hwf m h (by omega)
  · exact traces_bad hS hE hwf most h
end
end Go.Proofs.Ytakmcpadkanggaa
namespace Go.Proofs.Ytakmcpadkanggaa
open Go.RowKit Go.Maps Go.Deep
def rwB (e : Ev) (cell : Int) : Bool := (decide (e.op = 12) || decide (e.op = 13)) && decide (e.a = cell)
/-- Does lock q guard the cell, behind k events? -/
def goodR (E : Nat → Ev) (cell q : Int) : Nat → Bool
  | 0 => true
  | k + 1 => goodR E cell q k && ((!rwB (E k) cell || decide (refW E q k = (E k).who)) && (!(decide ((E k).op = 9) && decide ((E k).a = q)) || decide (refW E q k = (E k).who)))
def someR (E : Nat → Ev) (cell : Int) : Nat → Bool
  | 0 => false
  | k + 1 => someR E cell k || rwB (E k) cell
/-- The first ones anew. -/
def mixG (G1 G0 : Int → Bool) (j : Nat) : Int → Bool := fun q => if q < (j : Int) then G1 q else G0 q
theorem mixG_step (G1 G0 : Int → Bool) (j : Nat) : updI (mixG G1 G0 j) (j : Nat) (G1 j) = mixG G1 G0 (j + 1) := by
  funext q
  by_cases h : q = (j : Int)
  · subst h; rw [updI_same]; simp [mixG]; omega
  · rw [updI_other _ _ _ _ h]
    simp only [mixG]
    by_cases h2 : q < (j : Int)
    · rw [if_pos h2, if_pos (by omega)]
    · rw [if_neg h2, if_neg (by omega)]
theorem arrB_congr {n : Nat} {f g : Int → Bool} (h : ∀ i : Nat, i < n → f i = g i) : arrB n f = arrB n g := by
  apply Array.ext_getElem?
  intro j
  by_cases hj : j < n
  · rw [arrB_get _ _ _ hj, arrB_get _ _ _ hj, h j hj]
  · simp [arrB, hj]
theorem mixG_zero (G1 G0 : Int → Bool) (n : Nat) : arrB n (mixG G1 G0 0) = arrB n G0 := arrB_congr fun i _ => by simp [mixG]; omega
theorem mixG_all (G1 G0 : Int → Bool) (n : Nat) : arrB n (mixG G1 G0 n) = arrB n G1 := arrB_congr fun i hi => by simp [mixG]; omega
section
variable {n : Nat} {E : Nat → Ev} {B : Option Addr} {cb : Nat}
/-- What is known where Guards calls holder. -/
structure GuardAt (w1 : World) (E : Nat → Ev) (B : Option Addr) (n cb m : Nat) (cell : Int) (pl pg pc po ga : Nat) : Prop where
  fl : Blk w1 pl 31 #[.slice B n cb]
  fg : Blk w1 pg 41 #[.slice (some ⟨ga, 0, none⟩) m m]
  fc : Blk w1 pc 3 #[.int .i64 cell]
  fo : Blk w1 po 4 #[.bool false]
  fa : Blk w1 ga 4 (arrB m fun _ => true)
  ne : ga ≠ po
  fe : EvsAt w1 B n E
  off : 0 < n → ∀ ad, B = some ad → ad.block ≠ po ∧ ad.block ≠ ga
  m64 : m ≤ 64
  hn : n ≤ 40000
  who : ∀ j, j < n → 0 ≤ (E j).who ∧ (E j).who ≤ 100000
  free : ∀ j, j < n → (E j).op = 9 → 0 ≤ (E j).a ∧ (E j).a < m
  wf : ∀ j, j < n → (Lit.int .i64 (E j).a).wf = true
structure GInv (w1 u : World) (E : Nat → Ev) (m : Nat) (cell : Int) (po ga k : Nat) : Prop where
  keep : Keeps w1 u [ga, po]
  a : Blk u ga 4 (arrB m fun q => goodR E cell q k)
  o : Blk u po 4 #[.bool (someR E cell k)]
variable {w1 u : World} {m pl pg pc po ga b k : Nat} {cell : Int}
def GPost (w1 : World) (E : Nat → Ev) (m : Nat) (cell : Int) (po ga b k : Nat) (u : World) (e : Ending) (u' : World) : Prop :=
  e = .returned (.tuple #[]) ∧ GInv w1 u' E m cell po ga (k + 1) ∧ MapI u' b k (whoF E k) ∧ ∀ g cs, Blk u g 37 cs → Blk u' g 37 cs
theorem GInv.post {u' : World} {f : Int → Bool} {s : Bool} {L : List Ent} {i j : Nat} (I : GInv w1 u E m cell po ga k) (M : MapI u b k (whoF E k)) (O : Own u u' [ga, po] L) (hi : L[i]? = some (ga, 4, arrB m f)) (hj : L[j]? = some (po, 4, #[.bool s]))
    (hf : ∀ q : Nat, q < m → f q = goodR E cell q (k + 1)) (hs : s = someR E cell (k + 1)) : GPost w1 E m cell po ga b k u (.returned (.tuple #[])) u' := by
  refine ⟨rfl, ⟨I.keep.trans O.keep (fun x hx _ => hx), by have := O.get i hi; rwa [arrB_congr (g := fun q => goodR E cell q (k + 1)) hf] at this, by rw [← hs]; exact O.get j hj⟩, M.keeps O.keep (by simpa using ⟨(M.not_blk I.a).symm, (M.not_blk I.o).symm⟩), fun g cs h => h.keeps O.keep (by simpa using ⟨h.ne I.a (by decide), h.ne I.o (by decide)⟩)⟩
set_option maxRecDepth 100000 in
set_option maxHeartbeats 1000000 in
theorem guard1_A (H : GuardAt w1 E B n cb m cell pl pg pc po ga) (hk : k < n) (I : GInv w1 u E m cell po ga k) (M : MapI u b k (whoF E k)) (who op a v : Int) (sh : Bool) (he : E k = ⟨who, op, a, v, sh⟩) (h9 : op = 9) (hw : ¬ refW E a k = who) : Calls Try.prog 67 #[.int .i64 (k : Int), .map (some b), .pointer (some ⟨pl, 0, none⟩), .pointer (some ⟨pg, 0, none⟩), .pointer (some ⟨pc, 0, none⟩), .pointer (some ⟨po, 0, none⟩)] u (GPost w1 E m cell po ga b k u) := by
  have O := ((Own.start u [ga, po]).have_ I.a (by simp) (by simp)).have_ I.o (by simp) (by simpa using H.ne)
  have HP := Lib.hid (fun (u' : World) (f : Int → Bool) (s : Bool) (L : List Ent) (i j : Nat) => I.post (u' := u') (f := f) (s := s) (L := L) (i := i) (j := j) M)
  have npl : pl ≠ ga ∧ pl ≠ po := ⟨H.fl.ne H.fa (by decide), H.fl.ne H.fo (by decide)⟩
  have npg : pg ≠ ga ∧ pg ≠ po := ⟨H.fg.ne H.fa (by decide), H.fg.ne H.fo (by decide)⟩
  have npc : pc ≠ ga ∧ pc ≠ po := ⟨H.fc.ne H.fa (by decide), H.fc.ne H.fo (by decide)⟩
  have CL := Lib.hid (fun W (K : Keeps u W [ga, po]) => (H.fl.keeps (I.keep.trans K (fun x hx _ => hx)) (by simpa using npl)).cell 0)
  have CG := Lib.hid (fun W (K : Keeps u W [ga, po]) => (H.fg.keeps (I.keep.trans K (fun x hx _ => hx)) (by simpa using npg)).cell 0)
  have CC := Lib.hid (fun W (K : Keeps u W [ga, po]) => (H.fc.keeps (I.keep.trans K (fun x hx _ => hx)) (by simpa using npc)).cell 0)
  have LK := Lib.hid (fun W (K : Keeps u W [ga, po]) (q : Int) (hq : (Lit.int .i64 q).wf = true) => (show (Instr.lookup 117 (.map (some b)) (.int .i64 q) false).run Try.prog W = .ok (.int .i64 (refW E q k + 1)) W from by have := look_eqI (M.keeps K (by simpa using ⟨(M.not_blk I.a).symm, (M.not_blk I.o).symm⟩)) 117 Try.underlying117 q hq; rwa [whoF_ref] at this))
  have HWF := Lib.hid (show (Lit.int .i64 a).wf = true by have := H.wf k hk; rwa [he] at this)
  have HWO := Lib.hid (show 0 ≤ who ∧ who ≤ 100000 by have := H.who k hk; rwa [he] at this)
  have HFR := Lib.hid (show op = 9 → 0 ≤ a ∧ a < m by have := H.free k hk; rwa [he] at this)
  have r1 : IntKind.i64.wrap (who + 1) = who + 1 := IntWalk.i64_in _ (by have := HWO.out; omega)
  have b1 := H.m64
  have g1 : ((k : Nat) : Int) < n := by omega
  have g0 : (0 : Int) ≤ k := by omega
  obtain ⟨ad, hB, hc⟩ := EvsAt.row (u := w1) H.fe hk
  have HC := Lib.hid (fun W (K : Keeps u W [ga, po]) => hc [ga, po] W (I.keep.trans K (fun x hx _ => hx)) (by simpa using ⟨(H.off (by omega) ad hB).2, (H.off (by omega) ad hB).1⟩))
  subst hB
  have HG0 := Lib.hid (show ∀ q, goodR E cell q (k + 1) = (goodR E cell q k && ((!rwB (E k) cell || decide (refW E q k = (E k).who)) && (!(decide ((E k).op = 9) && decide ((E k).a = q)) || decide (refW E q k = (E k).who)))) from fun q => rfl)
  have HS0 := Lib.hid (show someR E cell (k + 1) = (someR E cell k || rwB (E k) cell) from rfl)
  rw [he] at HC HG0 HS0
  subst h9
  obtain ⟨aN, rfl⟩ : ∃ aN : Nat, a = (aN : Int) := ⟨a.toNat, by have := HFR.out rfl; omega⟩
  have e1 : (refW E aN k + 1 != who + 1) = true := by simpa using (show ¬ refW E aN k + 1 = who + 1 by omega)
  have g3 : ((aN : Nat) : Int) < m := (HFR.out rfl).2
  have g4 : (0 : Int) ≤ aN := by omega
  have ak := add_zero_ ga aN
  clear hc H I M npl npg npc he
  go_enter Try.func67, Try.ntmps67
  have cl := CL.out _ O.keep
  go_wp2_with (first
    | go_big_skip
    | (refine wpList_load_at 13 rfl rfl rfl rfl (HC.out _ O.keep) Try.underlying37 rfl (by kernel_rfl) ?_; simp only [Act.put, List.setIfInBounds_toArray, List.set_cons_zero, List.set_cons_succ])
    | (refine own_alloc 8 (evC ⟨0, 0, 0, 0, false⟩) O rfl rfl rfl (fun _ => by kernel_rfl) ?_; clear O; intro W a8 O; simp only [Act.put, List.setIfInBounds_toArray, List.set_cons_zero, List.set_cons_succ]; clear cl)
    | (refine own_store_row 0 (.tmp 8) (.tmp 13) O rfl rfl rfl rfl rfl rfl (by kernel_rfl) (by rfl) (evC_cell _) ?_; clear O; intro W O; simp only [List.set_cons_zero] at O; have cl := CL.out _ O.keep; have cg := CG.out _ O.keep; have cc := CC.out _ O.keep; have c8 : ∀ i, W.cell? ⟨a8, i, none⟩ = #[Value.int .i64 who, .int .i64 9, .int .i64 (aN : Int), .int .i64 v, .bool sh][i]? := (O.get 0 rfl).cell; have lk := LK.out _ O.keep _ HWF.out)
    | (refine own_store 2 aN (.bool false) (.tmp 31) (.const (.bool false)) O rfl rfl rfl rfl rfl rfl (by simp only [arrB_size]; omega) rfl rfl (by kernel_rfl) (arrB_set _ _ _ _) ?_; clear O; intro W O; simp only [List.set_cons_zero, List.set_cons_succ] at O))
  go_returns
  refine HP.out _ _ _ _ 2 1 O rfl rfl (fun q hq => ?_) ?_
  · rw [HG0.out]
    by_cases hqa : q = aN
    · subst hqa; rw [updI_same]; simp [rwB, hw]
    · rw [updI_other _ _ _ _ (by omega)]; simp [rwB]; omega
  · rw [HS0.out]; simp [rwB]
set_option maxRecDepth 100000 in
set_option maxHeartbeats 1000000 in
theorem guard1_B (H : GuardAt w1 E B n cb m cell pl pg pc po ga) (hk : k < n) (I : GInv w1 u E m cell po ga k) (M : MapI u b k (whoF E k)) (who op a v : Int) (sh : Bool) (he : E k = ⟨who, op, a, v, sh⟩) (h9 : op = 9) (hw : refW E a k = who) : Calls Try.prog 67 #[.int .i64 (k : Int), .map (some b), .pointer (some ⟨pl, 0, none⟩), .pointer (some ⟨pg, 0, none⟩), .pointer (some ⟨pc, 0, none⟩), .pointer (some ⟨po, 0, none⟩)] u (GPost w1 E m cell po ga b k u) := by
  have O := ((Own.start u [ga, po]).have_ I.a (by simp) (by simp)).have_ I.o (by simp) (by simpa using H.ne)
  have HP := Lib.hid (fun (u' : World) (f : Int → Bool) (s : Bool) (L : List Ent) (i j : Nat) => I.post (u' := u') (f := f) (s := s) (L := L) (i := i) (j := j) M)
  have npl : pl ≠ ga ∧ pl ≠ po := ⟨H.fl.ne H.fa (by decide), H.fl.ne H.fo (by decide)⟩
  have npg : pg ≠ ga ∧ pg ≠ po := ⟨H.fg.ne H.fa (by decide), H.fg.ne H.fo (by decide)⟩
  have npc : pc ≠ ga ∧ pc ≠ po := ⟨H.fc.ne H.fa (by decide), H.fc.ne H.fo (by decide)⟩
  have CL := Lib.hid (fun W (K : Keeps u W [ga, po]) => (H.fl.keeps (I.keep.trans K (fun x hx _ => hx)) (by simpa using npl)).cell 0)
  have CG := Lib.hid (fun W (K : Keeps u W [ga, po]) => (H.fg.keeps (I.keep.trans K (fun x hx _ => hx)) (by simpa using npg)).cell 0)
  have CC := Lib.hid (fun W (K : Keeps u W [ga, po]) => (H.fc.keeps (I.keep.trans K (fun x hx _ => hx)) (by simpa using npc)).cell 0)
  have LK := Lib.hid (fun W (K : Keeps u W [ga, po]) (q : Int) (hq : (Lit.int .i64 q).wf = true) => (show (Instr.lookup 117 (.map (some b)) (.int .i64 q) false).run Try.prog W = .ok (.int .i64 (refW E q k + 1)) W from by have := look_eqI (M.keeps K (by simpa using ⟨(M.not_blk I.a).symm, (M.not_blk I.o).symm⟩)) 117 Try.underlying117 q hq; rwa [whoF_ref] at this))
  have HWF := Lib.hid (show (Lit.int .i64 a).wf = true by have := H.wf k hk; rwa [he] at this)
  have HWO := Lib.hid (show 0 ≤ who ∧ who ≤ 100000 by have := H.who k hk; rwa [he] at this)
  have HFR := Lib.hid (show op = 9 → 0 ≤ a ∧ a < m by have := H.free k hk; rwa [he] at this)
  have r1 : IntKind.i64.wrap (who + 1) = who + 1 := IntWalk.i64_in _ (by have := HWO.out; omega)
  have b1 := H.m64
  have g1 : ((k : Nat) : Int) < n := by omega
  have g0 : (0 : Int) ≤ k := by omega
  obtain ⟨ad, hB, hc⟩ := EvsAt.row (u := w1) H.fe hk
  have HC := Lib.hid (fun W (K : Keeps u W [ga, po]) => hc [ga, po] W (I.keep.trans K (fun x hx _ => hx)) (by simpa using ⟨(H.off (by omega) ad hB).2, (H.off (by omega) ad hB).1⟩))
  subst hB
  have HG0 := Lib.hid (show ∀ q, goodR E cell q (k + 1) = (goodR E cell q k && ((!rwB (E k) cell || decide (refW E q k = (E k).who)) && (!(decide ((E k).op = 9) && decide ((E k).a = q)) || decide (refW E q k = (E k).who)))) from fun q => rfl)
  have HS0 := Lib.hid (show someR E cell (k + 1) = (someR E cell k || rwB (E k) cell) from rfl)
  rw [he] at HC HG0 HS0
  subst h9
  have e1 : (who + 1 != who + 1) = false := by simp
  have HW := Lib.hid hw
  clear hw
  clear hc H I M npl npg npc he
  go_enter Try.func67, Try.ntmps67
  have cl := CL.out _ O.keep
  go_wp2_with (first
    | go_big_skip
    | (refine wpList_load_at 13 rfl rfl rfl rfl (HC.out _ O.keep) Try.underlying37 rfl (by kernel_rfl) ?_; simp only [Act.put, List.setIfInBounds_toArray, List.set_cons_zero, List.set_cons_succ])
    | (refine own_alloc 8 (evC ⟨0, 0, 0, 0, false⟩) O rfl rfl rfl (fun _ => by kernel_rfl) ?_; clear O; intro W a8 O; simp only [Act.put, List.setIfInBounds_toArray, List.set_cons_zero, List.set_cons_succ]; clear cl)
    | (refine own_store_row 0 (.tmp 8) (.tmp 13) O rfl rfl rfl rfl rfl rfl (by kernel_rfl) (by rfl) (evC_cell _) ?_; clear O; intro W O; simp only [List.set_cons_zero] at O; have cl := CL.out _ O.keep; have cg := CG.out _ O.keep; have cc := CC.out _ O.keep; have c8 : ∀ i, W.cell? ⟨a8, i, none⟩ = #[Value.int .i64 who, .int .i64 9, .int .i64 a, .int .i64 v, .bool sh][i]? := (O.get 0 rfl).cell; have lk := LK.out _ O.keep _ HWF.out; rw [HW.out] at lk))
  go_returns
  refine HP.out _ _ _ _ 2 1 O rfl rfl (fun q hq => ?_) ?_
  · rw [HG0.out]; by_cases hqa : a = (q : Int)
    · rw [← hqa]; simp [rwB, HW.out]
    · simp [rwB, hqa]
  · rw [HS0.out]; simp [rwB]
set_option maxRecDepth 100000 in
set_option maxHeartbeats 1000000 in
theorem guard1_D12 (H : GuardAt w1 E B n cb m cell pl pg pc po ga) (hk : k < n) (I : GInv w1 u E m cell po ga k) (M : MapI u b k (whoF E k)) (who op a v : Int) (sh : Bool) (he : E k = ⟨who, op, a, v, sh⟩) (ho : op = 12) (hw : ¬ a = cell) : Calls Try.prog 67 #[.int .i64 (k : Int), .map (some b), .pointer (some ⟨pl, 0, none⟩), .pointer (some ⟨pg, 0, none⟩), .pointer (some ⟨pc, 0, none⟩), .pointer (some ⟨po, 0, none⟩)] u (GPost w1 E m cell po ga b k u) := by
  have O := ((Own.start u [ga, po]).have_ I.a (by simp) (by simp)).have_ I.o (by simp) (by simpa using H.ne)
  have HP := Lib.hid (fun (u' : World) (f : Int → Bool) (s : Bool) (L : List Ent) (i j : Nat) => I.post (u' := u') (f := f) (s := s) (L := L) (i := i) (j := j) M)
  have npl : pl ≠ ga ∧ pl ≠ po := ⟨H.fl.ne H.fa (by decide), H.fl.ne H.fo (by decide)⟩
  have npg : pg ≠ ga ∧ pg ≠ po := ⟨H.fg.ne H.fa (by decide), H.fg.ne H.fo (by decide)⟩
  have npc : pc ≠ ga ∧ pc ≠ po := ⟨H.fc.ne H.fa (by decide), H.fc.ne H.fo (by decide)⟩
  have CL := Lib.hid (fun W (K : Keeps u W [ga, po]) => (H.fl.keeps (I.keep.trans K (fun x hx _ => hx)) (by simpa using npl)).cell 0)
  have CG := Lib.hid (fun W (K : Keeps u W [ga, po]) => (H.fg.keeps (I.keep.trans K (fun x hx _ => hx)) (by simpa using npg)).cell 0)
  have CC := Lib.hid (fun W (K : Keeps u W [ga, po]) => (H.fc.keeps (I.keep.trans K (fun x hx _ => hx)) (by simpa using npc)).cell 0)
  have LK := Lib.hid (fun W (K : Keeps u W [ga, po]) (q : Int) (hq : (Lit.int .i64 q).wf = true) => (show (Instr.lookup 117 (.map (some b)) (.int .i64 q) false).run Try.prog W = .ok (.int .i64 (refW E q k + 1)) W from by have := look_eqI (M.keeps K (by simpa using ⟨(M.not_blk I.a).symm, (M.not_blk I.o).symm⟩)) 117 Try.underlying117 q hq; rwa [whoF_ref] at this))
  have HWF := Lib.hid (show (Lit.int .i64 a).wf = true by have := H.wf k hk; rwa [he] at this)
  have HWO := Lib.hid (show 0 ≤ who ∧ who ≤ 100000 by have := H.who k hk; rwa [he] at this)
  have HFR := Lib.hid (show op = 9 → 0 ≤ a ∧ a < m by have := H.free k hk; rwa [he] at this)
  have r1 : IntKind.i64.wrap (who + 1) = who + 1 := IntWalk.i64_in _ (by have := HWO.out; omega)
  have b1 := H.m64
  have g1 : ((k : Nat) : Int) < n := by omega
  have g0 : (0 : Int) ≤ k := by omega
  obtain ⟨ad, hB, hc⟩ := EvsAt.row (u := w1) H.fe hk
  have HC := Lib.hid (fun W (K : Keeps u W [ga, po]) => hc [ga, po] W (I.keep.trans K (fun x hx _ => hx)) (by simpa using ⟨(H.off (by omega) ad hB).2, (H.off (by omega) ad hB).1⟩))
  subst hB
  have HG0 := Lib.hid (show ∀ q, goodR E cell q (k + 1) = (goodR E cell q k && ((!rwB (E k) cell || decide (refW E q k = (E k).who)) && (!(decide ((E k).op = 9) && decide ((E k).a = q)) || decide (refW E q k = (E k).who)))) from fun q => rfl)
  have HS0 := Lib.hid (show someR E cell (k + 1) = (someR E cell k || rwB (E k) cell) from rfl)
  rw [he] at HC HG0 HS0
  subst ho
  have ea : (a == cell) = false := by simpa using hw
  clear hc H I M npl npg npc he
  go_enter Try.func67, Try.ntmps67
  have cl := CL.out _ O.keep
  go_wp2_with (first
    | go_big_skip
    | (refine wpList_load_at 13 rfl rfl rfl rfl (HC.out _ O.keep) Try.underlying37 rfl (by kernel_rfl) ?_; simp only [Act.put, List.setIfInBounds_toArray, List.set_cons_zero, List.set_cons_succ])
    | (refine own_alloc 8 (evC ⟨0, 0, 0, 0, false⟩) O rfl rfl rfl (fun _ => by kernel_rfl) ?_; clear O; intro W a8 O; simp only [Act.put, List.setIfInBounds_toArray, List.set_cons_zero, List.set_cons_succ]; clear cl)
    | (refine own_store_row 0 (.tmp 8) (.tmp 13) O rfl rfl rfl rfl rfl rfl (by kernel_rfl) (by rfl) (evC_cell _) ?_; clear O; intro W O; simp only [List.set_cons_zero] at O; have cl := CL.out _ O.keep; have cg := CG.out _ O.keep; have cc := CC.out _ O.keep; have c8 : ∀ i, W.cell? ⟨a8, i, none⟩ = #[Value.int .i64 who, .int .i64 12, .int .i64 a, .int .i64 v, .bool sh][i]? := (O.get 0 rfl).cell))
  go_returns
  refine HP.out _ _ _ _ 2 1 O rfl rfl (fun q hq => ?_) ?_
  · rw [HG0.out]; simp [rwB, hw]
  · rw [HS0.out]; simp [rwB, hw]
set_option maxRecDepth 100000 in
set_option maxHeartbeats 1000000 in
theorem guard1_D13 (H : GuardAt w1 E B n cb m cell pl pg pc po ga) (hk : k < n) (I : GInv w1 u E m cell po ga k) (M : MapI u b k (whoF E k)) (who op a v : Int) (sh : Bool) (he : E k = ⟨who, op, a, v, sh⟩) (ho : op = 13) (hw : ¬ a = cell) : Calls Try.prog 67 #[.int .i64 (k : Int), .map (some b), .pointer (some ⟨pl, 0, none⟩), .pointer (some ⟨pg, 0, none⟩), .pointer (some ⟨pc, 0, none⟩), .pointer (some ⟨po, 0, none⟩)] u (GPost w1 E m cell po ga b k u) := by
  have O := ((Own.start u [ga, po]).have_ I.a (by simp) (by simp)).have_ I.o (by simp) (by simpa using H.ne)
  have HP := Lib.hid (fun (u' : World) (f : Int → Bool) (s : Bool) (L : List Ent) (i j : Nat) => I.post (u' := u') (f := f) (s := s) (L := L) (i := i) (j := j) M)
  have npl : pl ≠ ga ∧ pl ≠ po := ⟨H.fl.ne H.fa (by decide), H.fl.ne H.fo (by decide)⟩
  have npg : pg ≠ ga ∧ pg ≠ po := ⟨H.fg.ne H.fa (by decide), H.fg.ne H.fo (by decide)⟩
  have npc : pc ≠ ga ∧ pc ≠ po := ⟨H.fc.ne H.fa (by decide), H.fc.ne H.fo (by decide)⟩
  have CL := Lib.hid (fun W (K : Keeps u W [ga, po]) => (H.fl.keeps (I.keep.trans K (fun x hx _ => hx)) (by simpa using npl)).cell 0)
  have CG := Lib.hid (fun W (K : Keeps u W [ga, po]) => (H.fg.keeps (I.keep.trans K (fun x hx _ => hx)) (by simpa using npg)).cell 0)
  have CC := Lib.hid (fun W (K : Keeps u W [ga, po]) => (H.fc.keeps (I.keep.trans K (fun x hx _ => hx)) (by simpa using npc)).cell 0)
  have LK := Lib.hid (fun W (K : Keeps u W [ga, po]) (q : Int) (hq : (Lit.int .i64 q).wf = true) => (show (Instr.lookup 117 (.map (some b)) (.int .i64 q) false).run Try.prog W = .ok (.int .i64 (refW E q k + 1)) W from by have := look_eqI (M.keeps K (by simpa using ⟨(M.not_blk I.a).symm, (M.not_blk I.o).symm⟩)) 117 Try.underlying117 q hq; rwa [whoF_ref] at this))
  have HWF := Lib.hid (show (Lit.int .i64 a).wf = true by have := H.wf k hk; rwa [he] at this)
  have HWO := Lib.hid (show 0 ≤ who ∧ who ≤ 100000 by have := H.who k hk; rwa [he] at this)
  have HFR := Lib.hid (show op = 9 → 0 ≤ a ∧ a < m by have := H.free k hk; rwa [he] at this)
  have r1 : IntKind.i64.wrap (who + 1) = who + 1 := IntWalk.i64_in _ (by have := HWO.out; omega)
  have b1 := H.m64
  have g1 : ((k : Nat) : Int) < n := by omega
  have g0 : (0 : Int) ≤ k := by omega
  obtain ⟨ad, hB, hc⟩ := EvsAt.row (u := w1) H.fe hk
  have HC := Lib.hid (fun W (K : Keeps u W [ga, po]) => hc [ga, po] W (I.keep.trans K (fun x hx _ => hx)) (by simpa using ⟨(H.off (by omega) ad hB).2, (H.off (by omega) ad hB).1⟩))
  subst hB
  have HG0 := Lib.hid (show ∀ q, goodR E cell q (k + 1) = (goodR E cell q k && ((!rwB (E k) cell || decide (refW E q k = (E k).who)) && (!(decide ((E k).op = 9) && decide ((E k).a = q)) || decide (refW E q k = (E k).who)))) from fun q => rfl)
  have HS0 := Lib.hid (show someR E cell (k + 1) = (someR E cell k || rwB (E k) cell) from rfl)
  rw [he] at HC HG0 HS0
  subst ho
  have ea : (a == cell) = false := by simpa using hw
  clear hc H I M npl npg npc he
  go_enter Try.func67, Try.ntmps67
  have cl := CL.out _ O.keep
  go_wp2_with (first
    | go_big_skip
    | (refine wpList_load_at 13 rfl rfl rfl rfl (HC.out _ O.keep) Try.underlying37 rfl (by kernel_rfl) ?_; simp only [Act.put, List.setIfInBounds_toArray, List.set_cons_zero, List.set_cons_succ])
    | (refine own_alloc 8 (evC ⟨0, 0, 0, 0, false⟩) O rfl rfl rfl (fun _ => by kernel_rfl) ?_; clear O; intro W a8 O; simp only [Act.put, List.setIfInBounds_toArray, List.set_cons_zero, List.set_cons_succ]; clear cl)
    | (refine own_store_row 0 (.tmp 8) (.tmp 13) O rfl rfl rfl rfl rfl rfl (by kernel_rfl) (by rfl) (evC_cell _) ?_; clear O; intro W O; simp only [List.set_cons_zero] at O; have cl := CL.out _ O.keep; have cg := CG.out _ O.keep; have cc := CC.out _ O.keep; have c8 : ∀ i, W.cell? ⟨a8, i, none⟩ = #[Value.int .i64 who, .int .i64 13, .int .i64 a, .int .i64 v, .bool sh][i]? := (O.get 0 rfl).cell))
  go_returns
  refine HP.out _ _ _ _ 2 1 O rfl rfl (fun q hq => ?_) ?_
  · rw [HG0.out]; simp [rwB, hw]
  · rw [HS0.out]; simp [rwB, hw]
set_option maxRecDepth 100000 in
set_option maxHeartbeats 1000000 in
theorem guard1_E (H : GuardAt w1 E B n cb m cell pl pg pc po ga) (hk : k < n) (I : GInv w1 u E m cell po ga k) (M : MapI u b k (whoF E k)) (who op a v : Int) (sh : Bool) (he : E k = ⟨who, op, a, v, sh⟩) (h9 : ¬ op = 9) (h12 : ¬ op = 12) (h13 : ¬ op = 13) : Calls Try.prog 67 #[.int .i64 (k : Int), .map (some b), .pointer (some ⟨pl, 0, none⟩), .pointer (some ⟨pg, 0, none⟩), .pointer (some ⟨pc, 0, none⟩), .pointer (some ⟨po, 0, none⟩)] u (GPost w1 E m cell po ga b k u) := by
  have O := ((Own.start u [ga, po]).have_ I.a (by simp) (by simp)).have_ I.o (by simp) (by simpa using H.ne)
  have HP := Lib.hid (fun (u' : World) (f : Int → Bool) (s : Bool) (L : List Ent) (i j : Nat) => I.post (u' := u') (f := f) (s := s) (L := L) (i := i) (j := j) M)
  have npl : pl ≠ ga ∧ pl ≠ po := ⟨H.fl.ne H.fa (by decide), H.fl.ne H.fo (by decide)⟩
  have npg : pg ≠ ga ∧ pg ≠ po := ⟨H.fg.ne H.fa (by decide), H.fg.ne H.fo (by decide)⟩
  have npc : pc ≠ ga ∧ pc ≠ po := ⟨H.fc.ne H.fa (by decide), H.fc.ne H.fo (by decide)⟩
  have CL := Lib.hid (fun W (K : Keeps u W [ga, po]) => (H.fl.keeps (I.keep.trans K (fun x hx _ => hx)) (by simpa using npl)).cell 0)
  have CG := Lib.hid (fun W (K : Keeps u W [ga, po]) => (H.fg.keeps (I.keep.trans K (fun x hx _ => hx)) (by simpa using npg)).cell 0)
  have CC := Lib.hid (fun W (K : Keeps u W [ga, po]) => (H.fc.keeps (I.keep.trans K (fun x hx _ => hx)) (by simpa using npc)).cell 0)
  have LK := Lib.hid (fun W (K : Keeps u W [ga, po]) (q : Int) (hq : (Lit.int .i64 q).wf = true) => (show (Instr.lookup 117 (.map (some b)) (.int .i64 q) false).run Try.prog W = .ok (.int .i64 (refW E q k + 1)) W from by have := look_eqI (M.keeps K (by simpa using ⟨(M.not_blk I.a).symm, (M.not_blk I.o).symm⟩)) 117 Try.underlying117 q hq; rwa [whoF_ref] at this))
  have HWF := Lib.hid (show (Lit.int .i64 a).wf = true by have := H.wf k hk; rwa [he] at this)
  have HWO := Lib.hid (show 0 ≤ who ∧ who ≤ 100000 by have := H.who k hk; rwa [he] at this)
  have HFR := Lib.hid (show op = 9 → 0 ≤ a ∧ a < m by have := H.free k hk; rwa [he] at this)
  have r1 : IntKind.i64.wrap (who + 1) = who + 1 := IntWalk.i64_in _ (by have := HWO.out; omega)
  have b1 := H.m64
  have g1 : ((k : Nat) : Int) < n := by omega
  have g0 : (0 : Int) ≤ k := by omega
  obtain ⟨ad, hB, hc⟩ := EvsAt.row (u := w1) H.fe hk
  have HC := Lib.hid (fun W (K : Keeps u W [ga, po]) => hc [ga, po] W (I.keep.trans K (fun x hx _ => hx)) (by simpa using ⟨(H.off (by omega) ad hB).2, (H.off (by omega) ad hB).1⟩))
  subst hB
  have HG0 := Lib.hid (show ∀ q, goodR E cell q (k + 1) = (goodR E cell q k && ((!rwB (E k) cell || decide (refW E q k = (E k).who)) && (!(decide ((E k).op = 9) && decide ((E k).a = q)) || decide (refW E q k = (E k).who)))) from fun q => rfl)
  have HS0 := Lib.hid (show someR E cell (k + 1) = (someR E cell k || rwB (E k) cell) from rfl)
  rw [he] at HC HG0 HS0
  clear hc H I M npl npg npc he
  go_enter Try.func67, Try.ntmps67
  have cl := CL.out _ O.keep
  go_wp2_with (first
    | go_big_skip
    | (refine wpList_load_at 13 rfl rfl rfl rfl (HC.out _ O.keep) Try.underlying37 rfl (by kernel_rfl) ?_; simp only [Act.put, List.setIfInBounds_toArray, List.set_cons_zero, List.set_cons_succ])
    | (refine own_alloc 8 (evC ⟨0, 0, 0, 0, false⟩) O rfl rfl rfl (fun _ => by kernel_rfl) ?_; clear O; intro W a8 O; simp only [Act.put, List.setIfInBounds_toArray, List.set_cons_zero, List.set_cons_succ]; clear cl)
    | (refine own_store_row 0 (.tmp 8) (.tmp 13) O rfl rfl rfl rfl rfl rfl (by kernel_rfl) (by rfl) (evC_cell _) ?_; clear O; intro W O; simp only [List.set_cons_zero] at O; have cl := CL.out _ O.keep; have cg := CG.out _ O.keep; have cc := CC.out _ O.keep; have c8 : ∀ i, W.cell? ⟨a8, i, none⟩ = #[Value.int .i64 who, .int .i64 op, .int .i64 a, .int .i64 v, .bool sh][i]? := (O.get 0 rfl).cell))
  go_returns
  refine HP.out _ _ _ _ 2 1 O rfl rfl (fun q hq => ?_) ?_
  · rw [HG0.out]; simp [rwB, h9, h12, h13]
  · rw [HS0.out]; simp [rwB, h12, h13]
set_option maxRecDepth 100000 in
set_option maxHeartbeats 1000000 in
theorem guard1_C12 (H : GuardAt w1 E B n cb m cell pl pg pc po ga) (hk : k < n) (I : GInv w1 u E m cell po ga k) (M : MapI u b k (whoF E k)) (who op a v : Int) (sh : Bool) (he : E k = ⟨who, op, a, v, sh⟩) (ho : op = 12) (hw : a = cell) : Calls Try.prog 67 #[.int .i64 (k : Int), .map (some b), .pointer (some ⟨pl, 0, none⟩), .pointer (some ⟨pg, 0, none⟩), .pointer (some ⟨pc, 0, none⟩), .pointer (some ⟨po, 0, none⟩)] u (GPost w1 E m cell po ga b k u) := by
  have O := ((Own.start u [ga, po]).have_ I.a (by simp) (by simp)).have_ I.o (by simp) (by simpa using H.ne)
  have HP := Lib.hid (fun (u' : World) (f : Int → Bool) (s : Bool) (L : List Ent) (i j : Nat) => I.post (u' := u') (f := f) (s := s) (L := L) (i := i) (j := j) M)
  have npl : pl ≠ ga ∧ pl ≠ po := ⟨H.fl.ne H.fa (by decide), H.fl.ne H.fo (by decide)⟩
  have npg : pg ≠ ga ∧ pg ≠ po := ⟨H.fg.ne H.fa (by decide), H.fg.ne H.fo (by decide)⟩
  have npc : pc ≠ ga ∧ pc ≠ po := ⟨H.fc.ne H.fa (by decide), H.fc.ne H.fo (by decide)⟩
  have CL := Lib.hid (fun W (K : Keeps u W [ga, po]) => (H.fl.keeps (I.keep.trans K (fun x hx _ => hx)) (by simpa using npl)).cell 0)
  have CG := Lib.hid (fun W (K : Keeps u W [ga, po]) => (H.fg.keeps (I.keep.trans K (fun x hx _ => hx)) (by simpa using npg)).cell 0)
  have CC := Lib.hid (fun W (K : Keeps u W [ga, po]) => (H.fc.keeps (I.keep.trans K (fun x hx _ => hx)) (by simpa using npc)).cell 0)
  have LK := Lib.hid (fun W (K : Keeps u W [ga, po]) (q : Int) (hq : (Lit.int .i64 q).wf = true) => (show (Instr.lookup 117 (.map (some b)) (.int .i64 q) false).run Try.prog W = .ok (.int .i64 (refW E q k + 1)) W from by have := look_eqI (M.keeps K (by simpa using ⟨(M.not_blk I.a).symm, (M.not_blk I.o).symm⟩)) 117 Try.underlying117 q hq; rwa [whoF_ref] at this))
  have HWF := Lib.hid (show (Lit.int .i64 a).wf = true by have := H.wf k hk; rwa [he] at this)
  have HWO := Lib.hid (show 0 ≤ who ∧ who ≤ 100000 by have := H.who k hk; rwa [he] at this)
  have HFR := Lib.hid (show op = 9 → 0 ≤ a ∧ a < m by have := H.free k hk; rwa [he] at this)
  have r1 : IntKind.i64.wrap (who + 1) = who + 1 := IntWalk.i64_in _ (by have := HWO.out; omega)
  have b1 := H.m64
  have g1 : ((k : Nat) : Int) < n := by omega
  have g0 : (0 : Int) ≤ k := by omega
  obtain ⟨ad, hB, hc⟩ := EvsAt.row (u := w1) H.fe hk
  have HC := Lib.hid (fun W (K : Keeps u W [ga, po]) => hc [ga, po] W (I.keep.trans K (fun x hx _ => hx)) (by simpa using ⟨(H.off (by omega) ad hB).2, (H.off (by omega) ad hB).1⟩))
  subst hB
  have HG0 := Lib.hid (show ∀ q, goodR E cell q (k + 1) = (goodR E cell q k && ((!rwB (E k) cell || decide (refW E q k = (E k).who)) && (!(decide ((E k).op = 9) && decide ((E k).a = q)) || decide (refW E q k = (E k).who)))) from fun q => rfl)
  have HS0 := Lib.hid (show someR E cell (k + 1) = (someR E cell k || rwB (E k) cell) from rfl)
  rw [he] at HC HG0 HS0
  subst ho
  subst hw
  have ea : (a == a) = true := by simp
  clear hc H I M npl npg npc he
  go_enter Try.func67, Try.ntmps67
  have cl := CL.out _ O.keep
  go_wp2_with (first
    | go_big_skip
    | (refine wpList_load_at 13 rfl rfl rfl rfl (HC.out _ O.keep) Try.underlying37 rfl (by kernel_rfl) ?_; simp only [Act.put, List.setIfInBounds_toArray, List.set_cons_zero, List.set_cons_succ])
    | (refine own_alloc 8 (evC ⟨0, 0, 0, 0, false⟩) O rfl rfl rfl (fun _ => by kernel_rfl) ?_; clear O; intro W a8 O; simp only [Act.put, List.setIfInBounds_toArray, List.set_cons_zero, List.set_cons_succ]; clear cl)
    | (refine own_store_row 0 (.tmp 8) (.tmp 13) O rfl rfl rfl rfl rfl rfl (by kernel_rfl) (by rfl) (evC_cell _) ?_; clear O; intro W O; simp only [List.set_cons_zero] at O; have cl := CL.out _ O.keep; have cg := CG.out _ O.keep; have cc := CC.out _ O.keep; have c8 : ∀ i, W.cell? ⟨a8, i, none⟩ = #[Value.int .i64 who, .int .i64 12, .int .i64 a, .int .i64 v, .bool sh][i]? := (O.get 0 rfl).cell)
    | (refine own_store 1 0 (.bool true) (.tmp 5) (.const (.bool true)) O rfl rfl rfl rfl rfl rfl (by show 0 < 1; omega) rfl rfl (by kernel_rfl) rfl ?_; clear O; intro W O; simp only [List.set_cons_zero, List.set_cons_succ] at O; clear cl cg cc c8; have cg := CG.out _ O.keep))
  clear cg ea
  go_loopw [49] (fun i wr => ∃ j : Nat, j ≤ m ∧ i = .int .i64 j ∧ Own u wr [ga, po] [(a8, 37, evC ⟨who, 12, a, v, sh⟩), (po, 4, #[.bool true]), (ga, 4, arrB m (mixG (fun q => goodR E a q (k + 1)) (fun q => goodR E a q k) j))]) (fun i _ => m - (intOf i).toNat)
  case atStart => exact ⟨0, by omega, rfl, O.put 2 rfl (mixG_zero _ _ _).symm⟩
  case round =>
    obtain ⟨j, hj, rfl, O⟩ := hrel
    by_cases hlt : j < m
    · have g2 : ((j : Int)) < m := by omega
      have g3 : (0 : Int) ≤ j := by omega
      have ak := add_zero_ ga j
      have HGj := Lib.hid (show goodR E a (j : Int) (k + 1) = (goodR E a j k && decide (refW E j k = who)) by rw [HG0.out]; simp [rwB])
      have cgL : ∀ p : Later wr, p.1.cell? ⟨pg, 0, none⟩ = some (.slice (some ⟨ga, 0, none⟩) m m) := fun p => CG.out _ (O.keep.trans p.2 (by simp))
      have cj : ∀ p : Later wr, p.1.cell? ⟨ga, j, none⟩ = some (.bool (goodR E a j k)) := fun p => (Later.cell (O.get 2 rfl) p j).trans ((arrB_get _ _ _ hlt).trans (by simp [mixG]))
      have c8 : ∀ (p : Later wr) (i : Nat), p.1.cell? ⟨a8, i, none⟩ = #[Value.int .i64 who, .int .i64 12, .int .i64 a, .int .i64 v, .bool sh][i]? := Later.cell (O.get 0 rfl)
      have lk : ∀ p : Later wr, (Instr.lookup 117 (.map (some b)) (.int .i64 (j : Int)) false).run Try.prog p.1 = .ok (.int .i64 (refW E j k + 1)) p.1 := fun p => LK.out _ (O.keep.trans p.2 (by simp)) _ (WalkArith.wf_i64 (by omega))
      cases hv : goodR E a (j : Int) k with
      | false =>
        rw [hv] at cj
        have HV := Lib.hid hv
        clear hv
        go_wp2
        refine wp_quiet_tail_later 16 (by kernel_rfl) (by kernel_rfl) ?_
        simp only [List.take, List.drop]
        repeat (first
          | go_big_quiet_skip
          | go_big_quiet_step (fail))
        refine wpQuiet_nil ?_
        intro _ hw
        obtain ⟨p', rfl⟩ := hw
        replace O := O.keeps p'.2
        clear cgL cj c8 lk
        generalize p'.1 = W at O ⊢
        go_wp2_with (first
          | (refine own_store 2 j (.bool false) (.tmp 67) (.tmp 66) O rfl rfl rfl rfl rfl rfl (by simp only [arrB_size]; omega) rfl rfl (by kernel_rfl) (arrB_set _ _ _ _) ?_; clear O; intro W O; simp only [List.set_cons_zero, List.set_cons_succ] at O))
        clear ak
        go_roundw
        case rel =>
          have e := mixG_step (fun q => goodR E a q (k + 1)) (fun q => goodR E a q k) j
          have e2 : goodR E a (j : Int) (k + 1) = false := by rw [HGj.out]; simp [HV.out]
          simp only [e2] at e
          exact ⟨j + 1, by omega, by go_num, O.put 2 rfl (by rw [e])⟩
        case measure => (simp [intOf] <;> omega)
      | true =>
        rw [hv] at cj
        by_cases hq : refW E j k = who
        · have HV := Lib.hid (show goodR E a (j : Int) k = true ∧ refW E j k = who from ⟨hv, hq⟩)
          rw [hq] at lk
          have e1 : (who + 1 == who + 1) = true := by simp
          clear hv hq
          go_wp2
          refine wp_quiet_tail_later 16 (by kernel_rfl) (by kernel_rfl) ?_
          simp only [List.take, List.drop]
          repeat (first
            | go_big_quiet_skip
            | go_big_quiet_step (fail))
          refine wpQuiet_nil ?_
          intro _ hw
          obtain ⟨p', rfl⟩ := hw
          replace O := O.keeps p'.2
          clear cgL cj c8 lk
          generalize p'.1 = W at O ⊢
          go_wp2_with (first
            | (refine own_store 2 j (.bool true) (.tmp 67) (.tmp 66) O rfl rfl rfl rfl rfl rfl (by simp only [arrB_size]; omega) rfl rfl (by kernel_rfl) (arrB_set _ _ _ _) ?_; clear O; intro W O; simp only [List.set_cons_zero, List.set_cons_succ] at O))
          clear ak
          go_roundw
          case rel =>
            have e := mixG_step (fun q => goodR E a q (k + 1)) (fun q => goodR E a q k) j
            have e2 : goodR E a (j : Int) (k + 1) = true := by rw [HGj.out]; simp [HV.out]
            simp only [e2] at e
            exact ⟨j + 1, by omega, by go_num, O.put 2 rfl (by rw [e])⟩
          case measure => (simp [intOf] <;> omega)
        · have HV := Lib.hid (show goodR E a (j : Int) k = true ∧ ¬ refW E j k = who from ⟨hv, hq⟩)
          have e1 : (refW E j k + 1 == who + 1) = false := by simpa using (show ¬ refW E j k + 1 = who + 1 by omega)
          clear hv hq
          go_wp2
          refine wp_quiet_tail_later 16 (by kernel_rfl) (by kernel_rfl) ?_
          simp only [List.take, List.drop]
          repeat (first
            | go_big_quiet_skip
            | go_big_quiet_step (fail))
          refine wpQuiet_nil ?_
          intro _ hw
          obtain ⟨p', rfl⟩ := hw
          replace O := O.keeps p'.2
          clear cgL cj c8 lk
          generalize p'.1 = W at O ⊢
          go_wp2_with (first
            | (refine own_store 2 j (.bool false) (.tmp 67) (.tmp 66) O rfl rfl rfl rfl rfl rfl (by simp only [arrB_size]; omega) rfl rfl (by kernel_rfl) (arrB_set _ _ _ _) ?_; clear O; intro W O; simp only [List.set_cons_zero, List.set_cons_succ] at O))
          clear ak
          go_roundw
          case rel =>
            have e := mixG_step (fun q => goodR E a q (k + 1)) (fun q => goodR E a q k) j
            have e2 : goodR E a (j : Int) (k + 1) = false := by rw [HGj.out]; simp [HV.out]
            simp only [e2] at e
            exact ⟨j + 1, by omega, by go_num, O.put 2 rfl (by rw [e])⟩
          case measure => (simp [intOf] <;> omega)
    · obtain rfl : j = m := by omega
      go_wp2
      go_returns
      have O2 := O.put 2 rfl (mixG_all _ _ _)
      exact HP.out _ _ _ _ 2 1 O2 rfl rfl (fun q hq => rfl) (by rw [HS0.out]; simp [rwB])
set_option maxRecDepth 100000 in
set_option maxHeartbeats 1000000 in
theorem guard1_C13 (H : GuardAt w1 E B n cb m cell pl pg pc po ga) (hk : k < n) (I : GInv w1 u E m cell po ga k) (M : MapI u b k (whoF E k)) (who op a v : Int) (sh : Bool) (he : E k = ⟨who, op, a, v, sh⟩) (ho : op = 13) (hw : a = cell) : Calls Try.prog 67 #[.int .i64 (k : Int), .map (some b), .pointer (some ⟨pl, 0, none⟩), .pointer (some ⟨pg, 0, none⟩), .pointer (some ⟨pc, 0, none⟩), .pointer (some ⟨po, 0, none⟩)] u (GPost w1 E m cell po ga b k u) := by
  have O := ((Own.start u [ga, po]).have_ I.a (by simp) (by simp)).have_ I.o (by simp) (by simpa using H.ne)
  have HP := Lib.hid (fun (u' : World) (f : Int → Bool) (s : Bool) (L : List Ent) (i j : Nat) => I.post (u' := u') (f := f) (s := s) (L := L) (i := i) (j := j) M)
  have npl : pl ≠ ga ∧ pl ≠ po := ⟨H.fl.ne H.fa (by decide), H.fl.ne H.fo (by decide)⟩
  have npg : pg ≠ ga ∧ pg ≠ po := ⟨H.fg.ne H.fa (by decide), H.fg.ne H.fo (by decide)⟩
  have npc : pc ≠ ga ∧ pc ≠ po := ⟨H.fc.ne H.fa (by decide), H.fc.ne H.fo (by decide)⟩
  have CL := Lib.hid (fun W (K : Keeps u W [ga, po]) => (H.fl.keeps (I.keep.trans K (fun x hx _ => hx)) (by simpa using npl)).cell 0)
  have CG := Lib.hid (fun W (K : Keeps u W [ga, po]) => (H.fg.keeps (I.keep.trans K (fun x hx _ => hx)) (by simpa using npg)).cell 0)
  have CC := Lib.hid (fun W (K : Keeps u W [ga, po]) => (H.fc.keeps (I.keep.trans K (fun x hx _ => hx)) (by simpa using npc)).cell 0)
  have LK := Lib.hid (fun W (K : Keeps u W [ga, po]) (q : Int) (hq : (Lit.int .i64 q).wf = true) => (show (Instr.lookup 117 (.map (some b)) (.int .i64 q) false).run Try.prog W = .ok (.int .i64 (refW E q k + 1)) W from by have := look_eqI (M.keeps K (by simpa using ⟨(M.not_blk I.a).symm, (M.not_blk I.o).symm⟩)) 117 Try.underlying117 q hq; rwa [whoF_ref] at this))
  have HWF := Lib.hid (show (Lit.int .i64 a).wf = true by have := H.wf k hk; rwa [he] at this)
  have HWO := Lib.hid (show 0 ≤ who ∧ who ≤ 100000 by have := H.who k hk; rwa [he] at this)
  have HFR := Lib.hid (show op = 9 → 0 ≤ a ∧ a < m by have := H.free k hk; rwa [he] at this)
  have r1 : IntKind.i64.wrap (who + 1) = who + 1 := IntWalk.i64_in _ (by have := HWO.out; omega)
  have b1 := H.m64
  have g1 : ((k : Nat) : Int) < n := by omega
  have g0 : (0 : Int) ≤ k := by omega
  obtain ⟨ad, hB, hc⟩ := EvsAt.row (u := w1) H.fe hk
  have HC := Lib.hid (fun W (K : Keeps u W [ga, po]) => hc [ga, po] W (I.keep.trans K (fun x hx _ => hx)) (by simpa using ⟨(H.off (by omega) ad hB).2, (H.off (by omega) ad hB).1⟩))
  subst hB
  have HG0 := Lib.hid (show ∀ q, goodR E cell q (k + 1) = (goodR E cell q k && ((!rwB (E k) cell || decide (refW E q k = (E k).who)) && (!(decide ((E k).op = 9) && decide ((E k).a = q)) || decide (refW E q k = (E k).who)))) from fun q => rfl)
  have HS0 := Lib.hid (show someR E cell (k + 1) = (someR E cell k || rwB (E k) cell) from rfl)
  rw [he] at HC HG0 HS0
  subst ho
  subst hw
  have ea : (a == a) = true := by simp
  clear hc H I M npl npg npc he
  go_enter Try.func67, Try.ntmps67
  have cl := CL.out _ O.keep
  go_wp2_with (first
    | go_big_skip
    | (refine wpList_load_at 13 rfl rfl rfl rfl (HC.out _ O.keep) Try.underlying37 rfl (by kernel_rfl) ?_; simp only [Act.put, List.setIfInBounds_toArray, List.set_cons_zero, List.set_cons_succ])
    | (refine own_alloc 8 (evC ⟨0, 0, 0, 0, false⟩) O rfl rfl rfl (fun _ => by kernel_rfl) ?_; clear O; intro W a8 O; simp only [Act.put, List.setIfInBounds_toArray, List.set_cons_zero, List.set_cons_succ]; clear cl)
    | (refine own_store_row 0 (.tmp 8) (.tmp 13) O rfl rfl rfl rfl rfl rfl (by kernel_rfl) (by rfl) (evC_cell _) ?_; clear O; intro W O; simp only [List.set_cons_zero] at O; have cl := CL.out _ O.keep; have cg := CG.out _ O.keep; have cc := CC.out _ O.keep; have c8 : ∀ i, W.cell? ⟨a8, i, none⟩ = #[Value.int .i64 who, .int .i64 13, .int .i64 a, .int .i64 v, .bool sh][i]? := (O.get 0 rfl).cell)
    | (refine own_store 1 0 (.bool true) (.tmp 5) (.const (.bool true)) O rfl rfl rfl rfl rfl rfl (by show 0 < 1; omega) rfl rfl (by kernel_rfl) rfl ?_; clear O; intro W O; simp only [List.set_cons_zero, List.set_cons_succ] at O; clear cl cg cc c8; have cg := CG.out _ O.keep))
  clear cg ea
  go_loopw [49] (fun i wr => ∃ j : Nat, j ≤ m ∧ i = .int .i64 j ∧ Own u wr [ga, po] [(a8, 37, evC ⟨who, 13, a, v, sh⟩), (po, 4, #[.bool true]), (ga, 4, arrB m (mixG (fun q => goodR E a q (k + 1)) (fun q => goodR E a q k) j))]) (fun i _ => m - (intOf i).toNat)
  case atStart => exact ⟨0, by omega, rfl, O.put 2 rfl (mixG_zero _ _ _).symm⟩
  case round =>
    obtain ⟨j, hj, rfl, O⟩ := hrel
    by_cases hlt : j < m
    · have g2 : ((j : Int)) < m := by omega
      have g3 : (0 : Int) ≤ j := by omega
      have ak := add_zero_ ga j
      have HGj := Lib.hid (show goodR E a (j : Int) (k + 1) = (goodR E a j k && decide (refW E j k = who)) by rw [HG0.out]; simp [rwB])
      have cgL : ∀ p : Later wr, p.1.cell? ⟨pg, 0, none⟩ = some (.slice (some ⟨ga, 0, none⟩) m m) := fun p => CG.out _ (O.keep.trans p.2 (by simp))
      have cj : ∀ p : Later wr, p.1.cell? ⟨ga, j, none⟩ = some (.bool (goodR E a j k)) := fun p => (Later.cell (O.get 2 rfl) p j).trans ((arrB_get _ _ _ hlt).trans (by simp [mixG]))
      have c8 : ∀ (p : Later wr) (i : Nat), p.1.cell? ⟨a8, i, none⟩ = #[Value.int .i64 who, .int .i64 13, .int .i64 a, .int .i64 v, .bool sh][i]? := Later.cell (O.get 0 rfl)
      have lk : ∀ p : Later wr, (Instr.lookup 117 (.map (some b)) (.int .i64 (j : Int)) false).run Try.prog p.1 = .ok (.int .i64 (refW E j k + 1)) p.1 := fun p => LK.out _ (O.keep.trans p.2 (by simp)) _ (WalkArith.wf_i64 (by omega))
      cases hv : goodR E a (j : Int) k with
      | false =>
        rw [hv] at cj
        have HV := Lib.hid hv
        clear hv
        go_wp2
        refine wp_quiet_tail_later 16 (by kernel_rfl) (by kernel_rfl) ?_
        simp only [List.take, List.drop]
        repeat (first
          | go_big_quiet_skip
          | go_big_quiet_step (fail))
        refine wpQuiet_nil ?_
        intro _ hw
        obtain ⟨p', rfl⟩ := hw
        replace O := O.keeps p'.2
        clear cgL cj c8 lk
        generalize p'.1 = W at O ⊢
        go_wp2_with (first
          | (refine own_store 2 j (.bool false) (.tmp 67) (.tmp 66) O rfl rfl rfl rfl rfl rfl (by simp only [arrB_size]; omega) rfl rfl (by kernel_rfl) (arrB_set _ _ _ _) ?_; clear O; intro W O; simp only [List.set_cons_zero, List.set_cons_succ] at O))
        clear ak
        go_roundw
        case rel =>
          have e := mixG_step (fun q => goodR E a q (k + 1)) (fun q => goodR E a q k) j
          have e2 : goodR E a (j : Int) (k + 1) = false := by rw [HGj.out]; simp [HV.out]
          simp only [e2] at e
          exact ⟨j + 1, by omega, by go_num, O.put 2 rfl (by rw [e])⟩
        case measure => (simp [intOf] <;> omega)
      | true =>
        rw [hv] at cj
        by_cases hq : refW E j k = who
        · have HV := Lib.hid (show goodR E a (j : Int) k = true ∧ refW E j k = who from ⟨hv, hq⟩)
          rw [hq] at lk
          have e1 : (who + 1 == who + 1) = true := by simp
          clear hv hq
          go_wp2
          refine wp_quiet_tail_later 16 (by kernel_rfl) (by kernel_rfl) ?_
          simp only [List.take, List.drop]
          repeat (first
            | go_big_quiet_skip
            | go_big_quiet_step (fail))
          refine wpQuiet_nil ?_
          intro _ hw
          obtain ⟨p', rfl⟩ := hw
          replace O := O.keeps p'.2
          clear cgL cj c8 lk
          generalize p'.1 = W at O ⊢
          go_wp2_with (first
            | (refine own_store 2 j (.bool true) (.tmp 67) (.tmp 66) O rfl rfl rfl rfl rfl rfl (by simp only [arrB_size]; omega) rfl rfl (by kernel_rfl) (arrB_set _ _ _ _) ?_; clear O; intro W O; simp only [List.set_cons_zero, List.set_cons_succ] at O))
          clear ak
          go_roundw
          case rel =>
            have e := mixG_step (fun q => goodR E a q (k + 1)) (fun q => goodR E a q k) j
            have e2 : goodR E a (j : Int) (k + 1) = true := by rw [HGj.out]; simp [HV.out]
            simp only [e2] at e
            exact ⟨j + 1, by omega, by go_num, O.put 2 rfl (by rw [e])⟩
          case measure => (simp [intOf] <;> omega)
        · have HV := Lib.hid (show goodR E a (j : Int) k = true ∧ ¬ refW E j k = who from ⟨hv, hq⟩)
          have e1 : (refW E j k + 1 == who + 1) = false := by simpa using (show ¬ refW E j k + 1 = who + 1 by omega)
          clear hv hq
          go_wp2
          refine wp_quiet_tail_later 16 (by kernel_rfl) (by kernel_rfl) ?_
          simp only [List.take, List.drop]
          repeat (first
            | go_big_quiet_skip
            | go_big_quiet_step (fail))
          refine wpQuiet_nil ?_
          intro _ hw
          obtain ⟨p', rfl⟩ := hw
          replace O := O.keeps p'.2
          clear cgL cj c8 lk
          generalize p'.1 = W at O ⊢
          go_wp2_with (first
            | (refine own_store 2 j (.bool false) (.tmp 67) (.tmp 66) O rfl rfl rfl rfl rfl rfl (by simp only [arrB_size]; omega) rfl rfl (by kernel_rfl) (arrB_set _ _ _ _) ?_; clear O; intro W O; simp only [List.set_cons_zero, List.set_cons_succ] at O))
          clear ak
          go_roundw
          case rel =>
            have e := mixG_step (fun q => goodR E a q (k + 1)) (fun q => goodR E a q k) j
            have e2 : goodR E a (j : Int) (k + 1) = false := by rw [HGj.out]; simp [HV.out]
            simp only [e2] at e
            exact ⟨j + 1, by omega, by go_num, O.put 2 rfl (by rw [e])⟩
          case measure => (simp [intOf] <;> omega)
    · obtain rfl : j = m := by omega
      go_wp2
      go_returns
      have O2 := O.put 2 rfl (mixG_all _ _ _)
      exact HP.out _ _ _ _ 2 1 O2 rfl rfl (fun q hq => rfl) (by rw [HS0.out]; simp [rwB])
theorem guard1_any (H : GuardAt w1 E B n cb m cell pl pg pc po ga) (hk : k < n) (I : GInv w1 u E m cell po ga k) (M : MapI u b k (whoF E k)) : Calls Try.prog 67 #[.int .i64 (k : Int), .map (some b), .pointer (some ⟨pl, 0, none⟩), .pointer (some ⟨pg, 0, none⟩), .pointer (some ⟨pc, 0, none⟩), .pointer (some ⟨po, 0, none⟩)] u (GPost w1 E m cell po ga b k u) := by
  obtain ⟨⟨who, op, a, v, sh⟩, he⟩ : ∃ e, E k = e := ⟨_, rfl⟩
  by_cases h9 : op = 9
  · by_cases hw : refW E a k = who
    · exact guard1_B H hk I M who op a v sh he h9 hw
    · exact guard1_A H hk I M who op a v sh he h9 hw
  by_cases h12 : op = 12
  · by_cases hw : a = cell
    · exact guard1_C12 H hk I M who op a v sh he h12 hw
    · exact guard1_D12 H hk I M who op a v sh he h12 hw
  by_cases h13 : op = 13
  · by_cases hw : a = cell
    · exact guard1_C13 H hk I M who op a v sh he h13 hw
    · exact guard1_D13 H hk I M who op a v sh he h13 hw
  exact guard1_E H hk I M who op a v sh he h9 h12 h13
end
end Go.Proofs.Ytakmcpadkanggaa
