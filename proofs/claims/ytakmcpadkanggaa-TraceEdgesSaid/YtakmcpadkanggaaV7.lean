/-
  All edges: trace.Edges.
-/
import Derived.Test.YtakmcpadkanggaaV6
import Derived.Test.YtakmcpadkanggaaR4
namespace Go.Proofs.Ytakmcpadkanggaa
open Go.RowKit Go.Maps Go.Deep

section
variable {w : World} {S : Sys} {A : Option Addr} {c : Nat} {R : Option Addr} {d n : Nat} {E : Nat → Ev} {B : Option Addr} {cb : Nat}
set_option maxRecDepth 100000 in
theorem tedges_bad (hS : SysIn w S A c R d) (hE : EvsAt w B n E) (hwf : ∀ i, i < n → (Lit.int .i64 (E i).a).wf = true) (h : ¬ (thr S E n).2.2 = 0) : Calls Try.prog 37 #[.agg (sysV S A c R d), .slice B n cb] w (EdgPost (edgR S E (rmS S) n) w) := by
  have O := Own.start w []
  have HT : ∀ u, Keeps w u [] → Hid (Calls Try.prog 60 #[.agg (sysV S A c R d), .slice B n cb] u fun e w' => e = .returned (.tuple #[.int .i64 (thr S E n).1, .int .i64 (thr S E n).2.1, .int .i64 (thr S E n).2.2]) ∧ Keeps u w' []) := fun u k => Lib.hid (through_any (hS.kept k) (hE.kept k) hwf)
  have HF := Lib.hid (edgR_bad (rm := rmS S) h)
  clear hS hE hwf
  generalize hr : edgR S E (rmS S) n = r at HF ⊢
  clear hr
  generalize thr S E n = x at *
  obtain ⟨x0, x1, x2⟩ := x
  simp only at *
  go_enter Try.func37, Try.ntmps37
  go_wp2_with (first
    | go_big_skip
    | (refine own_box 2 (sysV S A c R d) O rfl rfl rfl rfl ?_; clear O; intro W a2 O; simp only [Act.put, List.setIfInBounds_toArray, List.set_cons_zero, List.set_cons_succ])
    | (refine own_load 16 0 O rfl rfl rfl rfl rfl Try.underlying27 rfl (by kernel_rfl) ?_; simp only [Act.put, List.setIfInBounds_toArray, List.set_cons_zero, List.set_cons_succ])
    | (go_at_call 60; refine ((HT _ O.keep).out).mono ?_; rintro e W ⟨rfl, K⟩; replace O := O.keeps K; clear K))
  go_returns
  exact ⟨⟨_, by rw [HF.out]; rfl, by rw [HF.out]; exact edgP_nil _ _⟩, O.keep⟩
/-- The block of a row is none of the links'. -/
def ApF (v : Value) (F : List Nat) (p : Nat) : Prop := ∀ g, v.ownBlock = some g → g ∉ F ∧ g ≠ p
set_option maxRecDepth 100000 in
set_option maxHeartbeats 4000000 in
theorem tedges_good (hS : SysIn w S A c R d) (hE : EvsAt w B n E) (hwf : ∀ i, i < n → (Lit.int .i64 (E i).a).wf = true) (h : (thr S E n).2.2 = 0) : Calls Try.prog 37 #[.agg (sysV S A c R d), .slice B n cb] w (EdgPost (edgR S E (rmS S) n) w) := by
  have O := Own.start w []
  obtain ⟨hv, hn, hok⟩ := thr_zero h
  have HT : ∀ u, Keeps w u [] → Hid (Calls Try.prog 60 #[.agg (sysV S A c R d), .slice B n cb] u fun e w' => e = .returned (.tuple #[.int .i64 (thr S E n).1, .int .i64 (thr S E n).2.1, .int .i64 0]) ∧ Keeps u w' []) := fun u k => Lib.hid (by have := through_any (cb := cb) (hS.kept k) (hE.kept k) hwf; unfold thrV at this; rwa [h] at this)
  have HNX := Lib.hid (fun u (K : Keeps w u []) (j : Nat) (hj : j < n) F f p mb base (hl : LinksAt u F (.slice R S.nr d) p mb f (lkN E j) (2 * j) base) (hb : w.heap.size ≤ base) => lnextE hS K (valid_rooms hv) (by omega) (hok j hj) (hwf j hj) hl (by omega) (fun i a => by have := lk_len E i a j; omega) (fun h6 hs => by rw [lk_r0, lk_r1, natL_length, natL_length]; exact ok_take (hok j hj) h6 hs) hb)
  have HLONG := Lib.hid (fun k (hk : k ≤ n) hl => edgR_long (rm := rmS S) (k := k) h hk hl)
  have HOKR := Lib.hid (fun hl => edgR_ok (rm := rmS S) h hl)
  have HLEN := Lib.hid (fun j (hj : j < n) => intoL_length (rm := rmS S) (hok j hj))
  have HE := Lib.hid hE
  have HWE := Lib.hid (fun j (hj : j < n) => ok_head (hok j hj))
  clear hS hE h hok hv hwf
  generalize hr : edgR S E (rmS S) n = r at HLONG HOKR ⊢
  clear hr
  generalize thr S E n = x at *
  obtain ⟨x0, x1, x2⟩ := x
  go_enter Try.func37, Try.ntmps37
  go_wp2_with (first
    | go_big_skip
    | (refine own_box 2 (sysV S A c R d) O rfl rfl rfl rfl ?_; clear O; intro W a2 O; simp only [Act.put, List.setIfInBounds_toArray, List.set_cons_zero, List.set_cons_succ])
    | (refine own_load 16 0 O rfl rfl rfl rfl rfl Try.underlying27 rfl (by kernel_rfl) ?_; simp only [Act.put, List.setIfInBounds_toArray, List.set_cons_zero, List.set_cons_succ])
    | (go_at_call 60; refine ((HT _ O.keep).out).mono ?_; rintro e W ⟨rfl, K⟩; replace O := O.keeps K; clear K)
    | (refine own_load 25 0 O rfl rfl rfl rfl rfl Try.underlying27 rfl (by kernel_rfl) ?_; simp only [Act.put, List.setIfInBounds_toArray, List.set_cons_zero, List.set_cons_succ])
    | (go_at_call 69; refine newLinks_any.mono ?_; rintro e W' ⟨⟨p, F, mb, f, rfl, LA, hp⟩, K⟩; have hws := O.keep.size; have ha2 := O.lt 0 rfl; replace O := O.keeps K; clear K; have HP := Lib.hid (And.intro hp (And.intro hws ha2)); clear hp hws ha2))
  clear HT
  obtain ⟨base, hbase⟩ : ∃ b, b = W.heap.size := ⟨_, rfl⟩
  rw [← hbase] at LA HP
  clear hbase
  go_loopg [9, 29] n (fun g s9 s29 wr => ∃ k F f, k ≤ n ∧ g = n - k ∧ s29 = .int .i64 (k : Int) ∧ Own w wr [] [(a2, 27, sysV S A c R d)] ∧ MintP 67 w.heap.size wr s9 (edgN E (rmS S) k) ∧ (edgN E (rmS S) k).length ≤ 65536 ∧ LinksAt wr F (.slice R S.nr d) p mb f (lkN E k) (2 * k) base ∧ ApF s9 F p)
  case atStart => exact ⟨0, F, f, by omega, by omega, rfl, O, edgP_nil _ _, by simp [edgN], LA, fun g hg => by cases hg⟩
  case round =>
    obtain ⟨k, F, f, hk, hgk, rfl, O, M, hl, LA, AP⟩ := hrel
    have HG := Lib.hid (And.intro hgk hl)
    clear hgk hl
    by_cases hlt : k < n
    · have g1 : ((k : Int)) < n := by omega
      have g0 : (0 : Int) ≤ k := by omega
      have HXL := Lib.hid (HLEN.out k hlt)
      have HJA := Lib.hid (jn_all E (rmS S) k)
      have HEN := Lib.hid (show edgN E (rmS S) (k + 1) = edgN E (rmS S) k ++ edgJ E (rmS S) k from rfl)
      obtain ⟨ad, rfl, hc⟩ := EvsAt.row (u := w) HE.out hlt
      have HC := Lib.hid hc
      have HNk := Lib.hid (fun u (K : Keeps w u []) F f (hl : LinksAt u F (.slice R S.nr d) p mb f (lkN E k) (2 * k) base) => HNX.out u K k hlt F f p mb base hl HP.out.2.1)
      clear hc
      obtain ⟨xs, hxs⟩ : ∃ xs, xs = scL (nextR (lkN E k) (rmS S) (E k)) := ⟨_, rfl⟩
      have hxs2 : xs = intoL E (rmS S) k := hxs
      rw [← hxs2] at HXL HJA
      have HXS := Lib.hid hxs
      have HLK := Lib.hid (show nextK (lkN E k) (k : Int) (E k) = lkN E (k + 1) from rfl)
      obtain ⟨m, hm⟩ : ∃ m, m = xs.length := ⟨_, rfl⟩
      have hm6 : m ≤ 1000000 := by have := HXL.out; omega
      have HM := Lib.hid hm
      obtain ⟨es, hes⟩ : ∃ es, es = edgN E (rmS S) k := ⟨_, rfl⟩
      rw [← hes] at M HG HEN
      clear hxs hxs2 hm hes
      generalize E k = e at HC HNk HXS HLK
      go_wp2_with (first
        | (refine wpList_load_at 33 rfl rfl rfl rfl (HC.out [] _ O.keep (by simp)) Try.underlying37 rfl (by kernel_rfl) ?_; simp only [Act.put, List.setIfInBounds_toArray, List.set_cons_zero, List.set_cons_succ])
        | (refine own_allocK 12 (evC ⟨0, 0, 0, 0, false⟩) O rfl rfl rfl (fun _ => by kernel_rfl) ?_; clear O; intro W1 b12 O K1 hb; have hb12 : b12 ∉ F ∧ b12 ≠ p := ⟨(fun hm => by have := (LA.ltF _ hm).2; omega), (fun e => by have := LA.blk.lt; omega)⟩; replace M := gr_keeps M K1 (by simp); replace LA := LA.kept K1 (by simp); have HB12 := Lib.hid hb12; clear K1 hb hb12; simp only [Act.put, List.setIfInBounds_toArray, List.set_cons_zero, List.set_cons_succ])
        | (have hne := gr_ne M (O.get 0 rfl) (by decide); refine own_store_rowK 0 (.tmp 12) (.tmp 33) O rfl rfl rfl rfl rfl rfl (by kernel_rfl) (by rfl) (evC_cell _) ?_; clear O; intro W2 O K2; simp only [List.set_cons_zero] at O; replace M := gr_keeps M K2 (fun g hg hm => hne (by rw [hg]; congr 1; exact List.mem_singleton.1 hm)); replace LA := LA.kept K2 (fun b hb => by rw [List.mem_singleton.1 hb]; exact HB12.out); clear K2 hne)
        | (refine own_load 36 0 O rfl rfl rfl rfl rfl Try.underlying37 rfl (by kernel_rfl) ?_; simp only [Act.put, List.setIfInBounds_toArray, List.set_cons_zero, List.set_cons_succ])
        | (go_at_call 70; refine (HNk.out _ O.keep F f LA).mono ?_; rintro x W3 ⟨rr, F', f', rfl, hR, LA', hnew, hrF, K3⟩; have AP' : ApF _ F' p := (fun g hg => ⟨notF hnew (AP g hg).1 (gr_own M hg).2.1, (AP g hg).2⟩); replace O := O.wrote K3 (fun b hb hlt => absurd hlt (by have := (LA.ltF b hb).1; have := HP.out.2.1; omega)) (fun q hq => by
            rcases List.mem_cons.1 hq with rfl | hq
            · exact HB12.out.1
            · rw [List.mem_singleton.1 hq]; exact fun hm => by have := (LA.ltF _ hm).1; have := HP.out.2.2; omega); replace M := gr_keeps M K3 (fun g hg hm => (AP g hg).1 hm); rw [← HXS.out] at hR; rw [HLK.out] at LA'; obtain ⟨Av, cv, hvv, _⟩ := hR.listL.1; rw [← HM.out] at hvv; subst hvv; clear LA AP hnew hrF K3))
      generalize hbh : W2.heap.size = bh at hR
      clear hbh
      go_loopg [9, 39] m (fun g s9 s39 wr => ∃ q, q ≤ m ∧ g = m - q ∧ s39 = .int .i64 (q : Int) ∧ Own w wr [] [(b12, 37, evC e), (a2, 27, sysV S A c R d)] ∧ HRow bh wr (.slice Av m cv) xs ∧ MintP 67 w.heap.size wr s9 (es ++ jn xs k q) ∧ LinksAt wr F' (.slice R S.nr d) p mb f' (lkN E (k + 1)) (2 * k + 2) base ∧ ApF s9 F' p)
      case atStart => exact ⟨0, by omega, by omega, rfl, O, hR, by show MintP 67 _ _ _ (es ++ []); rw [List.append_nil]; exact M, LA', AP'⟩
      case round =>
        obtain ⟨q, hq, hgq, rfl, O, hR, M, LA, AP⟩ := hrel
        have HG2 := Lib.hid hgq
        clear hgq
        by_cases hqt : q < m
        · have g2 : ((q : Int)) < m := by omega
          have g3 : (0 : Int) ≤ q := by omega
          have HQ := Lib.hid (show q < xs.length by rw [← HM.out]; exact hqt)
          obtain ⟨A', c', e', hx⟩ := hR.listL.1
          obtain ⟨ad', e1, _, hc⟩ := hx (by have := HQ.out; omega)
          have e2 : Av = some ad' := by rw [← e1]; injection e'
          subst e2
          clear e1 e'
          have cq := hc q HQ.out
          have HJ := Lib.hid (jn_succ xs k q HQ.out)
          have HCL := Lib.hid (show (es ++ jn xs k q).length ≤ 5000000 by
            have h1 := HG.out.2; have h2 := HXL.out; have h3 := HM.out
            have h4 : (jn xs k q).length ≤ q := by unfold jn; rw [List.length_map]; exact List.length_take_le _ _
            rw [List.length_append]; omega)
          clear hx hc
          generalize xs.getD q 0 = y at cq HJ
          go_wp2_with (first
            | (refine own_lit2 47 61 67 (y, (k : Int)) O rfl rfl rfl rfl Try.underlying61 (by kernel_rfl) ?_; clear O; intro W gl O K1 hg; replace M := gr_keeps M K1 (by simp); replace hR := hR.keeps K1 (by simp); replace LA := LA.kept K1 (by simp); clear K1 hg; simp only [Act.put, List.setIfInBounds_toArray, List.set_cons_zero, List.set_cons_succ])
            | (at_builtin; refine gr_app (.tmp 43) (.tmp 47) rowT61 O M rfl (prC_cell _) rfl rfl rfl rfl (Nat.le_refl _) O.keep.size (fun q hq => ?_) HCL.out (by decide) ?_; (· (rcases List.mem_cons.1 hq with hq | hq; (· (subst hq; exact gr_ne M (O.get 1 rfl) (by decide))); (· (have hq2 := List.mem_singleton.1 hq; subst hq2; exact gr_ne M (O.get 2 rfl) (by decide))))); intro v1 W O2 M2 K hf; replace hR := hR.keeps K (fun g hg hm => by obtain ⟨_, cur, hb⟩ := hR.own hg; exact gr_ne M hb (by decide) (by simpa using hm)); have AP2 : ApF v1 F' p := (fun g hg => by
                rcases hf with hf | hf
                · exact AP g (by rw [← hf]; exact hg)
                · rw [hf] at hg; cases hg; exact ⟨fun hm => by have := (LA.ltF _ hm).2; omega, fun e => by have := LA.blk.lt; omega⟩); replace LA := LA.kept K (fun b hb => AP b (by simpa using hb)); clear O M K hf AP; have O := O2; have M := M2; have AP := AP2; clear O2 M2 AP2; simp only [Act.put, List.setIfInBounds_toArray, List.set_cons_zero, List.set_cons_succ]))
          clear cq
          go_roundg (m - (q + 1))
          case measure => (have := HG2.out; omega)
          case rel => exact ⟨q + 1, by omega, rfl, by go_num, O, hR, by show MintP 67 _ _ _ _; unfold MintP; rw [HJ.out, ← List.append_assoc, prL_snoc, List.length_append]; exact M, LA, AP⟩
        · obtain rfl : m = q := by omega
          have HE2 := Lib.hid (show es ++ jn xs k m = edgN E (rmS S) (k + 1) by rw [HEN.out, ← HJA.out, ← HM.out])
          clear hqt
          rw [HE2.out] at M
          by_cases hl : 65536 < (edgN E (rmS S) (k + 1)).length
          · have HF := Lib.hid (HLONG.out (k + 1) (by omega) hl)
            obtain ⟨Ae, ce, e', _⟩ := gr_shape M
            subst e'
            have q1 : decide (65536 < (edgN E (rmS S) (k + 1)).length) = true := decide_eq_true hl
            have q2 : (65536 : Int) < ((edgN E (rmS S) (k + 1)).length : Int) := by omega
            go_wp2
            go_returns
            exact ⟨⟨_, by rw [HF.out]; rfl, by rw [HF.out]; exact edgP_nil _ _⟩, O.keep⟩
          · have HL := Lib.hid (show (edgN E (rmS S) (k + 1)).length ≤ 65536 by omega)
            obtain ⟨Ae, ce, e', _⟩ := gr_shape M
            subst e'
            have q1 : decide (65536 < (edgN E (rmS S) (k + 1)).length) = false := decide_eq_false hl
            have q2 : ¬ (65536 : Int) < ((edgN E (rmS S) (k + 1)).length : Int) := by omega
            clear hl
            go_wp2
            clear q1 q2
            go_roundg (n - (k + 1))
            case measure => (have := HG.out; omega)
            case rel => exact ⟨k + 1, F', f', by omega, rfl, by go_num, O.drop_ 1, M, HL.out, LA, AP⟩
    · obtain rfl : n = k := by omega
      have HF := Lib.hid (HOKR.out HG.out.2)
      clear hlt
      go_wp2
      go_returns
      exact ⟨⟨_, by rw [HF.out]; rfl, by rw [HF.out]; exact M⟩, O.keep⟩
theorem tedges_any (hS : SysIn w S A c R d) (hE : EvsAt w B n E) (hwf : ∀ i, i < n → (Lit.int .i64 (E i).a).wf = true) : Calls Try.prog 37 #[.agg (sysV S A c R d), .slice B n cb] w (EdgPost (edgR S E (rmS S) n) w) := by
  by_cases h : (thr S E n).2.2 = 0
  · exact tedges_good hS hE hwf h
  · exact tedges_bad hS hE hwf h
end
end Go.Proofs.Ytakmcpadkanggaa
