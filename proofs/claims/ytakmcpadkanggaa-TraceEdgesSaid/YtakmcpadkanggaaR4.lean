/-
  The document's answer: all edges (quernref14.Edges).
-/
import Derived.Test.YtakmcpadkanggaaR2e
import Derived.Test.YtakmcpadkanggaaR3
import Derived.Test.YtakmcpadkanggaaK2
namespace Go.Proofs.Ytakmcpadkanggaa
open Go.RowKit Go.Maps Go.Deep

theorem valid_rooms {S : Sys} (h : validB S = true) : ∀ q, q < S.nr → 1 ≤ S.rm q ∧ S.rm q ≤ 1000000 := fun q hq => by
  have := ((validB_iff S).1 h).2.1 q hq
  simp [roomB] at this
  omega
def EdgPost (r : List (Int × Int) × Int) (w : World) (e : Ending) (w' : World) : Prop := (∃ v, e = .returned (.tuple #[v, .int .i64 r.2]) ∧ MintP 67 w.heap.size w' v r.1) ∧ Keeps w w' []
theorem edgP_nil (w W : World) : MintP 67 w.heap.size W (.slice none 0 0) [] := gr_nil w.heap.size 67 2 W
def jn (xs : List Int) (j : Nat) (q : Nat) : List (Int × Int) := (xs.take q).map fun i => (i, (j : Int))
theorem jn_succ (xs : List Int) (j q : Nat) (h : q < xs.length) : jn xs j (q + 1) = jn xs j q ++ [(xs.getD q 0, (j : Int))] := by
  unfold jn
  rw [List.take_add_one, List.getElem?_eq_getElem h, List.map_append, List.getD_eq_getElem?_getD, List.getElem?_eq_getElem h]
  rfl
theorem jn_all (E : Nat → Ev) (rm : Int → Int) (j : Nat) : jn (intoL E rm j) j (intoL E rm j).length = edgJ E rm j := by
  unfold jn edgJ
  rw [List.take_length]
section
variable {w : World} {S : Sys} {A : Option Addr} {c : Nat} {R : Option Addr} {d n : Nat} {E : Nat → Ev} {B : Option Addr} {cb : Nat}
set_option maxRecDepth 100000 in
theorem refedges_bad (hS : SysIn w S A c R d) (hE : EvsAt w B n E) (h : ¬ (thr S E n).2.2 = 0) : Calls Try.prog 38 #[.agg (sysV S A c R d), .slice B n cb] w (EdgPost (edgR S E (rmS S) n) w) := by
  have O := Own.start w []
  have HV : ∀ u, Keeps w u [] → Hid (Calls Try.prog 29 #[.agg (sysV S A c R d), .slice B n cb] u fun e w' => e = .returned (.tuple #[.int .i64 (thr S E n).2.1, .int .i64 (thr S E n).1, .int .i64 (thr S E n).2.2]) ∧ Keeps u w' []) := fun u k => Lib.hid (rvalid_any (hS.kept k) (hE.kept k))
  have HF := Lib.hid (edgR_bad (rm := rmS S) h)
  clear hS hE
  generalize hr : edgR S E (rmS S) n = r at HF ⊢
  clear hr
  generalize thr S E n = x at *
  obtain ⟨x0, x1, x2⟩ := x
  simp only at *
  go_enter Try.func38, Try.ntmps38
  go_wp2_with (first
    | go_big_skip
    | (refine own_box 2 (sysV S A c R d) O rfl rfl rfl rfl ?_; clear O; intro W a2 O; simp only [Act.put, List.setIfInBounds_toArray, List.set_cons_zero, List.set_cons_succ])
    | (refine own_load 14 0 O rfl rfl rfl rfl rfl Try.underlying27 rfl (by kernel_rfl) ?_; simp only [Act.put, List.setIfInBounds_toArray, List.set_cons_zero, List.set_cons_succ])
    | (go_at_call 29; refine ((HV _ O.keep).out).mono ?_; rintro e W ⟨rfl, K⟩; replace O := O.keeps K; clear K))
  go_returns
  exact ⟨⟨_, by rw [HF.out]; rfl, by rw [HF.out]; exact edgP_nil _ _⟩, O.keep⟩
set_option maxRecDepth 100000 in
set_option maxHeartbeats 2000000 in
theorem refedges_good (hS : SysIn w S A c R d) (hE : EvsAt w B n E) (h : (thr S E n).2.2 = 0) : Calls Try.prog 38 #[.agg (sysV S A c R d), .slice B n cb] w (EdgPost (edgR S E (rmS S) n) w) := by
  have O := Own.start w []
  obtain ⟨hv, hn, hok⟩ := thr_zero h
  have HV : ∀ u, Keeps w u [] → Hid (Calls Try.prog 29 #[.agg (sysV S A c R d), .slice B n cb] u fun e w' => e = .returned (.tuple #[.int .i64 (thr S E n).2.1, .int .i64 (thr S E n).1, .int .i64 0]) ∧ Keeps u w' []) := fun u k => Lib.hid (by have := rvalid_any (cb := cb) (hS.kept k) (hE.kept k); rwa [h] at this)
  have HI := Lib.hid (fun u (k : Keeps w u []) (j : Nat) (hj : j < n) => into_any (cb := cb) (hS.kept k) (hE.kept k) hn (valid_rooms hv) j hj (hok j hj))
  have HLONG := Lib.hid (fun k (hk : k ≤ n) hl => edgR_long (rm := rmS S) (k := k) h hk hl)
  have HOKR := Lib.hid (fun hl => edgR_ok (rm := rmS S) h hl)
  have HLEN := Lib.hid (fun j (hj : j < n) => intoL_length (rm := rmS S) (hok j hj))
  clear hS hE h hok hv
  generalize hr : edgR S E (rmS S) n = r at HLONG HOKR ⊢
  clear hr
  generalize thr S E n = x at *
  obtain ⟨x0, x1, x2⟩ := x
  go_enter Try.func38, Try.ntmps38
  go_wp2_with (first
    | go_big_skip
    | (refine own_box 2 (sysV S A c R d) O rfl rfl rfl rfl ?_; clear O; intro W a2 O; simp only [Act.put, List.setIfInBounds_toArray, List.set_cons_zero, List.set_cons_succ])
    | (refine own_load 14 0 O rfl rfl rfl rfl rfl Try.underlying27 rfl (by kernel_rfl) ?_; simp only [Act.put, List.setIfInBounds_toArray, List.set_cons_zero, List.set_cons_succ])
    | (go_at_call 29; refine ((HV _ O.keep).out).mono ?_; rintro e W ⟨rfl, K⟩; replace O := O.keeps K; clear K))
  clear HV
  go_loopg [9, 10] n (fun g s9 s10 wr => ∃ k, k ≤ n ∧ g = n - k ∧ s10 = .int .i64 (k : Int) ∧ Own w wr [] [(a2, 27, sysV S A c R d)] ∧ MintP 67 w.heap.size wr s9 (edgN E (rmS S) k) ∧ (edgN E (rmS S) k).length ≤ 65536)
  case atStart => exact ⟨0, by omega, by omega, rfl, O, edgP_nil _ _, by simp [edgN]⟩
  case round =>
    obtain ⟨k, hk, hgk, rfl, O, M, hl⟩ := hrel
    have HG := Lib.hid (And.intro hgk hl)
    clear hgk hl
    by_cases hlt : k < n
    · have g1 : ((k : Int)) < n := by omega
      have hws := O.keep.size
      have HXL := Lib.hid (HLEN.out k hlt)
      have HJA := Lib.hid (jn_all E (rmS S) k)
      have HEN := Lib.hid (show edgN E (rmS S) (k + 1) = edgN E (rmS S) k ++ edgJ E (rmS S) k from rfl)
      go_wp2_with (first
        | (refine own_load 29 0 O rfl rfl rfl rfl rfl Try.underlying27 rfl (by kernel_rfl) ?_; simp only [Act.put, List.setIfInBounds_toArray, List.set_cons_zero, List.set_cons_succ])
        | (go_at_call 71; refine (HI.out _ O.keep k hlt).mono ?_; rintro e W ⟨⟨v, rfl, MI⟩, K⟩; replace O := O.keeps K; replace M := gr_keeps M K (by simp); clear K))
      obtain ⟨xs, hxs⟩ : ∃ xs, xs = intoL E (rmS S) k := ⟨_, rfl⟩
      obtain ⟨es, hes⟩ : ∃ es, es = edgN E (rmS S) k := ⟨_, rfl⟩
      rw [← hxs] at MI HXL HJA
      rw [← hes] at M HG HEN
      replace MI := mint_low (b := w.heap.size) MI hws
      obtain ⟨Av, cv, hvv, hx⟩ := MI.list
      subst hvv
      obtain ⟨m, hm⟩ : ∃ m, m = xs.length := ⟨_, rfl⟩
      rw [← hm] at MI
      rw [← hm]
      have HM := Lib.hid hm
      have hm6 : m ≤ 1000000 := by have := HXL.out; omega
      clear hm hes hxs hx
      have M0 := M
      clear M
      go_loopg [9, 12] m (fun g s9 s12 wr => ∃ q, q ≤ m ∧ g = m - q ∧ s12 = .int .i64 (q : Int) ∧ Own w wr [] [(a2, 27, sysV S A c R d)] ∧ Mint w.heap.size wr (.slice Av m cv) xs ∧ MintP 67 w.heap.size wr s9 (es ++ jn xs k q))
      case atStart => exact ⟨0, by omega, by omega, rfl, O, MI, by show MintP 67 _ _ _ (es ++ []); rw [List.append_nil]; exact M0⟩
      case round =>
        obtain ⟨q, hq, hgq, rfl, O, MI, M⟩ := hrel
        have HG2 := Lib.hid hgq
        clear hgq
        by_cases hqt : q < m
        · have g2 : ((q : Int)) < m := by omega
          have g3 : (0 : Int) ≤ q := by omega
          have HQ := Lib.hid (show q < xs.length by rw [← HM.out]; exact hqt)
          obtain ⟨A', c', e', hx⟩ := MI.list
          obtain ⟨ad, e1, _, hc⟩ := hx (by have := HQ.out; omega)
          have e2 : Av = some ad := by rw [← e1]; injection e'
          subst e2
          clear e1 e'
          have cq := hc q HQ.out
          have HJ := Lib.hid (jn_succ xs k q HQ.out)
          have HCL := Lib.hid (show (es ++ jn xs k q).length ≤ 5000000 by
            have h1 := HG.out.2; have h2 := HXL.out; have h3 := HM.out
            have h4 : (jn xs k q).length ≤ q := by unfold jn; rw [List.length_map]; exact List.length_take_le _ _
            rw [List.length_append]; omega)
          clear hx hc
          generalize xs.getD q 0 = y at cq HJ
          go_wp2_with (first
            | (refine own_lit2 46 61 67 (y, (k : Int)) O rfl rfl rfl rfl Try.underlying61 (by kernel_rfl) ?_; clear O; intro W gl O K1 hg; replace M := gr_keeps M K1 (by simp); replace MI := MI.keeps K1 (by simp); clear K1 hg; simp only [Act.put, List.setIfInBounds_toArray, List.set_cons_zero, List.set_cons_succ])
            | (at_builtin; refine gr_app (.tmp 39) (.tmp 46) rowT61 O M rfl (prC_cell _) rfl rfl rfl rfl (Nat.le_refl _) O.keep.size (fun q hq => ?_) HCL.out (by decide) ?_; (· (have hq2 : q = (a2, 27, sysV S A c R d) := List.mem_singleton.1 hq; subst hq2; exact gr_ne M (O.get 1 rfl) (by decide))); intro v1 W O2 M2 K _; replace MI := MI.keeps K (fun g hg hm => by obtain ⟨_, _, cur, hb⟩ := MI.own hg; exact gr_ne M hb (by decide) (by simpa using hm)); clear O M K; have O := O2; have M := M2; clear O2 M2; simp only [Act.put, List.setIfInBounds_toArray, List.set_cons_zero, List.set_cons_succ]))
          go_roundg (m - (q + 1))
          case measure => (have := HG2.out; omega)
          case rel => exact ⟨q + 1, by omega, rfl, by go_num, O, MI, by show MintP 67 _ _ _ _; unfold MintP; rw [HJ.out, ← List.append_assoc, prL_snoc, List.length_append]; exact M⟩
        · obtain rfl : m = q := by omega
          have HE2 := Lib.hid (show es ++ jn xs k m = edgN E (rmS S) (k + 1) by rw [HEN.out, ← HJA.out, ← HM.out])
          clear hqt
          rw [HE2.out] at M
          by_cases hl : 65536 < (edgN E (rmS S) (k + 1)).length
          · have HF := Lib.hid (HLONG.out (k + 1) (by omega) hl)
            obtain ⟨Ae, ce, e', _⟩ := gr_shape M
            subst e'
            have q1 : decide (65536 < (edgN E (rmS S) (k + 1)).length) = true := decide_eq_true hl
            have q2 : (65536 : Int) < ((edgN E (rmS S) (k + 1)).length : Int) := by omega
            go_wp2
            go_returns
            exact ⟨⟨_, by rw [HF.out]; rfl, by rw [HF.out]; exact edgP_nil _ _⟩, O.keep⟩
          · have HL := Lib.hid (show (edgN E (rmS S) (k + 1)).length ≤ 65536 by omega)
            obtain ⟨Ae, ce, e', _⟩ := gr_shape M
            subst e'
            have q1 : decide (65536 < (edgN E (rmS S) (k + 1)).length) = false := decide_eq_false hl
            have q2 : ¬ (65536 : Int) < ((edgN E (rmS S) (k + 1)).length : Int) := by omega
            clear hl
            go_wp2
            clear q1 q2
            go_roundg (n - (k + 1))
            case measure => (have := HG.out; omega)
            case rel => exact ⟨k + 1, by omega, rfl, by go_num, O, M, HL.out⟩
    · obtain rfl : n = k := by omega
      have HF := Lib.hid (HOKR.out HG.out.2)
      clear hlt
      go_wp2
      go_returns
      exact ⟨⟨_, by rw [HF.out]; rfl, by rw [HF.out]; exact M⟩, O.keep⟩
theorem refedges_any (hS : SysIn w S A c R d) (hE : EvsAt w B n E) : Calls Try.prog 38 #[.agg (sysV S A c R d), .slice B n cb] w (EdgPost (edgR S E (rmS S) n) w) := by
  by_cases h : (thr S E n).2.2 = 0
  · exact refedges_good hS hE h
  · exact refedges_bad hS hE h
end
end Go.Proofs.Ytakmcpadkanggaa
