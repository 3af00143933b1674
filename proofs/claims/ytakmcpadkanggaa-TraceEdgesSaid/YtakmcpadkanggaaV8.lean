/-
  The walk of TraceEdges.
-/
import Derived.Test.YtakmcpadkanggaaV7
import Derived.Test.YtakmcpadkanggaaCp
namespace Go.Proofs.Ytakmcpadkanggaa
open Go.RowKit Go.Maps Go.Deep

theorem prC_self (x : Int × Int) (w : World) : (Op.equalIn 10000 67 (.agg (prC x)) (.agg (prC x))).run Try.prog w = .ok true w := by
  have h := run_equalIn_struct (P := Try.prog) w 9999 67 (prC x) (prC x) (by kernel_rfl) (by kernel_rfl)
  show (Op.equalIn (9999 + 1) 67 _ _).run Try.prog w = _
  rw [h]
  simp [Program.fieldsOf, Try.underlying67, Op.eqFields, part, isAgg, run_underlying Try.underlying3, prC, run_equalIn_int _ _ _ _ _ _ _ Try.underlying3]
section
variable {ops : Array Oper} {rest : List Oper} {o : Oper} {a : Act} {w W : World} {Q : Exit → Act → World → Prop} {S : List Nat} {L : List Ent} {base e size n : Nat} {v : Value} {xs : List Value}
/-- One cell of a row of one's own is written. -/
theorem gr_store (j : Nat) (x : Value) (ad : Addr) (m c ty : Nat) (y z : Operand) (O : Own w W S L) (M : W.ownsRow base e size v n xs) (hv : v = .slice (some ad) m c) (hj : j < xs.length) (hgd : o.guard = none) (hdst : o.dst = none) (ho : o.op = .store ty y z) (hy : a.eval y = .pointer (some (ad.add j))) (hz : a.eval z = x)
    (hx : x.cells = #[x]) (h1 : x.oneCell' = true) (hs : (Try.prog.info? ty).map (·.size) = some 1) (hb : w.heap.size ≤ base) (hL : ∀ q ∈ L, v.ownBlock ≠ some q.1) (h : ∀ u, Own w u S L → u.ownsRow base e size v n (xs.set j x) → Keeps W u v.ownBlock.toList → wpList Try.prog ops Q rest a u) : wpList Try.prog ops Q (o :: rest) a W := by
  obtain ⟨hl, ⟨rfl, _⟩ | ⟨g, cap, cur, rfl, hbg, hB, hle, hm, hsz, ht⟩⟩ := M
  · cases hv
  · simp only [Value.slice.injEq, Option.some.injEq] at hv
    obtain ⟨rfl, rfl, rfl⟩ := hv
    have hjc : j < cur.size := by
      have h2 : (cur.toList.take (n * size)).length = xs.length := by rw [ht]
      rw [List.length_take, Array.length_toList] at h2
      omega
    refine wpList_store_blk g j e cur x hgd hdst ho (by rw [hy, addr_zero_add]) hz hB hjc hx h1 hs fun u K b => ?_
    have hK : Keeps W u (Value.slice (some ⟨g, 0, none⟩) n cap).ownBlock.toList := K
    refine h u (O.wrote K (fun q hq hlt => ?_) (fun q hq hm => ?_)) ?_ hK
    · obtain rfl : q = g := by simpa using hq
      omega
    · have e1 : q.1 = g := by simpa using hm
      exact hL q hq (by rw [e1]; rfl)
    · refine ⟨by simpa using hl, .inr ⟨g, cap, _, rfl, hbg, b, hle, hm, by simpa using hsz, ?_⟩⟩
      rw [Array.toList_setIfInBounds, List.take_set, ht]
end
/-- The first q pairs struck. -/
def pz (es : List (Int × Int)) (q : Nat) : List (Int × Int) := (es.take q).map (fun p => (-7, p.2)) ++ es.drop q
theorem pz_zero (es : List (Int × Int)) : pz es 0 = es := by simp [pz]
theorem pz_length (es : List (Int × Int)) (q : Nat) (h : q ≤ es.length) : (pz es q).length = es.length := by simp [pz]; omega
theorem pz_here (es : List (Int × Int)) (q : Nat) (h : q < es.length) : (pz es q).getD q (0, 0) = es.getD q (0, 0) := by
  unfold pz
  rw [List.getD_eq_getElem?_getD, List.getElem?_append_right (by simp; omega), List.getD_eq_getElem?_getD]
  simp [Nat.min_eq_left (Nat.le_of_lt h)]
theorem prL_append (a b : List (Int × Int)) : prL (a ++ b) = prL a ++ prL b := by simp [prL]
theorem pz_succ (es : List (Int × Int)) (q : Nat) (h : q < es.length) : prL (pz es (q + 1)) = (prL (pz es q)).set (q * 2) (.int .i64 (-7)) := by
  have h1 : es.take (q + 1) = es.take q ++ [es[q]] := List.take_succ_eq_append_getElem h
  have h2 : es.drop q = es[q] :: es.drop (q + 1) := List.drop_eq_getElem_cons h
  have hl : (prL ((es.take q).map fun p => (-7, p.2))).length = q * 2 := by rw [prL_length]; simp; omega
  unfold pz
  rw [h1, h2, List.map_append, prL_append, prL_append, prL_append, List.append_assoc, List.set_append_right _ _ (by rw [hl]; exact Nat.le_refl _), hl, Nat.sub_self]
  rfl
theorem prow {W : World} {base n q m c : Nat} {v : Value} {ps : List (Int × Int)} {ad : Addr} (M : W.ownsRow base 67 2 v n (prL ps)) (hv : v = .slice (some ad) m c) (hq : q < ps.length) : ∀ j, j < (prC (ps.getD q (0, 0))).size → W.cell? ((ad.add (q * 2)).add j) = (prC (ps.getD q (0, 0)))[j]? := fun j hj => by
  have hj' : j < 2 := hj
  have h1 := prL_get ps q j hq hj'
  rw [Addr.add_add, ← h1]
  obtain ⟨x, hx⟩ : ∃ x, (prL ps)[q * 2 + j]? = some x := ⟨_, List.getElem?_eq_getElem (by rw [prL_length]; omega)⟩
  rw [hx]
  exact (gr_cell M hv hx).2
theorem EvsAt.keptS {w u : World} {A : Option Addr} {n : Nat} {E : Nat → Ev} (h : EvsAt w A n E) (k : Keeps w u []) : EvsAt u A n E := h.kept k
section
variable {w : World} {S : Sys} {A : Option Addr} {c : Nat} {R : Option Addr} {d n : Nat} {E : Nat → Ev} {B : Option Addr} {cb : Nat}
set_option maxRecDepth 100000 in
set_option maxHeartbeats 4000000 in
theorem edges_walk (hS : SysIn w S A c R d) (hE : EvsAt w B n E) (hwf : ∀ i, i < n → (Lit.int .i64 (E i).a).wf = true) (hB : B = none → n = 0 ∧ cb = 0) (hn : n * 40 ≤ 140737488351232) :
    Calls Try.prog 11 #[.agg (sysV S A c R d), .slice B n cb] w fun e w' => e = .returned (.bool true) ∧ Keeps w w' [] := by
  have O := Own.start w []
  have HC := Lib.hid (fun u (k : Keeps w u []) => copied_rm (cb := cb) (hE.kept k) hB hn)
  have HA := Lib.hid (fun u (k : Keeps w u []) B' c' (h : EvsAt u B' n E) => tedges_any (cb := c') (hS.kept k) h hwf)
  have HR := Lib.hid (fun u (k : Keeps w u []) => refedges_any (cb := cb) (hS.kept k) (hE.kept k))
  have HK := Lib.hid (fun u (k : Keeps w u []) B' c' (h : EvsAt u B' n E) => kept_any (cb := c') (cb' := cb) (show n ≤ 140737488351232 by omega) h (hE.kept k))
  have HL := Lib.hid (show (edgR S E (rmS S) n).1.length ≤ 65536 by
    unfold edgR
    split
    · split
      · simp
      · simp only; omega
    · simp)
  clear hS hE hwf hB hn
  generalize edgR S E (rmS S) n = r at *
  obtain ⟨es, er⟩ := r
  obtain ⟨m, hm⟩ : ∃ m, m = es.length := ⟨_, rfl⟩
  have HM := Lib.hid hm
  have hm6 : m ≤ 65536 := by rw [hm]; exact HL.out
  clear hm
  go_enter Try.func11, Try.ntmps11
  go_wp2_with (first
    | go_big_skip
    | (refine own_box 2 (sysV S A c R d) O rfl rfl rfl rfl ?_; clear O; intro W a2 O; simp only [Act.put, List.setIfInBounds_toArray, List.set_cons_zero, List.set_cons_succ])
    | (go_at_call 27; refine (HC.out _ O.keep).mono ?_; rintro e W0 ⟨⟨B1, c1, rfl, q1, q2, q3⟩, K⟩; replace O := O.keeps K; clear K; have HE1 := Lib.hid q1; clear q1 q2 q3))
  have HK0 := Lib.hid O.keep
  have hb2 := O.get 0 rfl
  have HB2 := Lib.hid hb2
  clear hb2 O
  go_loopg [6] 2 (fun g s6 wr => ∃ q, q ≤ 2 ∧ g = 2 - q ∧ s6 = .int .i64 (q : Int) ∧ Keeps W0 wr [])
  case atStart => exact ⟨0, by omega, by omega, rfl, Keeps.refl _ _⟩
  case round =>
    obtain ⟨t, ht, hgt, rfl, K0⟩ := hrel
    have HG := Lib.hid hgt
    clear hgt
    by_cases htt : t < 2
    · have g1 : (t : Int) < 2 := by omega
      have O : Own wr wr [] [] := Own.start wr []
      have KW := Lib.hid (HK0.out.trans K0 (by simp))
      have KZ := Lib.hid K0
      have b2 := HB2.out.keeps K0 (by simp)
      have HBW := Lib.hid b2
      clear K0 b2
      have e1 : (er != er) = false := by simp
      go_wp2_with (first
        | go_big_skip
        | (refine wpList_load_blk 19 rfl rfl rfl rfl HBW.out Try.underlying27 rfl (by kernel_rfl) ?_; simp only [Act.put, List.setIfInBounds_toArray, List.set_cons_zero, List.set_cons_succ])
        | (go_at_call 37; refine (HA.out _ KW.out _ _ (HE1.out.kept KZ.out)).mono ?_; rintro e Wa ⟨⟨va, rfl, MA⟩, Ka⟩; replace O := O.keeps Ka; obtain ⟨Aa, ca, hva, _⟩ := gr_shape MA; rw [← HM.out] at hva; subst hva; have HBa := Lib.hid (HBW.out.keeps Ka (by simp)); have hga : ∀ g, (Value.slice Aa m ca).ownBlock = some g → g < Wa.heap.size := (fun g hg => (gr_own MA hg).2.1); have HGA := Lib.hid hga; clear Ka hga)
        | (refine wpList_load_blk 25 rfl rfl rfl rfl HBa.out Try.underlying27 rfl (by kernel_rfl) ?_; simp only [Act.put, List.setIfInBounds_toArray, List.set_cons_zero, List.set_cons_succ])
        | (go_at_call 38; refine (HR.out _ (KW.out.trans O.keep (by simp))).mono ?_; rintro e Wb ⟨⟨vb, rfl, MB⟩, Kb⟩; replace O := O.keeps Kb; replace MA := gr_keeps MA Kb (by simp); obtain ⟨Ab, cc, hvb, _⟩ := gr_shape MB; rw [← HM.out] at hvb; subst hvb; clear Kb))
      have MA' : MintP 67 wr.heap.size Wb (.slice Aa m ca) (pz es 0) := by rw [pz_zero]; exact MA
      clear MA
      go_loopg [11] m (fun g s11 wi => ∃ q, q ≤ m ∧ g = m - q ∧ s11 = .int .i64 (q : Int) ∧ Own wr wi [] [] ∧ MintP 67 wr.heap.size wi (.slice Aa m ca) (pz es q) ∧ MintP 67 Wa.heap.size wi (.slice Ab m cc) es)
      case atStart => exact ⟨0, by omega, by omega, rfl, O, MA', MB⟩
      case round =>
        obtain ⟨q, hq, hgq, rfl, O, MA, MB⟩ := hrel
        have HG2 := Lib.hid hgq
        clear hgq
        by_cases hqt : q < m
        · have g2 : (q : Int) < m := by omega
          have g3 : (0 : Int) ≤ q := by omega
          have HQ := Lib.hid (show q < es.length by rw [← HM.out]; exact hqt)
          have HPL := Lib.hid (pz_length es q (Nat.le_of_lt HQ.out))
          have HPH := Lib.hid (pz_here es q HQ.out)
          have HPS := Lib.hid (pz_succ es q HQ.out)
          obtain ⟨ad, c1, e2⟩ : ∃ ad c1, Value.slice Aa m ca = .slice (some ad) m c1 := by
            obtain ⟨A', c', e', hA, _⟩ := gr_shape MA
            cases A' with
            | none => have := (hA rfl).1; have := HPL.out; have := HQ.out; omega
            | some ad => exact ⟨ad, c', by rw [e', HPL.out, ← HM.out]⟩
          obtain ⟨ad', c2, e3⟩ : ∃ ad c1, Value.slice Ab m cc = .slice (some ad) m c1 := by
            obtain ⟨A', c', e', hA, _⟩ := gr_shape MB
            cases A' with
            | none => have := (hA rfl).1; have := HQ.out; omega
            | some ad => exact ⟨ad, c', by rw [e', ← HM.out]⟩
          cases e2
          cases e3
          obtain ⟨x, hx⟩ : ∃ x, x = es.getD q (0, 0) := ⟨_, rfl⟩
          have HRA := Lib.hid (fun u (K : Keeps wr u []) => (by have := prow (q := q) (gr_keeps MA K (by simp)) rfl (by rw [HPL.out]; exact HQ.out); rw [HPH.out, ← hx] at this; exact this : ∀ j, j < (prC x).size → u.cell? ((ad.add (q * 2)).add j) = (prC x)[j]?))
          have HRB := Lib.hid (fun u (K : Keeps wr u []) => (by have := prow (q := q) (gr_keeps MB K (by simp)) rfl HQ.out; rw [← hx] at this; exact this : ∀ j, j < (prC x).size → u.cell? ((ad'.add (q * 2)).add j) = (prC x)[j]?))
          have hs := prC_self x
          clear hx
          go_wp2
          refine wp_quiet_later (by kernel_rfl) (by kernel_rfl) ?_
          repeat (first
            | go_big_quiet_skip
            | (refine wpQuiet_load_at (cs := prC x) 49 rfl rfl rfl rfl (fun u hu => HRA.out u (by obtain ⟨p', rfl⟩ := hu; exact p'.2)) Try.underlying67 rfl (by kernel_rfl) ?_; simp only [Act.put, List.setIfInBounds_toArray, List.set_cons_zero, List.set_cons_succ])
            | (refine wpQuiet_load_at (cs := prC x) 53 rfl rfl rfl rfl (fun u hu => HRB.out u (by obtain ⟨p', rfl⟩ := hu; exact p'.2)) Try.underlying67 rfl (by kernel_rfl) ?_; simp only [Act.put, List.setIfInBounds_toArray, List.set_cons_zero, List.set_cons_succ])
            | go_big_quiet_step (fail))
          refine wpQuiet_nil ?_
          intro _ hw
          obtain ⟨p', rfl⟩ := hw
          replace O := O.keeps p'.2
          replace MA := gr_keeps MA p'.2 (by simp)
          replace MB := gr_keeps MB p'.2 (by simp)
          clear hs
          generalize p'.1 = W at O MA MB ⊢
          go_wp2_with (first
            | (refine gr_store (q * 2) (.int .i64 (-7)) ad m ca 3 (.tmp 58) (.const (.int .i64 (-7))) O MA rfl (by rw [prL_length, HPL.out]; have := HQ.out; omega) rfl rfl rfl rfl rfl rfl rfl (by kernel_rfl) (Nat.le_refl _) (by simp) ?_; clear O; intro u O MA2 K; replace MB := gr_keeps MB K (fun g hg hm => by
                have h1 := HGA.out g (by simpa using hm)
                have h2 := (gr_own MB hg).1
                omega); clear K MA))
          go_roundg (m - (q + 1))
          case measure => (have := HG2.out; omega)
          case rel => exact ⟨q + 1, by omega, rfl, by go_num, O, by unfold MintP; rw [pz_length es (q + 1) HQ.out, HPS.out]; rw [HPL.out] at MA2; exact MA2, MB⟩
        · obtain rfl : m = q := by omega
          have K1 := KZ.out.trans O.keep (by simp)
          have HK1 := Lib.hid K1
          clear K1
          go_wp2
          go_roundg (2 - (t + 1))
          case measure => (have := HG.out; omega)
          case rel => exact ⟨t + 1, by omega, rfl, by go_num, HK1.out⟩
    · obtain rfl : t = 2 := by omega
      have HKW := Lib.hid (HK0.out.trans K0 (by simp))
      have HKE := Lib.hid (HE1.out.kept K0)
      clear K0
      go_wp2_with (go_at_call 31; refine (HK.out _ HKW.out _ _ HKE.out).mono ?_; rintro e W ⟨rfl, K⟩)
      go_ret
      exact ⟨rfl, HKW.out.trans K (by simp)⟩
end
end Go.Proofs.Ytakmcpadkanggaa
