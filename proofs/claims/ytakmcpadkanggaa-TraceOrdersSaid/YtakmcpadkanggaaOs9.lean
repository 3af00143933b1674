/-
  Part 9 of what this claim rests on.
-/
import Derived.Test.YtakmcpadkanggaaOs8
namespace Go.Proofs.Ytakmcpadkanggaa
open Go.RowKit Go.Maps Go.Deep
theorem befR_err (S : Sys) (E : Nat → Ev) (n : Nat) (i j : Int) : (beforeR S E n i j).2 = (askedR S E n [i, j]).2 := by
  unfold beforeR
  by_cases h : (askedR S E n [i, j]).2 = 0
  · rw [if_pos h, h]
  · rw [if_neg h]
/-- What both Ways hand out. -/
def WayPost (r : List Int × Int) (w : World) (e : Ending) (u : World) : Prop := (∃ v, e = .returned (.tuple #[v, .int .i64 r.2]) ∧ Mint w.heap.size u v r.1) ∧ Keeps w u []
theorem prC_eq137 (x y : Int × Int) (w : World) : (Op.equalIn 10000 137 (.agg (prC x)) (.agg (prC y))).run Try.prog w = .ok (x.1 == y.1 && x.2 == y.2) w := by
  have h := run_equalIn_struct (P := Try.prog) w 9999 137 (prC x) (prC y) (by kernel_rfl) (by kernel_rfl)
  show (Op.equalIn (9999 + 1) 137 _ _).run Try.prog w = _
  rw [h]
  by_cases e1 : x.1 = y.1
  · by_cases e2 : x.2 = y.2
    · simp [Program.fieldsOf, Try.underlying137, Op.eqFields, part, isAgg, run_underlying Try.underlying3, prC, run_equalIn_int _ _ _ _ _ _ _ Try.underlying3, e1, e2]
    · simp [Program.fieldsOf, Try.underlying137, Op.eqFields, part, isAgg, run_underlying Try.underlying3, prC, run_equalIn_int _ _ _ _ _ _ _ Try.underlying3, e1, e2]
  · simp [Program.fieldsOf, Try.underlying137, Op.eqFields, part, isAgg, run_underlying Try.underlying3, prC, run_equalIn_int _ _ _ _ _ _ _ Try.underlying3, e1]
/-- The rows that have been gathered: of each event from which edges lead to it; none of the links' blocks. -/
def RowsK (base : Nat) (W : World) (vs : Nat → Value) (I : Nat → List Int) (F : List Nat) (pl k : Nat) : Prop := ∀ x, x < k → HRow base W (vs x) (I x) ∧ ApF (vs x) F pl
section
variable {base : Nat} {W u : World} {vs : Nat → Value} {I : Nat → List Int} {F F' S : List Nat} {pl k : Nat} {r : Value}
theorem RowsK.none : RowsK base W vs I F pl 0 := fun x hx => by omega
theorem RowsK.new (h : RowsK base W vs I F pl k) (K : Keeps W u []) : RowsK base u vs I F pl k := fun x hx => ⟨(h x hx).1.keeps K (by simp), (h x hx).2⟩
theorem RowsK.blk (h : RowsK base W vs I F pl k) {g t : Nat} {cs : Array Value} (K : Keeps W u [g]) (hB : Blk W g t cs) (ht : t ≠ 3) : RowsK base u vs I F pl k := fun x hx => ⟨(h x hx).1.keeps K (fun b hb hm => by
  obtain ⟨_, cur, hb'⟩ := (h x hx).1.own hb
  exact blk_neR hb' hB (Ne.symm ht) (List.mem_singleton.1 hm)), (h x hx).2⟩
theorem RowsK.next (h : RowsK base W vs I F pl k) (K : Keeps W u F) (hnew : ∀ b ∈ F', b ∈ F ∨ W.heap.size ≤ b) : RowsK base u vs I F' pl k := fun x hx => ⟨(h x hx).1.keeps K (fun b hb => ((h x hx).2 b hb).1), fun g hg => by
  obtain ⟨_, cur, hb⟩ := (h x hx).1.own hg
  exact ⟨notF hnew ((h x hx).2 g hg).1 hb.lt, ((h x hx).2 g hg).2⟩⟩
theorem RowsK.push (h : RowsK base W vs I F pl k) (hr : HRow base W r (I k)) (ha : ApF r F pl) : RowsK base W (updN vs k r) I F pl (k + 1) := fun x hx => by
  by_cases e : x = k
  · subst e; rw [updN_same]; exact ⟨hr, ha⟩
  · rw [updN_other _ _ _ _ e]; exact h x (by omega)
theorem RowsK.from_ (h : RowsK base W vs I F pl k) {g : Nat} (hB : Blk W g 25 (arrF k vs)) : FromAt base W ⟨g, 0, .none⟩ k I := fun x hx => ⟨vs x, by rw [blk_add hB]; exact arrF_get _ _ hx, (h x hx).1⟩
theorem q_start {g q : Nat} (hB : Blk W g 137 (prC ((q : Int), 0))) (hb : base ≤ g) : QAt base 137 2 W (.slice (some ⟨g, 0, .none⟩) 1 1) 1 (stpL I q [q]) := by
  have e : stpL I q [q] = (prC ((q : Int), 0)).toList := by show [Value.int .i64 (q : Int), .int .i64 (dsI I q q)] = _; rw [dsI_of ds_self]; rfl
  refine ⟨by rw [e]; rfl, g, 0, 1, _, rfl, hb, hB, Nat.le_refl _, by decide, by show 0 + 1 * 2 ≤ 2; decide, fun j hj => ?_⟩
  rw [e, Nat.zero_add]
  simp
theorem mint_one {g : Nat} {x : Int} (hB : Blk W g 3 #[.int .i64 x]) (hb : base ≤ g) : Mint base W (.slice (some ⟨g, 0, .none⟩) 1 1) [x] := ⟨rfl, .inr ⟨g, 1, _, rfl, hb, hB, Nat.le_refl _, by decide, rfl, rfl⟩⟩
end
section
variable {w : World} {S : Sys} {A : Option Addr} {c : Nat} {R : Option Addr} {d n : Nat} {E : Nat → Ev} {B : Option Addr} {cb : Nat}
set_option maxRecDepth 100000 in
set_option maxHeartbeats 1000000 in
theorem tway_bad (hS : SysIn w S A c R d) (hE : EvsAt w B n E) (hwf : ∀ i, i < n → (Lit.int .i64 (E i).a).wf = true) (i j : Int) (h : ¬ (beforeR S E n i j).2 = 0) : Calls Try.prog 46 #[.agg (sysV S A c R d), .slice B n cb, .int .i64 i, .int .i64 j] w (WayPost (wayR S E n i j) w) := by
  have O := Own.start w []
  have HA := Lib.hid (show ∀ u, Keeps w u [] → ∀ v, IntL u v [i, j] → Calls Try.prog 62 #[.agg (sysV S A c R d), .slice B n cb, v] u fun e w' => e = .returned (.tuple #[.int .i64 (askedR S E n [i, j]).1, .int .i64 (askedR S E n [i, j]).2]) ∧ Keeps u w' [] from fun u k v hv => asked_any (cb := cb) (hS.kept k) (hE.kept k) hwf v [i, j] hv (by simp))
  have HF := Lib.hid (show wayR S E n i j = ([], (askedR S E n [i, j]).2) by rw [way_no (fun q => h q.1), befR_err])
  rw [befR_err] at h
  generalize wayR S E n i j = r at HF ⊢
  generalize askedR S E n [i, j] = x at HA HF h
  obtain ⟨x0, x1⟩ := x
  simp only at h HF HA
  clear hS hE hwf
  go_enter Try.func46, Try.ntmps46
  go_wp2_with (first
    | go_big_skip
    | (refine own_box 4 (sysV S A c R d) O rfl rfl rfl rfl ?_; clear O; intro W b4 O; simp only [Act.put, List.setIfInBounds_toArray, List.set_cons_zero, List.set_cons_succ])
    | (refine own_load 29 0 O rfl rfl rfl rfl rfl Try.underlying27 rfl (by kernel_rfl) ?_; simp only [Act.put, List.setIfInBounds_toArray, List.set_cons_zero, List.set_cons_succ])
    | (refine own_litB 33 i j O rfl rfl rfl rfl rfl ?_; clear O; intro W gl O K1; clear K1; simp only [Act.put, List.setIfInBounds_toArray, List.set_cons_zero, List.set_cons_succ])
    | (go_at_call 62; refine (HA.out _ O.keep _ ⟨_, 2, rfl, fun _ => ⟨⟨gl, 0, none⟩, rfl, O.lt 0 rfl, fun j hj => litB_cell (O.get 0 rfl) hj⟩⟩).mono ?_; rintro e W ⟨rfl, K⟩; replace O := (O.keeps K).drop_ 1; clear K))
  go_returns
  exact ⟨⟨_, by rw [HF.out]; rfl, by rw [HF.out]; exact Mint.nil _ _⟩, O.keep⟩
set_option maxRecDepth 100000 in
set_option maxHeartbeats 1000000 in
theorem tway_no (hS : SysIn w S A c R d) (hE : EvsAt w B n E) (hcb : n ≤ cb) (hwf : ∀ i, i < n → (Lit.int .i64 (E i).a).wf = true) (i j : Int) (h : (beforeR S E n i j).2 = 0) (h' : (beforeR S E n i j).1 = false) : Calls Try.prog 46 #[.agg (sysV S A c R d), .slice B n cb, .int .i64 i, .int .i64 j] w (WayPost (wayR S E n i j) w) := by
  have O := Own.start w []
  have HA := Lib.hid (show ∀ u, Keeps w u [] → ∀ v, IntL u v [i, j] → Calls Try.prog 62 #[.agg (sysV S A c R d), .slice B n cb, v] u fun e w' => e = .returned (.tuple #[.int .i64 (askedR S E n [i, j]).1, .int .i64 (askedR S E n [i, j]).2]) ∧ Keeps u w' [] from fun u k v hv => asked_any (cb := cb) (hS.kept k) (hE.kept k) hwf v [i, j] hv (by simp))
  have ha := h
  rw [befR_err] at ha
  have HF := Lib.hid (show wayR S E n i j = ([], 0) by rw [way_no (fun q => by rw [h'] at q; exact absurd q.2 (by simp)), h])
  obtain ⟨ht, ⟨hi0, hi1⟩, ⟨hj0, hj1⟩, hR⟩ := asked_two i j ha
  obtain ⟨hv, hn, hok⟩ := thr_zero ht
  have hl := stN_le E n
  obtain ⟨p, rfl⟩ : ∃ p : Nat, i = (p : Int) := ⟨i.toNat, by omega⟩
  obtain ⟨q, rfl⟩ : ∃ q : Nat, j = (q : Int) := ⟨j.toNat, by omega⟩
  obtain ⟨r, hr⟩ : ∃ r : Nat, (stN E n).r = (r : Int) := ⟨(stN E n).r.toNat, by omega⟩
  have hbf : befB E (rmS S) p q = false := by unfold beforeR at h'; rw [if_pos ha] at h'; exact h'
  have HB := Lib.hid (fun u (K : Keeps w u []) => (by have := before_any (cb := cb) (r := r) (i := p) (j := q) (hS.kept K) (hE.kept K) (val_rooms hv) hok hn hwf (by omega) (by omega) (by omega) (by omega) hcb; rwa [hbf] at this : Calls Try.prog 79 #[.agg (sysV S A c R d), .slice B n cb, .int .i64 (r : Int), .int .i64 (p : Int), .int .i64 (q : Int)] u fun e u' => e = .returned (.bool false) ∧ Keeps u u' []))
  rw [hR, hr] at HA
  generalize wayR S E n (p : Int) (q : Int) = rr at HF ⊢
  clear hS hE hcb hwf h h' ha ht hi0 hi1 hj0 hj1 hR hv hn hok hl hr hbf
  go_enter Try.func46, Try.ntmps46
  go_wp2_with (first
    | go_big_skip
    | (refine own_box 4 (sysV S A c R d) O rfl rfl rfl rfl ?_; clear O; intro W b4 O; simp only [Act.put, List.setIfInBounds_toArray, List.set_cons_zero, List.set_cons_succ])
    | (refine own_load 29 0 O rfl rfl rfl rfl rfl Try.underlying27 rfl (by kernel_rfl) ?_; simp only [Act.put, List.setIfInBounds_toArray, List.set_cons_zero, List.set_cons_succ])
    | (refine own_load 40 0 O rfl rfl rfl rfl rfl Try.underlying27 rfl (by kernel_rfl) ?_; simp only [Act.put, List.setIfInBounds_toArray, List.set_cons_zero, List.set_cons_succ])
    | (refine own_litB 33 (p : Int) (q : Int) O rfl rfl rfl rfl rfl ?_; clear O; intro W gl O K1; clear K1; simp only [Act.put, List.setIfInBounds_toArray, List.set_cons_zero, List.set_cons_succ])
    | (go_at_call 62; refine (HA.out _ O.keep _ ⟨_, 2, rfl, fun _ => ⟨⟨gl, 0, none⟩, rfl, O.lt 0 rfl, fun j hj => litB_cell (O.get 0 rfl) hj⟩⟩).mono ?_; rintro e W ⟨rfl, K⟩; replace O := (O.keeps K).drop_ 1; clear K)
    | (go_at_call 79; refine (HB.out _ O.keep).mono ?_; rintro e W ⟨rfl, K⟩; replace O := O.keeps K; clear K))
  go_returns
  exact ⟨⟨_, by rw [HF.out]; rfl, by rw [HF.out]; exact Mint.nil _ _⟩, O.keep⟩
set_option maxRecDepth 100000 in
set_option maxHeartbeats 8000000 in
theorem tway_good (hS : SysIn w S A c R d) (hE : EvsAt w B n E) (hcb : n ≤ cb) (hwf : ∀ i, i < n → (Lit.int .i64 (E i).a).wf = true) (i j : Int) (h : (beforeR S E n i j).2 = 0) (h' : (beforeR S E n i j).1 = true) : Calls Try.prog 46 #[.agg (sysV S A c R d), .slice B n cb, .int .i64 i, .int .i64 j] w (WayPost (wayR S E n i j) w) := by
  have O := Own.start w []
  have HA := Lib.hid (show ∀ u, Keeps w u [] → ∀ v, IntL u v [i, j] → Calls Try.prog 62 #[.agg (sysV S A c R d), .slice B n cb, v] u fun e w' => e = .returned (.tuple #[.int .i64 (askedR S E n [i, j]).1, .int .i64 (askedR S E n [i, j]).2]) ∧ Keeps u w' [] from fun u k v hv => asked_any (cb := cb) (hS.kept k) (hE.kept k) hwf v [i, j] hv (by simp))
  obtain ⟨p, q, d0, rfl, rfl, hpq, hqn, hn, hv, hok, hbef, hds, hway⟩ := way_yes h h'
  rw [befR_err] at h
  obtain ⟨ht, _, _, hR⟩ := asked_two (p : Int) (q : Int) h
  have hl := stN_le E n
  obtain ⟨r, hr⟩ : ∃ r : Nat, (stN E n).r = (r : Int) := ⟨(stN E n).r.toNat, by omega⟩
  have HB := Lib.hid (fun u (K : Keeps w u []) => (by have := before_any (cb := cb) (r := r) (i := p) (j := q) (hS.kept K) (hE.kept K) (val_rooms hv) hok hn hwf (by omega) (by omega) (by omega) (by omega) hcb; rwa [hbef] at this : Calls Try.prog 79 #[.agg (sysV S A c R d), .slice B n cb, .int .i64 (r : Int), .int .i64 (p : Int), .int .i64 (q : Int)] u fun e u' => e = .returned (.bool true) ∧ Keeps u u' []))
  rw [hR, hr] at HA
  have HNX := Lib.hid (fun u (K : Keeps w u []) (x : Nat) (hx : x < n) F f pl mb base (hl : LinksAt u F (.slice R S.nr d) pl mb f (lkN E x) (2 * x) base) (hb : w.heap.size ≤ base) => lnextE hS K (valid_rooms hv) (by omega) (hok x hx) (hwf x hx) hl (by omega) (fun i a => by have := lk_len E i a x; omega) (fun h6 hs => by rw [lk_r0, lk_r1, natL_length, natL_length]; exact ok_take (hok x hx) h6 hs) hb)
  rw [hway]
  have HUP := Lib.hid (into_up (rm := rmS S) hok)
  have HLEN := Lib.hid (fun x (hx : x < n) => intoL_length (rm := rmS S) (hok x hx))
  obtain ⟨I, hI⟩ : ∃ I, I = intoL E (rmS S) := ⟨_, rfl⟩
  have HXS := Lib.hid (show ∀ x, scL (nextR (lkN E x) (rmS S) (E x)) = I x from fun x => by rw [hI]; rfl)
  rw [← hI] at hds HUP HLEN ⊢
  have HDS := Lib.hid hds
  obtain ⟨ad, rfl, _⟩ := hE (by omega)
  have HE := Lib.hid hE
  have hcb1 : ((q : Nat) : Int) + 1 ≤ cb := by omega
  have hcb2 : q + 1 ≤ cb := by omega
  have hq4 : q ≤ 40000 := by omega
  have HQN := Lib.hid hqn
  have HPQ := Lib.hid hpq
  clear hS hE hcb hwf h h' ht hR hv hok hl hr hbef hds hway hI hpq
  go_enter Try.func46, Try.ntmps46
  go_wp2_with (first
    | go_big_skip
    | (refine own_box 4 (sysV S A c R d) O rfl rfl rfl rfl ?_; clear O; intro W a4 O; simp only [Act.put, List.setIfInBounds_toArray, List.set_cons_zero, List.set_cons_succ])
    | (refine own_load 29 0 O rfl rfl rfl rfl rfl Try.underlying27 rfl (by kernel_rfl) ?_; simp only [Act.put, List.setIfInBounds_toArray, List.set_cons_zero, List.set_cons_succ])
    | (refine own_load 40 0 O rfl rfl rfl rfl rfl Try.underlying27 rfl (by kernel_rfl) ?_; simp only [Act.put, List.setIfInBounds_toArray, List.set_cons_zero, List.set_cons_succ])
    | (refine own_load 47 0 O rfl rfl rfl rfl rfl Try.underlying27 rfl (by kernel_rfl) ?_; simp only [Act.put, List.setIfInBounds_toArray, List.set_cons_zero, List.set_cons_succ])
    | (refine own_litB 33 (p : Int) (q : Int) O rfl rfl rfl rfl rfl ?_; clear O; intro W gl O K1; clear K1; simp only [Act.put, List.setIfInBounds_toArray, List.set_cons_zero, List.set_cons_succ])
    | (go_at_call 62; refine (HA.out _ O.keep _ ⟨_, 2, rfl, fun _ => ⟨⟨gl, 0, none⟩, rfl, O.lt 0 rfl, fun j hj => litB_cell (O.get 0 rfl) hj⟩⟩).mono ?_; rintro e W ⟨rfl, K⟩; replace O := (O.keeps K).drop_ 1; clear K)
    | (go_at_call 79; refine (HB.out _ O.keep).mono ?_; rintro e W ⟨rfl, K⟩; replace O := O.keeps K; clear K)
    | (go_at_call 69; refine newLinks_any.mono ?_; rintro e W' ⟨⟨pl, F, mb, f, rfl, LA, hp⟩, K⟩; have hws := O.keep.size; have ha4 := O.lt 0 rfl; have hb0 : ∃ b, b = W.heap.size := ⟨_, rfl⟩; obtain ⟨base, hbase⟩ := hb0; rw [← hbase] at LA hp hws ha4; replace O := O.keeps K; clear K hbase; have HP := Lib.hid (And.intro hp (And.intro hws ha4)); clear hp hws ha4)
    | (refine own_makeSK 51 (q + 1) O rfl rfl rfl (by first | rfl | go_num) (by omega) ?_; clear O; intro W gf O K1 hgf; rw [arrF_nil] at O; have hg0 : gf ∉ F ∧ gf ≠ pl := ⟨(fun hm => by have := (LA.ltF _ hm).2; omega), (fun e => by have := LA.blk.lt; omega)⟩; replace LA := LA.kept K1 (by simp); have HGF := Lib.hid hg0; clear K1 hgf hg0; simp only [Act.put, List.setIfInBounds_toArray, List.set_cons_zero, List.set_cons_succ]))
  clear HA HB
  go_loopg [57] (q + 1) (fun g s57 wr => ∃ k F f vs, k ≤ q + 1 ∧ g = q + 1 - k ∧ s57 = .int .i64 (k : Int) ∧ Own w wr [] [(gf, 25, arrF (q + 1) vs), (a4, 27, sysV S A c R d)] ∧ RowsK w.heap.size wr vs I F pl k ∧ (gf ∉ F ∧ gf ≠ pl) ∧ LinksAt wr F (.slice R S.nr d) pl mb f (lkN E k) (2 * k) base)
  case atStart => exact ⟨0, F, f, _, by omega, by omega, rfl, O, RowsK.none, HGF.out, LA⟩
  case round =>
    clear O LA HGF
    obtain ⟨k, F, f, vs, hk, hgk, rfl, O, RK, hgf, LA⟩ := hrel
    have HG := Lib.hid hgk
    have HGF := Lib.hid hgf
    clear hgk hgf
    by_cases hlt : k < q + 1
    · have g1 : ((k : Int)) < (q : Int) + 1 := by omega
      have g0 : (0 : Int) ≤ k := by omega
      have hkn : k < n := by have := HQN.out; omega
      obtain ⟨ad', e1, hc⟩ := EvsAt.row (u := w) HE.out hkn
      obtain rfl : ad = ad' := by injection e1
      have HC := Lib.hid hc
      have HNk := Lib.hid (fun u (K : Keeps w u []) F f (hl : LinksAt u F (.slice R S.nr d) pl mb f (lkN E k) (2 * k) base) => HNX.out u K k hkn F f pl mb base hl HP.out.2.1)
      have HXk := Lib.hid (HXS.out k)
      have HLK := Lib.hid (show nextK (lkN E k) (k : Int) (E k) = lkN E (k + 1) from rfl)
      clear hc e1
      generalize E k = e at HC HNk HXk HLK
      go_wp2_with (first
        | (refine wpList_load_at 61 rfl rfl rfl rfl (HC.out [] _ O.keep (by simp)) Try.underlying37 rfl (by kernel_rfl) ?_; simp only [Act.put, List.setIfInBounds_toArray, List.set_cons_zero, List.set_cons_succ])
        | (refine own_allocK 15 (evC ⟨0, 0, 0, 0, false⟩) O rfl rfl rfl (fun _ => by kernel_rfl) ?_; clear O; intro W1 b15 O K1 hb; have hb15 : b15 ∉ F ∧ b15 ≠ pl := ⟨(fun hm => by have := (LA.ltF _ hm).2; omega), (fun e => by have := LA.blk.lt; omega)⟩; replace RK := RK.new K1; replace LA := LA.kept K1 (by simp); have HB15 := Lib.hid hb15; clear K1 hb hb15; simp only [Act.put, List.setIfInBounds_toArray, List.set_cons_zero, List.set_cons_succ])
        | (have hB := O.get 0 rfl; refine own_store_rowK 0 (.tmp 15) (.tmp 61) O rfl rfl rfl rfl rfl rfl (by kernel_rfl) (by rfl) (evC_cell _) ?_; clear O; intro W2 O K2; simp only [List.set_cons_zero] at O; replace RK := RK.blk K2 hB (by decide); replace LA := LA.kept K2 (fun b hb => by rw [List.mem_singleton.1 hb]; exact HB15.out); clear K2 hB)
        | (refine own_load 66 0 O rfl rfl rfl rfl rfl Try.underlying37 rfl (by kernel_rfl) ?_; simp only [Act.put, List.setIfInBounds_toArray, List.set_cons_zero, List.set_cons_succ])
        | (go_at_call 70; have hsz := O.keep.size; refine (HNk.out _ O.keep F f LA).mono ?_; rintro x W3 ⟨rr, F', f', rfl, hR, LA', hnew, hrF, K3⟩; have HGF' := Lib.hid (show gf ∉ F' ∧ gf ≠ pl from ⟨notF hnew HGF.out.1 (O.lt 1 rfl), HGF.out.2⟩); have hap : ApF rr F' pl := (fun g hg => ⟨hrF g hg, fun e => by have := (hR.own hg).1; have := LA.blk.lt; omega⟩); replace RK := RK.next K3 hnew; replace O := O.wrote K3 (fun b hb hlt => absurd hlt (by have := (LA.ltF b hb).1; have := HP.out.2.1; omega)) (fun z hz => by
            rcases List.mem_cons.1 hz with rfl | hz
            · exact HB15.out.1
            · rcases List.mem_cons.1 hz with rfl | hz
              · exact HGF.out.1
              · rw [List.mem_singleton.1 hz]; exact fun hm => by have := (LA.ltF _ hm).1; have := HP.out.2.2; omega); rw [HXk.out] at hR; rw [HLK.out] at LA'; replace hR := hrow_low hR hsz; replace RK := RK.push hR hap; obtain ⟨Av, cv, hvv, _⟩ := hR.row; subst hvv; clear LA HGF hnew hrF K3 hR hap hsz)
        | (have hB := O.get 1 rfl; refine own_storeK 1 k _ (.tmp 68) (.tmp 67) O rfl rfl rfl rfl rfl rfl (by rw [arrF_size]; exact hlt) rfl rfl (by kernel_rfl) (arrF_set _ _ _ _) ?_; clear O; intro W4 O K4; simp only [List.set_cons_zero, List.set_cons_succ] at O; replace RK := RK.blk K4 hB (by decide); replace LA' := LA'.kept K4 (fun b hb => by rw [List.mem_singleton.1 hb]; exact HGF'.out); clear K4 hB))
      go_roundg (q + 1 - (k + 1))
      case measure => (have := HG.out; omega)
      case rel => exact ⟨k + 1, F', f', _, by omega, rfl, by go_num, O.drop_ 1, RK, HGF'.out, LA'⟩
    · obtain rfl : k = q + 1 := by omega
      have HK0 := Lib.hid O.keep
      have FA := RK.from_ (O.get 0 rfl)
      have HFA := Lib.hid (fun u (K : Keeps wr u []) => FA.kept K)
      have hwq := O.keep.size
      have HWQ := Lib.hid hwq
      clear O RK LA HGF FA hlt hwq HP HNX HE HXS HG hk
      replace O := Own.start wr []
      have HWF := Lib.hid (wf_small (n := (q : Int)) (by omega) (by omega))
      rename World => wq
      go_wp2_with (first
        | (refine own_makeMapV 70 O rfl rfl rfl ?_; clear O; intro W1 bm O K1 Mv hb; have hbm : wq.heap.size ≤ bm := Nat.le_trans (by have := O.keep.size; first | exact hb | omega) (Nat.le_refl _); have HBM := Lib.hid hbm; clear K1 hb hbm; simp only [Act.put, List.setIfInBounds_toArray, List.set_cons_zero, List.set_cons_succ])
        | (refine map_insertV (v := .int .i64 0) Mv 117 3 Try.underlying117 rfl rfl rfl rfl HWF.out rfl (by simp only [maxLen]; omega) ?_; intro W2 K2 Mv2; replace O := O.mapped K2 (fun g t cs hB => Mv.not_blk hB) (fun hlt => absurd hlt (by have := HBM.out; omega)); clear Mv K2; have Mv := Mv2; rw [farF_start (I := I)] at Mv; clear Mv2; simp only [Act.put, List.setIfInBounds_toArray, List.set_cons_zero, List.set_cons_succ])
        | (refine own_lit2 75 138 137 ((q : Int), 0) O rfl rfl rfl rfl Try.underlying138 (by kernel_rfl) ?_; clear O; intro W3 gq O K1 hg; replace Mv := Mv.keeps K1 (by simp); have QA := q_start (base := wq.heap.size) (I := I) (O.get 0 rfl) (by have := (own_at O 0 rfl).1; exact this); replace O := O.drop_ 1; clear K1 hg; simp only [Act.put, List.setIfInBounds_toArray, List.set_cons_zero, List.set_cons_succ]))
      go_loopg [17] (q + 1) (fun g s17 wr => ∃ L hh m, L.length = hh + m ∧ g = q + 1 - hh ∧ Bfs I p q L hh ∧ QAt wq.heap.size 137 2 wr s17 m (stpL I q (L.drop hh)) ∧ MapV wr bm L.length (farF I q L) ∧ Own wq wr [] [])
      case atStart => exact ⟨[q], 0, 1, rfl, by omega, Bfs.start (Nat.le_of_lt HPQ.out), QA, Mv, O⟩
      case round =>
        clear O QA Mv
        obtain ⟨L, hh, m0, hLm, hgk, BF, QA, Mv, O⟩ := hrel
        have hlt := BF.lt HUP.out HQN.out HDS.out
        obtain ⟨m, rfl⟩ : ∃ m, m0 = m + 1 := ⟨m0 - 1, by omega⟩
        have HG := Lib.hid (And.intro hgk hLm)
        obtain ⟨x, hx⟩ : ∃ x, L[hh]? = some x := ⟨_, List.getElem?_eq_getElem hlt⟩
        have hdr : L.drop hh = x :: L.drop (hh + 1) := by rw [List.drop_eq_getElem_cons hlt]; congr 1; rw [List.getElem?_eq_getElem hlt] at hx; injection hx
        have hxL := List.mem_of_getElem? hx
        have hxr := BF.rng x hxL
        obtain ⟨dx, hdx⟩ : ∃ dx : Nat, dsI I q x = (dx : Int) := ⟨(dsI I q x).toNat, by have := BF.ds x hxL; omega⟩
        have hdx4 := ds_le HUP.out HQN.out (dsI_iff.1 hdx)
        have hdx5 : dx ≤ 40000 := by omega
        have HL5 := Lib.hid BF.len
        have hm5 : m ≤ 50000 := by have := HL5.out; omega
        rw [hdr, stpL_cons, hdx] at QA
        obtain ⟨gq, off, cap, rfl, hcap1, hcap2⟩ := QA.shape
        have ca := QA.cell (j := 0) (by omega)
        have cc := QA.cell (j := 1) (by omega)
        have HBF := Lib.hid BF
        have HX := Lib.hid (And.intro hx (And.intro hdx hxr))
        have hx4 : x ≤ 40000 := by omega
        have hxq : x < q + 1 := by omega
        have hxq2 : (x : Int) < (q : Int) + 1 := by omega
        have hx0 : (0 : Int) ≤ x := by omega
        have HQT := Lib.hid (show stpL I q (L.drop hh) = .int .i64 (x : Int) :: .int .i64 (dx : Int) :: stpL I q (L.drop (hh + 1)) by rw [hdr, stpL_cons, hdx])
        rw [← HQT.out] at QA
        clear hgk hLm hlt BF hdr hxL hxr hdx hx hdx4
        have HWT := Lib.hid (show ∀ j, j < (#[Value.int .i64 (x : Int), .int .i64 (dx : Int)] : Array Value).size → wr.cell? ((⟨gq, off, none⟩ : Addr).add j) = (#[Value.int .i64 (x : Int), .int .i64 (dx : Int)] : Array Value)[j]? from fun j hj => by
          rw [Addr.add_lit]
          match j, hj with
          | 0, _ => exact ca
          | 1, _ => exact cc)
        clear ca cc hcap1 hcap2
        have m1 : (0 : Int) < (m : Int) + 1 := by omega
        have hs := prC_eq137 ((x : Int), (dx : Int)) ((p : Int), (dx : Int))
        simp only [prC, beq_self_eq_true, Bool.and_true] at hs
        obtain ⟨v, hvk⟩ := HFA.out wq (Keeps.refl _ _) |>.look hxq
        obtain ⟨Av, cv, rfl, _⟩ := (hvk wq (Keeps.refl _ _)).2.row
        have HRX := Lib.hid hvk
        clear hvk
        by_cases hxp : x = p
        · subst hxp
          have hs2 : ((x : Int) == (x : Int)) = true := by simp
          rw [hs2] at hs
          go_wp2_with (first
            | (refine wpList_load_at (cs := #[.int .i64 (x : Int), .int .i64 (dx : Int)]) 83 rfl rfl rfl rfl HWT.out Try.underlying137 rfl (by kernel_rfl) ?_; simp only [Act.put, List.setIfInBounds_toArray, List.set_cons_zero, List.set_cons_succ])
            | (refine own_allocK 18 #[.int .i64 0, .int .i64 0] O rfl rfl rfl (fun _ => by kernel_rfl) ?_; clear O; intro W1 b18 O K1 hb; replace Mv := Mv.keeps K1 (by simp); have hq18 : (Value.slice (some ⟨gq, off, none⟩) (m + 1) cap).ownBlock ≠ some b18 := (fun hg => by have := (QA.own hg).2.1; omega); replace QA := QA.keeps K1 (by simp); have HQ18 := Lib.hid hq18; clear K1 hb hq18; simp only [Act.put, List.setIfInBounds_toArray, List.set_cons_zero, List.set_cons_succ])
            | (have hB := O.get 0 rfl; refine own_store_rowK 0 (.tmp 18) (.tmp 83) (cs' := #[.int .i64 (x : Int), .int .i64 (dx : Int)]) O rfl rfl rfl rfl rfl rfl (by kernel_rfl) (by rfl) (by intro v hv; simp only [List.mem_cons, List.not_mem_nil, or_false] at hv; rcases hv with rfl | rfl <;> rfl) ?_; clear O; intro W2 O K2; simp only [List.set_cons_zero] at O; replace QA := QA.keeps K2 (fun g hg hm => HQ18.out (by rw [hg]; congr 1; exact List.mem_singleton.1 hm)); replace Mv := Mv.keeps K2 (by have := Mv.not_blk hB; simpa using Ne.symm this); clear K2 hB; have c18a : W2.cell? ⟨b18, 0, none⟩ = some (.int .i64 (x : Int)) := (O.get 0 rfl).cell 0; have c18b : W2.cell? ⟨b18, 1, none⟩ = some (.int .i64 (dx : Int)) := (O.get 0 rfl).cell 1; have cF := (HRX.out W2 O.keep).1; rw [Addr.add_lit, Nat.zero_add] at cF)
            | (refine own_load 84 0 O rfl rfl rfl rfl rfl Try.underlying137 rfl (by kernel_rfl) ?_; simp only [Act.put, List.setIfInBounds_toArray, List.set_cons_zero, List.set_cons_succ])
            | (refine own_lit1 128 (x : Int) O rfl rfl rfl rfl ?_; clear O; intro W8 gl O K1 hg; replace Mv := Mv.keeps K1 (by simp); have MW := mint_one (base := wq.heap.size) (O.get 0 rfl) (own_at O 0 rfl).1; replace O := O.drop_ 2; clear K1 hg; simp only [Act.put, List.setIfInBounds_toArray, List.set_cons_zero, List.set_cons_succ]))
          have HDX := Lib.hid (dsI_iff.1 HX.out.2.1)
          have HDD := Lib.hid (HDX.out.unique HDS.out)
          have HFND := Lib.hid (show ∀ z e, Ds I q z e → x ≤ z → e ≤ dx → z ∈ L from fun z e hz hpz he => HBF.out.found HUP.out HQN.out HX.out.1 hz hpz (by rw [HX.out.2.1]; omega))
          clear hs hs2 c18a c18b cF HWT m1 QA HQ18 HRX HQT
          go_loopg [23, 24] dx (fun g s23 s24 wr4 => ∃ (e z : Nat) (P : List Int), g = e ∧ s24 = .int .i64 (z : Int) ∧ Ds I q z e ∧ e ≤ dx ∧ z ∈ L ∧ x ≤ z ∧ P ++ wayL I q e z = wayL I q dx x ∧ Mint wq.heap.size wr4 s23 (P ++ [(z : Int)]) ∧ MapV wr4 bm L.length (farF I q L) ∧ Own wq wr4 [] [])
          case atStart => exact ⟨dx, x, [], rfl, rfl, HDX.out, Nat.le_refl _, List.mem_of_getElem? HX.out.1, Nat.le_refl _, rfl, MW, Mv, O⟩
          case round =>
            rename World => wr4
            clear O MW Mv
            obtain ⟨e0, z, P, hge, rfl, hde, hedx, hzL, hxz, hway, MW, Mv, O⟩ := hrel
            have hz4 : z ≤ q := by have := HBF.out.rng z hzL; omega
            have hPl : P.length + e0 = dx := by
              have := congrArg List.length hway
              rw [List.length_append, wayL_length, wayL_length] at this
              omega
            have hP5 : P.length ≤ 40000 := by omega
            match e0, hge, hde, hedx, hway, hPl with
            | 0, hge, hde, hedx, hway, hPl =>
              obtain rfl := ds_zero hde
              have HWY := Lib.hid (show P ++ [(z : Int)] = wayL I z dx x from hway)
              obtain ⟨ll, hll⟩ : ∃ ll, ll = (P ++ [(z : Int)]).length := ⟨_, rfl⟩
              obtain ⟨Aw, cw, hsv, _⟩ := gr_shape MW
              rw [← hll] at hsv
              subst hsv
              have HMW := Lib.hid MW
              clear hll hge hde hedx hway hPl MW
              go_wp2
              go_returns
              exact ⟨⟨_, rfl, by have := mint_low (b := w.heap.size) HMW.out HWQ.out; rw [HWY.out, HDD.out] at this; exact this⟩, HK0.out.trans O.keep (by simp)⟩
            | e + 1, hge, hde, hedx, hway, hPl =>
              have HGE := Lib.hid hge
              obtain ⟨n1, n2, n3⟩ := nxW_law hde
              have hzq : z < q := by have := HUP.out _ (by have := HQN.out; omega) _ n2; omega
              have q1 : ((z : Int) != (q : Int)) = true := by simp; omega
              have q2 : ¬ (z : Int) = (q : Int) := by omega
              have q3 : ¬ z = q := by omega
              have HDE := Lib.hid (And.intro hde (And.intro hedx (And.intro hzL (And.intro hxz (And.intro hway hPl)))))
              have HNX := Lib.hid (show ∃ k, k ≤ q ∧ (z : Int) ∈ I k ∧ pwB I q e k = true from ⟨_, n1, n2, n3.1⟩)
              have HDZ := Lib.hid (dsI_of hde)
              have HWZ := Lib.hid (wf_small (n := (z : Int)) (by omega) (by omega))
              obtain ⟨ll, hll⟩ : ∃ ll, ll = (P ++ [(z : Int)]).length := ⟨_, rfl⟩
              obtain ⟨Aw, cw, hsv, _⟩ := gr_shape MW
              rw [← hll] at hsv
              subst hsv
              clear hll
              have HMW := Lib.hid MW
              have HMv := Lib.hid Mv
              have he5 : e ≤ 40000 := by omega
              have lk2 : (Instr.lookup 117 (.map (some bm)) (.int .i64 (z : Int)) false).run Try.prog wr4 = .ok (.int .i64 ((e : Int) + 1)) wr4 := by
                have := look_eqV Mv 117 3 (.int .i64 0) Try.underlying117 (zero3 _) (z : Int) HWZ.out
                rw [farF_in hzL, HDZ.out] at this
                exact this
              have HLK2 := Lib.hid lk2
              clear n1 n2 n3 hge hde hedx hzL hxz hway hPl MW Mv lk2
              go_wp2
              go_loopg [23, 24, 25] (q - z) (fun g s23 s24 s25 wr5 => ∃ y : Nat, z < y ∧ y ≤ q + 1 ∧ g = q + 1 - y ∧ s23 = .slice Aw ll cw ∧ s24 = .int .i64 (z : Int) ∧ s25 = .int .i64 (y : Int) ∧ wr5 = wr4 ∧ ∀ k, k < y → ¬ ((z : Int) ∈ I k ∧ pwB I q e k = true))
              case atStart => exact ⟨z + 1, by omega, by omega, by omega, rfl, rfl, by go_num, rfl, fun k hk ⟨hm, _⟩ => by have := HUP.out k (by have := HQN.out; omega) _ hm; omega⟩
              case round =>
                rename World => wr5
                obtain ⟨y, hzy, hyq, hgy, rfl, rfl, rfl, hww, hno⟩ := hrel
                subst hww
                have HG3 := Lib.hid (And.intro hgy hzy)
                have lk2 := HLK2.out
                have hyq2 : y ≤ q := by
                  refine Nat.le_of_not_lt fun hl => ?_
                  obtain ⟨k, k1, k2, k3⟩ := HNX.out
                  exact hno k (by omega) ⟨k2, k3⟩
                have g1 : (y : Int) ≤ (q : Int) := by omega
                have g0 : (0 : Int) ≤ y := by omega
                have gy1 : y < q + 1 := by omega
                have gy2 : (y : Int) < (q : Int) + 1 := by omega
                have hy4 : y ≤ 40000 := by omega
                have HWY := Lib.hid (wf_small (n := (y : Int)) (by omega) (by omega))
                have hnext : ¬ ((z : Int) ∈ I y ∧ pwB I q e y = true) → ∀ k, k < y + 1 → ¬ ((z : Int) ∈ I k ∧ pwB I q e k = true) := fun hy k hk => by
                  by_cases e1 : k = y
                  · rw [e1]; exact hy
                  · exact hno k (by omega)
                have hyes : (z : Int) ∈ I y → pwB I q e y = true → Ds I q y e ∧ y ∈ L := fun h1 h2 => by
                  have h3 := ds_step HDE.out.1 hyq2 h1 h2
                  exact ⟨h3, HFND.out y e h3 (by have := HDE.out; omega) (by have := HDE.out; omega)⟩
                clear hyq hgy
                by_cases hyL : y ∈ L
                · obtain ⟨dy, hdy⟩ : ∃ dy : Nat, dsI I q y = (dy : Int) := ⟨(dsI I q y).toNat, by have := HBF.out.ds y hyL; omega⟩
                  have lk : (Instr.lookup 117 (.map (some bm)) (.int .i64 (y : Int)) true).run Try.prog wr5 = .ok (.tuple #[.int .i64 (dy : Int), .bool true]) wr5 := by
                    have := look_okV HMv.out 117 3 (.int .i64 0) Try.underlying117 (zero3 _) (y : Int) HWY.out
                    rw [farF_in hyL, hdy] at this
                    exact this
                  by_cases hde : dy = e
                  · subst hde
                    have HDY := Lib.hid (dsI_iff.1 hdy)
                    obtain ⟨v, hvk⟩ := HFA.out wq (Keeps.refl _ _) |>.look gy1
                    obtain ⟨Ay, cy, rfl, _⟩ := (hvk wq (Keeps.refl _ _)).2.row
                    have hvw := hvk wr5 O.keep
                    have cF := hvw.1
                    rw [Addr.add_lit, Nat.zero_add] at cF
                    have hly := HLEN.out y (by have := HQN.out; omega)
                    have HCO := Lib.hid (contains_any hvw.2 (by omega) (z : Int))
                    clear hvk hvw
                    by_cases hin : (z : Int) ∈ I y
                    · rw [decide_eq_true hin] at HCO
                      have HNW := Lib.hid (nxW_is hyq2 hin HDY.out.1 hno)
                      have HYL := Lib.hid hyL
                      have MW := HMW.out
                      have Mv := HMv.out
                      clear hno hnext hyes hin hdy hyL
                      generalize (I y).length = ly at cF HCO hly
                      go_wp2_with (first
                        | (go_at_call 81; refine HCO.out.mono ?_; rintro e' W9 ⟨rfl, rfl⟩)
                        | (refine own_lit1 165 (y : Int) O rfl rfl rfl rfl ?_; clear O; intro W8 gl O K1 hg; replace Mv := Mv.keeps K1 (by simp); replace MW := gr_keeps MW K1 (by simp); clear K1 hg; simp only [Act.put, List.setIfInBounds_toArray, List.set_cons_zero, List.set_cons_succ])
                        | (at_builtin; refine gr_app (z := .int .i64 0) (.tmp 163) (.tmp 165) rowT25w O MW rfl (by simp [Value.oneCell']) rfl rfl rfl rfl (Nat.le_refl _) O.keep.size (by simp) (by rw [List.length_append]; simp; omega) (by decide) ?_; clear O; intro v1 W7 O MW2 K7 hf; replace Mv := Mv.keeps K7 (fun hm => by obtain ⟨_, _, cur, hB⟩ := gr_own MW (g := bm) (by simpa using hm); exact Mv.not_blk hB rfl); clear K7 hf MW; simp only [Act.put, List.setIfInBounds_toArray, List.set_cons_zero, List.set_cons_succ]))
                      go_roundg dy
                      case measure => (have := HGE.out; omega)
                      case rel =>
                        refine ⟨dy, y, P ++ [(z : Int)], rfl, rfl, HDY.out, by have := HDE.out; omega, HYL.out, by have := HDE.out; have := HG3.out; omega, ?_, ?_, Mv, O⟩
                        · rw [← HDE.out.2.2.2.2.1, wayL, HNW.out, List.append_assoc]; rfl
                        · have e1 : (P ++ [(z : Int)] ++ [(y : Int)]).length = (P ++ [(z : Int)]).length + 1 := by simp
                          unfold Mint
                          rw [e1, List.map_append]
                          exact MW2
                    · rw [decide_eq_false hin] at HCO
                      have HNO := Lib.hid (hnext fun q => hin q.1)
                      clear hno hnext hyes hin hdy hyL
                      generalize (I y).length = ly at cF HCO hly
                      go_wp2_with (first
                        | (go_at_call 81; refine HCO.out.mono ?_; rintro e' W9 ⟨rfl, rfl⟩))
                      go_roundg (q + 1 - (y + 1))
                      case measure => (have := HG3.out; omega)
                      case rel => exact ⟨y + 1, by have := HG3.out; omega, by omega, rfl, rfl, rfl, by go_num, rfl, HNO.out⟩
                  · have HNO := Lib.hid (hnext fun q => by
                      have := dsI_of (hyes q.1 q.2).1
                      rw [hdy] at this
                      omega)
                    have q4 : ((dy : Int) == (e : Int)) = false := by rw [beq_eq_false_iff_ne]; omega
                    have q5 : ¬ (dy : Int) = (e : Int) := by omega
                    have q6 : (dy == e) = false := by rw [beq_eq_false_iff_ne]; exact hde
                    have q7 : ¬ (dy : Int) = (e : Int) + 1 - 1 := by omega
                    clear hno hnext hyes hdy hyL
                    go_wp2_with go_big_skip
                    go_roundg (q + 1 - (y + 1))
                    case measure => (have := HG3.out; omega)
                    case rel => exact ⟨y + 1, by have := HG3.out; omega, by omega, rfl, rfl, rfl, by go_num, rfl, HNO.out⟩
                · have lk : (Instr.lookup 117 (.map (some bm)) (.int .i64 (y : Int)) true).run Try.prog wr5 = .ok (.tuple #[.int .i64 0, .bool false]) wr5 := by
                    have := look_okV HMv.out 117 3 (.int .i64 0) Try.underlying117 (zero3 _) (y : Int) HWY.out
                    rw [farF_out hyL] at this
                    exact this
                  have HNO := Lib.hid (hnext fun q => hyL (hyes q.1 q.2).2)
                  clear hno hnext hyes hyL
                  go_wp2_with go_big_skip
                  go_roundg (q + 1 - (y + 1))
                  case measure => (have := HG3.out; omega)
                  case rel => exact ⟨y + 1, by have := HG3.out; omega, by omega, rfl, rfl, rfl, by go_num, rfl, HNO.out⟩
        · have hs2 : ((x : Int) == (p : Int)) = false := by rw [beq_eq_false_iff_ne]; omega
          rw [hs2] at hs
          obtain ⟨xs, hxs⟩ : ∃ xs, xs = I x := ⟨_, rfl⟩
          obtain ⟨ml, hml⟩ : ∃ ml, ml = xs.length := ⟨_, rfl⟩
          have hml4 : ml ≤ 40000 := by have := HLEN.out x (by have := HQN.out; omega); rw [← hxs] at this; omega
          have HXI := Lib.hid hxs
          have HML := Lib.hid hml
          rw [← hxs, ← hml] at HRX
          clear hxs hml
          have HXP := Lib.hid hxp
          go_wp2_with (first
            | (refine wpList_load_at (cs := #[.int .i64 (x : Int), .int .i64 (dx : Int)]) 83 rfl rfl rfl rfl HWT.out Try.underlying137 rfl (by kernel_rfl) ?_; simp only [Act.put, List.setIfInBounds_toArray, List.set_cons_zero, List.set_cons_succ])
            | (refine own_allocK 18 #[.int .i64 0, .int .i64 0] O rfl rfl rfl (fun _ => by kernel_rfl) ?_; clear O; intro W1 b18 O K1 hb; replace Mv := Mv.keeps K1 (by simp); have hq18 : (Value.slice (some ⟨gq, off, none⟩) (m + 1) cap).ownBlock ≠ some b18 := (fun hg => by have := (QA.own hg).2.1; omega); replace QA := QA.keeps K1 (by simp); have HQ18 := Lib.hid hq18; clear K1 hb hq18; simp only [Act.put, List.setIfInBounds_toArray, List.set_cons_zero, List.set_cons_succ])
            | (have hB := O.get 0 rfl; refine own_store_rowK 0 (.tmp 18) (.tmp 83) (cs' := #[.int .i64 (x : Int), .int .i64 (dx : Int)]) O rfl rfl rfl rfl rfl rfl (by kernel_rfl) (by rfl) (by intro v hv; simp only [List.mem_cons, List.not_mem_nil, or_false] at hv; rcases hv with rfl | rfl <;> rfl) ?_; clear O; intro W2 O K2; simp only [List.set_cons_zero] at O; replace QA := QA.keeps K2 (fun g hg hm => HQ18.out (by rw [hg]; congr 1; exact List.mem_singleton.1 hm)); replace Mv := Mv.keeps K2 (by have := Mv.not_blk hB; simpa using Ne.symm this); clear K2 hB; have c18a : W2.cell? ⟨b18, 0, none⟩ = some (.int .i64 (x : Int)) := (O.get 0 rfl).cell 0; have c18b : W2.cell? ⟨b18, 1, none⟩ = some (.int .i64 (dx : Int)) := (O.get 0 rfl).cell 1; have cF := (HRX.out W2 O.keep).1; rw [Addr.add_lit, Nat.zero_add] at cF)
            | (refine own_load 84 0 O rfl rfl rfl rfl rfl Try.underlying137 rfl (by kernel_rfl) ?_; simp only [Act.put, List.setIfInBounds_toArray, List.set_cons_zero, List.set_cons_succ]))
          clear hs hs2 c18a c18b cF HWT m1
          go_loopg [17, 96] ml (fun g s17 s96 wr3 => ∃ t L' m', t ≤ ml ∧ g = ml - t ∧ s96 = .int .i64 (t : Int) ∧ L'.length = hh + (m' + 1) ∧ Bfs I p q L' hh ∧ L'[hh]? = some x ∧ (∀ y : Nat, (y : Int) ∈ xs.take t → p ≤ y → y ∈ L') ∧ s17.ownBlock ≠ some b18 ∧ QAt wq.heap.size 137 2 wr3 s17 (m' + 1) (stpL I q (L'.drop hh)) ∧ MapV wr3 bm L'.length (farF I q L') ∧ Own wq wr3 [] [(b18, 137, #[.int .i64 (x : Int), .int .i64 (dx : Int)])])
          case atStart => exact ⟨0, L, m, by omega, by omega, rfl, HG.out.2, HBF.out, HX.out.1, by simp, HQ18.out, QA, Mv, O⟩
          case round =>
            rename World => wr3
            clear O QA Mv HBF HQ18 HQT HL5
            obtain ⟨t, L', m', ht, hgt, rfl, hLm, BF, hx, hcl, hqb, QA, Mv, O⟩ := hrel
            have HL5 := Lib.hid BF.len
            have HG2 := Lib.hid (And.intro hgt (And.intro hLm hqb))
            have hm5' : m' ≤ 50000 := by have := HL5.out; omega
            clear hgt hLm hqb hm5
            by_cases hlt : t < ml
            · have g1 : (t : Int) < (ml : Int) := by omega
              have g0 : (0 : Int) ≤ t := by omega
              have htx : t < xs.length := by have := HML.out; omega
              obtain ⟨A', c', e', hcc⟩ := (HRX.out wr3 O.keep).2.row
              obtain ⟨ad', e1, cq⟩ := hcc t htx
              obtain rfl : Av = some ad' := by rw [← e1]; injection e'
              clear hcc e1 e'
              have hym : xs.getD t 0 ∈ xs := by rw [List.getD_eq_getElem?_getD, List.getElem?_eq_getElem htx]; exact List.getElem_mem _
              have htk : xs.take (t + 1) = xs.take t ++ [xs.getD t 0] := by rw [List.take_add_one, List.getElem?_eq_getElem htx, List.getD_eq_getElem?_getD, List.getElem?_eq_getElem htx]; rfl
              have hup := HUP.out x (by have := HQN.out; omega) _ (by rw [← HXI.out]; exact hym)
              obtain ⟨y, hy⟩ : ∃ y : Nat, xs.getD t 0 = (y : Int) := ⟨(xs.getD t 0).toNat, by omega⟩
              rw [hy] at cq hym htk hup
              rw [HXI.out] at hym
              have hy4 : y ≤ 40000 := by omega
              have hyq : y < q + 1 := by omega
              have HWY := Lib.hid (wf_small (n := (y : Int)) (by omega) (by omega))
              have c18b : wr3.cell? ⟨b18, 1, none⟩ = some (.int .i64 (dx : Int)) := (O.get 0 rfl).cell 1
              clear hup hy htx
              by_cases hyL : y ∈ L'
              · have lk : (Instr.lookup 117 (.map (some bm)) (.int .i64 (y : Int)) true).run Try.prog wr3 = .ok (.tuple #[.int .i64 (dsI I q y), .bool true]) wr3 := by
                  have := look_okV Mv 117 3 (.int .i64 0) Try.underlying117 (zero3 _) (y : Int) HWY.out
                  rw [farF_in hyL] at this
                  exact this
                have HCL := Lib.hid (show ∀ z : Nat, (z : Int) ∈ xs.take (t + 1) → p ≤ z → z ∈ L' from fun z hz hpz => by
                  rw [htk] at hz
                  rcases List.mem_append.1 hz with h1 | h1
                  · exact hcl z h1 hpz
                  · have : (z : Int) = (y : Int) := by simpa using h1
                    have : z = y := by omega
                    rw [this]; exact hyL)
                have HBF := Lib.hid (And.intro BF hx)
                generalize dsI I q y = dy at lk
                clear hcl htk hym hyL BF hx
                go_wp2
                go_roundg (ml - (t + 1))
                case measure => (have := HG2.out; omega)
                case rel => exact ⟨t + 1, L', m', by omega, rfl, by go_num, HG2.out.2.1, HBF.out.1, HBF.out.2, HCL.out, HG2.out.2.2, QA, Mv, O⟩
              · have lk : (Instr.lookup 117 (.map (some bm)) (.int .i64 (y : Int)) true).run Try.prog wr3 = .ok (.tuple #[.int .i64 0, .bool false]) wr3 := by
                  have := look_okV Mv 117 3 (.int .i64 0) Try.underlying117 (zero3 _) (y : Int) HWY.out
                  rw [farF_out hyL] at this
                  exact this
                by_cases hpy : p ≤ y
                · have HDY := Lib.hid (show dsI I q y = (dx : Int) + 1 by rw [BF.dist HUP.out HQN.out hx hym hpy hyL, HX.out.2.1])
                  have HBF := Lib.hid (And.intro (BF.push HUP.out HQN.out hx hym hpy hyL) (show (L' ++ [y])[hh]? = some x by rw [List.getElem?_append_left (List.getElem?_eq_some_iff.1 hx).1]; exact hx))
                  have HCL := Lib.hid (show ∀ z : Nat, (z : Int) ∈ xs.take (t + 1) → p ≤ z → z ∈ L' ++ [y] from fun z hz hpz => by
                    rw [htk] at hz
                    rcases List.mem_append.1 hz with h1 | h1
                    · exact List.mem_append_left _ (hcl z h1 hpz)
                    · have : (z : Int) = (y : Int) := by simpa using h1
                      have : z = y := by omega
                      rw [this]; simp)
                  have HLL := Lib.hid (show L'.length ≤ 50000 from by have := HL5.out; omega)
                  have g2 : (p : Int) ≤ (y : Int) := by omega
                  have HLD := Lib.hid (show hh ≤ L'.length from by have := HG2.out; omega)
                  have HDR := Lib.hid (show stpL I q ((L' ++ [y]).drop hh) = stpL I q (L'.drop hh) ++ (prC ((y : Int), (dx : Int) + 1)).toList by rw [List.drop_append_of_le_length HLD.out, stpL_snoc, HDY.out])
                  have HFP := Lib.hid (show updI (farF I q L') (y : Int) (some (.int .i64 ((dx : Int) + 1))) = farF I q (L' ++ [y]) by rw [← HDY.out, farF_push])
                  have HQB := Lib.hid HG2.out.2.2
                  obtain ⟨gq2, off2, cap2, rfl, _, _⟩ := QA.shape
                  clear hcl htk hym hyL BF hx hpy
                  go_wp2_with (first
                    | go_big_skip
                    | (refine map_storeV (v := .int .i64 ((dx : Int) + 1)) Mv 117 3 Try.underlying117 rfl rfl rfl rfl HWY.out rfl (by have := HLL.out; simp only [maxLen]; omega) ?_; intro W5 K5 Mv5; replace O := O.mapped K5 (fun g t cs hB => Mv.not_blk hB) (fun hlt => absurd hlt (by have := HBM.out; omega)); replace QA := QA.keeps K5 (fun g hg hm => by obtain ⟨_, _, cur, hB⟩ := QA.own hg; exact Mv.not_blk hB (List.mem_singleton.1 hm)); rw [HFP.out] at Mv5; clear Mv K5 lk c18b cq; have c18b : W5.cell? ⟨b18, 1, none⟩ = some (.int .i64 (dx : Int)) := (O.get 0 rfl).cell 1; simp only [Act.put, List.setIfInBounds_toArray, List.set_cons_zero, List.set_cons_succ])
                    | (refine own_lit2 124 138 137 ((y : Int), (dx : Int) + 1) O rfl rfl rfl rfl Try.underlying138 (by kernel_rfl) ?_; clear O; intro W6 gl O K6 hg; have hgl : (Value.slice (some ⟨gq2, off2, none⟩) (m' + 1) cap2).ownBlock ≠ some gl := (fun hb => by have := (QA.own hb).2.1; omega); have HGL := Lib.hid hgl; replace Mv5 := Mv5.keeps K6 (by simp); replace QA := QA.keeps K6 (by simp); clear K6 hg hgl; simp only [Act.put, List.setIfInBounds_toArray, List.set_cons_zero, List.set_cons_succ])
                    | (at_builtin; have hl18 := O.lt 1 rfl; refine q_app (.tmp 118) (.tmp 124) rowT138 O QA rfl (prC_cell _) rfl rfl rfl rfl (Nat.le_refl _) O.keep.size (fun e he => by rw [List.mem_singleton.1 he]; exact HQB.out) HGL.out (by omega) (by decide) ?_; clear O; intro v1 W7 O QA2 K7 hf; have hv18 : v1.ownBlock ≠ some b18 := (fun hb => by
                        rcases hf with hf | hf
                        · rw [hf] at hb; exact HQB.out hb
                        · rw [hf] at hb; injection hb with hb; omega); replace Mv5 := Mv5.keeps K7 (fun hm => by obtain ⟨_, _, cur, hB⟩ := QA.own (g := bm) (by simpa using hm); exact Mv5.not_blk hB rfl); have HV18 := Lib.hid hv18; clear QA K7 hf hv18 hl18; have QA := QA2; clear QA2; simp only [Act.put, List.setIfInBounds_toArray, List.set_cons_zero, List.set_cons_succ]))
                  go_roundg (ml - (t + 1))
                  case measure => (have := HG2.out; omega)
                  case rel => exact ⟨t + 1, L' ++ [y], m' + 1, by omega, rfl, by go_num, by rw [List.length_append]; have := HG2.out.2.1; simp; omega, HBF.out.1, HBF.out.2, HCL.out, HV18.out, by rw [HDR.out]; exact QA, by rw [List.length_append]; exact Mv5, O⟩
                · have g2 : ¬ (p : Int) ≤ (y : Int) := by omega
                  have g3 : decide (p ≤ y) = false := decide_eq_false hpy
                  have HCL := Lib.hid (show ∀ z : Nat, (z : Int) ∈ xs.take (t + 1) → p ≤ z → z ∈ L' from fun z hz hpz => by
                    rw [htk] at hz
                    rcases List.mem_append.1 hz with h1 | h1
                    · exact hcl z h1 hpz
                    · have : (z : Int) = (y : Int) := by simpa using h1
                      omega)
                  have HBF := Lib.hid (And.intro BF hx)
                  clear hcl htk hym hyL BF hx hpy
                  go_wp2
                  go_roundg (ml - (t + 1))
                  case measure => (have := HG2.out; omega)
                  case rel => exact ⟨t + 1, L', m', by omega, rfl, by go_num, HG2.out.2.1, HBF.out.1, HBF.out.2, HCL.out, HG2.out.2.2, QA, Mv, O⟩
            · obtain rfl : ml = t := by omega
              have g1 : ¬ (ml : Int) < (ml : Int) := by omega
              have HBF := Lib.hid (BF.next hx HXP.out (fun z hz hpz => hcl z (by rw [HML.out, List.take_length, HXI.out]; exact hz) hpz))
              have hdl : hh < L'.length := (List.getElem?_eq_some_iff.1 hx).1
              have hd2 : L'.drop hh = x :: L'.drop (hh + 1) := by rw [List.drop_eq_getElem_cons hdl]; congr 1; rw [List.getElem?_eq_getElem hdl] at hx; injection hx
              rw [hd2, stpL_cons] at QA
              obtain ⟨gq2, off2, cap2, rfl, hc1, _⟩ := QA.shape
              have hgl : hh + 1 ≤ q + 1 := by have := HL5.out; omega
              clear hcl BF hx hdl hd2 hlt
              by_cases hcap : cap2 = 1
              · subst hcap
                obtain rfl : m' = 0 := by omega
                have QT := QA.tail (off' := off2) (fun h => absurd rfl h) (fun _ => rfl)
                go_wp2
                go_roundg (q + 1 - (hh + 1))
                case measure => (have := HG.out; omega)
                case rel => exact ⟨L', hh + 1, 0, by have := HG2.out.2.1; omega, rfl, HBF.out, QT, Mv, O.drop_ 1⟩
              · have hcap' : 1 < cap2 := by omega
                have QT := QA.tail (off' := off2 + 2) (fun _ => rfl) (fun h => absurd h hcap)
                go_wp2
                go_roundg (q + 1 - (hh + 1))
                case measure => (have := HG.out; omega)
                case rel => exact ⟨L', hh + 1, m', by have := HG2.out.2.1; omega, rfl, HBF.out, QT, Mv, O.drop_ 1⟩
theorem tway_any (hS : SysIn w S A c R d) (hE : EvsAt w B n E) (hcb : n ≤ cb) (hwf : ∀ i, i < n → (Lit.int .i64 (E i).a).wf = true) (i j : Int) : Calls Try.prog 46 #[.agg (sysV S A c R d), .slice B n cb, .int .i64 i, .int .i64 j] w (WayPost (wayR S E n i j) w) := by
  by_cases h : (beforeR S E n i j).2 = 0
  · cases h' : (beforeR S E n i j).1 with
    | false => exact tway_no hS hE hcb hwf i j h h'
    | true => exact tway_good hS hE hcb hwf i j h h'
  · exact tway_bad hS hE hwf i j h
end
end Go.Proofs.Ytakmcpadkanggaa
namespace Go.Proofs.Ytakmcpadkanggaa
open Go.RowKit Go.Maps Go.Deep
theorem arrI_congr {n : Nat} {f g : Int → Int} (h : ∀ i : Nat, i < n → f i = g i) : arrI n f = arrI n g := by
  apply Array.ext_getElem?
  intro i
  by_cases hi : i < n
  · rw [arrI_get _ _ _ hi, arrI_get _ _ _ hi, h i hi]
  · simp [arrI, hi]
end Go.Proofs.Ytakmcpadkanggaa
namespace Go.Proofs.Ytakmcpadkanggaa
open Go.RowKit Go.Maps Go.Deep
section
variable {base : Nat} {W u : World} {vs : Nat → Value} {I : Nat → List Int} {gf n : Nat}
theorem RowsK.far (h : RowsK base W vs I [] gf n) (K : Keeps W u [gf]) : RowsK base u vs I [] gf n := fun x hx => ⟨(h x hx).1.keeps K (fun g hg hm => ((h x hx).2 g hg).2 (List.mem_singleton.1 hm)), (h x hx).2⟩
theorem RowsK.snoc {m : Nat} (v : Value) : (List.range (m + 1)).map (updN vs m v) = (List.range m).map vs ++ [v] := by
  rw [List.range_succ, List.map_append]
  congr 1
  · exact List.map_congr_left fun i hi => by
      have := List.mem_range.1 hi
      rw [updN_other _ _ _ _ (by omega)]
  · simp [updN_same]
theorem ins_look {ad : Addr} {cap : Nat} (M : W.ownsRow base 25 1 (.slice (some ad) n cap) n ((List.range n).map vs)) (RK : RowsK base W vs I [] gf n) {t : Nat} {cs : Array Value} (hB : Blk W gf t cs) (ht : t ≠ 25) {x : Nat} (hx : x < n) : ∀ u, Keeps W u [gf] → u.cell? (ad.add x) = some (vs x) ∧ HRow base u (vs x) (I x) := fun u K => by
  have h1 := gr_cell M rfl (show ((List.range n).map vs)[x]? = some (vs x) by simp [hx])
  refine ⟨?_, (RK.far K x hx).1⟩
  rw [K.cellAt (by rw [add_block]; exact h1.1) (by
    rw [add_block]
    intro hm
    have hm := List.mem_singleton.1 hm
    exact gr_ne M hB ht (by rw [← hm]; rfl))]
  exact h1.2
theorem relax_self {k : Nat} {xs : List Int} {f : Int → Int} (h0 : 0 ≤ f (k : Int)) (hx : ∀ x ∈ xs, x ≠ (k : Int)) : (xs.foldl (relax k) f) (k : Int) = f (k : Int) := by
  rw [relax_fold (k : Int) xs f h0 hx, if_neg fun q => hx _ q.1 rfl]
theorem relax_succ {k : Nat} {xs : List Int} {f : Int → Int} {t : Nat} (h : t < xs.length) : (xs.take (t + 1)).foldl (relax k) f = relax k ((xs.take t).foldl (relax k) f) (xs.getD t 0) := by
  rw [List.take_add_one, List.getElem?_eq_getElem h, List.foldl_append, List.getD_eq_getElem?_getD, List.getElem?_eq_getElem h]
  rfl
end
section
variable {w : World} {S : Sys} {A : Option Addr} {c : Nat} {R : Option Addr} {d n : Nat} {E : Nat → Ev} {B : Option Addr} {cb : Nat}
set_option maxRecDepth 100000 in
set_option maxHeartbeats 1000000 in
theorem rway_bad (hS : SysIn w S A c R d) (hE : EvsAt w B n E) (i j : Int) (h : ¬ ((beforeR S E n i j).2 = 0 ∧ (beforeR S E n i j).1 = true)) : Calls Try.prog 47 #[.agg (sysV S A c R d), .slice B n cb, .int .i64 i, .int .i64 j] w (WayPost (wayR S E n i j) w) := by
  have O := Own.start w []
  have HB := Lib.hid (fun u (K : Keeps w u []) => (by have := rbefore_any (cb := cb) (hS.kept K) (hE.kept K) i j; rwa [← before_eq] at this : Calls Try.prog 45 #[.agg (sysV S A c R d), .slice B n cb, .int .i64 i, .int .i64 j] u fun e u' => e = .returned (.tuple #[.bool (beforeR S E n i j).1, .int .i64 (beforeR S E n i j).2]) ∧ Keeps u u' []))
  have HF := Lib.hid (way_no h)
  generalize wayR S E n i j = r at HF ⊢
  generalize beforeR S E n i j = x at HB HF h
  obtain ⟨x0, x1⟩ := x
  simp only at h HF HB
  clear hS hE
  by_cases hx : x1 = 0
  · subst hx
    have hx0 : x0 = false := by
      cases x0 with
      | false => rfl
      | true => exact absurd ⟨rfl, rfl⟩ h
    subst hx0
    clear h
    go_enter Try.func47, Try.ntmps47
    go_wp2_with (first
      | go_big_skip
      | (refine own_box 4 (sysV S A c R d) O rfl rfl rfl rfl ?_; clear O; intro W b4 O; simp only [Act.put, List.setIfInBounds_toArray, List.set_cons_zero, List.set_cons_succ])
      | (refine own_load 22 0 O rfl rfl rfl rfl rfl Try.underlying27 rfl (by kernel_rfl) ?_; simp only [Act.put, List.setIfInBounds_toArray, List.set_cons_zero, List.set_cons_succ])
      | (go_at_call 45; refine (HB.out _ O.keep).mono ?_; rintro e W ⟨rfl, K⟩; replace O := O.keeps K; clear K))
    go_returns
    exact ⟨⟨_, by rw [HF.out]; rfl, by rw [HF.out]; exact Mint.nil _ _⟩, O.keep⟩
  · clear h
    go_enter Try.func47, Try.ntmps47
    go_wp2_with (first
      | go_big_skip
      | (refine own_box 4 (sysV S A c R d) O rfl rfl rfl rfl ?_; clear O; intro W b4 O; simp only [Act.put, List.setIfInBounds_toArray, List.set_cons_zero, List.set_cons_succ])
      | (refine own_load 22 0 O rfl rfl rfl rfl rfl Try.underlying27 rfl (by kernel_rfl) ?_; simp only [Act.put, List.setIfInBounds_toArray, List.set_cons_zero, List.set_cons_succ])
      | (go_at_call 45; refine (HB.out _ O.keep).mono ?_; rintro e W ⟨rfl, K⟩; replace O := O.keeps K; clear K))
    go_returns
    exact ⟨⟨_, by rw [HF.out]; rfl, by rw [HF.out]; exact Mint.nil _ _⟩, O.keep⟩
set_option maxRecDepth 100000 in
set_option maxHeartbeats 8000000 in
theorem rway_good (hS : SysIn w S A c R d) (hE : EvsAt w B n E) (i j : Int) (h : (beforeR S E n i j).2 = 0) (h' : (beforeR S E n i j).1 = true) : Calls Try.prog 47 #[.agg (sysV S A c R d), .slice B n cb, .int .i64 i, .int .i64 j] w (WayPost (wayR S E n i j) w) := by
  have O := Own.start w []
  have HB := Lib.hid (fun u (K : Keeps w u []) => (by have := rbefore_any (cb := cb) (hS.kept K) (hE.kept K) i j; rwa [← before_eq, h, h'] at this : Calls Try.prog 45 #[.agg (sysV S A c R d), .slice B n cb, .int .i64 i, .int .i64 j] u fun e u' => e = .returned (.tuple #[.bool true, .int .i64 0]) ∧ Keeps u u' []))
  obtain ⟨p, q, d0, rfl, rfl, hpq, hqn, hn, hv, hok, _, hds, hway⟩ := way_yes h h'
  have HI := Lib.hid (fun u (k : Keeps w u []) (j : Nat) (hj : j < n) => into_any (cb := cb) (hS.kept k) (hE.kept k) hn (valid_rooms hv) j hj (hok j hj))
  rw [hway]
  have HUP := Lib.hid (into_up (rm := rmS S) hok)
  have HLEN := Lib.hid (fun x (hx : x < n) => intoL_length (rm := rmS S) (hok x hx))
  unfold IntoPost at HI
  obtain ⟨I, hI⟩ : ∃ I, I = intoL E (rmS S) := ⟨_, rfl⟩
  rw [← hI] at hds HUP HLEN HI ⊢
  have HDS := Lib.hid hds
  have hq4 : q ≤ 40000 := by omega
  have hn6 : n ≤ 1000000 := by omega
  have g5 : (q : Int) < (n : Int) := by omega
  have g6 : (0 : Int) ≤ (q : Int) := by omega
  have HPQ := Lib.hid hpq
  have HQN := Lib.hid hqn
  have HN4 := Lib.hid hn
  clear hS hE h h' hv hok hds hway hI hpq
  go_enter Try.func47, Try.ntmps47
  go_wp2_with (first
    | go_big_skip
    | (refine own_box 4 (sysV S A c R d) O rfl rfl rfl rfl ?_; clear O; intro W a4 O; simp only [Act.put, List.setIfInBounds_toArray, List.set_cons_zero, List.set_cons_succ])
    | (refine own_load 22 0 O rfl rfl rfl rfl rfl Try.underlying27 rfl (by kernel_rfl) ?_; simp only [Act.put, List.setIfInBounds_toArray, List.set_cons_zero, List.set_cons_succ])
    | (go_at_call 45; refine (HB.out _ O.keep).mono ?_; rintro e W ⟨rfl, K⟩; replace O := O.keeps K; clear K)
    | (refine own_makeIK 38 n O rfl rfl rfl rfl hn6 ?_; clear O; intro W gf O K1 hgf; clear K1 hgf; simp only [Act.put, List.setIfInBounds_toArray, List.set_cons_zero, List.set_cons_succ]))
  clear HB
  go_loopg [13, 14] n (fun g s13 s14 wr => ∃ k vs, k ≤ n ∧ g = n - k ∧ s14 = .int .i64 (k : Int) ∧ Own w wr [] [(gf, 3, arrI n fun i => if i < (k : Int) then -1 else 0), (a4, 27, sysV S A c R d)] ∧ wr.ownsRow w.heap.size 25 1 s13 k ((List.range k).map vs) ∧ RowsK w.heap.size wr vs I [] gf k)
  case atStart => exact ⟨0, fun _ => .slice none 0 0, by omega, by omega, rfl, by rw [arrI_congr (f := fun i => if i < ((0 : Nat) : Int) then -1 else 0) (g := fun _ => 0) (fun i _ => if_neg (by omega))]; exact O, gr_nil _ _ _ _, RowsK.none⟩
  case round =>
    clear O
    obtain ⟨k, vs, hk, hgk, rfl, O, M, RK⟩ := hrel
    have HG := Lib.hid hgk
    clear hgk
    by_cases hlt : k < n
    · have g1 : (k : Int) < (n : Int) := by omega
      have g0 : (0 : Int) ≤ k := by omega
      have HIk := Lib.hid (fun u (K : Keeps w u []) => HI.out u K k hlt)
      have HAR := Lib.hid (show arrI n (updI (fun i => if i < (k : Int) then -1 else 0) (k : Int) (-1)) = arrI n fun i => if i < ((k + 1 : Nat) : Int) then -1 else 0 from arrI_congr fun i _ => by
        by_cases e : i = k
        · subst e; rw [updI_same, if_pos (by omega)]
        · rw [updI_other _ _ _ _ (by omega)]
          by_cases e2 : i < k
          · rw [if_pos (by omega), if_pos (by omega)]
          · rw [if_neg (by omega), if_neg (by omega)])
      obtain ⟨Ai, ci, rfl, _⟩ := gr_shape M
      go_wp2_with (first
        | go_big_skip
        | (have hB := O.get 0 rfl; refine own_storeK 0 k (.int .i64 (-1)) (.tmp 47) (.const (.int .i64 (-1))) O rfl rfl rfl rfl rfl rfl (by rw [arrI_size]; exact hlt) rfl rfl (by kernel_rfl) (arrI_set _ _ _ _) ?_; clear O; intro W1 O K1; simp only [List.set_cons_zero] at O; have hne := gr_ne M hB (by decide); replace M := gr_keeps M K1 (fun g hg hm => hne (by rw [hg]; congr 1; exact List.mem_singleton.1 hm)); replace RK := RK.far K1; rw [HAR.out] at O; clear K1 hB hne)
        | (refine own_load 49 1 O rfl rfl rfl rfl rfl Try.underlying27 rfl (by kernel_rfl) ?_; simp only [Act.put, List.setIfInBounds_toArray, List.set_cons_zero, List.set_cons_succ])
        | (go_at_call 71; refine (HIk.out _ O.keep).mono ?_; rintro e W2 ⟨⟨rv, rfl, MI⟩, K⟩; have hws := O.keep.size; have hap : ApF rv [] gf := (fun g hg => ⟨by simp, fun e => by have := (MI.own hg).1; have := O.lt 0 rfl; omega⟩); replace O := O.keeps K; replace M := gr_keeps M K (by simp); replace RK := RK.new K; replace RK := RK.push (mint_low (b := w.heap.size) MI hws).hrow hap; have HMC := Lib.hid (Mint.cell MI); clear K hws hap MI)
        | (refine own_litS 53 rv O rfl rfl rfl rfl HMC.out.1 ?_; clear O; intro W3 gl O K3 hg; replace M := gr_keeps M K3 (by simp); replace RK := RK.new K3; clear K3 hg; simp only [Act.put, List.setIfInBounds_toArray, List.set_cons_zero, List.set_cons_succ])
        | (at_builtin; refine gr_app (.tmp 48) (.tmp 53) rowT68 O M rfl (fun u hu => by have := List.mem_singleton.1 hu; rw [this]; exact HMC.out.2) rfl rfl rfl rfl (Nat.le_refl _) O.keep.size (fun e he => ?_) (by omega) (by decide) ?_; (· (rcases List.mem_cons.1 he with he | he; (· (subst he; exact gr_ne M (O.get 1 rfl) (by decide))); (· (have he2 := List.mem_singleton.1 he; subst he2; exact gr_ne M (O.get 2 rfl) (by decide))))); clear O; intro v1 W4 O M2 K4 hf; replace RK := fun (hx : True) => (show RowsK w.heap.size W4 _ I [] gf (k + 1) from fun x hx => ⟨(RK x hx).1.keeps K4 (fun g hg hm => by obtain ⟨_, cur, hb⟩ := (RK x hx).1.own hg; exact gr_ne M hb (by decide) (by simpa using hm)), (RK x hx).2⟩); clear K4 hf M; simp only [Act.put, List.setIfInBounds_toArray, List.set_cons_zero, List.set_cons_succ]))
      go_roundg (n - (k + 1))
      case measure => (have := HG.out; omega)
      case rel => exact ⟨k + 1, _, by omega, rfl, by go_num, O, by rw [RowsK.snoc]; exact M2, RK trivial⟩
    · obtain rfl : n = k := by omega
      have HK0 := Lib.hid O.keep
      obtain ⟨Ai, ci, rfl, hAi, _⟩ := gr_shape M
      obtain ⟨ad, rfl⟩ : ∃ ad, Ai = some ad := by
        cases Ai with
        | none => have := (hAi rfl).1; omega
        | some ad => exact ⟨ad, rfl⟩
      have hBf := O.get 0 rfl
      have HLK := Lib.hid (fun x (hx : x < n) => ins_look M RK hBf (by decide) hx)
      have HSH := Lib.hid (fun x (hx : x < n) => (RK x hx).1.row)
      have hgw := (own_at O 0 rfl).1
      have HGW := Lib.hid hgw
      have hnd := O.lt 0 rfl
      have HND := Lib.hid hnd
      have OW : Own wr wr [gf] [(gf, 3, arrI n fun _ => -1)] := ⟨Keeps.refl _ _, fun e he => by rw [List.mem_singleton.1 he]; rw [arrI_congr (f := fun i => if i < (n : Int) then -1 else 0) (g := fun _ => -1) (fun i hi => if_pos (by omega))] at hBf; exact hBf, fun e he _ => by rw [List.mem_singleton.1 he]; simp, by simp⟩
      have HWQ := Lib.hid O.keep.size
      have g1 : ¬ (n : Int) < (n : Int) := by omega
      clear O M RK hlt hAi hBf hgw hnd HG HI hk
      have O := OW
      clear OW
      rename World => wq
      go_wp2_with (first
        | (refine own_storeK 0 q (.int .i64 0) (.tmp 57) (.const (.int .i64 0)) O rfl rfl rfl rfl rfl rfl (by rw [arrI_size]; exact hqn) rfl rfl (by kernel_rfl) (arrI_set _ _ _ _) ?_; clear O; intro W1 O K1; simp only [List.set_cons_zero] at O; clear K1))
      go_loopg [15] (q + 1 - p) (fun g s15 wr => ∃ k1 f, p ≤ k1 ∧ k1 ≤ q + 1 ∧ g = k1 - p ∧ s15 = .int .i64 ((k1 : Int) - 1) ∧ Best I q k1 f ∧ Own wq wr [gf] [(gf, 3, arrI n f)])
      case atStart => exact ⟨q + 1, _, by have := HPQ.out; omega, Nat.le_refl _, rfl, by go_num, best_start, O⟩
      case round =>
        clear O
        obtain ⟨k1, f, hpk, hkq, hgk, rfl, HBe, O⟩ := hrel
        by_cases hlt : p < k1
        · obtain ⟨k, rfl⟩ : ∃ k, k1 = k + 1 := ⟨k1 - 1, by omega⟩
          have HG := Lib.hid hgk
          have ek : ((k + 1 : Nat) : Int) - 1 = (k : Int) := by omega
          have hpk2 : (p : Int) ≤ (k : Int) := by omega
          have hkn : k < n := by have := HQN.out; omega
          have hkn2 : (k : Int) < (n : Int) := by omega
          have hk0 : (0 : Int) ≤ (k : Int) := by omega
          have hk4 : k ≤ 40000 := by omega
          have HB := Lib.hid HBe
          have hfk : f (k : Int) = dsI I q k := best_dsI HUP.out HQN.out HBe (by omega)
          have HFK := Lib.hid hfk
          obtain ⟨Av, cv, hvs, _⟩ := HSH.out k hkn
          have HRX := Lib.hid (HLK.out k hkn)
          obtain ⟨xs, hxs⟩ : ∃ xs, xs = I k := ⟨_, rfl⟩
          obtain ⟨ml, hml⟩ : ∃ ml, ml = xs.length := ⟨_, rfl⟩
          rw [← hxs, ← hml] at hvs
          rw [← hxs, hvs] at HRX
          have hml4 : ml ≤ 40000 := by have := HLEN.out k hkn; rw [← hxs] at this; omega
          have HXI := Lib.hid hxs
          have HML := Lib.hid hml
          have hnx : ∀ x ∈ xs, x ≠ (k : Int) := fun x hx => by have := HUP.out k hkn x (by rw [← hxs]; exact hx); omega
          have HNX := Lib.hid hnx
          rw [ek]
          clear hpk hgk HBe hxs hml hvs hnx hfk ek
          go_wp2
          go_loopg [16] ml (fun g s16 wr => ∃ t, t ≤ ml ∧ g = ml - t ∧ s16 = .int .i64 (t : Int) ∧ (f (k : Int) < 0 → t = 0) ∧ Own wq wr [gf] [(gf, 3, arrI n ((xs.take t).foldl (relax k) f))])
          case atStart => exact ⟨0, by omega, by omega, rfl, fun _ => rfl, O⟩
          case round =>
            clear O
            obtain ⟨t, ht, hgt, rfl, htz, O⟩ := hrel
            have HG2 := Lib.hid hgt
            clear hgt
            have cI := (HRX.out wr O.keep).1
            by_cases hneg : f (k : Int) < 0
            · obtain rfl := htz hneg
              have cf : wr.cell? ⟨gf, k, none⟩ = some (.int .i64 (f (k : Int))) := ((O.get 0 rfl).cell k).trans (arrI_get _ _ _ hkn)
              have hm1 : f (k : Int) = -1 := by rcases dsI_cases (I := I) (j := q) (m := k) with ⟨e, _⟩ | ⟨d', _, e⟩ <;> (rw [HFK.out] at hneg ⊢; omega)
              rw [hm1] at cf
              have HBn := Lib.hid (best_none HUP.out HQN.out HB.out hneg)
              clear htz hneg hm1
              go_wp2_with go_big_skip
              go_roundg (k - p)
              case measure => (have := HG.out; omega)
              case rel => exact ⟨k, f, by omega, by omega, rfl, by go_num, HBn.out, O⟩
            · obtain ⟨dk, hdk⟩ : ∃ dk : Nat, f (k : Int) = (dk : Int) := ⟨(f (k : Int)).toNat, by omega⟩
              have hdk4 : dk ≤ 40000 := by have := ds_le HUP.out HQN.out (dsI_iff.1 (HFK.out.symm.trans hdk)); omega
              have hnt : ∀ x ∈ xs.take t, x ≠ (k : Int) := fun x hx => HNX.out x (List.mem_of_mem_take hx)
              have hFk := relax_self (f := f) (by omega) hnt
              rw [hdk] at hFk
              have cf : wr.cell? ⟨gf, k, none⟩ = some (.int .i64 (dk : Int)) := ((O.get 0 rfl).cell k).trans ((arrI_get _ _ _ hkn).trans (by rw [hFk]))
              have hdk0 : (0 : Int) ≤ (dk : Int) := by omega
              have HDK := Lib.hid hdk
              clear htz
              by_cases hlt2 : t < ml
              · have g3 : (t : Int) < (ml : Int) := by omega
                have g4 : (0 : Int) ≤ (t : Int) := by omega
                have htx : t < xs.length := by have := HML.out; omega
                obtain ⟨A', c', e', hcc⟩ := (HRX.out wr O.keep).2.row
                obtain ⟨ad', e1, cq⟩ := hcc t htx
                have e2 : Av = some ad' := by rw [← e1]; injection e'
                subst e2
                clear hcc e1 e'
                have HFS := Lib.hid (relax_succ (k := k) (f := f) htx)
                have hup := HUP.out k hkn (xs.getD t 0) (by rw [← HXI.out, List.getD_eq_getElem?_getD, List.getElem?_eq_getElem htx]; exact List.getElem_mem _)
                obtain ⟨y, hy⟩ : ∃ y : Nat, xs.getD t 0 = (y : Int) := ⟨(xs.getD t 0).toNat, by omega⟩
                rw [hy] at cq hup HFS
                generalize hF : (xs.take t).foldl (relax k) f = F at O hFk HFS
                have hyn : y < n := by omega
                have hyn2 : (y : Int) < (n : Int) := by omega
                have hy0 : (0 : Int) ≤ (y : Int) := by omega
                have hy4 : y ≤ 40000 := by omega
                have cy : wr.cell? ⟨gf, y, none⟩ = some (.int .i64 (F (y : Int))) := ((O.get 0 rfl).cell y).trans (arrI_get _ _ _ hyn)
                have cfL : ∀ p : Later wr, p.1.cell? ⟨gf, k, none⟩ = some (.int .i64 (dk : Int)) := fun p => (p.2.cell gf k (O.lt 0 rfl) (by simp)).trans cf
                have cyL : ∀ p : Later wr, p.1.cell? ⟨gf, y, none⟩ = some (.int .i64 (F (y : Int))) := fun p => (p.2.cell gf y (O.lt 0 rfl) (by simp)).trans cy
                have HRL := Lib.hid (show relax k F (y : Int) = if F (y : Int) < 0 ∨ (dk : Int) + 1 < F (y : Int) then updI F (y : Int) ((dk : Int) + 1) else F by unfold relax; rw [hFk])
                have HFK2 := Lib.hid hFk
                generalize hFy : F (y : Int) = fy at cy cyL HRL
                clear hup hy htx hnt hF hFk hneg hdk hFy hlt2
                go_wp2_with go_big_skip
                clear cy cq cI
                by_cases h1 : fy < 0
                · have HRT := Lib.hid (show relax k F (y : Int) = updI F (y : Int) ((dk : Int) + 1) by rw [HRL.out, if_pos (.inl h1)])
                  clear HRL
                  refine wp_quiet_later (by kernel_rfl) (by kernel_rfl) ?_
                  repeat (first
                    | go_big_quiet_skip
                    | go_big_quiet_step (fail))
                  refine wpQuiet_nil ?_
                  intro _ hw
                  obtain ⟨p', rfl⟩ := hw
                  replace O := O.keeps p'.2
                  have cf' := cfL p'
                  clear cf cfL cyL
                  generalize p'.1 = W9 at O cf' ⊢
                  go_wp2_with (first
                    | go_big_skip
                    | (refine own_storeK 0 y (.int .i64 ((dk : Int) + 1)) (.tmp 111) (.tmp 110) O rfl rfl rfl rfl rfl rfl (by rw [arrI_size]; exact hyn) rfl rfl (by kernel_rfl) (arrI_set _ _ _ _) ?_; clear O; intro W1 O K1; simp only [List.set_cons_zero] at O; clear K1 cf'))
                  go_roundg (ml - (t + 1))
                  case measure => (have := HG2.out; omega)
                  case rel => exact ⟨t + 1, by omega, rfl, by go_num, fun h => by have := HDK.out; omega, by rw [HFS.out, HRT.out]; exact O⟩
                · by_cases h2 : (dk : Int) + 1 < fy
                  · have HRT := Lib.hid (show relax k F (y : Int) = updI F (y : Int) ((dk : Int) + 1) by rw [HRL.out, if_pos (.inr h2)])
                    clear HRL
                    refine wp_quiet_later (by kernel_rfl) (by kernel_rfl) ?_
                    repeat (first
                      | go_big_quiet_skip
                      | go_big_quiet_step (fail))
                    refine wpQuiet_nil ?_
                    intro _ hw
                    obtain ⟨p', rfl⟩ := hw
                    replace O := O.keeps p'.2
                    have cf' := cfL p'
                    clear cf cfL cyL
                    generalize p'.1 = W9 at O cf' ⊢
                    go_wp2_with (first
                      | go_big_skip
                      | (refine own_storeK 0 y (.int .i64 ((dk : Int) + 1)) (.tmp 111) (.tmp 110) O rfl rfl rfl rfl rfl rfl (by rw [arrI_size]; exact hyn) rfl rfl (by kernel_rfl) (arrI_set _ _ _ _) ?_; clear O; intro W1 O K1; simp only [List.set_cons_zero] at O; clear K1 cf'))
                    go_roundg (ml - (t + 1))
                    case measure => (have := HG2.out; omega)
                    case rel => exact ⟨t + 1, by omega, rfl, by go_num, fun h => by have := HDK.out; omega, by rw [HFS.out, HRT.out]; exact O⟩
                  · have HRT := Lib.hid (show relax k F (y : Int) = F by rw [HRL.out, if_neg (by omega)])
                    clear HRL
                    refine wp_quiet_later (by kernel_rfl) (by kernel_rfl) ?_
                    repeat (first
                      | go_big_quiet_skip
                      | go_big_quiet_step (fail))
                    refine wpQuiet_nil ?_
                    intro _ hw
                    obtain ⟨p', rfl⟩ := hw
                    replace O := O.keeps p'.2
                    clear cf cfL cyL
                    generalize p'.1 = W9 at O ⊢
                    go_wp2
                    go_roundg (ml - (t + 1))
                    case measure => (have := HG2.out; omega)
                    case rel => exact ⟨t + 1, by omega, rfl, by go_num, fun h => by have := HDK.out; omega, by rw [HFS.out, HRT.out]; exact O⟩
              · obtain rfl : ml = t := by omega
                have g3 : ¬ (ml : Int) < (ml : Int) := by omega
                have HBn := Lib.hid (show Best I q k ((xs.take ml).foldl (relax k) f) by rw [HML.out, List.take_length, HXI.out]; exact best_fold HUP.out HQN.out (by omega) HB.out (by omega))
                generalize (xs.take ml).foldl (relax k) f = F at O HBn hFk
                clear hlt2 hneg hnt
                go_wp2_with go_big_skip
                go_roundg (k - p)
                case measure => (have := HG.out; omega)
                case rel => exact ⟨k, F, by omega, by omega, rfl, by go_num, HBn.out, O⟩
        · obtain rfl : k1 = p := by omega
          have g7 : ¬ (k1 : Int) ≤ (k1 : Int) - 1 := by omega
          have HFD := Lib.hid (fun m (hm : k1 ≤ m + 1) => best_dsI HUP.out HQN.out HBe hm)
          clear hpk hlt hgk HBe
          go_wp2_with (first
            | (have hsz := O.keep.size; refine own_lit1 113 (k1 : Int) O rfl rfl rfl rfl ?_; clear O; intro W8 gl O K1 hg; have MW := mint_one (base := wq.heap.size) (O.get 0 rfl) (Nat.le_trans hsz hg); replace O := O.drop_ 1; clear K1 hg hsz; simp only [Act.put, List.setIfInBounds_toArray, List.set_cons_zero, List.set_cons_succ]))
          obtain ⟨D, hD⟩ : ∃ D, D = d0 + 1 := ⟨_, rfl⟩
          have HDD := Lib.hid hD
          rw [← hD] at HDS
          have hD4 : D ≤ 40000 := by have := ds_le HUP.out HQN.out HDS.out; omega
          clear hD
          go_loopg [18, 19] D (fun g s18 s19 wr4 => ∃ (e z : Nat) (P : List Int), g = e ∧ s19 = .int .i64 (z : Int) ∧ Ds I q z e ∧ e ≤ D ∧ z ≤ q ∧ k1 ≤ z ∧ P ++ wayL I q e z = wayL I q D k1 ∧ Mint wq.heap.size wr4 s18 (P ++ [(z : Int)]) ∧ Own wq wr4 [gf] [(gf, 3, arrI n f)])
          case atStart => exact ⟨D, k1, [], rfl, rfl, HDS.out, Nat.le_refl _, by have := HPQ.out; omega, Nat.le_refl _, rfl, MW, O⟩
          case round =>
            rename World => wr4
            clear O MW
            obtain ⟨e0, z, P, hge, rfl, hde, hedx, hz4, hxz, hway, MW, O⟩ := hrel
            have hPl : P.length + e0 = D := by
              have := congrArg List.length hway
              rw [List.length_append, wayL_length, wayL_length] at this
              omega
            have hP5 : P.length ≤ 40000 := by omega
            have HGF := HGW.out
            match e0, hge, hde, hedx, hway, hPl with
            | 0, hge, hde, hedx, hway, hPl =>
              obtain rfl := ds_zero hde
              have HWY := Lib.hid (show P ++ [(z : Int)] = wayL I z D k1 from hway)
              obtain ⟨ll, hll⟩ : ∃ ll, ll = (P ++ [(z : Int)]).length := ⟨_, rfl⟩
              obtain ⟨Aw, cw, hsv, _⟩ := gr_shape MW
              rw [← hll] at hsv
              subst hsv
              have HMW := Lib.hid MW
              clear hll hge hde hedx hway hPl MW
              go_wp2
              go_returns
              exact ⟨⟨_, rfl, by have := mint_low (b := w.heap.size) HMW.out HWQ.out; rw [HWY.out, HDD.out] at this; exact this⟩, HK0.out.trans O.keep (fun b hb hlt => by have := List.mem_singleton.1 hb; omega)⟩
            | e + 1, hge, hde, hedx, hway, hPl =>
              have HGE := Lib.hid hge
              obtain ⟨n1, n2, n3⟩ := nxW_law hde
              have hzq : z < q := by have := HUP.out _ (by have := HQN.out; omega) _ n2; omega
              have q1 : ((z : Int) != (q : Int)) = true := by simp; omega
              have q2 : ¬ (z : Int) = (q : Int) := by omega
              have q3 : ¬ z = q := by omega
              have HDE := Lib.hid (And.intro hde (And.intro hedx (And.intro hxz (And.intro hway hPl))))
              have HNX := Lib.hid (show ∃ k, k ≤ q ∧ (z : Int) ∈ I k ∧ pwB I q e k = true from ⟨_, n1, n2, n3.1⟩)
              obtain ⟨ll, hll⟩ : ∃ ll, ll = (P ++ [(z : Int)]).length := ⟨_, rfl⟩
              obtain ⟨Aw, cw, hsv, _⟩ := gr_shape MW
              rw [← hll] at hsv
              subst hsv
              clear hll
              have HMW := Lib.hid MW
              have he5 : e ≤ 40000 := by omega
              have hzn : z < n := by have := HQN.out; omega
              have hzn2 : (z : Int) < (n : Int) := by omega
              have hz0 : (0 : Int) ≤ (z : Int) := by omega
              have cz : wr4.cell? ⟨gf, z, none⟩ = some (.int .i64 ((e : Int) + 1)) := ((O.get 0 rfl).cell z).trans ((arrI_get _ _ _ hzn).trans (by rw [HFD.out z (by omega), dsI_of hde]; rfl))
              have HCZ := Lib.hid cz
              have HMV := Lib.hid (show ∀ u, Keeps wr4 u [] → Mint wq.heap.size u (.slice Aw ll cw) (P ++ [(z : Int)]) from fun u K => gr_keeps MW K (by simp))
              clear n1 n2 n3 hde hedx hway hPl MW cz
              go_wp2
              go_loopg [19, 20] (q - z) (fun g s19 s20 wr5 => ∃ y : Nat, z < y ∧ y ≤ q + 1 ∧ g = q + 1 - y ∧ s19 = .int .i64 (z : Int) ∧ s20 = .int .i64 (y : Int) ∧ Keeps wr4 wr5 [] ∧ ∀ k, k < y → ¬ ((z : Int) ∈ I k ∧ pwB I q e k = true))
              case atStart => exact ⟨z + 1, by omega, by omega, by omega, rfl, by go_num, Keeps.refl _ _, fun k hk ⟨hm, _⟩ => by have := HUP.out k (by have := HQN.out; omega) _ hm; omega⟩
              case round =>
                rename World => wr5
                obtain ⟨y, hzy, hyq, hgy, rfl, rfl, K5, hno⟩ := hrel
                have HG3 := Lib.hid (And.intro hgy hzy)
                have hyq2 : y ≤ q := by
                  refine Nat.le_of_not_lt fun hl => ?_
                  obtain ⟨k, k1', k2, k3⟩ := HNX.out
                  exact hno k (by omega) ⟨k2, k3⟩
                replace O := O.keeps K5
                have HK5 := Lib.hid K5
                have g1 : (y : Int) < (n : Int) := by have := HQN.out; omega
                have g0 : (0 : Int) ≤ y := by omega
                have hyn : y < n := by omega
                have hy4 : y ≤ 40000 := by omega
                have hnext : ¬ ((z : Int) ∈ I y ∧ pwB I q e y = true) → ∀ k, k < y + 1 → ¬ ((z : Int) ∈ I k ∧ pwB I q e k = true) := fun hy k hk => by
                  by_cases e1 : k = y
                  · rw [e1]; exact hy
                  · exact hno k (by omega)
                have hyes : (z : Int) ∈ I y → pwB I q e y = true → Ds I q y e := fun h1 h2 => ds_step HDE.out.1 hyq2 h1 h2
                have hfy : f (y : Int) = dsI I q y := HFD.out y (by have := HDE.out; omega)
                have cy : wr5.cell? ⟨gf, y, none⟩ = some (.int .i64 (f (y : Int))) := ((O.get 0 rfl).cell y).trans (arrI_get _ _ _ hyn)
                have cz : wr5.cell? ⟨gf, z, none⟩ = some (.int .i64 ((e : Int) + 1)) := by rw [K5.cellAt (World.block_lt_of_cell? wr4 _ HCZ.out) (by simp)]; exact HCZ.out
                have czL : ∀ p : Later wr5, p.1.cell? ⟨gf, z, none⟩ = some (.int .i64 ((e : Int) + 1)) := fun p => (p.2.cell gf z (O.lt 0 rfl) (by simp)).trans cz
                have cyL : ∀ p : Later wr5, p.1.cell? ⟨gf, y, none⟩ = some (.int .i64 (f (y : Int))) := fun p => (p.2.cell gf y (O.lt 0 rfl) (by simp)).trans cy
                clear hyq hgy cy cz K5
                go_wp2
                rcases dsI_cases (I := I) (j := q) (m := y) with ⟨hd1, hd2⟩ | ⟨dy, hd1, hd2⟩
                · have HNO := Lib.hid (hnext fun q => hd2 e (hyes q.1 q.2))
                  rw [hfy, hd1] at cyL
                  clear hno hnext hyes hfy hd1 hd2
                  refine wp_quiet_later (by kernel_rfl) (by kernel_rfl) ?_
                  repeat (first
                    | go_big_quiet_skip
                    | go_big_quiet_step (fail))
                  refine wpQuiet_nil ?_
                  intro _ hw
                  obtain ⟨p', rfl⟩ := hw
                  have HK6 := Lib.hid (HK5.out.trans p'.2 (by simp))
                  clear czL cyL
                  generalize p'.1 = W9 at HK6 ⊢
                  go_wp2
                  go_roundg (q + 1 - (y + 1))
                  case measure => (have := HG3.out; omega)
                  case rel => exact ⟨y + 1, by have := HG3.out; omega, by omega, rfl, rfl, by go_num, HK6.out, HNO.out⟩
                · rw [hfy, hd2] at cyL
                  by_cases hde : dy = e
                  · subst hde
                    have HDY := Lib.hid hd1
                    obtain ⟨Ay, cy, hvs, _⟩ := HSH.out y hyn
                    have hlk := HLK.out y hyn
                    rw [hvs] at hlk
                    have hly := HLEN.out y hyn
                    have cI : ∀ p : Later wr5, p.1.cell? (ad.add y) = some (.slice Ay (I y).length cy) := fun p => (hlk p.1 (O.keep.trans p.2 (by simp))).1
                    have dyB : decide ((0 : Int) ≤ (dy : Int)) = true := decide_eq_true (by omega)
                    by_cases hin : (z : Int) ∈ I y
                    · have HCO : ∀ p : Later wr5, Hid (Calls Try.prog 82 #[.slice Ay (I y).length cy, .int .i64 (z : Int)] p.1 fun e w' => e = .returned (.bool true) ∧ p.1 = w') := fun p => Lib.hid (within_any _ (I y) (z : Int) true (by omega) (hlk p.1 (O.keep.trans p.2 (by simp))).2.listL.1 (decide_eq_true hin))
                      have HNW := Lib.hid (nxW_is hyq2 hin HDY.out.1 hno)
                      clear hno hnext hyes hfy hd1 hd2 hin hlk hvs
                      generalize (I y).length = ly at cI HCO hly
                      refine wp_quiet_later (by kernel_rfl) (by kernel_rfl) ?_
                      repeat (first
                        | go_big_quiet_skip
                        | go_big_quiet_step ((go_at_call 82; exact later_left (HCO _).out)))
                      refine wpQuiet_nil ?_
                      intro _ hw
                      obtain ⟨p', rfl⟩ := hw
                      replace O := O.keeps p'.2
                      have MW := HMV.out _ (HK5.out.trans p'.2 (by simp))
                      clear czL cyL cI HCO
                      generalize p'.1 = W9 at O MW ⊢
                      go_wp2_with (first
                        | (refine own_lit1 154 (y : Int) O rfl rfl rfl rfl ?_; clear O; intro W8 gl O K1 hg; have hgl : (Value.slice Aw ll cw).ownBlock ≠ some gf := (fun hb => by have := (gr_own MW hb).1; have := HND.out; omega); have HGL := Lib.hid hgl; replace MW := gr_keeps MW K1 (by simp); clear K1 hg hgl; simp only [Act.put, List.setIfInBounds_toArray, List.set_cons_zero, List.set_cons_succ])
                        | (at_builtin; refine gr_app (z := .int .i64 0) (.tmp 152) (.tmp 154) rowT25w O MW rfl (by simp [Value.oneCell']) rfl rfl rfl rfl (Nat.le_refl _) O.keep.size (fun e he => by rw [List.mem_singleton.1 he]; exact HGL.out) (by rw [List.length_append]; simp; omega) (by decide) ?_; clear O; intro v1 W7 O MW2 K7 hf; clear K7 hf MW; simp only [Act.put, List.setIfInBounds_toArray, List.set_cons_zero, List.set_cons_succ]))
                      go_roundg dy
                      case measure => (have := HGE.out; omega)
                      case rel =>
                        refine ⟨dy, y, P ++ [(z : Int)], rfl, rfl, HDY.out, by have := HDE.out; omega, hyq2, by have := HDE.out; have := HG3.out; omega, ?_, ?_, O⟩
                        · rw [← HDE.out.2.2.2.1, wayL, HNW.out, List.append_assoc]; rfl
                        · have e1 : (P ++ [(z : Int)] ++ [(y : Int)]).length = (P ++ [(z : Int)]).length + 1 := by simp
                          unfold Mint
                          rw [e1, List.map_append]
                          exact MW2
                    · have HCO : ∀ p : Later wr5, Hid (Calls Try.prog 82 #[.slice Ay (I y).length cy, .int .i64 (z : Int)] p.1 fun e w' => e = .returned (.bool false) ∧ p.1 = w') := fun p => Lib.hid (within_any _ (I y) (z : Int) false (by omega) (hlk p.1 (O.keep.trans p.2 (by simp))).2.listL.1 (decide_eq_false hin))
                      have HNO := Lib.hid (hnext fun q => hin q.1)
                      clear hno hnext hyes hfy hd1 hd2 hin hlk hvs
                      generalize (I y).length = ly at cI HCO hly
                      refine wp_quiet_later (by kernel_rfl) (by kernel_rfl) ?_
                      repeat (first
                        | go_big_quiet_skip
                        | go_big_quiet_step ((go_at_call 82; exact later_left (HCO _).out)))
                      refine wpQuiet_nil ?_
                      intro _ hw
                      obtain ⟨p', rfl⟩ := hw
                      have HK6 := Lib.hid (HK5.out.trans p'.2 (by simp))
                      clear czL cyL cI HCO
                      generalize p'.1 = W9 at HK6 ⊢
                      go_wp2
                      go_roundg (q + 1 - (y + 1))
                      case measure => (have := HG3.out; omega)
                      case rel => exact ⟨y + 1, by have := HG3.out; omega, by omega, rfl, rfl, by go_num, HK6.out, HNO.out⟩
                  · have HNO := Lib.hid (hnext fun q => hde (by have := (hyes q.1 q.2).unique hd1; omega))
                    have q4 : ((dy : Int) == (e : Int)) = false := by rw [beq_eq_false_iff_ne]; omega
                    have q5 : ¬ (dy : Int) = (e : Int) := by omega
                    have q6 : (dy == e) = false := by rw [beq_eq_false_iff_ne]; exact hde
                    clear hno hnext hyes hfy hd1 hd2
                    refine wp_quiet_later (by kernel_rfl) (by kernel_rfl) ?_
                    repeat (first
                      | go_big_quiet_skip
                      | go_big_quiet_step (fail))
                    refine wpQuiet_nil ?_
                    intro _ hw
                    obtain ⟨p', rfl⟩ := hw
                    have HK6 := Lib.hid (HK5.out.trans p'.2 (by simp))
                    clear czL cyL
                    generalize p'.1 = W9 at HK6 ⊢
                    go_wp2
                    go_roundg (q + 1 - (y + 1))
                    case measure => (have := HG3.out; omega)
                    case rel => exact ⟨y + 1, by have := HG3.out; omega, by omega, rfl, rfl, by go_num, HK6.out, HNO.out⟩
theorem rway_any (hS : SysIn w S A c R d) (hE : EvsAt w B n E) (i j : Int) : Calls Try.prog 47 #[.agg (sysV S A c R d), .slice B n cb, .int .i64 i, .int .i64 j] w (WayPost (wayR S E n i j) w) := by
  by_cases h : (beforeR S E n i j).2 = 0 ∧ (beforeR S E n i j).1 = true
  · exact rway_good hS hE i j h.1 h.2
  · exact rway_bad hS hE i j h
end
end Go.Proofs.Ytakmcpadkanggaa
namespace Go.Proofs.Ytakmcpadkanggaa
open Go.ChangeShapes Go.WideShapes Go.RowKit Go.Maps Go.Deep
theorem evs_of_row3 {w w0 : World} {v : Value} {n : Nat} {E : Nat → Ev} (h : w.ownsRow w0.heap.size 37 5 v n (evL E n)) : ∃ B c, v = .slice B n c ∧ EvsAt w B n E ∧ n ≤ c ∧ c ≤ maxLen := by
  obtain ⟨B, c, rfl, hE⟩ := evs_of_row h
  refine ⟨B, c, rfl, hE, ?_⟩
  obtain ⟨_, ⟨e, hn⟩ | ⟨g, cap, cur, e, _, hb, hle, hm, hs, ht⟩⟩ := h
  · injection e with _ _ e; subst hn; subst e; exact ⟨Nat.le_refl _, by simp [maxLen]⟩
  · injection e with _ _ e; subst e; exact ⟨hle, hm⟩
section
variable {w : World} {S : Sys} {A : Option Addr} {c : Nat} {R : Option Addr} {d n : Nat} {E : Nat → Ev} {B : Option Addr} {cb : Nat}
set_option maxRecDepth 100000 in
theorem copied_rm (hE : EvsAt w B n E) (hB : B = none → n = 0 ∧ cb = 0) (hn : n * 40 ≤ 140737488351232) : Calls Try.prog 27 #[.slice B n cb] w fun e w' => (∃ B' c', e = .returned (.slice B' n c') ∧ EvsAt w' B' n E ∧ n ≤ c' ∧ c' ≤ maxLen) ∧ Keeps w w' [] := by
  obtain ⟨i, hi, hz, hsz, hby⟩ := info37
  rcases B with _ | ad
  · obtain ⟨rfl, rfl⟩ := hB rfl
    go_enter Try.func27, Try.ntmps27
    go_wp2_with (at_builtin; refine wpList_append_own_none rfl (.tmp 4) (.tmp 5) 31 rfl w.heap.size 37 i 5 Try.underlying31 hi (.slice none 0 0) 0 [] rfl (World.ownsRow_nil _ _ _ _) rfl ?_; simp only [Act.put, List.setIfInBounds_toArray, List.set_cons_zero, List.set_cons_succ])
    go_ret
    exact ⟨⟨none, 0, rfl, fun h => by omega, by simp [maxLen]⟩, Keeps.refl _ _⟩
  · have HC := Lib.hid (show ∀ j u, (evL E n)[j]? = some u → w.cell? (ad.add j) = some u from fun j u hu => by
      have hj : j < n * 5 := by
        rcases Nat.lt_or_ge j (n * 5) with h | h
        · exact h
        · rw [List.getElem?_eq_none (by rw [evL_length]; exact h)] at hu; cases hu
      obtain ⟨ad', e, _, hc⟩ := hE (by omega)
      cases e
      have h1 := hc (j / 5) (j % 5) (by omega) (by omega)
      rw [show j / 5 * 5 + j % 5 = j by omega] at h1
      have h2 := evL_get E n (j / 5) (j % 5) (by omega) (by omega)
      rw [show j / 5 * 5 + j % 5 = j by omega] at h2
      rw [h1, ← h2, hu])
    clear hE hB
    go_enter Try.func27, Try.ntmps27
    go_wp2_with (at_builtin; refine wpList_append_own _ rfl (.tmp 4) (.tmp 5) 31 rfl w.heap.size 37 i (.agg (evC ⟨0, 0, 0, 0, false⟩)) 5 40 Try.underlying31 hi hz hsz hby rfl (by decide) (.slice none 0 0) 0 [] rfl (World.ownsRow_nil _ _ _ _) ad n cb (evL E n) rfl (evL_length E n) HC.out (evL_cell E n) (by simp only [maxLen]; omega) (by omega) (Nat.le_refl _) ?_; intro v' u h1 h2 _; simp only [Act.put, List.setIfInBounds_toArray, List.set_cons_zero, List.set_cons_succ])
    simp only [Nat.zero_add, List.nil_append] at h1
    obtain ⟨B', c', rfl, hE', hr, hr'⟩ := evs_of_row3 h1
    go_ret
    exact ⟨⟨B', c', rfl, hE', hr, hr'⟩, ⟨h2.os, h2.tape, h2.output, h2.size, fun b hb _ => h2.block b hb (by simp [Value.ownBlock])⟩⟩
end
end Go.Proofs.Ytakmcpadkanggaa
namespace Go.Proofs.Ytakmcpadkanggaa
open Go.RowKit Go.Maps Go.Deep
theorem EvsAt.keptS {w u : World} {A : Option Addr} {n : Nat} {E : Nat → Ev} (h : EvsAt w A n E) (k : Keeps w u []) : EvsAt u A n E := h.kept k
end Go.Proofs.Ytakmcpadkanggaa
namespace Go.Proofs.Ytakmcpadkanggaa
open Go.ChangeShapes Go.WideShapes Go.RowKit Go.Maps Go.Deep
section
variable {w : World} {S : Sys} {A : Option Addr} {c : Nat} {R : Option Addr} {d n : Nat} {E : Nat → Ev} {B : Option Addr} {cb : Nat}
theorem way_len (S : Sys) (E : Nat → Ev) (n : Nat) (i j : Int) : (wayR S E n i j).1.length ≤ 40001 := by
  by_cases h : (beforeR S E n i j).2 = 0 ∧ (beforeR S E n i j).1 = true
  · obtain ⟨p, q, e, _, _, _, hq, hn, _, hok, _, hd, hw⟩ := way_yes h.1 h.2
    have := ds_le (into_up (rm := rmS S) hok) hq hd
    rw [hw]
    show (wayL _ _ _ _).length ≤ _
    rw [wayL_length]
    omega
  · rw [way_no h]
    simp
set_option maxRecDepth 100000 in
set_option maxHeartbeats 4000000 in
theorem orders_walk (hS : SysIn w S A c R d) (hE : EvsAt w B n E) (hwf : ∀ i, i < n → (Lit.int .i64 (E i).a).wf = true) (hB : B = none → n = 0 ∧ cb = 0) (hn : n * 40 ≤ 140737488351232) (i j k : Int) :
    Calls Try.prog 15 #[.agg (sysV S A c R d), .slice B n cb, .agg #[.int .i64 i, .int .i64 j, .int .i64 k]] w fun e w' => e = .returned (.bool true) ∧ Keeps w w' [] := by
  have O := Own.start w []
  have HC := Lib.hid (fun u (k : Keeps w u []) => copied_rm (cb := cb) (hE.kept k) hB hn)
  have HA := Lib.hid (fun u (k : Keeps w u []) B' c' (h : EvsAt u B' n E) (hc : n ≤ c') => tbefore_any (hS.kept k) h hc hwf i j)
  have HW := Lib.hid (fun u (k : Keeps w u []) B' c' (h : EvsAt u B' n E) (hc : n ≤ c') => tway_any (hS.kept k) h hc hwf i j)
  have HR := Lib.hid (fun u (K : Keeps w u []) => (by have := rbefore_any (cb := cb) (hS.kept K) (hE.kept K) i j; rwa [← before_eq] at this : Calls Try.prog 45 #[.agg (sysV S A c R d), .slice B n cb, .int .i64 i, .int .i64 j] u fun e u' => e = .returned (.tuple #[.bool (beforeR S E n i j).1, .int .i64 (beforeR S E n i j).2]) ∧ Keeps u u' []))
  have HV := Lib.hid (fun u (K : Keeps w u []) => rway_any (cb := cb) (hS.kept K) (hE.kept K) i j)
  have HL := Lib.hid (way_len S E n i j)
  clear hS hE hwf hB hn
  generalize wayR S E n i j = x at *
  obtain ⟨xs, ew⟩ := x
  generalize beforeR S E n i j = y at *
  obtain ⟨b, er⟩ := y
  unfold WayPost at HW HV
  simp only at HA HR HL HW HV
  have e1 : (er != er) = false := by simp
  have e2 : (b != b) = false := by simp
  have e3 : (ew == ew) = true := by simp
  go_enter Try.func15, Try.ntmps15
  go_wp2_with (first
    | go_big_skip
    | (refine own_box 3 (sysV S A c R d) O rfl rfl rfl rfl ?_; clear O; intro W a3 O; simp only [Act.put, List.setIfInBounds_toArray, List.set_cons_zero, List.set_cons_succ])
    | (refine own_box 5 (#[.int .i64 i, .int .i64 j, .int .i64 k]) O rfl rfl rfl rfl ?_; clear O; intro W a5 O; simp only [Act.put, List.setIfInBounds_toArray, List.set_cons_zero, List.set_cons_succ]; have c5 := (O.get 0 rfl).cell))
  go_quiet (fail)
  clear c5
  generalize hW : World.drewN W _ = W2
  replace O : Own w W2 [] [(a5, 54, #[.int .i64 i, .int .i64 j, .int .i64 k]), (a3, 27, sysV S A c R d)] := by rw [← hW]; exact O.drewN _
  clear hW
  try go_wp2
  refine wp_held (S := fun u => Own w u [] [(a5, 54, #[.int .i64 i, .int .i64 j, .int .i64 k]), (a3, 27, sysV S A c R d)]) 11 #[false, false, false, false, false, false, false, false, false, false, false] (by kernel_rfl) rfl rfl ?_
  replace O := O.drew
  refine seg_take (fuel := 7) (L' := #[true, true, false, true, true, false, false, false, false, false, false]) (by kernel_rfl) (fun _ _ _ _ _ _ h => h) (by exact O) [0, 1, 3, 4] [_, _, _, _] _ _ rfl (by kernel_rfl) ?_
  simp only [List.getElem_toArray, List.getElem_cons_zero, List.getElem_cons_succ]
  repeat (first
    | (refine take_load 20 rfl (by rfl) rfl rfl (fun _ h => Own.get h 1 rfl) Try.underlying27 rfl (by kernel_rfl) ?_; simp only [Act.put, List.setIfInBounds_toArray, List.set_cons_zero, List.set_cons_succ])
    | (refine take_pure (v := ?_) (by rfl) ?_ ?_; rotate_left; (· (intro w hSw; clear hSw; go_simp; try with_reducible rfl)); simp only [Act.put, List.setIfInBounds_toArray, List.set_cons_zero, List.set_cons_succ]))
  refine take_done ?_
  refine seg_sole 2 #[true, true, true, true, true, false, false, false, false, false, false] rfl (by kernel_rfl) ?_
  try simp only [List.getElem_toArray, List.getElem_cons_zero, List.getElem_cons_succ]
  go_wp2_with (go_at_call 27; refine (HC.out _ O.keep).mono ?_; rintro e W ⟨⟨B1, c1, rfl, q1, q2, q3⟩, K⟩; replace O := O.keeps K; clear K; have HM := Lib.hid (And.intro q1 q2); clear q1 q2 q3)
  (first | refine back_intro2 (by exact O) ?_ | refine back_intro (by exact O) ?_)
  refine seg_sole 5 #[true, true, true, true, true, true, false, false, false, false, false] rfl (by kernel_rfl) ?_
  try simp only [List.getElem_toArray, List.getElem_cons_zero, List.getElem_cons_succ]
  go_wp2_with (go_at_call 44; refine (HA.out _ O.keep _ _ HM.out.1 HM.out.2).mono ?_; rintro e W ⟨rfl, K⟩; replace O := O.keeps K; clear K HM)
  (first | refine back_intro2 (by exact O) ?_ | refine back_intro (by exact O) ?_)
  refine seg_take (fuel := 0) (L' := #[true, true, true, true, true, true, true, true, true, true, true]) (by kernel_rfl) (fun _ _ _ _ _ _ h => h) (by exact O) [6, 7, 8, 9, 10] [_, _, _, _, _] _ _ rfl (by kernel_rfl) ?_
  simp only [List.getElem_toArray, List.getElem_cons_zero, List.getElem_cons_succ]
  repeat (first
    | (refine take_pure (v := ?_) (by rfl) ?_ ?_; rotate_left; (· (intro w hSw; clear hSw; go_simp; try with_reducible rfl)); simp only [Act.put, List.setIfInBounds_toArray, List.set_cons_zero, List.set_cons_succ]))
  refine take_done ?_
  refine seg_done (by kernel_rfl) ?_
  go_wp2_with (first
    | go_big_skip
    | (refine own_load 29 1 O rfl rfl rfl rfl rfl Try.underlying27 rfl (by kernel_rfl) ?_; simp only [Act.put, List.setIfInBounds_toArray, List.set_cons_zero, List.set_cons_succ])
    | (go_at_call 45; refine (HR.out _ O.keep).mono ?_; rintro e W ⟨rfl, K⟩; replace O := O.keeps K; clear K))
  refine wp_held (S := fun u => Own w u [] [(a5, 54, #[.int .i64 i, .int .i64 j, .int .i64 k]), (a3, 27, sysV S A c R d)]) 11 #[false, false, false, false, false, false, false, false, false, false, false] (by kernel_rfl) rfl rfl ?_
  replace O := O.drew
  refine seg_take (fuel := 7) (L' := #[true, true, false, true, true, false, false, false, false, false, false]) (by kernel_rfl) (fun _ _ _ _ _ _ h => h) (by exact O) [0, 1, 3, 4] [_, _, _, _] _ _ rfl (by kernel_rfl) ?_
  simp only [List.getElem_toArray, List.getElem_cons_zero, List.getElem_cons_succ]
  repeat (first
    | (refine take_load 45 rfl (by rfl) rfl rfl (fun _ h => Own.get h 1 rfl) Try.underlying27 rfl (by kernel_rfl) ?_; simp only [Act.put, List.setIfInBounds_toArray, List.set_cons_zero, List.set_cons_succ])
    | (refine take_pure (v := ?_) (by rfl) ?_ ?_; rotate_left; (· (intro w hSw; clear hSw; go_simp; try with_reducible rfl)); simp only [Act.put, List.setIfInBounds_toArray, List.set_cons_zero, List.set_cons_succ]))
  refine take_done ?_
  refine seg_sole 2 #[true, true, true, true, true, false, false, false, false, false, false] rfl (by kernel_rfl) ?_
  try simp only [List.getElem_toArray, List.getElem_cons_zero, List.getElem_cons_succ]
  go_wp2_with (go_at_call 27; refine (HC.out _ O.keep).mono ?_; rintro e W ⟨⟨B1, c1, rfl, q1, q2, q3⟩, K⟩; replace O := O.keeps K; clear K; have HM := Lib.hid (And.intro q1 q2); clear q1 q2 q3)
  (first | refine back_intro2 (by exact O) ?_ | refine back_intro (by exact O) ?_)
  refine seg_sole 5 #[true, true, true, true, true, true, false, false, false, false, false] rfl (by kernel_rfl) ?_
  try simp only [List.getElem_toArray, List.getElem_cons_zero, List.getElem_cons_succ]
  go_wp2_with (go_at_call 46; refine (HW.out _ O.keep _ _ HM.out.1 HM.out.2).mono ?_; rintro e W ⟨⟨v1, rfl, q1⟩, K⟩; replace O := O.keeps K; clear K HM; have Hv1 := Lib.hid q1; clear q1)
  (first | refine back_intro2 (by exact O) ?_ | refine back_intro (by exact O) ?_)
  refine seg_take (fuel := 0) (L' := #[true, true, true, true, true, true, true, true, true, true, true]) (by kernel_rfl) (fun _ _ _ _ _ _ h => h) (by exact O) [6, 7, 8, 9, 10] [_, _, _, _, _] _ _ rfl (by kernel_rfl) ?_
  simp only [List.getElem_toArray, List.getElem_cons_zero, List.getElem_cons_succ]
  repeat (first
    | (refine take_pure (v := ?_) (by rfl) ?_ ?_; rotate_left; (· (intro w hSw; clear hSw; go_simp; try with_reducible rfl)); simp only [Act.put, List.setIfInBounds_toArray, List.set_cons_zero, List.set_cons_succ]))
  refine take_done ?_
  refine seg_done (by kernel_rfl) ?_
  go_wp2_with (first
    | go_big_skip
    | (refine own_load 54 1 O rfl rfl rfl rfl rfl Try.underlying27 rfl (by kernel_rfl) ?_; simp only [Act.put, List.setIfInBounds_toArray, List.set_cons_zero, List.set_cons_succ])
    | (go_at_call 47; refine (HV.out _ O.keep).mono ?_; rintro e W ⟨⟨v2, rfl, q2⟩, K⟩; replace O := O.keeps K; replace Hv1 := Lib.hid (gr_keeps Hv1.out K (by simp)); have Hv2 := Lib.hid q2; clear q2 K)
    | (go_at_call 34; refine (alikes_same _ _ xs (by have := HL.out; omega) (Mint.list Hv1.out) (Mint.list Hv2.out)).mono ?_; rintro e W ⟨rfl, K⟩; replace O := O.keeps K; clear K))
  go_returns
  exact ⟨rfl, O.keep⟩
end
end Go.Proofs.Ytakmcpadkanggaa
