/-
  Part 6 of what this claim rests on.
-/
import Derived.Handy
import Derived.Great.BuildSlice
import Derived.WalkLawsBesides
import Derived.Recover
import Derived.Test.YtakmcpadkanggaaWz5
namespace Go.Proofs.Ytakmcpadkanggaa
open Go.RowKit Go.Maps Go.Deep
theorem befR_err (S : Sys) (E : Nat → Ev) (n : Nat) (i j : Int) : (beforeR S E n i j).2 = (askedR S E n [i, j]).2 := by
  unfold beforeR
  by_cases h : (askedR S E n [i, j]).2 = 0
  · rw [if_pos h, h]
  · rw [if_neg h]
/-- What both Ways hand out. -/
def WayPost (r : List Int × Int) (w : World) (e : Ending) (u : World) : Prop := (∃ v, e = .returned (.tuple #[v, .int .i64 r.2]) ∧ Mint w.heap.size u v r.1) ∧ Keeps w u []
theorem prC_eq137 (x y : Int × Int) (w : World) : (Op.equalIn 10000 137 (.agg (prC x)) (.agg (prC y))).run Try.prog w = .ok (x.1 == y.1 && x.2 == y.2) w := by
  have h := run_equalIn_struct (P := Try.prog) w 9999 137 (prC x) (prC y) (by kernel_rfl) (by kernel_rfl)
  show (Op.equalIn (9999 + 1) 137 _ _).run Try.prog w = _
  rw [h]
  by_cases e1 : x.1 = y.1
  · by_cases e2 : x.2 = y.2
    · simp [Program.fieldsOf, Try.underlying137, Op.eqFields, part, isAgg, run_underlying Try.underlying3, prC, run_equalIn_int _ _ _ _ _ _ _ Try.underlying3, e1, e2]
    · simp [Program.fieldsOf, Try.underlying137, Op.eqFields, part, isAgg, run_underlying Try.underlying3, prC, run_equalIn_int _ _ _ _ _ _ _ Try.underlying3, e1, e2]
  · simp [Program.fieldsOf, Try.underlying137, Op.eqFields, part, isAgg, run_underlying Try.underlying3, prC, run_equalIn_int _ _ _ _ _ _ _ Try.underlying3, e1]
/-- The rows that have been gathered: of each event from which edges lead to it; none of the links' blocks. -/
def RowsK (base : Nat) (W : World) (vs : Nat → Value) (I : Nat → List Int) (F : List Nat) (pl k : Nat) : Prop := ∀ x, x < k → HRow base W (vs x) (I x) ∧ ApF (vs x) F pl
section
variable {base : Nat} {W u : World} {vs : Nat → Value} {I : Nat → List Int} {F F' S : List Nat} {pl k : Nat} {r : Value}
theorem RowsK.none : RowsK base W vs I F pl 0 := fun x hx => by omega
theorem RowsK.new (h : RowsK base W vs I F pl k) (K : Keeps W u []) : RowsK base u vs I F pl k := fun x hx => ⟨(h x hx).1.keeps K (by simp), (h x hx).2⟩
theorem RowsK.blk (h : RowsK base W vs I F pl k) {g t : Nat} {cs : Array Value} (K : Keeps W u [g]) (hB : Blk W g t cs) (ht : t ≠ 3) : RowsK base u vs I F pl k := fun x hx => ⟨(h x hx).1.keeps K (fun b hb hm => by
  obtain ⟨_, cur, hb'⟩ := (h x hx).1.own hb
  exact blk_neR hb' hB (Ne.symm ht) (List.mem_singleton.1 hm)), (h x hx).2⟩
theorem RowsK.next (h : RowsK base W vs I F pl k) (K : Keeps W u F) (hnew : ∀ b ∈ F', b ∈ F ∨ W.heap.size ≤ b) : RowsK base u vs I F' pl k := fun x hx => ⟨(h x hx).1.keeps K (fun b hb => ((h x hx).2 b hb).1), fun g hg => by
  obtain ⟨_, cur, hb⟩ := (h x hx).1.own hg
  exact ⟨notF hnew ((h x hx).2 g hg).1 hb.lt, ((h x hx).2 g hg).2⟩⟩
theorem RowsK.push (h : RowsK base W vs I F pl k) (hr : HRow base W r (I k)) (ha : ApF r F pl) : RowsK base W (updN vs k r) I F pl (k + 1) := fun x hx => by
  by_cases e : x = k
  · subst e; rw [updN_same]; exact ⟨hr, ha⟩
  · rw [updN_other _ _ _ _ e]; exact h x (by omega)
theorem RowsK.from_ (h : RowsK base W vs I F pl k) {g : Nat} (hB : Blk W g 25 (arrF k vs)) : FromAt base W ⟨g, 0, .none⟩ k I := fun x hx => ⟨vs x, by rw [blk_add hB]; exact arrF_get _ _ hx, (h x hx).1⟩
theorem q_start {g q : Nat} (hB : Blk W g 137 (prC ((q : Int), 0))) (hb : base ≤ g) : QAt base 137 2 W (.slice (some ⟨g, 0, .none⟩) 1 1) 1 (stpL I q [q]) := by
  have e : stpL I q [q] = (prC ((q : Int), 0)).toList := by show [Value.int .i64 (q : Int), .int .i64 (dsI I q q)] = _; rw [dsI_of ds_self]; rfl
  refine ⟨by rw [e]; rfl, g, 0, 1, _, rfl, hb, hB, Nat.le_refl _, by decide, by show 0 + 1 * 2 ≤ 2; decide, fun j hj => ?_⟩
  rw [e, Nat.zero_add]
  simp
theorem mint_one {g : Nat} {x : Int} (hB : Blk W g 3 #[.int .i64 x]) (hb : base ≤ g) : Mint base W (.slice (some ⟨g, 0, .none⟩) 1 1) [x] := ⟨rfl, .inr ⟨g, 1, _, rfl, hb, hB, Nat.le_refl _, by decide, rfl, rfl⟩⟩
end
section
variable {w : World} {S : Sys} {A : Option Addr} {c : Nat} {R : Option Addr} {d n : Nat} {E : Nat → Ev} {B : Option Addr} {cb : Nat}
set_option maxRecDepth 100000 in
set_option maxHeartbeats 1000000 in
theorem tway_bad (hS : SysIn w S A c R d) (hE : EvsAt w B n E) (hwf : ∀ i, i < n → (Lit.int .i64 (E i).a).wf = true) (i j : Int) (h : ¬ (beforeR S E n i j).2 = 0) : Calls Try.prog 46 #[.agg (sysV S A c R d), .slice B n cb, .int .i64 i, .int .i64 j] w (WayPost (wayR S E n i j) w) := by
  have O := Own.start w []
  have HA := Lib.hid (show ∀ u, Keeps w u [] → ∀ v, IntL u v [i, j] → Calls Try.prog 62 #[.agg (sysV S A c R d), .slice B n cb, v] u fun e w' => e = .returned (.tuple #[.int .i64 (askedR S E n [i, j]).1, .int .i64 (askedR S E n [i, j]).2]) ∧ Keeps u w' [] from fun u k v hv => asked_any (cb := cb) (hS.kept k) (hE.kept k) hwf v [i, j] hv (by simp))
  have HF := Lib.hid (show wayR S E n i j = ([], (askedR S E n [i, j]).2) by rw [way_no (fun q => h q.1), befR_err])
  rw [befR_err] at h
  generalize wayR S E n i j = r at HF ⊢
  generalize askedR S E n [i, j] = x at HA HF h
  obtain ⟨x0, x1⟩ := x
  simp only at h HF HA
  clear hS hE hwf
  go_enter Try.func46, Try.ntmps46
  go_wp2_with (first
    | go_big_skip
    | (refine own_box 4 (sysV S A c R d) O rfl rfl rfl rfl ?_; clear O; intro W b4 O; simp only [Act.put, List.setIfInBounds_toArray, List.set_cons_zero, List.set_cons_succ])
    | (refine own_load 29 0 O rfl rfl rfl rfl rfl Try.underlying27 rfl (by kernel_rfl) ?_; simp only [Act.put, List.setIfInBounds_toArray, List.set_cons_zero, List.set_cons_succ])
    | (refine own_litB 33 i j O rfl rfl rfl rfl rfl ?_; clear O; intro W gl O K1; clear K1; simp only [Act.put, List.setIfInBounds_toArray, List.set_cons_zero, List.set_cons_succ])
    | (go_at_call 62; refine (HA.out _ O.keep _ ⟨_, 2, rfl, fun _ => ⟨⟨gl, 0, none⟩, rfl, O.lt 0 rfl, fun j hj => litB_cell (O.get 0 rfl) hj⟩⟩).mono ?_; rintro e W ⟨rfl, K⟩; replace O := (O.keeps K).drop_ 1; clear K))
  go_returns
  exact ⟨⟨_, by rw [HF.out]; rfl, by rw [HF.out]; exact Mint.nil _ _⟩, O.keep⟩
set_option maxRecDepth 100000 in
set_option maxHeartbeats 1000000 in
theorem tway_no (hS : SysIn w S A c R d) (hE : EvsAt w B n E) (hcb : n ≤ cb) (hwf : ∀ i, i < n → (Lit.int .i64 (E i).a).wf = true) (i j : Int) (h : (beforeR S E n i j).2 = 0) (h' : (beforeR S E n i j).1 = false) : Calls Try.prog 46 #[.agg (sysV S A c R d), .slice B n cb, .int .i64 i, .int .i64 j] w (WayPost (wayR S E n i j) w) := by
  have O := Own.start w []
  have HA := Lib.hid (show ∀ u, Keeps w u [] → ∀ v, IntL u v [i, j] → Calls Try.prog 62 #[.agg (sysV S A c R d), .slice B n cb, v] u fun e w' => e = .returned (.tuple #[.int .i64 (askedR S E n [i, j]).1, .int .i64 (askedR S E n [i, j]).2]) ∧ Keeps u w' [] from fun u k v hv => asked_any (cb := cb) (hS.kept k) (hE.kept k) hwf v [i, j] hv (by simp))
  have ha := h
  rw [befR_err] at ha
  have HF := Lib.hid (show wayR S E n i j = ([], 0) by rw [way_no (fun q => by rw [h'] at q; exact absurd q.2 (by simp)), h])
  obtain ⟨ht, ⟨hi0, hi1⟩, ⟨hj0, hj1⟩, hR⟩ := asked_two i j ha
  obtain ⟨hv, hn, hok⟩ := thr_zero ht
  have hl := stN_le E n
  obtain ⟨p, rfl⟩ : ∃ p : Nat, i = (p : Int) := ⟨i.toNat, by omega⟩
  obtain ⟨q, rfl⟩ : ∃ q : Nat, j = (q : Int) := ⟨j.toNat, by omega⟩
  obtain ⟨r, hr⟩ : ∃ r : Nat, (stN E n).r = (r : Int) := ⟨(stN E n).r.toNat, by omega⟩
  have hbf : befB E (rmS S) p q = false := by unfold beforeR at h'; rw [if_pos ha] at h'; exact h'
  have HB := Lib.hid (fun u (K : Keeps w u []) => (by have := before_any (cb := cb) (r := r) (i := p) (j := q) (hS.kept K) (hE.kept K) (val_rooms hv) hok hn hwf (by omega) (by omega) (by omega) (by omega) hcb; rwa [hbf] at this : Calls Try.prog 79 #[.agg (sysV S A c R d), .slice B n cb, .int .i64 (r : Int), .int .i64 (p : Int), .int .i64 (q : Int)] u fun e u' => e = .returned (.bool false) ∧ Keeps u u' []))
  rw [hR, hr] at HA
  generalize wayR S E n (p : Int) (q : Int) = rr at HF ⊢
  clear hS hE hcb hwf h h' ha ht hi0 hi1 hj0 hj1 hR hv hn hok hl hr hbf
  go_enter Try.func46, Try.ntmps46
  go_wp2_with (first
    | go_big_skip
    | (refine own_box 4 (sysV S A c R d) O rfl rfl rfl rfl ?_; clear O; intro W b4 O; simp only [Act.put, List.setIfInBounds_toArray, List.set_cons_zero, List.set_cons_succ])
    | (refine own_load 29 0 O rfl rfl rfl rfl rfl Try.underlying27 rfl (by kernel_rfl) ?_; simp only [Act.put, List.setIfInBounds_toArray, List.set_cons_zero, List.set_cons_succ])
    | (refine own_load 40 0 O rfl rfl rfl rfl rfl Try.underlying27 rfl (by kernel_rfl) ?_; simp only [Act.put, List.setIfInBounds_toArray, List.set_cons_zero, List.set_cons_succ])
    | (refine own_litB 33 (p : Int) (q : Int) O rfl rfl rfl rfl rfl ?_; clear O; intro W gl O K1; clear K1; simp only [Act.put, List.setIfInBounds_toArray, List.set_cons_zero, List.set_cons_succ])
    | (go_at_call 62; refine (HA.out _ O.keep _ ⟨_, 2, rfl, fun _ => ⟨⟨gl, 0, none⟩, rfl, O.lt 0 rfl, fun j hj => litB_cell (O.get 0 rfl) hj⟩⟩).mono ?_; rintro e W ⟨rfl, K⟩; replace O := (O.keeps K).drop_ 1; clear K)
    | (go_at_call 79; refine (HB.out _ O.keep).mono ?_; rintro e W ⟨rfl, K⟩; replace O := O.keeps K; clear K))
  go_returns
  exact ⟨⟨_, by rw [HF.out]; rfl, by rw [HF.out]; exact Mint.nil _ _⟩, O.keep⟩
set_option maxRecDepth 100000 in
set_option maxHeartbeats 8000000 in
theorem tway_good (hS : SysIn w S A c R d) (hE : EvsAt w B n E) (hcb : n ≤ cb) (hwf : ∀ i, i < n → (Lit.int .i64 (E i).a).wf = true) (i j : Int) (h : (beforeR S E n i j).2 = 0) (h' : (beforeR S E n i j).1 = true) : Calls Try.prog 46 #[.agg (sysV S A c R d), .slice B n cb, .int .i64 i, .int .i64 j] w (WayPost (wayR S E n i j) w) := by
  have O := Own.start w []
  have HA := Lib.hid (show ∀ u, Keeps w u [] → ∀ v, IntL u v [i, j] → Calls Try.prog 62 #[.agg (sysV S A c R d), .slice B n cb, v] u fun e w' => e = .returned (.tuple #[.int .i64 (askedR S E n [i, j]).1, .int .i64 (askedR S E n [i, j]).2]) ∧ Keeps u w' [] from fun u k v hv => asked_any (cb := cb) (hS.kept k) (hE.kept k) hwf v [i, j] hv (by simp))
  obtain ⟨p, q, d0, rfl, rfl, hpq, hqn, hn, hv, hok, hbef, hds, hway⟩ := way_yes h h'
  rw [befR_err] at h
  obtain ⟨ht, _, _, hR⟩ := asked_two (p : Int) (q : Int) h
  have hl := stN_le E n
  obtain ⟨r, hr⟩ : ∃ r : Nat, (stN E n).r = (r : Int) := ⟨(stN E n).r.toNat, by omega⟩
  have HB := Lib.hid (fun u (K : Keeps w u []) => (by have := before_any (cb := cb) (r := r) (i := p) (j := q) (hS.kept K) (hE.kept K) (val_rooms hv) hok hn hwf (by omega) (by omega) (by omega) (by omega) hcb; rwa [hbef] at this : Calls Try.prog 79 #[.agg (sysV S A c R d), .slice B n cb, .int .i64 (r : Int), .int .i64 (p : Int), .int .i64 (q : Int)] u fun e u' => e = .returned (.bool true) ∧ Keeps u u' []))
  rw [hR, hr] at HA
  have HNX := Lib.hid (fun u (K : Keeps w u []) (x : Nat) (hx : x < n) F f pl mb base (hl : LinksAt u F (.slice R S.nr d) pl mb f (lkN E x) (2 * x) base) (hb : w.heap.size ≤ base) => lnextE hS K (valid_rooms hv) (by omega) (hok x hx) (hwf x hx) hl (by omega) (fun i a => by have := lk_len E i a x; omega) (fun h6 hs => by rw [lk_r0, lk_r1, natL_length, natL_length]; exact ok_take (hok x hx) h6 hs) hb)
  rw [hway]
  have HUP := Lib.hid (into_up (rm := rmS S) hok)
  have HLEN := Lib.hid (fun x (hx : x < n) => intoL_length (rm := rmS S) (hok x hx))
  obtain ⟨I, hI⟩ : ∃ I, I = intoL E (rmS S) := ⟨_, rfl⟩
  have HXS := Lib.hid (show ∀ x, scL (nextR (lkN E x) (rmS S) (E x)) = I x from fun x => by rw [hI]; rfl)
  rw [← hI] at hds HUP HLEN ⊢
  have HDS := Lib.hid hds
  obtain ⟨ad, rfl, _⟩ := hE (by omega)
  have HE := Lib.hid hE
  have hcb1 : ((q : Nat) : Int) + 1 ≤ cb := by omega
  have hcb2 : q + 1 ≤ cb := by omega
  have hq4 : q ≤ 40000 := by omega
  have HQN := Lib.hid hqn
  have HPQ := Lib.hid hpq
  clear hS hE hcb hwf h h' ht hR hv hok hl hr hbef hds hway hI hpq
  go_enter Try.func46, Try.ntmps46
  go_wp2_with (first
    | go_big_skip
    | (refine own_box 4 (sysV S A c R d) O rfl rfl rfl rfl ?_; clear O; intro W a4 O; simp only [Act.put, List.setIfInBounds_toArray, List.set_cons_zero, List.set_cons_succ])
    | (refine own_load 29 0 O rfl rfl rfl rfl rfl Try.underlying27 rfl (by kernel_rfl) ?_; simp only [Act.put, List.setIfInBounds_toArray, List.set_cons_zero, List.set_cons_succ])
    | (refine own_load 40 0 O rfl rfl rfl rfl rfl Try.underlying27 rfl (by kernel_rfl) ?_; simp only [Act.put, List.setIfInBounds_toArray, List.set_cons_zero, List.set_cons_succ])
    | (refine own_load 47 0 O rfl rfl rfl rfl rfl Try.underlying27 rfl (by kernel_rfl) ?_; simp only [Act.put, List.setIfInBounds_toArray, List.set_cons_zero, List.set_cons_succ])
    | (refine own_litB 33 (p : Int) (q : Int) O rfl rfl rfl rfl rfl ?_; clear O; intro W gl O K1; clear K1; simp only [Act.put, List.setIfInBounds_toArray, List.set_cons_zero, List.set_cons_succ])
    | (go_at_call 62; refine (HA.out _ O.keep _ ⟨_, 2, rfl, fun _ => ⟨⟨gl, 0, none⟩, rfl, O.lt 0 rfl, fun j hj => litB_cell (O.get 0 rfl) hj⟩⟩).mono ?_; rintro e W ⟨rfl, K⟩; replace O := (O.keeps K).drop_ 1; clear K)
    | (go_at_call 79; refine (HB.out _ O.keep).mono ?_; rintro e W ⟨rfl, K⟩; replace O := O.keeps K; clear K)
    | (go_at_call 69; refine newLinks_any.mono ?_; rintro e W' ⟨⟨pl, F, mb, f, rfl, LA, hp⟩, K⟩; have hws := O.keep.size; have ha4 := O.lt 0 rfl; have hb0 : ∃ b, b = W.heap.size := ⟨_, rfl⟩; obtain ⟨base, hbase⟩ := hb0; rw [← hbase] at LA hp hws ha4; replace O := O.keeps K; clear K hbase; have HP := Lib.hid (And.intro hp (And.intro hws ha4)); clear hp hws ha4)
    | (refine own_makeSK 51 (q + 1) O rfl rfl rfl (by first | rfl | go_num) (by omega) ?_; clear O; intro W gf O K1 hgf; rw [arrF_nil] at O; have hg0 : gf ∉ F ∧ gf ≠ pl := ⟨(fun hm => by have := (LA.ltF _ hm).2; omega), (fun e => by have := LA.blk.lt; omega)⟩; replace LA := LA.kept K1 (by simp); have HGF := Lib.hid hg0; clear K1 hgf hg0; simp only [Act.put, List.setIfInBounds_toArray, List.set_cons_zero, List.set_cons_succ]))
  clear HA HB
  go_loopg [57] (q + 1) (fun g s57 wr => ∃ k F f vs, k ≤ q + 1 ∧ g = q + 1 - k ∧ s57 = .int .i64 (k : Int) ∧ Own w wr [] [(gf, 25, arrF (q + 1) vs), (a4, 27, sysV S A c R d)] ∧ RowsK w.heap.size wr vs I F pl k ∧ (gf ∉ F ∧ gf ≠ pl) ∧ LinksAt wr F (.slice R S.nr d) pl mb f (lkN E k) (2 * k) base)
  case atStart => exact ⟨0, F, f, _, by omega, by omega, rfl, O, RowsK.none, HGF.out, LA⟩
  case round =>
    clear O LA HGF
    obtain ⟨k, F, f, vs, hk, hgk, rfl, O, RK, hgf, LA⟩ := hrel
    have HG := Lib.hid hgk
    have HGF := Lib.hid hgf
    clear hgk hgf
    by_cases hlt : k < q + 1
    · have g1 : ((k : Int)) < (q : Int) + 1 := by omega
      have g0 : (0 : Int) ≤ k := by omega
      have hkn : k < n := by have := HQN.out; omega
      obtain ⟨ad', e1, hc⟩ := EvsAt.row (u := w) HE.out hkn
      obtain rfl : ad = ad' := by injection e1
      have HC := Lib.hid hc
      have HNk := Lib.hid (fun u (K : Keeps w u []) F f (hl : LinksAt u F (.slice R S.nr d) pl mb f (lkN E k) (2 * k) base) => HNX.out u K k hkn F f pl mb base hl HP.out.2.1)
      have HXk := Lib.hid (HXS.out k)
      have HLK := Lib.hid (show nextK (lkN E k) (k : Int) (E k) = lkN E (k + 1) from rfl)
      clear hc e1
      generalize E k = e at HC HNk HXk HLK
      go_wp2_with (first
        | (refine wpList_load_at 61 rfl rfl rfl rfl (HC.out [] _ O.keep (by simp)) Try.underlying37 rfl (by kernel_rfl) ?_; simp only [Act.put, List.setIfInBounds_toArray, List.set_cons_zero, List.set_cons_succ])
        | (refine own_allocK 15 (evC ⟨0, 0, 0, 0, false⟩) O rfl rfl rfl (fun _ => by kernel_rfl) ?_; clear O; intro W1 b15 O K1 hb; have hb15 : b15 ∉ F ∧ b15 ≠ pl := ⟨(fun hm => by have := (LA.ltF _ hm).2; omega), (fun e => by have := LA.blk.lt; omega)⟩; replace RK := RK.new K1; replace LA := LA.kept K1 (by simp); have HB15 := Lib.hid hb15; clear K1 hb hb15; simp only [Act.put, List.setIfInBounds_toArray, List.set_cons_zero, List.set_cons_succ])
        | (have hB := O.get 0 rfl; refine own_store_rowK 0 (.tmp 15) (.tmp 61) O rfl rfl rfl rfl rfl rfl (by kernel_rfl) (by rfl) (evC_cell _) ?_; clear O; intro W2 O K2; simp only [List.set_cons_zero] at O; replace RK := RK.blk K2 hB (by decide); replace LA := LA.kept K2 (fun b hb => by rw [List.mem_singleton.1 hb]; exact HB15.out); clear K2 hB)
        | (refine own_load 66 0 O rfl rfl rfl rfl rfl Try.underlying37 rfl (by kernel_rfl) ?_; simp only [Act.put, List.setIfInBounds_toArray, List.set_cons_zero, List.set_cons_succ])
        | (go_at_call 70; have hsz := O.keep.size; refine (HNk.out _ O.keep F f LA).mono ?_; rintro x W3 ⟨rr, F', f', rfl, hR, LA', hnew, hrF, K3⟩; have HGF' := Lib.hid (show gf ∉ F' ∧ gf ≠ pl from ⟨notF hnew HGF.out.1 (O.lt 1 rfl), HGF.out.2⟩); have hap : ApF rr F' pl := (fun g hg => ⟨hrF g hg, fun e => by have := (hR.own hg).1; have := LA.blk.lt; omega⟩); replace RK := RK.next K3 hnew; replace O := O.wrote K3 (fun b hb hlt => absurd hlt (by have := (LA.ltF b hb).1; have := HP.out.2.1; omega)) (fun z hz => by
            rcases List.mem_cons.1 hz with rfl | hz
            · exact HB15.out.1
            · rcases List.mem_cons.1 hz with rfl | hz
              · exact HGF.out.1
              · rw [List.mem_singleton.1 hz]; exact fun hm => by have := (LA.ltF _ hm).1; have := HP.out.2.2; omega); rw [HXk.out] at hR; rw [HLK.out] at LA'; replace hR := hrow_low hR hsz; replace RK := RK.push hR hap; obtain ⟨Av, cv, hvv, _⟩ := hR.row; subst hvv; clear LA HGF hnew hrF K3 hR hap hsz)
        | (have hB := O.get 1 rfl; refine own_storeK 1 k _ (.tmp 68) (.tmp 67) O rfl rfl rfl rfl rfl rfl (by rw [arrF_size]; exact hlt) rfl rfl (by kernel_rfl) (arrF_set _ _ _ _) ?_; clear O; intro W4 O K4; simp only [List.set_cons_zero, List.set_cons_succ] at O; replace RK := RK.blk K4 hB (by decide); replace LA' := LA'.kept K4 (fun b hb => by rw [List.mem_singleton.1 hb]; exact HGF'.out); clear K4 hB))
      go_roundg (q + 1 - (k + 1))
      case measure => (have := HG.out; omega)
      case rel => exact ⟨k + 1, F', f', _, by omega, rfl, by go_num, O.drop_ 1, RK, HGF'.out, LA'⟩
    · obtain rfl : k = q + 1 := by omega
      have HK0 := Lib.hid O.keep
      have FA := RK.from_ (O.get 0 rfl)
      have HFA := Lib.hid (fun u (K : Keeps wr u []) => FA.kept K)
      have hwq := O.keep.size
      have HWQ := Lib.hid hwq
      clear O RK LA HGF FA hlt hwq HP HNX HE HXS HG hk
      replace O := Own.start wr []
      have HWF := Lib.hid (wf_small (n := (q : Int)) (by omega) (by omega))
      rename World => wq
      go_wp2_with (first
        | (refine own_makeMapV 70 O rfl rfl rfl ?_; clear O; intro W1 bm O K1 Mv hb; have hbm : wq.heap.size ≤ bm := Nat.le_trans (by have := O.keep.size; first | exact hb | omega) (Nat.le_refl _); have HBM := Lib.hid hbm; clear K1 hb hbm; simp only [Act.put, List.setIfInBounds_toArray, List.set_cons_zero, List.set_cons_succ])
        | (refine map_insertV (v := .int .i64 0) Mv 117 3 Try.underlying117 rfl rfl rfl rfl HWF.out rfl (by simp only [maxLen]; omega) ?_; intro W2 K2 Mv2; replace O := O.mapped K2 (fun g t cs hB => Mv.not_blk hB) (fun hlt => absurd hlt (by have := HBM.out; omega)); clear Mv K2; have Mv := Mv2; rw [farF_start (I := I)] at Mv; clear Mv2; simp only [Act.put, List.setIfInBounds_toArray, List.set_cons_zero, List.set_cons_succ])
        | (refine own_lit2 75 138 137 ((q : Int), 0) O rfl rfl rfl rfl Try.underlying138 (by kernel_rfl) ?_; clear O; intro W3 gq O K1 hg; replace Mv := Mv.keeps K1 (by simp); have QA := q_start (base := wq.heap.size) (I := I) (O.get 0 rfl) (by have := (own_at O 0 rfl).1; exact this); replace O := O.drop_ 1; clear K1 hg; simp only [Act.put, List.setIfInBounds_toArray, List.set_cons_zero, List.set_cons_succ]))
      go_loopg [17] (q + 1) (fun g s17 wr => ∃ L hh m, L.length = hh + m ∧ g = q + 1 - hh ∧ Bfs I p q L hh ∧ QAt wq.heap.size 137 2 wr s17 m (stpL I q (L.drop hh)) ∧ MapV wr bm L.length (farF I q L) ∧ Own wq wr [] [])
      case atStart => exact ⟨[q], 0, 1, rfl, by omega, Bfs.start (Nat.le_of_lt HPQ.out), QA, Mv, O⟩
      case round =>
        clear O QA Mv
        obtain ⟨L, hh, m0, hLm, hgk, BF, QA, Mv, O⟩ := hrel
        have hlt := BF.lt HUP.out HQN.out HDS.out
        obtain ⟨m, rfl⟩ : ∃ m, m0 = m + 1 := ⟨m0 - 1, by omega⟩
        have HG := Lib.hid (And.intro hgk hLm)
        obtain ⟨x, hx⟩ : ∃ x, L[hh]? = some x := ⟨_, List.getElem?_eq_getElem hlt⟩
        have hdr : L.drop hh = x :: L.drop (hh + 1) := by rw [List.drop_eq_getElem_cons hlt]; congr 1; rw [List.getElem?_eq_getElem hlt] at hx; injection hx
        have hxL := List.mem_of_getElem? hx
        have hxr := BF.rng x hxL
        obtain ⟨dx, hdx⟩ : ∃ dx : Nat, dsI I q x = (dx : Int) := ⟨(dsI I q x).toNat, by have := BF.ds x hxL; omega⟩
        have hdx4 := ds_le HUP.out HQN.out (dsI_iff.1 hdx)
        have hdx5 : dx ≤ 40000 := by omega
        have HL5 := Lib.hid BF.len
        have hm5 : m ≤ 50000 := by have := HL5.out; omega
        rw [hdr, stpL_cons, hdx] at QA
        obtain ⟨gq, off, cap, rfl, hcap1, hcap2⟩ := QA.shape
        have ca := QA.cell (j := 0) (by omega)
        have cc := QA.cell (j := 1) (by omega)
        have HBF := Lib.hid BF
        have HX := Lib.hid (And.intro hx (And.intro hdx hxr))
        have hx4 : x ≤ 40000 := by omega
        have hxq : x < q + 1 := by omega
        have hxq2 : (x : Int) < (q : Int) + 1 := by omega
        have hx0 : (0 : Int) ≤ x := by omega
        have HQT := Lib.hid (show stpL I q (L.drop hh) = .int .i64 (x : Int) :: .int .i64 (dx : Int) :: stpL I q (L.drop (hh + 1)) by rw [hdr, stpL_cons, hdx])
        rw [← HQT.out] at QA
        clear hgk hLm hlt BF hdr hxL hxr hdx hx hdx4
        have HWT := Lib.hid (show ∀ j, j < (#[Value.int .i64 (x : Int), .int .i64 (dx : Int)] : Array Value).size → wr.cell? ((⟨gq, off, none⟩ : Addr).add j) = (#[Value.int .i64 (x : Int), .int .i64 (dx : Int)] : Array Value)[j]? from fun j hj => by
          rw [Addr.add_lit]
          match j, hj with
          | 0, _ => exact ca
          | 1, _ => exact cc)
        clear ca cc hcap1 hcap2
        have m1 : (0 : Int) < (m : Int) + 1 := by omega
        have hs := prC_eq137 ((x : Int), (dx : Int)) ((p : Int), (dx : Int))
        simp only [prC, beq_self_eq_true, Bool.and_true] at hs
        obtain ⟨v, hvk⟩ := HFA.out wq (Keeps.refl _ _) |>.look hxq
        obtain ⟨Av, cv, rfl, _⟩ := (hvk wq (Keeps.refl _ _)).2.row
        have HRX := Lib.hid hvk
        clear hvk
        by_cases hxp : x = p
        · subst hxp
          have hs2 : ((x : Int) == (x : Int)) = true := by simp
          rw [hs2] at hs
          go_wp2_with (first
            | (refine wpList_load_at (cs := #[.int .i64 (x : Int), .int .i64 (dx : Int)]) 83 rfl rfl rfl rfl HWT.out Try.underlying137 rfl (by kernel_rfl) ?_; simp only [Act.put, List.setIfInBounds_toArray, List.set_cons_zero, List.set_cons_succ])
            | (refine own_allocK 18 #[.int .i64 0, .int .i64 0] O rfl rfl rfl (fun _ => by kernel_rfl) ?_; clear O; intro W1 b18 O K1 hb; replace Mv := Mv.keeps K1 (by simp); have hq18 : (Value.slice (some ⟨gq, off, none⟩) (m + 1) cap).ownBlock ≠ some b18 := (fun hg => by have := (QA.own hg).2.1; omega); replace QA := QA.keeps K1 (by simp); have HQ18 := Lib.hid hq18; clear K1 hb hq18; simp only [Act.put, List.setIfInBounds_toArray, List.set_cons_zero, List.set_cons_succ])
            | (have hB := O.get 0 rfl; refine own_store_rowK 0 (.tmp 18) (.tmp 83) (cs' := #[.int .i64 (x : Int), .int .i64 (dx : Int)]) O rfl rfl rfl rfl rfl rfl (by kernel_rfl) (by rfl) (by intro v hv; simp only [List.mem_cons, List.not_mem_nil, or_false] at hv; rcases hv with rfl | rfl <;> rfl) ?_; clear O; intro W2 O K2; simp only [List.set_cons_zero] at O; replace QA := QA.keeps K2 (fun g hg hm => HQ18.out (by rw [hg]; congr 1; exact List.mem_singleton.1 hm)); replace Mv := Mv.keeps K2 (by have := Mv.not_blk hB; simpa using Ne.symm this); clear K2 hB; have c18a : W2.cell? ⟨b18, 0, none⟩ = some (.int .i64 (x : Int)) := (O.get 0 rfl).cell 0; have c18b : W2.cell? ⟨b18, 1, none⟩ = some (.int .i64 (dx : Int)) := (O.get 0 rfl).cell 1; have cF := (HRX.out W2 O.keep).1; rw [Addr.add_lit, Nat.zero_add] at cF)
            | (refine own_load 84 0 O rfl rfl rfl rfl rfl Try.underlying137 rfl (by kernel_rfl) ?_; simp only [Act.put, List.setIfInBounds_toArray, List.set_cons_zero, List.set_cons_succ])
            | (refine own_lit1 128 (x : Int) O rfl rfl rfl rfl ?_; clear O; intro W8 gl O K1 hg; replace Mv := Mv.keeps K1 (by simp); have MW := mint_one (base := wq.heap.size) (O.get 0 rfl) (own_at O 0 rfl).1; replace O := O.drop_ 2; clear K1 hg; simp only [Act.put, List.setIfInBounds_toArray, List.set_cons_zero, List.set_cons_succ]))
          have HDX := Lib.hid (dsI_iff.1 HX.out.2.1)
          have HDD := Lib.hid (HDX.out.unique HDS.out)
          have HFND := Lib.hid (show ∀ z e, Ds I q z e → x ≤ z → e ≤ dx → z ∈ L from fun z e hz hpz he => HBF.out.found HUP.out HQN.out HX.out.1 hz hpz (by rw [HX.out.2.1]; omega))
          clear hs hs2 c18a c18b cF HWT m1 QA HQ18 HRX HQT
          go_loopg [23, 24] dx (fun g s23 s24 wr4 => ∃ (e z : Nat) (P : List Int), g = e ∧ s24 = .int .i64 (z : Int) ∧ Ds I q z e ∧ e ≤ dx ∧ z ∈ L ∧ x ≤ z ∧ P ++ wayL I q e z = wayL I q dx x ∧ Mint wq.heap.size wr4 s23 (P ++ [(z : Int)]) ∧ MapV wr4 bm L.length (farF I q L) ∧ Own wq wr4 [] [])
          case atStart => exact ⟨dx, x, [], rfl, rfl, HDX.out, Nat.le_refl _, List.mem_of_getElem? HX.out.1, Nat.le_refl _, rfl, MW, Mv, O⟩
          case round =>
            rename World => wr4
            clear O MW Mv
            obtain ⟨e0, z, P, hge, rfl, hde, hedx, hzL, hxz, hway, MW, Mv, O⟩ := hrel
            have hz4 : z ≤ q := by have := HBF.out.rng z hzL; omega
            have hPl : P.length + e0 = dx := by
              have := congrArg List.length hway
              rw [List.length_append, wayL_length, wayL_length] at this
              omega
            have hP5 : P.length ≤ 40000 := by omega
            match e0, hge, hde, hedx, hway, hPl with
            | 0, hge, hde, hedx, hway, hPl =>
              obtain rfl := ds_zero hde
              have HWY := Lib.hid (show P ++ [(z : Int)] = wayL I z dx x from hway)
              obtain ⟨ll, hll⟩ : ∃ ll, ll = (P ++ [(z : Int)]).length := ⟨_, rfl⟩
              obtain ⟨Aw, cw, hsv, _⟩ := gr_shape MW
              rw [← hll] at hsv
              subst hsv
              have HMW := Lib.hid MW
              clear hll hge hde hedx hway hPl MW
              go_wp2
              go_returns
              exact ⟨⟨_, rfl, by have := mint_low (b := w.heap.size) HMW.out HWQ.out; rw [HWY.out, HDD.out] at this; exact this⟩, HK0.out.trans O.keep (by simp)⟩
            | e + 1, hge, hde, hedx, hway, hPl =>
              have HGE := Lib.hid hge
              obtain ⟨n1, n2, n3⟩ := nxW_law hde
              have hzq : z < q := by have := HUP.out _ (by have := HQN.out; omega) _ n2; omega
              have q1 : ((z : Int) != (q : Int)) = true := by simp; omega
              have q2 : ¬ (z : Int) = (q : Int) := by omega
              have q3 : ¬ z = q := by omega
              have HDE := Lib.hid (And.intro hde (And.intro hedx (And.intro hzL (And.intro hxz (And.intro hway hPl)))))
              have HNX := Lib.hid (show ∃ k, k ≤ q ∧ (z : Int) ∈ I k ∧ pwB I q e k = true from ⟨_, n1, n2, n3.1⟩)
              have HDZ := Lib.hid (dsI_of hde)
              have HWZ := Lib.hid (wf_small (n := (z : Int)) (by omega) (by omega))
              obtain ⟨ll, hll⟩ : ∃ ll, ll = (P ++ [(z : Int)]).length := ⟨_, rfl⟩
              obtain ⟨Aw, cw, hsv, _⟩ := gr_shape MW
              rw [← hll] at hsv
              subst hsv
              clear hll
              have HMW := Lib.hid MW
              have HMv := Lib.hid Mv
              have he5 : e ≤ 40000 := by omega
              have lk2 : (Instr.lookup 117 (.map (some bm)) (.int .i64 (z : Int)) false).run Try.prog wr4 = .ok (.int .i64 ((e : Int) + 1)) wr4 := by
                have := look_eqV Mv 117 3 (.int .i64 0) Try.underlying117 (zero3 _) (z : Int) HWZ.out
                rw [farF_in hzL, HDZ.out] at this
                exact this
              have HLK2 := Lib.hid lk2
              clear n1 n2 n3 hge hde hedx hzL hxz hway hPl MW Mv lk2
              go_wp2
              go_loopg [23, 24, 25] (q - z) (fun g s23 s24 s25 wr5 => ∃ y : Nat, z < y ∧ y ≤ q + 1 ∧ g = q + 1 - y ∧ s23 = .slice Aw ll cw ∧ s24 = .int .i64 (z : Int) ∧ s25 = .int .i64 (y : Int) ∧ wr5 = wr4 ∧ ∀ k, k < y → ¬ ((z : Int) ∈ I k ∧ pwB I q e k = true))
              case atStart => exact ⟨z + 1, by omega, by omega, by omega, rfl, rfl, by go_num, rfl, fun k hk ⟨hm, _⟩ => by have := HUP.out k (by have := HQN.out; omega) _ hm; omega⟩
              case round =>
                rename World => wr5
                obtain ⟨y, hzy, hyq, hgy, rfl, rfl, rfl, hww, hno⟩ := hrel
                subst hww
                have HG3 := Lib.hid (And.intro hgy hzy)
                have lk2 := HLK2.out
                have hyq2 : y ≤ q := by
                  refine Nat.le_of_not_lt fun hl => ?_
                  obtain ⟨k, k1, k2, k3⟩ := HNX.out
                  exact hno k (by omega) ⟨k2, k3⟩
                have g1 : (y : Int) ≤ (q : Int) := by omega
                have g0 : (0 : Int) ≤ y := by omega
                have gy1 : y < q + 1 := by omega
                have gy2 : (y : Int) < (q : Int) + 1 := by omega
                have hy4 : y ≤ 40000 := by omega
                have HWY := Lib.hid (wf_small (n := (y : Int)) (by omega) (by omega))
                have hnext : ¬ ((z : Int) ∈ I y ∧ pwB I q e y = true) → ∀ k, k < y + 1 → ¬ ((z : Int) ∈ I k ∧ pwB I q e k = true) := fun hy k hk => by
                  by_cases e1 : k = y
                  · rw [e1]; exact hy
                  · exact hno k (by omega)
                have hyes : (z : Int) ∈ I y → pwB I q e y = true → Ds I q y e ∧ y ∈ L := fun h1 h2 => by
                  have h3 := ds_step HDE.out.1 hyq2 h1 h2
                  exact ⟨h3, HFND.out y e h3 (by have := HDE.out; omega) (by have := HDE.out; omega)⟩
                clear hyq hgy
                by_cases hyL : y ∈ L
                · obtain ⟨dy, hdy⟩ : ∃ dy : Nat, dsI I q y = (dy : Int) := ⟨(dsI I q y).toNat, by have := HBF.out.ds y hyL; omega⟩
                  have lk : (Instr.lookup 117 (.map (some bm)) (.int .i64 (y : Int)) true).run Try.prog wr5 = .ok (.tuple #[.int .i64 (dy : Int), .bool true]) wr5 := by
                    have := look_okV HMv.out 117 3 (.int .i64 0) Try.underlying117 (zero3 _) (y : Int) HWY.out
                    rw [farF_in hyL, hdy] at this
                    exact this
                  by_cases hde : dy = e
                  · subst hde
                    have HDY := Lib.hid (dsI_iff.1 hdy)
                    obtain ⟨v, hvk⟩ := HFA.out wq (Keeps.refl _ _) |>.look gy1
                    obtain ⟨Ay, cy, rfl, _⟩ := (hvk wq (Keeps.refl _ _)).2.row
                    have hvw := hvk wr5 O.keep
                    have cF := hvw.1
                    rw [Addr.add_lit, Nat.zero_add] at cF
                    have hly := HLEN.out y (by have := HQN.out; omega)
                    have HCO := Lib.hid (contains_any hvw.2 (by omega) (z : Int))
                    clear hvk hvw
                    by_cases hin : (z : Int) ∈ I y
                    · rw [decide_eq_true hin] at HCO
                      have HNW := Lib.hid (nxW_is hyq2 hin HDY.out.1 hno)
                      have HYL := Lib.hid hyL
                      have MW := HMW.out
                      have Mv := HMv.out
                      clear hno hnext hyes hin hdy hyL
                      generalize (I y).length = ly at cF HCO hly
                      go_wp2_with (first
                        | (go_at_call 81; refine HCO.out.mono ?_; rintro e' W9 ⟨rfl, rfl⟩)
                        | (refine own_lit1 165 (y : Int) O rfl rfl rfl rfl ?_; clear O; intro W8 gl O K1 hg; replace Mv := Mv.keeps K1 (by simp); replace MW := gr_keeps MW K1 (by simp); clear K1 hg; simp only [Act.put, List.setIfInBounds_toArray, List.set_cons_zero, List.set_cons_succ])
                        | (at_builtin; refine gr_app (z := .int .i64 0) (.tmp 163) (.tmp 165) rowT25w O MW rfl (by simp [Value.oneCell']) rfl rfl rfl rfl (Nat.le_refl _) O.keep.size (by simp) (by rw [List.length_append]; simp; omega) (by decide) ?_; clear O; intro v1 W7 O MW2 K7 hf; replace Mv := Mv.keeps K7 (fun hm => by obtain ⟨_, _, cur, hB⟩ := gr_own MW (g := bm) (by simpa using hm); exact Mv.not_blk hB rfl); clear K7 hf MW; simp only [Act.put, List.setIfInBounds_toArray, List.set_cons_zero, List.set_cons_succ]))
                      go_roundg dy
                      case measure => (have := HGE.out; omega)
                      case rel =>
                        refine ⟨dy, y, P ++ [(z : Int)], rfl, rfl, HDY.out, by have := HDE.out; omega, HYL.out, by have := HDE.out; have := HG3.out; omega, ?_, ?_, Mv, O⟩
                        · rw [← HDE.out.2.2.2.2.1, wayL, HNW.out, List.append_assoc]; rfl
                        · have e1 : (P ++ [(z : Int)] ++ [(y : Int)]).length = (P ++ [(z : Int)]).length + 1 := by simp
                          unfold Mint
                          rw [e1, List.map_append]
                          exact MW2
                    · rw [decide_eq_false hin] at HCO
                      have HNO := Lib.hid (hnext fun q => hin q.1)
                      clear hno hnext hyes hin hdy hyL
                      generalize (I y).length = ly at cF HCO hly
                      go_wp2_with (first
                        | (go_at_call 81; refine HCO.out.mono ?_; rintro e' W9 ⟨rfl, rfl⟩))
                      go_roundg (q + 1 - (y + 1))
                      case measure => (have := HG3.out; omega)
                      case rel => exact ⟨y + 1, by have := HG3.out; omega, by omega, rfl, rfl, rfl, by go_num, rfl, HNO.out⟩
                  · have HNO := Lib.hid (hnext fun q => by
                      have := dsI_of (hyes q.1 q.2).1
                      rw [hdy] at this
                      omega)
                    have q4 : ((dy : Int) == (e : Int)) = false := by rw [beq_eq_false_iff_ne]; omega
                    have q5 : ¬ (dy : Int) = (e : Int) := by omega
                    have q6 : (dy == e) = false := by rw [beq_eq_false_iff_ne]; exact hde
                    have q7 : ¬ (dy : Int) = (e : Int) + 1 - 1 := by omega
                    clear hno hnext hyes hdy hyL
                    go_wp2_with go_big_skip
                    go_roundg (q + 1 - (y + 1))
                    case measure => (have := HG3.out; omega)
                    case rel => exact ⟨y + 1, by have := HG3.out; omega, by omega, rfl, rfl, rfl, by go_num, rfl, HNO.out⟩
                · have lk : (Instr.lookup 117 (.map (some bm)) (.int .i64 (y : Int)) true).run Try.prog wr5 = .ok (.tuple #[.int .i64 0, .bool false]) wr5 := by
                    have := look_okV HMv.out 117 3 (.int .i64 0) Try.underlying117 (zero3 _) (y : Int) HWY.out
                    rw [farF_out hyL] at this
                    exact this
                  have HNO := Lib.hid (hnext fun q => hyL (hyes q.1 q.2).2)
                  clear hno hnext hyes hyL
                  go_wp2_with go_big_skip
                  go_roundg (q + 1 - (y + 1))
                  case measure => (have := HG3.out; omega)
                  case rel => exact ⟨y + 1, by have := HG3.out; omega, by omega, rfl, rfl, rfl, by go_num, rfl, HNO.out⟩
        · have hs2 : ((x : Int) == (p : Int)) = false := by rw [beq_eq_false_iff_ne]; omega
          rw [hs2] at hs
          obtain ⟨xs, hxs⟩ : ∃ xs, xs = I x := ⟨_, rfl⟩
          obtain ⟨ml, hml⟩ : ∃ ml, ml = xs.length := ⟨_, rfl⟩
          have hml4 : ml ≤ 40000 := by have := HLEN.out x (by have := HQN.out; omega); rw [← hxs] at this; omega
          have HXI := Lib.hid hxs
          have HML := Lib.hid hml
          rw [← hxs, ← hml] at HRX
          clear hxs hml
          have HXP := Lib.hid hxp
          go_wp2_with (first
            | (refine wpList_load_at (cs := #[.int .i64 (x : Int), .int .i64 (dx : Int)]) 83 rfl rfl rfl rfl HWT.out Try.underlying137 rfl (by kernel_rfl) ?_; simp only [Act.put, List.setIfInBounds_toArray, List.set_cons_zero, List.set_cons_succ])
            | (refine own_allocK 18 #[.int .i64 0, .int .i64 0] O rfl rfl rfl (fun _ => by kernel_rfl) ?_; clear O; intro W1 b18 O K1 hb; replace Mv := Mv.keeps K1 (by simp); have hq18 : (Value.slice (some ⟨gq, off, none⟩) (m + 1) cap).ownBlock ≠ some b18 := (fun hg => by have := (QA.own hg).2.1; omega); replace QA := QA.keeps K1 (by simp); have HQ18 := Lib.hid hq18; clear K1 hb hq18; simp only [Act.put, List.setIfInBounds_toArray, List.set_cons_zero, List.set_cons_succ])
            | (have hB := O.get 0 rfl; refine own_store_rowK 0 (.tmp 18) (.tmp 83) (cs' := #[.int .i64 (x : Int), .int .i64 (dx : Int)]) O rfl rfl rfl rfl rfl rfl (by kernel_rfl) (by rfl) (by intro v hv; simp only [List.mem_cons, List.not_mem_nil, or_false] at hv; rcases hv with rfl | rfl <;> rfl) ?_; clear O; intro W2 O K2; simp only [List.set_cons_zero] at O; replace QA := QA.keeps K2 (fun g hg hm => HQ18.out (by rw [hg]; congr 1; exact List.mem_singleton.1 hm)); replace Mv := Mv.keeps K2 (by have := Mv.not_blk hB; simpa using Ne.symm this); clear K2 hB; have c18a : W2.cell? ⟨b18, 0, none⟩ = some (.int .i64 (x : Int)) := (O.get 0 rfl).cell 0; have c18b : W2.cell? ⟨b18, 1, none⟩ = some (.int .i64 (dx : Int)) := (O.get 0 rfl).cell 1; have cF := (HRX.out W2 O.keep).1; rw [Addr.add_lit, Nat.zero_add] at cF)
            | (refine own_load 84 0 O rfl rfl rfl rfl rfl Try.underlying137 rfl (by kernel_rfl) ?_; simp only [Act.put, List.setIfInBounds_toArray, List.set_cons_zero, List.set_cons_succ]))
          clear hs hs2 c18a c18b cF HWT m1
          go_loopg [17, 96] ml (fun g s17 s96 wr3 => ∃ t L' m', t ≤ ml ∧ g = ml - t ∧ s96 = .int .i64 (t : Int) ∧ L'.length = hh + (m' + 1) ∧ Bfs I p q L' hh ∧ L'[hh]? = some x ∧ (∀ y : Nat, (y : Int) ∈ xs.take t → p ≤ y → y ∈ L') ∧ s17.ownBlock ≠ some b18 ∧ QAt wq.heap.size 137 2 wr3 s17 (m' + 1) (stpL I q (L'.drop hh)) ∧ MapV wr3 bm L'.length (farF I q L') ∧ Own wq wr3 [] [(b18, 137, #[.int .i64 (x : Int), .int .i64 (dx : Int)])])
          case atStart => exact ⟨0, L, m, by omega, by omega, rfl, HG.out.2, HBF.out, HX.out.1, by simp, HQ18.out, QA, Mv, O⟩
          case round =>
            rename World => wr3
            clear O QA Mv HBF HQ18 HQT HL5
            obtain ⟨t, L', m', ht, hgt, rfl, hLm, BF, hx, hcl, hqb, QA, Mv, O⟩ := hrel
            have HL5 := Lib.hid BF.len
            have HG2 := Lib.hid (And.intro hgt (And.intro hLm hqb))
            have hm5' : m' ≤ 50000 := by have := HL5.out; omega
            clear hgt hLm hqb hm5
            by_cases hlt : t < ml
            · have g1 : (t : Int) < (ml : Int) := by omega
              have g0 : (0 : Int) ≤ t := by omega
              have htx : t < xs.length := by have := HML.out; omega
              obtain ⟨A', c', e', hcc⟩ := (HRX.out wr3 O.keep).2.row
              obtain ⟨ad', e1, cq⟩ := hcc t htx
              obtain rfl : Av = some ad' := by rw [← e1]; injection e'
              clear hcc e1 e'
              have hym : xs.getD t 0 ∈ xs := by rw [List.getD_eq_getElem?_getD, List.getElem?_eq_getElem htx]; exact List.getElem_mem _
              have htk : xs.take (t + 1) = xs.take t ++ [xs.getD t 0] := by rw [List.take_add_one, List.getElem?_eq_getElem htx, List.getD_eq_getElem?_getD, List.getElem?_eq_getElem htx]; rfl
              have hup := HUP.out x (by have := HQN.out; omega) _ (by rw [← HXI.out]; exact hym)
              obtain ⟨y, hy⟩ : ∃ y : Nat, xs.getD t 0 = (y : Int) := ⟨(xs.getD t 0).toNat, by omega⟩
              rw [hy] at cq hym htk hup
              rw [HXI.out] at hym
              have hy4 : y ≤ 40000 := by omega
              have hyq : y < q + 1 := by omega
              have HWY := Lib.hid (wf_small (n := (y : Int)) (by omega) (by omega))
              have c18b : wr3.cell? ⟨b18, 1, none⟩ = some (.int .i64 (dx : Int)) := (O.get 0 rfl).cell 1
              clear hup hy htx
              by_cases hyL : y ∈ L'
              · have lk : (Instr.lookup 117 (.map (some bm)) (.int .i64 (y : Int)) true).run Try.prog wr3 = .ok (.tuple #[.int .i64 (dsI I q y), .bool true]) wr3 := by
                  have := look_okV Mv 117 3 (.int .i64 0) Try.underlying117 (zero3 _) (y : Int) HWY.out
                  rw [farF_in hyL] at this
                  exact this
                have HCL := Lib.hid (show ∀ z : Nat, (z : Int) ∈ xs.take (t + 1) → p ≤ z → z ∈ L' from fun z hz hpz => by
                  rw [htk] at hz
                  rcases List.mem_append.1 hz with h1 | h1
                  · exact hcl z h1 hpz
                  · have : (z : Int) = (y : Int) := by simpa using h1
                    have : z = y := by omega
                    rw [this]; exact hyL)
                have HBF := Lib.hid (And.intro BF hx)
                generalize dsI I q y = dy at lk
                clear hcl htk hym hyL BF hx
                go_wp2
                go_roundg (ml - (t + 1))
                case measure => (have := HG2.out; omega)
                case rel => exact ⟨t + 1, L', m', by omega, rfl, by go_num, HG2.out.2.1, HBF.out.1, HBF.out.2, HCL.out, HG2.out.2.2, QA, Mv, O⟩
              · have lk : (Instr.lookup 117 (.map (some bm)) (.int .i64 (y : Int)) true).run Try.prog wr3 = .ok (.tuple #[.int .i64 0, .bool false]) wr3 := by
                  have := look_okV Mv 117 3 (.int .i64 0) Try.underlying117 (zero3 _) (y : Int) HWY.out
                  rw [farF_out hyL] at this
                  exact this
                by_cases hpy : p ≤ y
                · have HDY := Lib.hid (show dsI I q y = (dx : Int) + 1 by rw [BF.dist HUP.out HQN.out hx hym hpy hyL, HX.out.2.1])
                  have HBF := Lib.hid (And.intro (BF.push HUP.out HQN.out hx hym hpy hyL) (show (L' ++ [y])[hh]? = some x by rw [List.getElem?_append_left (List.getElem?_eq_some_iff.1 hx).1]; exact hx))
                  have HCL := Lib.hid (show ∀ z : Nat, (z : Int) ∈ xs.take (t + 1) → p ≤ z → z ∈ L' ++ [y] from fun z hz hpz => by
                    rw [htk] at hz
                    rcases List.mem_append.1 hz with h1 | h1
                    · exact List.mem_append_left _ (hcl z h1 hpz)
                    · have : (z : Int) = (y : Int) := by simpa using h1
                      have : z = y := by omega
                      rw [this]; simp)
                  have HLL := Lib.hid (show L'.length ≤ 50000 from by have := HL5.out; omega)
                  have g2 : (p : Int) ≤ (y : Int) := by omega
                  have HLD := Lib.hid (show hh ≤ L'.length from by have := HG2.out; omega)
                  have HDR := Lib.hid (show stpL I q ((L' ++ [y]).drop hh) = stpL I q (L'.drop hh) ++ (prC ((y : Int), (dx : Int) + 1)).toList by rw [List.drop_append_of_le_length HLD.out, stpL_snoc, HDY.out])
                  have HFP := Lib.hid (show updI (farF I q L') (y : Int) (some (.int .i64 ((dx : Int) + 1))) = farF I q (L' ++ [y]) by rw [← HDY.out, farF_push])
                  have HQB := Lib.hid HG2.out.2.2
                  obtain ⟨gq2, off2, cap2, rfl, _, _⟩ := QA.shape
                  clear hcl htk hym hyL BF hx hpy
                  go_wp2_with (first
                    | go_big_skip
                    | (refine map_storeV (v := .int .i64 ((dx : Int) + 1)) Mv 117 3 Try.underlying117 rfl rfl rfl rfl HWY.out rfl (by have := HLL.out; simp only [maxLen]; omega) ?_; intro W5 K5 Mv5; replace O := O.mapped K5 (fun g t cs hB => Mv.not_blk hB) (fun hlt => absurd hlt (by have := HBM.out; omega)); replace QA := QA.keeps K5 (fun g hg hm => by obtain ⟨_, _, cur, hB⟩ := QA.own hg; exact Mv.not_blk hB (List.mem_singleton.1 hm)); rw [HFP.out] at Mv5; clear Mv K5 lk c18b cq; have c18b : W5.cell? ⟨b18, 1, none⟩ = some (.int .i64 (dx : Int)) := (O.get 0 rfl).cell 1; simp only [Act.put, List.setIfInBounds_toArray, List.set_cons_zero, List.set_cons_succ])
                    | (refine own_lit2 124 138 137 ((y : Int), (dx : Int) + 1) O rfl rfl rfl rfl Try.underlying138 (by kernel_rfl) ?_; clear O; intro W6 gl O K6 hg; have hgl : (Value.slice (some ⟨gq2, off2, none⟩) (m' + 1) cap2).ownBlock ≠ some gl := (fun hb => by have := (QA.own hb).2.1; omega); have HGL := Lib.hid hgl; replace Mv5 := Mv5.keeps K6 (by simp); replace QA := QA.keeps K6 (by simp); clear K6 hg hgl; simp only [Act.put, List.setIfInBounds_toArray, List.set_cons_zero, List.set_cons_succ])
                    | (at_builtin; have hl18 := O.lt 1 rfl; refine q_app (.tmp 118) (.tmp 124) rowT138 O QA rfl (prC_cell _) rfl rfl rfl rfl (Nat.le_refl _) O.keep.size (fun e he => by rw [List.mem_singleton.1 he]; exact HQB.out) HGL.out (by omega) (by decide) ?_; clear O; intro v1 W7 O QA2 K7 hf; have hv18 : v1.ownBlock ≠ some b18 := (fun hb => by
                        rcases hf with hf | hf
                        · rw [hf] at hb; exact HQB.out hb
                        · rw [hf] at hb; injection hb with hb; omega); replace Mv5 := Mv5.keeps K7 (fun hm => by obtain ⟨_, _, cur, hB⟩ := QA.own (g := bm) (by simpa using hm); exact Mv5.not_blk hB rfl); have HV18 := Lib.hid hv18; clear QA K7 hf hv18 hl18; have QA := QA2; clear QA2; simp only [Act.put, List.setIfInBounds_toArray, List.set_cons_zero, List.set_cons_succ]))
                  go_roundg (ml - (t + 1))
                  case measure => (have := HG2.out; omega)
                  case rel => exact ⟨t + 1, L' ++ [y], m' + 1, by omega, rfl, by go_num, by rw [List.length_append]; have := HG2.out.2.1; simp; omega, HBF.out.1, HBF.out.2, HCL.out, HV18.out, by rw [HDR.out]; exact QA, by rw [List.length_append]; exact Mv5, O⟩
                · have g2 : ¬ (p : Int) ≤ (y : Int) := by omega
                  have g3 : decide (p ≤ y) = false := decide_eq_false hpy
                  have HCL := Lib.hid (show ∀ z : Nat, (z : Int) ∈ xs.take (t + 1) → p ≤ z → z ∈ L' from fun z hz hpz => by
                    rw [htk] at hz
                    rcases List.mem_append.1 hz with h1 | h1
                    · exact hcl z h1 hpz
                    · have : (z : Int) = (y : Int) := by simpa using h1
                      omega)
                  have HBF := Lib.hid (And.intro BF hx)
                  clear hcl htk hym hyL BF hx hpy
                  go_wp2
                  go_roundg (ml - (t + 1))
                  case measure => (have := HG2.out; omega)
                  case rel => exact ⟨t + 1, L', m', by omega, rfl, by go_num, HG2.out.2.1, HBF.out.1, HBF.out.2, HCL.out, HG2.out.2.2, QA, Mv, O⟩
            · obtain rfl : ml = t := by omega
              have g1 : ¬ (ml : Int) < (ml : Int) := by omega
              have HBF := Lib.hid (BF.next hx HXP.out (fun z hz hpz => hcl z (by rw [HML.out, List.take_length, HXI.out]; exact hz) hpz))
              have hdl : hh < L'.length := (List.getElem?_eq_some_iff.1 hx).1
              have hd2 : L'.drop hh = x :: L'.drop (hh + 1) := by rw [List.drop_eq_getElem_cons hdl]; congr 1; rw [List.getElem?_eq_getElem hdl] at hx; injection hx
              rw [hd2, stpL_cons] at QA
              obtain ⟨gq2, off2, cap2, rfl, hc1, _⟩ := QA.shape
              have hgl : hh + 1 ≤ q + 1 := by have := HL5.out; omega
              clear hcl BF hx hdl hd2 hlt
              by_cases hcap : cap2 = 1
              · subst hcap
                obtain rfl : m' = 0 := by omega
                have QT := QA.tail (off' := off2) (fun h => absurd rfl h) (fun _ => rfl)
                go_wp2
                go_roundg (q + 1 - (hh + 1))
                case measure => (have := HG.out; omega)
                case rel => exact ⟨L', hh + 1, 0, by have := HG2.out.2.1; omega, rfl, HBF.out, QT, Mv, O.drop_ 1⟩
              · have hcap' : 1 < cap2 := by omega
                have QT := QA.tail (off' := off2 + 2) (fun _ => rfl) (fun h => absurd h hcap)
                go_wp2
                go_roundg (q + 1 - (hh + 1))
                case measure => (have := HG.out; omega)
                case rel => exact ⟨L', hh + 1, m', by have := HG2.out.2.1; omega, rfl, HBF.out, QT, Mv, O.drop_ 1⟩
theorem tway_any (hS : SysIn w S A c R d) (hE : EvsAt w B n E) (hcb : n ≤ cb) (hwf : ∀ i, i < n → (Lit.int .i64 (E i).a).wf = true) (i j : Int) : Calls Try.prog 46 #[.agg (sysV S A c R d), .slice B n cb, .int .i64 i, .int .i64 j] w (WayPost (wayR S E n i j) w) := by
  by_cases h : (beforeR S E n i j).2 = 0
  · cases h' : (beforeR S E n i j).1 with
    | false => exact tway_no hS hE hcb hwf i j h h'
    | true => exact tway_good hS hE hcb hwf i j h h'
  · exact tway_bad hS hE hwf i j h
end
end Go.Proofs.Ytakmcpadkanggaa
namespace Go.Proofs.Ytakmcpadkanggaa
open Go.RowKit Go.Maps Go.Deep
theorem prow {W : World} {base n q m c : Nat} {v : Value} {ps : List (Int × Int)} {ad : Addr} (M : W.ownsRow base 67 2 v n (prL ps)) (hv : v = .slice (some ad) m c) (hq : q < ps.length) : ∀ j, j < (prC (ps.getD q (0, 0))).size → W.cell? ((ad.add (q * 2)).add j) = (prC (ps.getD q (0, 0)))[j]? := fun j hj => by
  have hj' : j < 2 := hj
  have h1 := prL_get ps q j hq hj'
  rw [Addr.add_add, ← h1]
  obtain ⟨x, hx⟩ : ∃ x, (prL ps)[q * 2 + j]? = some x := ⟨_, List.getElem?_eq_getElem (by rw [prL_length]; omega)⟩
  rw [hx]
  exact (gr_cell M hv hx).2
theorem EvsAt.keptS {w u : World} {A : Option Addr} {n : Nat} {E : Nat → Ev} (h : EvsAt w A n E) (k : Keeps w u []) : EvsAt u A n E := h.kept k
end Go.Proofs.Ytakmcpadkanggaa
namespace Go.Proofs.Ytakmcpadkanggaa
open Go.ChangeShapes Go.WideShapes Go.RowKit Go.Maps Go.Deep
section
variable {w : World} {S : Sys} {A : Option Addr} {c : Nat} {R : Option Addr} {d n : Nat} {E : Nat → Ev} {B : Option Addr} {cb : Nat}
theorem way_err (S : Sys) (E : Nat → Ev) (n : Nat) (i j : Int) : (wayR S E n i j).2 = (beforeR S E n i j).2 := by
  by_cases h : (beforeR S E n i j).2 = 0 ∧ (beforeR S E n i j).1 = true
  · obtain ⟨_, _, _, _, _, _, _, _, _, _, _, _, hw⟩ := way_yes h.1 h.2
    rw [hw, h.1]
  · rw [way_no h]
end
end Go.Proofs.Ytakmcpadkanggaa
namespace Go.Proofs.Ytakmcpadkanggaa
open Go.RowKit Go.Maps Go.Deep
theorem HRow.head {base : Nat} {W : World} {g off n c : Nat} {x : Int} {l : List Int} (h : HRow base W (.slice (some ⟨g, off, none⟩) n c) (x :: l)) : W.cell? ⟨g, off, none⟩ = some (.int .i64 x) := by
  rcases h with ⟨h, h'⟩ | ⟨g', off', cap, cur, h, hb, hB, h1, h2, h3, h4⟩
  · cases h'
  · injection h with e1 e2 e3
    injection e1 with e1
    injection e1 with e1 e4
    subst e1 e4
    rw [hB.cell]
    exact h4 0 (by simp)
end Go.Proofs.Ytakmcpadkanggaa
namespace Go.Proofs.Ytakmcpadkanggaa
open Go.RowKit Go.Maps Go.Deep
theorem Mint.apart {base : Nat} {W : World} {v : Value} {xs : List Int} (h : Mint base W v xs) {g t : Nat} {cs : Array Value} (hB : Blk W g t cs) (ht : t ≠ 3) : ∀ b, v.ownBlock = some b → b ∉ [g] := fun b hb hm => by
  obtain ⟨_, _, cur, hcur⟩ := h.own hb
  obtain rfl : b = g := by simpa using hm
  rw [Blk, hcur] at hB
  injection hB with hB
  injection hB with _ h1 _
  exact ht h1.symm
end Go.Proofs.Ytakmcpadkanggaa
namespace Go.Proofs.Ytakmcpadkanggaa
open Go.RowKit Go.Maps Go.Deep
section
variable {ops : Array Oper} {rest : List Oper} {o : Oper} {a : Act} {w W : World} {Q : Exit → Act → World → Prop} {Sx : List Nat} {L : List Ent}
set_option maxRecDepth 100000 in
/-- A new row of given cells. -/
theorem own_lit (d T e len : Nat) (size : Nat) (z : Value) (parts : Array (Nat × Operand)) (cells : Array Value) (O : Own w W Sx L) (_hd : o.dst = some d) (hgd : o.guard = none) (ho : o.op = .buildSlice T len parts) (ht : Try.prog.underlying T = some (.slice e))
    (hi : (Try.prog.info? e).map (fun i => (i.zero, i.size)) = some (some z, size)) (h1 : ¬ len * size > 2 ^ 24) (h2 : ¬ len * size = 0)
    (hf : Instr.fill (fun i => some (i * size, size)) ((Array.range (len * size)).map (z.cells[· % z.cells.size]!)) (parts.map fun (i, x) => (i, a.eval x)).toList = some cells)
    (h : ∀ u g, Own w u Sx ((g, e, cells) :: L) → wpList Try.prog ops Q rest (a.put o.dst (.slice (some ⟨g, 0, none⟩) len len)) u) : wpList Try.prog ops Q (o :: rest) a W := by
  obtain ⟨i, hi2, he⟩ := Option.map_eq_some_iff.1 hi
  simp only [Prod.mk.injEq] at he
  obtain ⟨hz, hs⟩ := he
  subst hs
  have k := (Keeps.refl W []).alloc (.cells cells e)
  exact wpList_buildSlice hgd T e len parts ho cells i z ht hi2 hz h1 h2 hf (h _ _ (O.add k (Blk.new _ _ _)))
end
end Go.Proofs.Ytakmcpadkanggaa
namespace Go.Proofs.Ytakmcpadkanggaa
open Go.RowKit Go.Maps Go.Deep
def aliveS : Sys := ⟨1, fun _ => 0, fun _ _ _ => 0, 0, fun _ => 0, 0, 0, 1⟩
theorem rowT24 : RowT 24 97 1 24 (.slice none 0 0) := by
  have h : (Try.prog.info? 97).map (fun i => (i.zero, i.size, i.bytes)) = some (some (.slice none 0 0), 1, 24) := by kernel_rfl
  obtain ⟨i, hi, he⟩ := Option.map_eq_some_iff.1 h
  simp only [Prod.mk.injEq] at he
  exact ⟨Try.underlying24, ⟨i, hi, he.1, he.2.1, he.2.2⟩, rfl, by decide⟩
variable {w : World}
set_option maxRecDepth 100000 in
theorem small14_any : Calls Try.prog 78 #[] w fun e u => (∃ A c, e = .returned (.agg (sysV aliveS A c none 0)) ∧ SysIn u aliveS A c none 0) ∧ Keeps w u [] := by
  have O := Own.start w []
  go_enter Try.func78, Try.ntmps78
  go_wp2_with (first
    | (refine own_alloc 0 (#[Value.slice none 0 0, .slice none 0 0, .int .i64 0, .int .i64 0, .int .i64 0]) O rfl rfl rfl (fun _ => by kernel_rfl) ?_; clear O; intro W a0 O; simp only [Act.put, List.setIfInBounds_toArray, List.set_cons_zero, List.set_cons_succ])
    | (refine own_alloc 1 (#[Value.slice none 0 0, .slice none 0 0, .int .i64 0, .int .i64 0, .int .i64 0]) O rfl rfl rfl (fun _ => by kernel_rfl) ?_; clear O; intro W a1 O; have c1 := (O.get 0 rfl).cell 0; simp only [Act.put, List.setIfInBounds_toArray, List.set_cons_zero, List.set_cons_succ])
    | (refine own_lit 4 24 97 1 1 (.slice none 0 0) _ (#[Value.slice none 0 0]) O rfl rfl rfl Try.underlying24 (by kernel_rfl) (by decide) (by decide) (by kernel_rfl) ?_; clear O c1; intro W gl O; simp only [Act.put, List.setIfInBounds_toArray, List.set_cons_zero, List.set_cons_succ])
    | (at_builtin; (refine gr_app (z := .slice none 0 0) (.tmp 3) (.tmp 4) rowT24 O (gr_nil w.heap.size 97 1 W) rfl (by simp [Value.oneCell']) rfl rfl rfl rfl (Nat.le_refl _) O.keep.size (fun q _ => by simp [Value.ownBlock]) (by decide) (by decide) ?_; clear O; intro v1 W O M K _; clear K; obtain ⟨A1, k1, hv1, hnz, hc1, hc2⟩ := gr_shape M; subst hv1; simp only [Act.put, List.setIfInBounds_toArray, List.set_cons_zero, List.set_cons_succ]))
    | (refine own_storeK (cs' := #[.slice A1 1 k1, .slice none 0 0, .int .i64 0, .int .i64 0, .int .i64 0]) 0 0 (.slice A1 1 k1) (.tmp 6) (.tmp 5) O rfl rfl rfl rfl rfl rfl (by simp) rfl rfl (by kernel_rfl) rfl ?_; have hne := gr_ne M (O.get 0 rfl) (by decide); clear O; intro W O K; replace M := gr_keeps M K (fun g hg hm => hne (by rw [List.mem_singleton.1 hm] at hg; exact hg)); clear K hne; simp only [List.set_cons_zero, List.set_cons_succ] at O)
    | (refine own_storeK (cs' := sysV aliveS A1 k1 none 0) 0 4 (.int .i64 1) (.tmp 7) (.const (.int .i64 1)) O rfl rfl rfl rfl rfl rfl (by simp) rfl rfl (by kernel_rfl) rfl ?_; have hne := gr_ne M (O.get 0 rfl) (by decide); clear O; intro W O K; replace M := gr_keeps M K (fun g hg hm => hne (by rw [List.mem_singleton.1 hm] at hg; exact hg)); clear K hne; simp only [List.set_cons_zero, List.set_cons_succ] at O)
    | ((refine own_store_rowK 1 (.tmp 0) (.tmp 8) (cs' := sysV aliveS A1 k1 none 0) O rfl rfl rfl rfl rfl rfl (by kernel_rfl) (by rfl) (by simp [sysV, Value.oneCell']) ?_; have hne := gr_ne M (O.get 1 rfl) (by decide); clear O; intro W O K; replace M := gr_keeps M K (fun g hg hm => hne (by rw [List.mem_singleton.1 hm] at hg; exact hg)); clear K hne; simp only [List.set_cons_zero, List.set_cons_succ] at O))
    | (refine own_load 8 0 O rfl rfl rfl rfl rfl Try.underlying27 rfl (by kernel_rfl) ?_; simp only [Act.put, List.setIfInBounds_toArray, List.set_cons_zero, List.set_cons_succ])
    | go_big_skip)
  refine bodyPost_ret (v := .agg (sysV aliveS A1 k1 none 0)) (results_cell_row rfl _ _ a0 27 _ _ _ rfl (O.get 1 rfl) Try.underlying27 rfl (by kernel_rfl)) rfl ⟨⟨_, _, rfl, ⟨fun _ => ?_, fun h => absurd h (by decide), hc1, hc2, Nat.le_refl _, by simp [maxLen]⟩⟩, O.keep⟩
  have hA : A1 ≠ none := fun h => absurd (hnz h).1 (by decide)
  obtain ⟨ad, rfl⟩ : ∃ ad, A1 = some ad := Option.ne_none_iff_exists'.1 hA
  have hc := gr_cell M rfl (j := 0) (x := .slice none 0 0) rfl
  refine ⟨ad, rfl, hc.1, fun p hp => ⟨none, 0, ?_, Nat.le_refl _, by simp [maxLen], fun h => absurd (show 0 < 0 from h) (by decide)⟩⟩
  obtain rfl : p = 0 := by have h : p < 1 := hp; omega
  exact hc.2
end Go.Proofs.Ytakmcpadkanggaa
namespace Go.Proofs.Ytakmcpadkanggaa
open Go.RowKit Go.Maps Go.Deep
section
variable {ops : Array Oper} {rest : List Oper} {o : Oper} {a : Act} {w W : World} {Q : Exit → Act → World → Prop} {S : List Nat} {L : List Ent} {T e size bytes n base gl : Nat} {z v : Value} {xs : List Value} {cs : Array Value} {x0 : Operand}
/-- Some elements more. -/
theorem gr_appM (m : Nat) (s y : Operand) (hT : RowT T e size bytes z) (O : Own w W S ((gl, e, cs) :: L)) (M : W.ownsRow base e size v n xs) (hcs : cs.size = m * size) (h1 : ∀ u ∈ cs.toList, u.oneCell' = true) (hgd : o.guard = none)
    (ho : o.op = .call { callee := .builtin .append, args := #[s, y], argTypes := #[T, T] }) (hs : a.eval s = v) (hy : a.eval y = .slice (some ⟨gl, 0, none⟩) m m) (hb : w.heap.size ≤ base) (hbW : base ≤ W.heap.size) (hL : ∀ q ∈ L, v.ownBlock ≠ some q.1)
    (hn : n ≤ 5000000) (hm : 0 < m ∧ m ≤ 10) (hby : bytes ≤ 1000)
    (h : ∀ v' u, Own w u S L → u.ownsRow base e size v' (n + m) (xs ++ cs.toList) → Keeps W u v.ownBlock.toList → (v'.ownBlock = v.ownBlock ∨ v'.ownBlock = some W.heap.size) → wpList Try.prog ops Q rest (a.put o.dst v') u) : wpList Try.prog ops Q (o :: rest) a W := by
  obtain ⟨ht, ⟨i, hi, hz, hsz, hbt⟩, hzs, hpos⟩ := hT
  have hB := O.get 0 rfl
  have hl : cs.toList.length = m * size := by rw [← hcs]; simp
  have hnews : ∀ j u, cs.toList[j]? = some u → W.cell? ((⟨gl, 0, none⟩ : Addr).add j) = some u := gr_news hB
  have hbytes : (n + m) * bytes ≤ 140737488355328 := Nat.le_trans (Nat.mul_le_mul (show n + m ≤ 5000010 by omega) hby) (by decide)
  obtain ⟨v', u, hr, h2, h3, _⟩ := run_append_own (P := Try.prog) W base T o.type e i z size bytes ht hi hz hsz hbt hzs hpos v n _ M ⟨gl, 0, none⟩ m m cs.toList hl hnews h1 (by simp only [maxLen]; omega) hbytes hbW
  have hf := append_fresh (w := W) (P := Try.prog) base T o.type e i z size bytes ht hi hz hsz hbt v n _ M ⟨gl, 0, none⟩ m m cs.toList hl hnews h1 (by simp only [maxLen]; omega) hbytes (by omega) hr
  refine wpList_plain hgd fun K hK => ?_
  unfold Oper.wp execOp
  simp only [ho, resolve, invoke, builtin, Sem.run_bind, Sem.run_pure, Result.andThen_ok, List.map_toArray, List.map_cons, List.map_nil, hs, hy, hr]
  have hk := grown_keepsV h3
  refine hK _ _ (h v' u ((O.drop_ 1).wrote hk (fun b hb' hlt => ?_) (fun q hq hm => hL q hq (by simpa using hm))) h2 hk hf)
  have := (gr_own M (g := b) (by simpa using hb')).1
  omega
end
theorem rowT31 : RowT 31 37 5 40 (.agg #[Value.int .i64 0, .int .i64 0, .int .i64 0, .int .i64 0, .bool false]) := by
  have h : (Try.prog.info? 37).map (fun i => (i.zero, i.size, i.bytes)) = some (some (.agg #[Value.int .i64 0, .int .i64 0, .int .i64 0, .int .i64 0, .bool false]), 5, 40) := by kernel_rfl
  obtain ⟨i, hi, he⟩ := Option.map_eq_some_iff.1 h
  simp only [Prod.mk.injEq] at he
  exact ⟨Try.underlying31, ⟨i, hi, he.1, he.2.1, he.2.2⟩, rfl, by decide⟩
def aliveE : Nat → Ev := fun _ => ⟨0, 16, 0, 0, false⟩
theorem alive_before : beforeR aliveS aliveE 2 0 1 = (true, 0) := by
  have h : (thr aliveS aliveE 2).2.2 = 0 := by decide +kernel
  obtain ⟨_, _, hok⟩ := thr_zero h
  rw [before_eq]
  unfold refBR
  rw [if_pos h, if_pos (by decide)]
  rw [show behT aliveE (rmS aliveS) (Int.toNat 0) 2 1 = true from (behT_iff hok 1 (by omega)).2 (own_behind hok 1 (by omega) 0 (by omega) rfl)]
theorem alive_evs {W : World} {base k1 : Nat} {v : Value} {A1 : Option Addr} (M : W.ownsRow base 37 5 v 2 [Value.int .i64 0, .int .i64 16, .int .i64 0, .int .i64 0, .bool false, .int .i64 0, .int .i64 16, .int .i64 0, .int .i64 0, .bool false]) (hv : v = .slice A1 2 k1) (hnz : A1 = none → 2 = 0 ∧ k1 = 0) : EvsAt W A1 2 aliveE := fun _ => by
  have hA : A1 ≠ none := fun h => absurd (hnz h).1 (by decide)
  obtain ⟨ad, rfl⟩ : ∃ ad, A1 = some ad := Option.ne_none_iff_exists'.1 hA
  refine ⟨ad, rfl, (gr_cell M hv (j := 0) (x := .int .i64 0) rfl).1, fun i j hi hj => ?_⟩
  have hi' : i = 0 ∨ i = 1 := by omega
  have hj' : j = 0 ∨ j = 1 ∨ j = 2 ∨ j = 3 ∨ j = 4 := by omega
  rcases hi' with rfl | rfl <;> rcases hj' with rfl | rfl | rfl | rfl | rfl <;> exact (gr_cell M hv rfl).2
theorem alive_any {w : World} : Calls Try.prog 43 #[] w fun e u => e = .returned (.bool true) ∧ Keeps w u [] := by
  have O := Own.start w []
  go_enter Try.func43, Try.ntmps43
  go_wp2_with (first
    | (refine wpList_const 5 (.agg #[Value.int .i64 0, .int .i64 16, .int .i64 0, .int .i64 0, .bool false]) rfl rfl (fun _ => by kernel_rfl) ?_; simp only [Act.put, List.setIfInBounds_toArray, List.set_cons_zero, List.set_cons_succ])
    | (refine wpList_const 6 (.agg #[Value.int .i64 0, .int .i64 16, .int .i64 0, .int .i64 0, .bool false]) rfl rfl (fun _ => by kernel_rfl) ?_; simp only [Act.put, List.setIfInBounds_toArray, List.set_cons_zero, List.set_cons_succ])
    | (refine own_lit 7 31 37 2 5 (.agg #[Value.int .i64 0, .int .i64 0, .int .i64 0, .int .i64 0, .bool false]) _ (#[Value.int .i64 0, .int .i64 16, .int .i64 0, .int .i64 0, .bool false, .int .i64 0, .int .i64 16, .int .i64 0, .int .i64 0, .bool false]) O rfl rfl rfl Try.underlying31 (by kernel_rfl) (by decide) (by decide) (by kernel_rfl) ?_; clear O; intro W gl O; simp only [Act.put, List.setIfInBounds_toArray, List.set_cons_zero, List.set_cons_succ])
    | (at_builtin; (refine gr_appM (z := .agg #[Value.int .i64 0, .int .i64 0, .int .i64 0, .int .i64 0, .bool false]) 2 (.tmp 4) (.tmp 7) rowT31 O (gr_nil w.heap.size 37 5 W) rfl (by simp [Value.oneCell']) rfl rfl rfl rfl (Nat.le_refl _) O.keep.size (fun q _ => by simp [Value.ownBlock]) (by decide) (by decide) (by decide) ?_; clear O; intro v1 W O M K _; clear K; obtain ⟨A1, k1, hv1, hnz, hc1, hc2⟩ := gr_shape M; subst hv1; simp only [Act.put, List.setIfInBounds_toArray, List.set_cons_zero, List.set_cons_succ]))
    | (go_at_call 78; refine small14_any.mono ?_; rintro e W ⟨⟨A, c, rfl, HS⟩, K⟩; replace O := O.keeps K; replace M := gr_keeps M K (by simp); clear K)
    | (go_at_call 44; (refine (tbefore_any HS (alive_evs M rfl hnz) hc1 (fun _ _ => rfl) 0 1).mono ?_; rintro e W ⟨rfl, K⟩; replace O := O.keeps K; clear K; rw [alive_before]))
    | go_big_skip)
  go_returns
  exact ⟨rfl, O.keep⟩
end Go.Proofs.Ytakmcpadkanggaa
namespace Go.Proofs.Ytakmcpadkanggaa
open Go.ChangeShapes Go.WideShapes Go.RowKit Go.Maps Go.Deep
section
variable {w : World} {S : Sys} {A : Option Addr} {c : Nat} {R : Option Addr} {d n : Nat} {E : Nat → Ev} {B : Option Addr} {cb : Nat}
theorem edg_mem {rm : Int → Int} {a b n : Nat} (hb : b < n) (h : (a : Int) ∈ intoL E rm b) : ((a : Int), (b : Int)) ∈ edgN E rm n := by
  induction n with
  | zero => omega
  | succ n ih =>
    show _ ∈ edgN E rm n ++ edgJ E rm n
    rw [List.mem_append]
    by_cases e : b = n
    · subst e
      right
      unfold edgJ
      exact List.mem_map.2 ⟨_, h, rfl⟩
    · exact .inl (ih (by omega))
theorem edg_err (h : ¬ (thr S E n).2.2 = 0) : (edgR S E (rmS S) n).2 = (thr S E n).2.2 := by rw [edgR_bad h]
theorem edg_ok (h : (edgR S E (rmS S) n).2 = 0) : (edgR S E (rmS S) n).1 = edgN E (rmS S) n ∧ (edgN E (rmS S) n).length ≤ 65536 := by
  by_cases ht : (thr S E n).2.2 = 0
  · by_cases hl : 65536 < (edgN E (rmS S) n).length
    · rw [edgR_long ht (Nat.le_refl _) hl] at h
      simp at h
    · rw [edgR_ok ht (by omega)]
      exact ⟨rfl, by omega⟩
  · rw [edg_err ht] at h
    exact absurd h ht
theorem addr_succ (a : Addr) (k : Nat) : a.add (k + 1) = ⟨a.block, a.off + (k + 1), none⟩ := by
  unfold Addr.add
  simp
/-- Has one of the first edges been the one that is sought? -/
def hitB (es : List (Int × Int)) (x : Int × Int) (q : Nat) : Bool := (es.take q).any fun y => y.1 == x.1 && y.2 == x.2
theorem hit_succ {es : List (Int × Int)} {x : Int × Int} {q : Nat} (h : q < es.length) : hitB es x (q + 1) = (hitB es x q || ((es.getD q (0, 0)).1 == x.1 && (es.getD q (0, 0)).2 == x.2)) := by
  unfold hitB
  rw [List.take_add_one, List.getElem?_eq_getElem h, List.any_append, List.getD_eq_getElem?_getD, List.getElem?_eq_getElem h]
  simp
theorem hit_all {es : List (Int × Int)} {x : Int × Int} (h : x ∈ es) : hitB es x es.length = true := by
  unfold hitB
  rw [List.take_length, List.any_eq_true]
  exact ⟨x, h, by simp⟩
set_option maxRecDepth 100000 in
set_option maxHeartbeats 4000000 in
theorem ways_bad (hS : SysIn w S A c R d) (hE : EvsAt w B n E) (hcb : n ≤ cb) (hwf : ∀ i, i < n → (Lit.int .i64 (E i).a).wf = true) (i j k : Int) (h : ¬ ((edgR S E (rmS S) n).2 = 0 ∧ (beforeR S E n i j).2 = 0)) :
    Calls Try.prog 16 #[.agg (sysV S A c R d), .slice B n cb, .agg #[.int .i64 i, .int .i64 j, .int .i64 k]] w fun e w' => e = .returned (.bool true) ∧ Keeps w w' [] := by
  have O := Own.start w []
  have HE1 := Lib.hid (fun u (k : Keeps w u []) => tedges_any (cb := cb) (hS.kept k) (hE.kept k) hwf)
  have HA := Lib.hid (fun u (k : Keeps w u []) => tbefore_any (hS.kept k) (hE.kept k) hcb hwf i j)
  have HW := Lib.hid (fun u (k : Keeps w u []) => tway_any (hS.kept k) (hE.kept k) hcb hwf i j)
  unfold EdgPost at HE1
  unfold WayPost at HW
  have hwe := way_err S E n i j
  clear hS hE hcb hwf
  generalize edgR S E (rmS S) n = x at *
  obtain ⟨es, er⟩ := x
  generalize wayR S E n i j = y at *
  obtain ⟨xs, ew⟩ := y
  generalize beforeR S E n i j = z at *
  obtain ⟨b, eb⟩ := z
  simp only at HE1 HA HW h hwe
  subst hwe
  have e3 : (ew == ew) = true := by simp
  by_cases h1 : er = 0
  · subst h1
    have h2 : ¬ ew = 0 := fun q => h ⟨rfl, q⟩
    have e4 : (ew != 0) = true := by simpa using h2
    clear h
    go_enter Try.func16, Try.ntmps16
    go_wp2_with (first
      | go_big_skip
      | (refine own_box 3 (sysV S A c R d) O rfl rfl rfl rfl ?_; clear O; intro W a3 O; simp only [Act.put, List.setIfInBounds_toArray, List.set_cons_zero, List.set_cons_succ])
      | (refine own_box 5 (#[.int .i64 i, .int .i64 j, .int .i64 k]) O rfl rfl rfl rfl ?_; clear O; intro W a5 O; simp only [Act.put, List.setIfInBounds_toArray, List.set_cons_zero, List.set_cons_succ]; have c5 := (O.get 0 rfl).cell))
    go_quiet (fail)
    clear c5
    generalize hW : World.drewN W _ = W2
    replace O : Own w W2 [] [(a5, 54, #[.int .i64 i, .int .i64 j, .int .i64 k]), (a3, 27, sysV S A c R d)] := by rw [← hW]; exact O.drewN _
    clear hW
    go_wp2_with (first
      | go_big_skip
      | (go_at_call 43; refine alive_any.mono ?_; rintro e W ⟨rfl, K⟩; replace O := O.keeps K; clear K)
      | (refine own_load 25 1 O rfl rfl rfl rfl rfl Try.underlying27 rfl (by kernel_rfl) ?_; simp only [Act.put, List.setIfInBounds_toArray, List.set_cons_zero, List.set_cons_succ])
      | (refine own_load 31 1 O rfl rfl rfl rfl rfl Try.underlying27 rfl (by kernel_rfl) ?_; simp only [Act.put, List.setIfInBounds_toArray, List.set_cons_zero, List.set_cons_succ])
      | (refine own_load 39 1 O rfl rfl rfl rfl rfl Try.underlying27 rfl (by kernel_rfl) ?_; simp only [Act.put, List.setIfInBounds_toArray, List.set_cons_zero, List.set_cons_succ])
      | (go_at_call 37; refine (HE1.out _ O.keep).mono ?_; rintro e W ⟨⟨v1, rfl, q1⟩, K⟩; replace O := O.keeps K; clear q1; clear K)
      | (go_at_call 46; refine (HW.out _ O.keep).mono ?_; rintro e W ⟨⟨v2, rfl, q2⟩, K⟩; replace O := O.keeps K; clear q2; clear K)
      | (go_at_call 44; refine (HA.out _ O.keep).mono ?_; rintro e W ⟨rfl, K⟩; replace O := O.keeps K; skip; clear K))
    go_returns
    exact ⟨rfl, O.keep⟩
  · have e4 : (er != 0) = true := by simpa using h1
    clear h
    go_enter Try.func16, Try.ntmps16
    go_wp2_with (first
      | go_big_skip
      | (refine own_box 3 (sysV S A c R d) O rfl rfl rfl rfl ?_; clear O; intro W a3 O; simp only [Act.put, List.setIfInBounds_toArray, List.set_cons_zero, List.set_cons_succ])
      | (refine own_box 5 (#[.int .i64 i, .int .i64 j, .int .i64 k]) O rfl rfl rfl rfl ?_; clear O; intro W a5 O; simp only [Act.put, List.setIfInBounds_toArray, List.set_cons_zero, List.set_cons_succ]; have c5 := (O.get 0 rfl).cell))
    go_quiet (fail)
    clear c5
    generalize hW : World.drewN W _ = W2
    replace O : Own w W2 [] [(a5, 54, #[.int .i64 i, .int .i64 j, .int .i64 k]), (a3, 27, sysV S A c R d)] := by rw [← hW]; exact O.drewN _
    clear hW
    go_wp2_with (first
      | go_big_skip
      | (go_at_call 43; refine alive_any.mono ?_; rintro e W ⟨rfl, K⟩; replace O := O.keeps K; clear K)
      | (refine own_load 25 1 O rfl rfl rfl rfl rfl Try.underlying27 rfl (by kernel_rfl) ?_; simp only [Act.put, List.setIfInBounds_toArray, List.set_cons_zero, List.set_cons_succ])
      | (refine own_load 31 1 O rfl rfl rfl rfl rfl Try.underlying27 rfl (by kernel_rfl) ?_; simp only [Act.put, List.setIfInBounds_toArray, List.set_cons_zero, List.set_cons_succ])
      | (refine own_load 39 1 O rfl rfl rfl rfl rfl Try.underlying27 rfl (by kernel_rfl) ?_; simp only [Act.put, List.setIfInBounds_toArray, List.set_cons_zero, List.set_cons_succ])
      | (go_at_call 37; refine (HE1.out _ O.keep).mono ?_; rintro e W ⟨⟨v1, rfl, q1⟩, K⟩; replace O := O.keeps K; clear q1; clear K)
      | (go_at_call 46; refine (HW.out _ O.keep).mono ?_; rintro e W ⟨⟨v2, rfl, q2⟩, K⟩; replace O := O.keeps K; clear q2; clear K)
      | (go_at_call 44; refine (HA.out _ O.keep).mono ?_; rintro e W ⟨rfl, K⟩; replace O := O.keeps K; skip; clear K))
    go_returns
    exact ⟨rfl, O.keep⟩
set_option maxRecDepth 100000 in
set_option maxHeartbeats 4000000 in
theorem ways_no (hS : SysIn w S A c R d) (hE : EvsAt w B n E) (hcb : n ≤ cb) (hwf : ∀ i, i < n → (Lit.int .i64 (E i).a).wf = true) (i j k : Int) (h : (edgR S E (rmS S) n).2 = 0) (h' : (beforeR S E n i j).2 = 0) (hb : (beforeR S E n i j).1 = false) :
    Calls Try.prog 16 #[.agg (sysV S A c R d), .slice B n cb, .agg #[.int .i64 i, .int .i64 j, .int .i64 k]] w fun e w' => e = .returned (.bool true) ∧ Keeps w w' [] := by
  have O := Own.start w []
  have HE1 := Lib.hid (fun u (k : Keeps w u []) => tedges_any (cb := cb) (hS.kept k) (hE.kept k) hwf)
  have HA := Lib.hid (fun u (k : Keeps w u []) => tbefore_any (hS.kept k) (hE.kept k) hcb hwf i j)
  have HW := Lib.hid (fun u (k : Keeps w u []) => tway_any (hS.kept k) (hE.kept k) hcb hwf i j)
  unfold EdgPost at HE1
  unfold WayPost at HW
  have hwn := way_no (show ¬ ((beforeR S E n i j).2 = 0 ∧ (beforeR S E n i j).1 = true) from fun q => by rw [hb] at q; exact absurd q.2 (by simp))
  rw [h'] at hwn
  rw [hwn] at HW
  rw [h] at HE1
  rw [h', hb] at HA
  clear hS hE hcb hwf h h' hb hwn
  generalize edgR S E (rmS S) n = x at *
  obtain ⟨es, er⟩ := x
  simp only at HE1 HW
  go_enter Try.func16, Try.ntmps16
  go_wp2_with (first
    | go_big_skip
    | (refine own_box 3 (sysV S A c R d) O rfl rfl rfl rfl ?_; clear O; intro W a3 O; simp only [Act.put, List.setIfInBounds_toArray, List.set_cons_zero, List.set_cons_succ])
    | (refine own_box 5 (#[.int .i64 i, .int .i64 j, .int .i64 k]) O rfl rfl rfl rfl ?_; clear O; intro W a5 O; simp only [Act.put, List.setIfInBounds_toArray, List.set_cons_zero, List.set_cons_succ]; have c5 := (O.get 0 rfl).cell))
  go_quiet (fail)
  clear c5
  generalize hW : World.drewN W _ = W2
  replace O : Own w W2 [] [(a5, 54, #[.int .i64 i, .int .i64 j, .int .i64 k]), (a3, 27, sysV S A c R d)] := by rw [← hW]; exact O.drewN _
  clear hW
  go_wp2_with (first
    | go_big_skip
    | (go_at_call 43; refine alive_any.mono ?_; rintro e W ⟨rfl, K⟩; replace O := O.keeps K; clear K)
    | (refine own_load 25 1 O rfl rfl rfl rfl rfl Try.underlying27 rfl (by kernel_rfl) ?_; simp only [Act.put, List.setIfInBounds_toArray, List.set_cons_zero, List.set_cons_succ])
    | (refine own_load 31 1 O rfl rfl rfl rfl rfl Try.underlying27 rfl (by kernel_rfl) ?_; simp only [Act.put, List.setIfInBounds_toArray, List.set_cons_zero, List.set_cons_succ])
    | (refine own_load 39 1 O rfl rfl rfl rfl rfl Try.underlying27 rfl (by kernel_rfl) ?_; simp only [Act.put, List.setIfInBounds_toArray, List.set_cons_zero, List.set_cons_succ])
    | (go_at_call 37; refine (HE1.out _ O.keep).mono ?_; rintro e W ⟨⟨v1, rfl, q1⟩, K⟩; replace O := O.keeps K; clear q1; clear K)
    | (go_at_call 46; refine (HW.out _ O.keep).mono ?_; rintro e W ⟨⟨v2, rfl, q2⟩, K⟩; replace O := O.keeps K; obtain ⟨A2, p2, hv2, _⟩ := gr_shape q2; subst hv2; clear q2; clear K)
    | (go_at_call 44; refine (HA.out _ O.keep).mono ?_; rintro e W ⟨rfl, K⟩; replace O := O.keeps K; skip; clear K))
  go_returns
  exact ⟨rfl, O.keep⟩
set_option maxRecDepth 100000 in
set_option maxHeartbeats 4000000 in
theorem ways_yes (hS : SysIn w S A c R d) (hE : EvsAt w B n E) (hcb : n ≤ cb) (hwf : ∀ i, i < n → (Lit.int .i64 (E i).a).wf = true) (i j k : Int) (h : (edgR S E (rmS S) n).2 = 0) (h' : (beforeR S E n i j).2 = 0) (hb : (beforeR S E n i j).1 = true) :
    Calls Try.prog 16 #[.agg (sysV S A c R d), .slice B n cb, .agg #[.int .i64 i, .int .i64 j, .int .i64 k]] w fun e w' => e = .returned (.bool true) ∧ Keeps w w' [] := by
  have O := Own.start w []
  have HE1 := Lib.hid (fun u (k : Keeps w u []) => tedges_any (cb := cb) (hS.kept k) (hE.kept k) hwf)
  have HA := Lib.hid (fun u (k : Keeps w u []) => tbefore_any (hS.kept k) (hE.kept k) hcb hwf i j)
  have HW := Lib.hid (fun u (k : Keeps w u []) => tway_any (hS.kept k) (hE.kept k) hcb hwf i j)
  unfold EdgPost at HE1
  unfold WayPost at HW
  obtain ⟨p, q, d0, rfl, rfl, hpq, hqn, hn, hv, hok, hbef, hds, hway⟩ := way_yes h' hb
  obtain ⟨he1, he2⟩ := edg_ok h
  rw [h', hb] at HA
  rw [hway] at HW
  rw [h, he1] at HE1
  obtain ⟨l1, l2, l3⟩ := wayL_law hds
  have hxl := wayL_length (I := intoL E (rmS S)) (j := q) (e := d0 + 1) (x := p)
  have hd4 := ds_le (into_up (rm := rmS S) hok) hqn hds
  have HED := Lib.hid (fun t (ht : t + 1 < (wayL (intoL E (rmS S)) q (d0 + 1) p).length) => (by
    obtain ⟨a, b, h1, h2, h3, h4⟩ := l3 t ht
    exact ⟨a, b, h1, h2, edg_mem (by omega) h4⟩ : ∃ a b : Nat, (wayL (intoL E (rmS S)) q (d0 + 1) p)[t]? = some (a : Int) ∧ (wayL (intoL E (rmS S)) q (d0 + 1) p)[t + 1]? = some (b : Int) ∧ ((a : Int), (b : Int)) ∈ edgN E (rmS S) n))
  have hd5 : d0 ≤ 40000 := by omega
  obtain ⟨xs, hxs⟩ : ∃ xs, xs = wayL (intoL E (rmS S)) q (d0 + 1) p := ⟨_, rfl⟩
  rw [← hxs] at HW l1 l2 hxl HED
  obtain ⟨es, hes⟩ : ∃ es, es = edgN E (rmS S) n := ⟨_, rfl⟩
  rw [← hes] at HE1 he2 HED
  clear hS hE hcb hwf h h' hb hway he1 l3 hds hv hok hbef hxs hes hd4 hpq hqn hn
  obtain ⟨m, hm⟩ : ∃ m, m = xs.length := ⟨_, rfl⟩
  obtain ⟨em, hem⟩ : ∃ em, em = es.length := ⟨_, rfl⟩
  have HM := Lib.hid hm
  have HEM := Lib.hid hem
  have hm2 : m = d0 + 1 + 1 := by omega
  rw [← hem] at he2
  have HX0 := Lib.hid (show xs.getD 0 0 = (p : Int) by rw [List.head?_eq_getElem?] at l1; rw [List.getD_eq_getElem?_getD, l1]; rfl)
  have HXL := Lib.hid (show xs.getD (d0 + 1) 0 = (q : Int) by rw [List.getLast?_eq_getElem?, hxl] at l2; rw [List.getD_eq_getElem?_getD]; rw [show d0 + 1 = d0 + 1 + 1 - 1 by omega, l2]; rfl)
  clear l1 l2 hxl hem
  have k1 : ((p : Int) != (p : Int)) = false := by simp
  have k2 : ((q : Int) != (q : Int)) = false := by simp
  go_enter Try.func16, Try.ntmps16
  go_wp2_with (first
    | go_big_skip
    | (refine own_box 3 (sysV S A c R d) O rfl rfl rfl rfl ?_; clear O; intro W a3 O; simp only [Act.put, List.setIfInBounds_toArray, List.set_cons_zero, List.set_cons_succ])
    | (refine own_box 5 (#[.int .i64 (p : Int), .int .i64 (q : Int), .int .i64 k]) O rfl rfl rfl rfl ?_; clear O; intro W a5 O; simp only [Act.put, List.setIfInBounds_toArray, List.set_cons_zero, List.set_cons_succ]; have c5 := (O.get 0 rfl).cell))
  go_quiet (fail)
  clear c5
  generalize hW : World.drewN W _ = W2
  replace O : Own w W2 [] [(a5, 54, #[.int .i64 (p : Int), .int .i64 (q : Int), .int .i64 k]), (a3, 27, sysV S A c R d)] := by rw [← hW]; exact O.drewN _
  clear hW
  generalize hHK : HM = HM'
  clear hHK hm
  go_wp2_with (first
    | go_big_skip
    | (go_at_call 43; refine alive_any.mono ?_; rintro e W ⟨rfl, K⟩; replace O := O.keeps K; clear K)
    | (refine own_load 25 1 O rfl rfl rfl rfl rfl Try.underlying27 rfl (by kernel_rfl) ?_; simp only [Act.put, List.setIfInBounds_toArray, List.set_cons_zero, List.set_cons_succ])
    | (refine own_load 31 1 O rfl rfl rfl rfl rfl Try.underlying27 rfl (by kernel_rfl) ?_; simp only [Act.put, List.setIfInBounds_toArray, List.set_cons_zero, List.set_cons_succ])
    | (refine own_load 39 1 O rfl rfl rfl rfl rfl Try.underlying27 rfl (by kernel_rfl) ?_; simp only [Act.put, List.setIfInBounds_toArray, List.set_cons_zero, List.set_cons_succ])
    | (go_at_call 37; refine (HE1.out _ O.keep).mono ?_; rintro e W ⟨⟨v1, rfl, q1⟩, K⟩; replace O := O.keeps K; have Hv1 := Lib.hid q1; obtain ⟨A1, p1, hv1, _⟩ := gr_shape q1; rw [← HEM.out] at hv1; subst hv1; clear q1; clear K)
    | (go_at_call 46; refine (HW.out _ O.keep).mono ?_; rintro e W ⟨⟨v2, rfl, q2⟩, K⟩; replace O := O.keeps K; have Hv2 := Lib.hid q2; obtain ⟨A2, p2, hv2, _⟩ := gr_shape q2; rw [← HM.out, hm2] at hv2; subst hv2; clear q2; replace Hv1 := Lib.hid (gr_keeps Hv1.out K (by simp)); clear K)
    | (go_at_call 44; refine (HA.out _ O.keep).mono ?_; rintro e W ⟨rfl, K⟩; replace O := O.keeps K; replace Hv1 := Lib.hid (gr_keeps Hv1.out K (by simp)); replace Hv2 := Lib.hid (gr_keeps Hv2.out K (by simp)); obtain ⟨Ax, cx, ex, hxx⟩ := Mint.list Hv2.out; obtain ⟨ax, e1, _, cx0⟩ := hxx (by have := HM.out; omega); (have e2 : A2 = some ax := by rw [← e1]; injection ex); subst e2; clear hxx e1 ex; have z0 := cx0 0 (by have := HM.out; omega); rw [HX0.out] at z0; have z1 := cx0 (d0 + 1) (by have := HM.out; omega); rw [HXL.out] at z1; have z0' : W.cell? ax = some (.int .i64 (p : Int)) := (by rw [Addr.add_zero'] at z0; exact z0); have z1' : W.cell? ⟨ax.block, ax.off + (d0 + 1), none⟩ = some (.int .i64 (q : Int)) := (by rw [← addr_succ]; exact z1); clear cx0; clear K))
  have HLEN := Lib.hid O.keep
  have HEZ := Lib.hid (show ∀ x, hitB es x em = true ∨ x ∉ es from fun x => by
    by_cases h : x ∈ es
    · left; rw [HEM.out]; exact hit_all h
    · exact .inr h)
  clear HE1 HA HW z0 z0' z1 z1' O
  rename World => wq
  go_loopg [15] (d0 + 1) (fun g s15 wr => ∃ t : Nat, t ≤ d0 + 1 ∧ g = d0 + 1 - t ∧ s15 = .int .i64 ((t : Int) + 1) ∧ Keeps wq wr [])
  case atStart => exact ⟨0, by omega, by omega, by go_num, Keeps.refl _ _⟩
  case round =>
    rename World => wr1
    obtain ⟨t, ht, hgt, rfl, K1⟩ := hrel
    have HG := Lib.hid hgt
    have HK1 := Lib.hid K1
    clear hgt K1
    by_cases hlt : t < d0 + 1
    · obtain ⟨a, b, ha, hb, hab⟩ := HED.out t (by have := HM.out; omega)
      have HAB := Lib.hid hab
      have g1 : (t : Int) + 1 < (d0 : Int) + 1 + 1 := by omega
      have g0 : (0 : Int) ≤ (t : Int) := by omega
      have ht4 : t ≤ 40001 := by omega
      have HCA := Lib.hid (show ∀ u, Keeps wq u [] → u.cell? (ax.add t) = some (.int .i64 (a : Int)) ∧ u.cell? ⟨ax.block, ax.off + (t + 1), none⟩ = some (.int .i64 (b : Int)) from fun u K => by
        obtain ⟨A', c', e', hxx⟩ := Mint.list (gr_keeps Hv2.out K (by simp))
        obtain ⟨ad', e1, _, cx⟩ := hxx (by have := HM.out; omega)
        have e2 : ax = ad' := by injection e' with e3; rw [← e3] at e1; injection e1
        subst e2
        have h1 := cx t (by have := HM.out; omega)
        have h2 := cx (t + 1) (by have := HM.out; omega)
        rw [List.getD_eq_getElem?_getD, ha] at h1
        rw [List.getD_eq_getElem?_getD, hb, addr_succ] at h2
        exact ⟨h1, h2⟩)
      clear ha hb hab
      go_wp2
      go_loopg [16, 17] em (fun g s16 s17 wr => ∃ x : Nat, x ≤ em ∧ g = em - x ∧ s17 = .int .i64 (x : Int) ∧ s16 = .bool (hitB es ((a : Int), (b : Int)) x) ∧ Keeps wq wr [])
      case atStart => exact ⟨0, by omega, by omega, rfl, by simp [hitB], HK1.out⟩
      case round =>
        rename World => wr2
        obtain ⟨x, hx, hgx, rfl, rfl, K2⟩ := hrel
        have HG2 := Lib.hid hgx
        have HK2 := Lib.hid K2
        clear hgx K2
        by_cases hxm : x < em
        · have g2 : (x : Int) < (em : Int) := by omega
          have g3 : (0 : Int) ≤ (x : Int) := by omega
          have HX := Lib.hid (show x < es.length by have := HEM.out; omega)
          obtain ⟨ad, hA⟩ : ∃ ad, A1 = some ad := by
            obtain ⟨A', c', e', hA, _⟩ := gr_shape Hv1.out
            cases A' with
            | none => have := (hA rfl).1; have := HX.out; omega
            | some ad => exact ⟨ad, by injection e'⟩
          subst hA
          have HS := Lib.hid (hit_succ (x := ((a : Int), (b : Int))) HX.out)
          have HRA := Lib.hid (fun u (K : Keeps wq u []) => prow (q := x) (gr_keeps Hv1.out K (by simp)) rfl HX.out)
          generalize hbo : hitB es ((a : Int), (b : Int)) x = bo at HS ⊢
          clear hbo
          generalize es.getD x (0, 0) = e at HS HRA
          obtain ⟨ea, eb⟩ := e
          have c1 : ∀ y : Later wr2, y.1.cell? (ad.add (x * 2)) = some (.int .i64 ea) := fun y => by have := HRA.out y.1 (HK2.out.trans y.2 (by simp)) 0 (show 0 < 2 by decide); rw [Addr.add_zero'] at this; exact this
          have c2 : ∀ y : Later wr2, y.1.cell? ⟨(ad.add (x * 2)).block, (ad.add (x * 2)).off + 1, none⟩ = some (.int .i64 eb) := fun y => HRA.out y.1 (HK2.out.trans y.2 (by simp)) 1 (show 1 < 2 by decide)
          have c3 : ∀ y : Later wr2, y.1.cell? (ax.add t) = some (.int .i64 (a : Int)) := fun y => (HCA.out y.1 (HK2.out.trans y.2 (by simp))).1
          have c4 : ∀ y : Later wr2, y.1.cell? ⟨ax.block, ax.off + (t + 1), none⟩ = some (.int .i64 (b : Int)) := fun y => (HCA.out y.1 (HK2.out.trans y.2 (by simp))).2
          clear HRA
          go_wp2
          by_cases h1 : ea = (a : Int)
          · subst h1
            by_cases h2 : eb = (b : Int)
            · subst h2
              have q1 : ((a : Int) == (a : Int)) = true := by simp
              have q2 : ((b : Int) == (b : Int)) = true := by simp
              refine wp_quiet_later (by kernel_rfl) (by kernel_rfl) ?_
              repeat (first
                | go_big_quiet_skip
                | go_big_quiet_step (fail))
              refine wpQuiet_nil ?_
              intro _ hw
              obtain ⟨p', rfl⟩ := hw
              have HK3 := Lib.hid (HK2.out.trans p'.2 (by simp))
              clear c1 c2 c3 c4
              generalize p'.1 = W9 at HK3 ⊢
              go_wp2
              go_roundg (em - (x + 1))
              case measure => (have := HG2.out; omega)
              case rel => exact ⟨x + 1, by omega, rfl, by go_num, by rw [HS.out]; simp, HK3.out⟩
            · have q1 : ((a : Int) == (a : Int)) = true := by simp
              have q2 : (eb == (b : Int)) = false := by rw [beq_eq_false_iff_ne]; exact h2
              refine wp_quiet_later (by kernel_rfl) (by kernel_rfl) ?_
              repeat (first
                | go_big_quiet_skip
                | go_big_quiet_step (fail))
              refine wpQuiet_nil ?_
              intro _ hw
              obtain ⟨p', rfl⟩ := hw
              have HK3 := Lib.hid (HK2.out.trans p'.2 (by simp))
              clear c1 c2 c3 c4
              generalize p'.1 = W9 at HK3 ⊢
              go_wp2
              go_roundg (em - (x + 1))
              case measure => (have := HG2.out; omega)
              case rel => exact ⟨x + 1, by omega, rfl, by go_num, by rw [HS.out, q2]; simp, HK3.out⟩
          · have q1 : (ea == (a : Int)) = false := by rw [beq_eq_false_iff_ne]; exact h1
            try skip
            refine wp_quiet_later (by kernel_rfl) (by kernel_rfl) ?_
            repeat (first
              | go_big_quiet_skip
              | go_big_quiet_step (fail))
            refine wpQuiet_nil ?_
            intro _ hw
            obtain ⟨p', rfl⟩ := hw
            have HK3 := Lib.hid (HK2.out.trans p'.2 (by simp))
            clear c1 c2 c3 c4
            generalize p'.1 = W9 at HK3 ⊢
            go_wp2
            go_roundg (em - (x + 1))
            case measure => (have := HG2.out; omega)
            case rel => exact ⟨x + 1, by omega, rfl, by go_num, by rw [HS.out, q1]; simp, HK3.out⟩
        · obtain rfl : em = x := by omega
          have hh : hitB es ((a : Int), (b : Int)) em = true := (HEZ.out _).elim id fun h => absurd HAB.out h
          rw [hh]
          clear hh hxm
          go_wp2
          go_roundg (d0 + 1 - (t + 1))
          case measure => (have := HG.out; omega)
          case rel => exact ⟨t + 1, by omega, rfl, by go_num, HK2.out⟩
    · obtain rfl : t = d0 + 1 := by omega
      have g1 : ¬ ((d0 : Int) + 1) + 1 < (d0 : Int) + 1 + 1 := by omega
      clear hlt
      go_wp2
      go_returns
      exact ⟨rfl, HLEN.out.trans HK1.out (by simp)⟩
theorem ways_walk (hS : SysIn w S A c R d) (hE : EvsAt w B n E) (hcb : n ≤ cb) (hwf : ∀ i, i < n → (Lit.int .i64 (E i).a).wf = true) (i j k : Int) :
    Calls Try.prog 16 #[.agg (sysV S A c R d), .slice B n cb, .agg #[.int .i64 i, .int .i64 j, .int .i64 k]] w fun e w' => e = .returned (.bool true) ∧ Keeps w w' [] := by
  by_cases h : (edgR S E (rmS S) n).2 = 0 ∧ (beforeR S E n i j).2 = 0
  · cases hb : (beforeR S E n i j).1 with
    | false => exact ways_no hS hE hcb hwf i j k h.1 h.2 hb
    | true => exact ways_yes hS hE hcb hwf i j k h.1 h.2 hb
  · exact ways_bad hS hE hcb hwf i j k h
end
end Go.Proofs.Ytakmcpadkanggaa
