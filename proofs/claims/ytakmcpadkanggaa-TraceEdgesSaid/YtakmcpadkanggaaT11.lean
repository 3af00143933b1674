/-
  The document's answer: the first event that may not be (quernref14.Fault).
-/
import Derived.Test.YtakmcpadkanggaaT10
import Derived.Deep.OwnRows
namespace Go.Proofs.Ytakmcpadkanggaa
open Go.RowKit Go.Maps Go.Deep

def flt (S : Sys) (E : Nat → Ev) (n : Nat) : Int × Int := match firstBad S E n with | some i => ((i : Int), 0) | none => (-1, (stN E n).r)
def fltV (x : Int × Int) : Value := .tuple #[.int .i64 x.1, .int .i64 x.2]
theorem flt_some {S : Sys} {E : Nat → Ev} {n k : Nat} (h : ∀ j, j < k → okE S (stN E j) (E j) = true) (hk : k < n) (hb : okE S (stN E k) (E k) = false) : fltV (flt S E n) = .tuple #[.int .i64 k, .int .i64 0] := by
  rw [flt, firstBad_some h hk hb]; rfl
theorem flt_none {S : Sys} {E : Nat → Ev} {n : Nat} (h : ∀ j, j < n → okE S (stN E j) (E j) = true) : fltV (flt S E n) = .tuple #[.int .i64 (-1), .int .i64 (stN E n).r] := by
  rw [flt, firstBad_none h]; rfl
def LL (S : Sys) (A : Option Addr) (c : Nat) (R : Option Addr) (d lkN gs gt gc gh a2 : Nat) (st : St) : List Ent := [(gh, 4, arrB lkN st.held), (gc, 4, arrB S.nr st.shut), (gt, 3, arrI S.nr st.took), (gs, 3, arrI S.nr st.sent), (a2, 27, sysV S A c R d)]
section
variable {w : World} {S : Sys} {A : Option Addr} {c : Nat} {R : Option Addr} {d n : Nat} {E : Nat → Ev} {B : Option Addr} {cb : Nat}
set_option maxRecDepth 100000 in
set_option maxHeartbeats 3000000 in
theorem fault_any (hh : headB S = true) (_hS : SysIn w S A c R d) (hE : EvsAt w B n E) (hn : n ≤ 40000) : Calls Try.prog 61 #[.agg (sysV S A c R d), .slice B n cb] w fun e w' => e = .returned (fltV (flt S E n)) ∧ Keeps w w' [] := by
  have O := Own.start w []
  obtain ⟨h0, h1, h2, h3, h4, h5⟩ := (headB_iff S).1 hh
  rw [shB_iff] at h3 h4 h5
  obtain ⟨lkN, hlk⟩ : ∃ lkN : Nat, S.lk = (lkN : Int) := ⟨S.lk.toNat, by omega⟩
  have HE := Lib.hid hE
  have HM := Lib.hid (fun u e => meant_any S A c R d u ⟨h3.1, h4.1, h5.1⟩ e)
  have HLK := Lib.hid hlk
  have HB := Lib.hid (⟨h0, h1, h2, h3, h4, h5⟩ : 1 ≤ S.np ∧ S.np ≤ 64 ∧ S.nr ≤ 64 ∧ (0 ≤ S.gr ∧ S.gr ≤ 64) ∧ (0 ≤ S.lk ∧ S.lk ≤ 64) ∧ 0 ≤ S.ce ∧ S.ce ≤ 64)
  have b1 : S.nr ≤ 1000000 := by omega
  have b2 : lkN ≤ 1000000 := by omega
  clear hh _hS hE h0 h1 h2 h3 h4 h5 hlk
  go_enter Try.func61, Try.ntmps61
  go_wp2_with (first
    | go_big_skip
    | (refine own_box 2 (sysV S A c R d) O rfl rfl rfl rfl ?_; clear O; intro W a2 O; simp only [Act.put, List.setIfInBounds_toArray, List.set_cons_zero, List.set_cons_succ]; have c2 : ∀ i, W.cell? ⟨a2, i, none⟩ = #[Value.slice A S.np c, .slice R S.nr d, .int .i64 S.gr, .int .i64 S.lk, .int .i64 S.ce][i]? := (O.get 0 rfl).cell)
    | (refine own_makeI 16 S.nr O rfl rfl rfl rfl (by assumption) ?_; clear O c2; intro W gs O; simp only [Act.put, List.setIfInBounds_toArray, List.set_cons_zero, List.set_cons_succ]; have c2 : ∀ i, W.cell? ⟨a2, i, none⟩ = #[Value.slice A S.np c, .slice R S.nr d, .int .i64 S.gr, .int .i64 S.lk, .int .i64 S.ce][i]? := (O.get 1 rfl).cell)
    | (refine own_makeI 20 S.nr O rfl rfl rfl rfl (by assumption) ?_; clear O c2; intro W gt O; simp only [Act.put, List.setIfInBounds_toArray, List.set_cons_zero, List.set_cons_succ]; have c2 : ∀ i, W.cell? ⟨a2, i, none⟩ = #[Value.slice A S.np c, .slice R S.nr d, .int .i64 S.gr, .int .i64 S.lk, .int .i64 S.ce][i]? := (O.get 2 rfl).cell)
    | (refine own_makeB 24 S.nr O rfl rfl rfl rfl (by assumption) ?_; clear O c2; intro W gc O; simp only [Act.put, List.setIfInBounds_toArray, List.set_cons_zero, List.set_cons_succ]; have c2 : ∀ i, W.cell? ⟨a2, i, none⟩ = #[Value.slice A S.np c, .slice R S.nr d, .int .i64 S.gr, .int .i64 S.lk, .int .i64 S.ce][i]? := (O.get 3 rfl).cell)
    | (refine own_makeB 27 lkN O rfl rfl rfl (by show Value.int .i64 S.lk = _; rw [HLK.out]) (by assumption) ?_; clear O c2; intro W gh O; simp only [Act.put, List.setIfInBounds_toArray, List.set_cons_zero, List.set_cons_succ]; have c2 : ∀ i, W.cell? ⟨a2, i, none⟩ = #[Value.slice A S.np c, .slice R S.nr d, .int .i64 S.gr, .int .i64 S.lk, .int .i64 S.ce][i]? := (O.get 4 rfl).cell))
  clear c2
  go_loopw [11, 6] (fun i x wr => ∃ k : Nat, k ≤ n ∧ i = .int .i64 k ∧ x = .int .i64 (stN E k).r ∧ Own w wr [] (LL S A c R d lkN gs gt gc gh a2 (stN E k)) ∧ ∀ j, j < k → okE S (stN E j) (E j) = true) (fun i _ _ => n - (intOf i).toNat)
  case atStart => exact ⟨0, by omega, rfl, rfl, O, fun j hj => by omega⟩
  case round =>
    obtain ⟨k, hk, rfl, rfl, O, hm⟩ := hrel
    have HMk := Lib.hid hm
    clear hm
    by_cases hlt : k < n
    · have g1 : ((k : Int)) < n := by omega
      have g2 : (0 : Int) ≤ k := by omega
      obtain ⟨ad, rfl, hc⟩ := EvsAt.row (u := w) HE.out hlt
      have HC := Lib.hid hc
      have HST := Lib.hid (stN_le E k)
      have HNX := Lib.hid (show stN E (k + 1) = nextE (stN E k) (E k) from rfl)
      have HBAD := Lib.hid (fun hb => flt_some HMk.out hlt hb)
      have HGOOD := Lib.hid (show okE S (stN E k) (E k) = true → ∀ j, j < k + 1 → okE S (stN E j) (E j) = true from fun hb j hj => if h : j = k then (by rw [h]; exact hb) else HMk.out j (by omega))
      clear hc
      unfold LL at O
      generalize stN E k = st at O HST HNX HBAD HGOOD ⊢
      generalize E k = ev at HC HNX HBAD HGOOD
      obtain ⟨who, op, a, v, sh⟩ := ev
      have HOK := Lib.hid (show okE S st ⟨who, op, a, v, sh⟩ = ((decide (0 ≤ who) && decide (who < st.r)) && meantB S ⟨who, op, a, v, sh⟩ && bodyE st ⟨who, op, a, v, sh⟩) by simp [okE, headE, meantB, Bool.and_assoc])
      cases hin : (decide (0 ≤ who) && decide (who < st.r)) with
      | false =>
        have HI : ∀ u, Hid (Calls Try.prog 65 #[.int .i64 who, .int .i64 st.r] u fun e w' => e = .returned (.bool false) ∧ u = w') := fun u => Lib.hid (by have := inside_any who st.r u; rwa [hin] at this)
        have HF := Lib.hid (HBAD.out (by rw [HOK.out, hin, Bool.false_and, Bool.false_and]))
        clear hin
        go_wp2_with (first
          | go_big_skip
          | (refine wpList_load_at 37 rfl rfl rfl rfl (HC.out [] _ O.keep (by simp)) Try.underlying37 rfl (by kernel_rfl) ?_; simp only [Act.put, List.setIfInBounds_toArray, List.set_cons_zero, List.set_cons_succ])
          | (refine own_alloc 12 (evC ⟨0, 0, 0, 0, false⟩) O rfl rfl rfl (fun _ => by kernel_rfl) ?_; clear O; intro W a12 O; simp only [Act.put, List.setIfInBounds_toArray, List.set_cons_zero, List.set_cons_succ])
          | (refine own_store_row 0 (.tmp 12) (.tmp 37) O rfl rfl rfl rfl rfl rfl (by kernel_rfl) (by rfl) (evC_cell _) ?_; clear O; intro W O; simp only [List.set_cons_zero] at O; have c12 : ∀ i, W.cell? ⟨a12, i, none⟩ = #[Value.int .i64 who, .int .i64 op, .int .i64 a, .int .i64 v, .bool sh][i]? := (O.get 0 rfl).cell)
          | (go_at_call 65; refine ((HI _).out).mono ?_; rintro e W ⟨rfl, rfl⟩))
        go_returns
        exact ⟨by rw [HF.out]; rfl, O.keep⟩
      | true =>
        have HI : ∀ u, Hid (Calls Try.prog 65 #[.int .i64 who, .int .i64 st.r] u fun e w' => e = .returned (.bool true) ∧ u = w') := fun u => Lib.hid (by have := inside_any who st.r u; rwa [hin] at this)
        cases hmn : meantB S ⟨who, op, a, v, sh⟩ with
        | false =>
          have HMe : ∀ u, Hid (Calls Try.prog 93 #[.agg (sysV S A c R d), .agg (evC ⟨who, op, a, v, sh⟩)] u fun e w' => e = .returned (.bool false) ∧ Keeps u w' []) := fun u => Lib.hid (by have := HM.out u ⟨who, op, a, v, sh⟩; rwa [hmn] at this)
          have HF := Lib.hid (HBAD.out (by rw [HOK.out, hmn, Bool.and_false, Bool.false_and]))
          clear hin hmn
          go_wp2_with (first
            | go_big_skip
            | (refine wpList_load_at 37 rfl rfl rfl rfl (HC.out [] _ O.keep (by simp)) Try.underlying37 rfl (by kernel_rfl) ?_; simp only [Act.put, List.setIfInBounds_toArray, List.set_cons_zero, List.set_cons_succ])
            | (refine own_alloc 12 (evC ⟨0, 0, 0, 0, false⟩) O rfl rfl rfl (fun _ => by kernel_rfl) ?_; clear O; intro W a12 O; simp only [Act.put, List.setIfInBounds_toArray, List.set_cons_zero, List.set_cons_succ])
            | (refine own_store_row 0 (.tmp 12) (.tmp 37) O rfl rfl rfl rfl rfl rfl (by kernel_rfl) (by rfl) (evC_cell _) ?_; clear O; intro W O; simp only [List.set_cons_zero] at O; have c12 : ∀ i, W.cell? ⟨a12, i, none⟩ = #[Value.int .i64 who, .int .i64 op, .int .i64 a, .int .i64 v, .bool sh][i]? := (O.get 0 rfl).cell)
            | (go_at_call 65; refine ((HI _).out).mono ?_; rintro e W ⟨rfl, rfl⟩)
            | (refine own_loadG 44 5 O rfl rfl rfl rfl rfl Try.underlying27 rfl (by kernel_rfl) ?_; simp only [Act.put, List.setIfInBounds_toArray, List.set_cons_zero, List.set_cons_succ])
            | (refine own_loadG 45 0 O rfl rfl rfl rfl rfl Try.underlying37 rfl (by kernel_rfl) ?_; simp only [Act.put, List.setIfInBounds_toArray, List.set_cons_zero, List.set_cons_succ])
            | (go_at_call 93; refine ((HMe _).out).mono ?_; rintro e W ⟨rfl, K⟩; replace O := O.keeps K; clear K c12; have c12 : ∀ i, W.cell? ⟨a12, i, none⟩ = #[Value.int .i64 who, .int .i64 op, .int .i64 a, .int .i64 v, .bool sh][i]? := (O.get 0 rfl).cell))
          go_returns
          exact ⟨by rw [HF.out]; rfl, O.keep⟩
        | true =>
          have HMe : ∀ u, Hid (Calls Try.prog 93 #[.agg (sysV S A c R d), .agg (evC ⟨who, op, a, v, sh⟩)] u fun e w' => e = .returned (.bool true) ∧ Keeps u w' []) := fun u => Lib.hid (by have := HM.out u ⟨who, op, a, v, sh⟩; rwa [hmn] at this)
          have HO := Lib.hid (show okE S st ⟨who, op, a, v, sh⟩ = bodyE st ⟨who, op, a, v, sh⟩ by rw [HOK.out, hin, hmn]; rfl)
          have HIN := Lib.hid hmn
          clear hin hmn
          by_cases o14 : op = 14
          · subst o14
            by_cases hv : v = 0
            · subst hv
              have HG := Lib.hid (HGOOD.out (by rw [HO.out]; simp [bodyE]))
              have HN := Lib.hid (show stN E (k + 1) = st by rw [HNX.out]; simp [nextE])
              go_wp2_with (first
                | go_big_skip
                | (refine wpList_load_at 37 rfl rfl rfl rfl (HC.out [] _ O.keep (by simp)) Try.underlying37 rfl (by kernel_rfl) ?_; simp only [Act.put, List.setIfInBounds_toArray, List.set_cons_zero, List.set_cons_succ])
                | (refine own_alloc 12 (evC ⟨0, 0, 0, 0, false⟩) O rfl rfl rfl (fun _ => by kernel_rfl) ?_; clear O; intro W a12 O; simp only [Act.put, List.setIfInBounds_toArray, List.set_cons_zero, List.set_cons_succ])
                | (refine own_store_row 0 (.tmp 12) (.tmp 37) O rfl rfl rfl rfl rfl rfl (by kernel_rfl) (by rfl) (evC_cell _) ?_; clear O; intro W O; simp only [List.set_cons_zero] at O; have c12 : ∀ i, W.cell? ⟨a12, i, none⟩ = #[Value.int .i64 who, .int .i64 14, .int .i64 a, .int .i64 0, .bool sh][i]? := (O.get 0 rfl).cell)
                | (go_at_call 65; refine ((HI _).out).mono ?_; rintro e W ⟨rfl, rfl⟩)
                | (refine own_loadG 44 5 O rfl rfl rfl rfl rfl Try.underlying27 rfl (by kernel_rfl) ?_; simp only [Act.put, List.setIfInBounds_toArray, List.set_cons_zero, List.set_cons_succ])
                | (refine own_loadG 45 0 O rfl rfl rfl rfl rfl Try.underlying37 rfl (by kernel_rfl) ?_; simp only [Act.put, List.setIfInBounds_toArray, List.set_cons_zero, List.set_cons_succ])
                | (go_at_call 93; refine ((HMe _).out).mono ?_; rintro e W ⟨rfl, K⟩; replace O := O.keeps K; clear K c12; have c12 : ∀ i, W.cell? ⟨a12, i, none⟩ = #[Value.int .i64 who, .int .i64 14, .int .i64 a, .int .i64 0, .bool sh][i]? := (O.get 0 rfl).cell))
              clear c12
              go_roundw
              case rel => exact ⟨k + 1, by omega, by go_num, by rw [HN.out], by rw [HN.out]; exact O.drop_ 1, HG.out⟩
              case measure => (simp [intOf] <;> omega)
            · by_cases hv2 : v = st.r
              · subst hv2
                by_cases hv3 : 512 ≤ st.r
                · have HF := Lib.hid (HBAD.out (by rw [HO.out]; simp [bodyE, hv]; omega))
                  go_wp2_with (first
                    | go_big_skip
                    | (refine wpList_load_at 37 rfl rfl rfl rfl (HC.out [] _ O.keep (by simp)) Try.underlying37 rfl (by kernel_rfl) ?_; simp only [Act.put, List.setIfInBounds_toArray, List.set_cons_zero, List.set_cons_succ])
                    | (refine own_alloc 12 (evC ⟨0, 0, 0, 0, false⟩) O rfl rfl rfl (fun _ => by kernel_rfl) ?_; clear O; intro W a12 O; simp only [Act.put, List.setIfInBounds_toArray, List.set_cons_zero, List.set_cons_succ])
                    | (refine own_store_row 0 (.tmp 12) (.tmp 37) O rfl rfl rfl rfl rfl rfl (by kernel_rfl) (by rfl) (evC_cell _) ?_; clear O; intro W O; simp only [List.set_cons_zero] at O; have c12 : ∀ i, W.cell? ⟨a12, i, none⟩ = #[Value.int .i64 who, .int .i64 14, .int .i64 a, .int .i64 st.r, .bool sh][i]? := (O.get 0 rfl).cell)
                    | (go_at_call 65; refine ((HI _).out).mono ?_; rintro e W ⟨rfl, rfl⟩)
                    | (refine own_loadG 44 5 O rfl rfl rfl rfl rfl Try.underlying27 rfl (by kernel_rfl) ?_; simp only [Act.put, List.setIfInBounds_toArray, List.set_cons_zero, List.set_cons_succ])
                    | (refine own_loadG 45 0 O rfl rfl rfl rfl rfl Try.underlying37 rfl (by kernel_rfl) ?_; simp only [Act.put, List.setIfInBounds_toArray, List.set_cons_zero, List.set_cons_succ])
                    | (go_at_call 93; refine ((HMe _).out).mono ?_; rintro e W ⟨rfl, K⟩; replace O := O.keeps K; clear K c12; have c12 : ∀ i, W.cell? ⟨a12, i, none⟩ = #[Value.int .i64 who, .int .i64 14, .int .i64 a, .int .i64 st.r, .bool sh][i]? := (O.get 0 rfl).cell))
                  go_returns
                  exact ⟨by rw [HF.out]; rfl, O.keep⟩
                · have HG := Lib.hid (HGOOD.out (by rw [HO.out]; simp [bodyE, hv]; omega))
                  have HN := Lib.hid (show stN E (k + 1) = { st with r := st.r + 1 } by rw [HNX.out]; simp [nextE, hv])
                  have r1 : IntKind.i64.wrap (st.r + 1) = st.r + 1 := IntWalk.i64_in _ (by have := HST.out; omega)
                  go_wp2_with (first
                    | go_big_skip
                    | (refine wpList_load_at 37 rfl rfl rfl rfl (HC.out [] _ O.keep (by simp)) Try.underlying37 rfl (by kernel_rfl) ?_; simp only [Act.put, List.setIfInBounds_toArray, List.set_cons_zero, List.set_cons_succ])
                    | (refine own_alloc 12 (evC ⟨0, 0, 0, 0, false⟩) O rfl rfl rfl (fun _ => by kernel_rfl) ?_; clear O; intro W a12 O; simp only [Act.put, List.setIfInBounds_toArray, List.set_cons_zero, List.set_cons_succ])
                    | (refine own_store_row 0 (.tmp 12) (.tmp 37) O rfl rfl rfl rfl rfl rfl (by kernel_rfl) (by rfl) (evC_cell _) ?_; clear O; intro W O; simp only [List.set_cons_zero] at O; have c12 : ∀ i, W.cell? ⟨a12, i, none⟩ = #[Value.int .i64 who, .int .i64 14, .int .i64 a, .int .i64 st.r, .bool sh][i]? := (O.get 0 rfl).cell)
                    | (go_at_call 65; refine ((HI _).out).mono ?_; rintro e W ⟨rfl, rfl⟩)
                    | (refine own_loadG 44 5 O rfl rfl rfl rfl rfl Try.underlying27 rfl (by kernel_rfl) ?_; simp only [Act.put, List.setIfInBounds_toArray, List.set_cons_zero, List.set_cons_succ])
                    | (refine own_loadG 45 0 O rfl rfl rfl rfl rfl Try.underlying37 rfl (by kernel_rfl) ?_; simp only [Act.put, List.setIfInBounds_toArray, List.set_cons_zero, List.set_cons_succ])
                    | (go_at_call 93; refine ((HMe _).out).mono ?_; rintro e W ⟨rfl, K⟩; replace O := O.keeps K; clear K c12; have c12 : ∀ i, W.cell? ⟨a12, i, none⟩ = #[Value.int .i64 who, .int .i64 14, .int .i64 a, .int .i64 st.r, .bool sh][i]? := (O.get 0 rfl).cell))
                  clear c12 r1
                  go_roundw
                  case rel => exact ⟨k + 1, by omega, by go_num, by rw [HN.out], by rw [HN.out]; exact O.drop_ 1, HG.out⟩
                  case measure => (simp [intOf] <;> omega)
              · have HF := Lib.hid (HBAD.out (by rw [HO.out]; simp [bodyE, hv, hv2]))
                have z1 : (v != st.r) = true := by simpa using hv2
                go_wp2_with (first
                  | go_big_skip
                  | (refine wpList_load_at 37 rfl rfl rfl rfl (HC.out [] _ O.keep (by simp)) Try.underlying37 rfl (by kernel_rfl) ?_; simp only [Act.put, List.setIfInBounds_toArray, List.set_cons_zero, List.set_cons_succ])
                  | (refine own_alloc 12 (evC ⟨0, 0, 0, 0, false⟩) O rfl rfl rfl (fun _ => by kernel_rfl) ?_; clear O; intro W a12 O; simp only [Act.put, List.setIfInBounds_toArray, List.set_cons_zero, List.set_cons_succ])
                  | (refine own_store_row 0 (.tmp 12) (.tmp 37) O rfl rfl rfl rfl rfl rfl (by kernel_rfl) (by rfl) (evC_cell _) ?_; clear O; intro W O; simp only [List.set_cons_zero] at O; have c12 : ∀ i, W.cell? ⟨a12, i, none⟩ = #[Value.int .i64 who, .int .i64 14, .int .i64 a, .int .i64 v, .bool sh][i]? := (O.get 0 rfl).cell)
                  | (go_at_call 65; refine ((HI _).out).mono ?_; rintro e W ⟨rfl, rfl⟩)
                  | (refine own_loadG 44 5 O rfl rfl rfl rfl rfl Try.underlying27 rfl (by kernel_rfl) ?_; simp only [Act.put, List.setIfInBounds_toArray, List.set_cons_zero, List.set_cons_succ])
                  | (refine own_loadG 45 0 O rfl rfl rfl rfl rfl Try.underlying37 rfl (by kernel_rfl) ?_; simp only [Act.put, List.setIfInBounds_toArray, List.set_cons_zero, List.set_cons_succ])
                  | (go_at_call 93; refine ((HMe _).out).mono ?_; rintro e W ⟨rfl, K⟩; replace O := O.keeps K; clear K c12; have c12 : ∀ i, W.cell? ⟨a12, i, none⟩ = #[Value.int .i64 who, .int .i64 14, .int .i64 a, .int .i64 v, .bool sh][i]? := (O.get 0 rfl).cell))
                go_returns
                exact ⟨by rw [HF.out]; rfl, O.keep⟩
          by_cases o5 : op = 5
          · subst o5
            have HG := Lib.hid (HGOOD.out (by rw [HO.out]; simp [bodyE]))
            have HN := Lib.hid (show stN E (k + 1) = { st with sent := updI st.sent a (st.sent a + 1) } by rw [HNX.out]; simp [nextE])
            have hin := HIN.out
            simp [meantB, cnt] at hin
            have hB := HB.out
            obtain ⟨aN, rfl⟩ : ∃ aN : Nat, a = (aN : Int) := ⟨a.toNat, by omega⟩
            have g3 : ((aN : Nat) : Int) < (S.nr : Int) := by omega
            have g4 : (0 : Int) ≤ aN := by omega
            clear hin hB
            go_wp2_with (first
              | go_big_skip
              | (refine wpList_load_at 37 rfl rfl rfl rfl (HC.out [] _ O.keep (by simp)) Try.underlying37 rfl (by kernel_rfl) ?_; simp only [Act.put, List.setIfInBounds_toArray, List.set_cons_zero, List.set_cons_succ])
              | (refine own_alloc 12 (evC ⟨0, 0, 0, 0, false⟩) O rfl rfl rfl (fun _ => by kernel_rfl) ?_; clear O; intro W a12 O; simp only [Act.put, List.setIfInBounds_toArray, List.set_cons_zero, List.set_cons_succ])
              | (refine own_store_row 0 (.tmp 12) (.tmp 37) O rfl rfl rfl rfl rfl rfl (by kernel_rfl) (by rfl) (evC_cell _) ?_; clear O; intro W O; simp only [List.set_cons_zero] at O; have c12 : ∀ i, W.cell? ⟨a12, i, none⟩ = #[Value.int .i64 who, .int .i64 5, .int .i64 (aN : Int), .int .i64 v, .bool sh][i]? := (O.get 0 rfl).cell)
              | (go_at_call 65; refine ((HI _).out).mono ?_; rintro e W ⟨rfl, rfl⟩)
              | (refine own_loadG 44 5 O rfl rfl rfl rfl rfl Try.underlying27 rfl (by kernel_rfl) ?_; simp only [Act.put, List.setIfInBounds_toArray, List.set_cons_zero, List.set_cons_succ])
              | (refine own_loadG 45 0 O rfl rfl rfl rfl rfl Try.underlying37 rfl (by kernel_rfl) ?_; simp only [Act.put, List.setIfInBounds_toArray, List.set_cons_zero, List.set_cons_succ])
              | (go_at_call 93; refine ((HMe _).out).mono ?_; rintro e W ⟨rfl, K⟩; replace O := O.keeps K; clear K c12; have c12 : ∀ i, W.cell? ⟨a12, i, none⟩ = #[Value.int .i64 who, .int .i64 5, .int .i64 (aN : Int), .int .i64 v, .bool sh][i]? := (O.get 0 rfl).cell))
            clear c12
            have c12 : ∀ (p : Later W) (i : Nat), p.1.cell? ⟨a12, i, none⟩ = #[Value.int .i64 who, .int .i64 5, .int .i64 (aN : Int), .int .i64 v, .bool sh][i]? := Later.cell (O.get 0 rfl)
            have cs : ∀ p : Later W, p.1.cell? ⟨gs, aN, none⟩ = some (.int .i64 (st.sent aN)) := fun p => (Later.cell (O.get 4 rfl) p aN).trans (arrI_get _ _ _ (by omega))
            have ak := add_zero_ gs aN
            have r1 : IntKind.i64.wrap (st.sent aN + 1) = st.sent aN + 1 := IntWalk.i64_in _ (by have := HST.out.2.2 aN; omega)
            refine wp_quiet_tail_later 10 (by kernel_rfl) (by kernel_rfl) ?_
            simp only [List.take, List.drop]
            repeat (first
              | go_big_quiet_skip
              | go_big_quiet_step (fail))
            refine wpQuiet_nil ?_
            intro _ hw
            obtain ⟨p', rfl⟩ := hw
            replace O := O.keeps p'.2
            clear c12 cs ak r1
            generalize p'.1 = W at O ⊢
            go_wp2_with (first
              | (refine own_store 4 aN (.int .i64 (st.sent aN + 1)) (.tmp 83) (.tmp 82) O rfl rfl rfl rfl rfl rfl (by simp only [arrI_size]; omega) rfl rfl (by kernel_rfl) (arrI_set _ _ _ _) ?_; clear O; intro W O; simp only [List.set_cons_zero, List.set_cons_succ] at O))
            go_roundw
            case rel => exact ⟨k + 1, by omega, by go_num, by rw [HN.out], by rw [HN.out]; exact O.drop_ 1, HG.out⟩
            case measure => (simp [intOf] <;> omega)
          by_cases o6 : op = 6
          · subst o6
            cases hsh : sh with
            | true =>
              have hin := HIN.out
              simp [meantB, cnt] at hin
              have hB := HB.out
              obtain ⟨aN, rfl⟩ : ∃ aN : Nat, a = (aN : Int) := ⟨a.toNat, by omega⟩
              have g3 : ((aN : Nat) : Int) < (S.nr : Int) := by omega
              have g4 : (0 : Int) ≤ aN := by omega
              clear hin hB
              subst hsh
              cases hu : st.shut aN with
              | true =>
                have HG := Lib.hid (HGOOD.out (by rw [HO.out]; simp [bodyE, hu]))
                have HN := Lib.hid (show stN E (k + 1) = st by rw [HNX.out]; simp [nextE])
                have ak := add_zero_ gc aN
                go_wp2_with (first
                  | go_big_skip
                  | (refine wpList_load_at 37 rfl rfl rfl rfl (HC.out [] _ O.keep (by simp)) Try.underlying37 rfl (by kernel_rfl) ?_; simp only [Act.put, List.setIfInBounds_toArray, List.set_cons_zero, List.set_cons_succ])
                  | (refine own_alloc 12 (evC ⟨0, 0, 0, 0, false⟩) O rfl rfl rfl (fun _ => by kernel_rfl) ?_; clear O; intro W a12 O; simp only [Act.put, List.setIfInBounds_toArray, List.set_cons_zero, List.set_cons_succ])
                  | (refine own_store_row 0 (.tmp 12) (.tmp 37) O rfl rfl rfl rfl rfl rfl (by kernel_rfl) (by rfl) (evC_cell _) ?_; clear O; intro W O; simp only [List.set_cons_zero] at O; have c12 : ∀ i, W.cell? ⟨a12, i, none⟩ = #[Value.int .i64 who, .int .i64 6, .int .i64 (aN : Int), .int .i64 v, .bool true][i]? := (O.get 0 rfl).cell)
                  | (go_at_call 65; refine ((HI _).out).mono ?_; rintro e W ⟨rfl, rfl⟩)
                  | (refine own_loadG 44 5 O rfl rfl rfl rfl rfl Try.underlying27 rfl (by kernel_rfl) ?_; simp only [Act.put, List.setIfInBounds_toArray, List.set_cons_zero, List.set_cons_succ])
                  | (refine own_loadG 45 0 O rfl rfl rfl rfl rfl Try.underlying37 rfl (by kernel_rfl) ?_; simp only [Act.put, List.setIfInBounds_toArray, List.set_cons_zero, List.set_cons_succ])
                  | (go_at_call 93; refine ((HMe _).out).mono ?_; rintro e W ⟨rfl, K⟩; replace O := O.keeps K; clear K c12; have c12 : ∀ i, W.cell? ⟨a12, i, none⟩ = #[Value.int .i64 who, .int .i64 6, .int .i64 (aN : Int), .int .i64 v, .bool true][i]? := (O.get 0 rfl).cell; have cs : W.cell? ⟨gc, aN, none⟩ = some (.bool (st.shut aN)) := ((O.get 2 rfl).cell aN).trans (arrB_get _ _ _ (by omega)); rw [hu] at cs))
                clear c12 cs ak
                go_roundw
                case rel => exact ⟨k + 1, by omega, by go_num, by rw [HN.out], by rw [HN.out]; exact O.drop_ 1, HG.out⟩
                case measure => (simp [intOf] <;> omega)
              | false =>
                have HF := Lib.hid (HBAD.out (by rw [HO.out]; simp [bodyE, hu]))
                have ak := add_zero_ gc aN
                go_wp2_with (first
                  | go_big_skip
                  | (refine wpList_load_at 37 rfl rfl rfl rfl (HC.out [] _ O.keep (by simp)) Try.underlying37 rfl (by kernel_rfl) ?_; simp only [Act.put, List.setIfInBounds_toArray, List.set_cons_zero, List.set_cons_succ])
                  | (refine own_alloc 12 (evC ⟨0, 0, 0, 0, false⟩) O rfl rfl rfl (fun _ => by kernel_rfl) ?_; clear O; intro W a12 O; simp only [Act.put, List.setIfInBounds_toArray, List.set_cons_zero, List.set_cons_succ])
                  | (refine own_store_row 0 (.tmp 12) (.tmp 37) O rfl rfl rfl rfl rfl rfl (by kernel_rfl) (by rfl) (evC_cell _) ?_; clear O; intro W O; simp only [List.set_cons_zero] at O; have c12 : ∀ i, W.cell? ⟨a12, i, none⟩ = #[Value.int .i64 who, .int .i64 6, .int .i64 (aN : Int), .int .i64 v, .bool true][i]? := (O.get 0 rfl).cell)
                  | (go_at_call 65; refine ((HI _).out).mono ?_; rintro e W ⟨rfl, rfl⟩)
                  | (refine own_loadG 44 5 O rfl rfl rfl rfl rfl Try.underlying27 rfl (by kernel_rfl) ?_; simp only [Act.put, List.setIfInBounds_toArray, List.set_cons_zero, List.set_cons_succ])
                  | (refine own_loadG 45 0 O rfl rfl rfl rfl rfl Try.underlying37 rfl (by kernel_rfl) ?_; simp only [Act.put, List.setIfInBounds_toArray, List.set_cons_zero, List.set_cons_succ])
                  | (go_at_call 93; refine ((HMe _).out).mono ?_; rintro e W ⟨rfl, K⟩; replace O := O.keeps K; clear K c12; have c12 : ∀ i, W.cell? ⟨a12, i, none⟩ = #[Value.int .i64 who, .int .i64 6, .int .i64 (aN : Int), .int .i64 v, .bool true][i]? := (O.get 0 rfl).cell; have cs : W.cell? ⟨gc, aN, none⟩ = some (.bool (st.shut aN)) := ((O.get 2 rfl).cell aN).trans (arrB_get _ _ _ (by omega)); rw [hu] at cs))
                go_returns
                exact ⟨by rw [HF.out]; rfl, O.keep⟩
            | false =>
              have hin := HIN.out
              simp [meantB, cnt] at hin
              have hB := HB.out
              obtain ⟨aN, rfl⟩ : ∃ aN : Nat, a = (aN : Int) := ⟨a.toNat, by omega⟩
              have g3 : ((aN : Nat) : Int) < (S.nr : Int) := by omega
              have g4 : (0 : Int) ≤ aN := by omega
              clear hin hB
              subst hsh
              by_cases hu : st.sent aN ≤ st.took aN
              · have HF := Lib.hid (HBAD.out (by rw [HO.out]; simp [bodyE]; omega))
                go_wp2_with (first
                  | go_big_skip
                  | (refine wpList_load_at 37 rfl rfl rfl rfl (HC.out [] _ O.keep (by simp)) Try.underlying37 rfl (by kernel_rfl) ?_; simp only [Act.put, List.setIfInBounds_toArray, List.set_cons_zero, List.set_cons_succ])
                  | (refine own_alloc 12 (evC ⟨0, 0, 0, 0, false⟩) O rfl rfl rfl (fun _ => by kernel_rfl) ?_; clear O; intro W a12 O; simp only [Act.put, List.setIfInBounds_toArray, List.set_cons_zero, List.set_cons_succ])
                  | (refine own_store_row 0 (.tmp 12) (.tmp 37) O rfl rfl rfl rfl rfl rfl (by kernel_rfl) (by rfl) (evC_cell _) ?_; clear O; intro W O; simp only [List.set_cons_zero] at O; have c12 : ∀ i, W.cell? ⟨a12, i, none⟩ = #[Value.int .i64 who, .int .i64 6, .int .i64 (aN : Int), .int .i64 v, .bool false][i]? := (O.get 0 rfl).cell)
                  | (go_at_call 65; refine ((HI _).out).mono ?_; rintro e W ⟨rfl, rfl⟩)
                  | (refine own_loadG 44 5 O rfl rfl rfl rfl rfl Try.underlying27 rfl (by kernel_rfl) ?_; simp only [Act.put, List.setIfInBounds_toArray, List.set_cons_zero, List.set_cons_succ])
                  | (refine own_loadG 45 0 O rfl rfl rfl rfl rfl Try.underlying37 rfl (by kernel_rfl) ?_; simp only [Act.put, List.setIfInBounds_toArray, List.set_cons_zero, List.set_cons_succ])
                  | (go_at_call 93; refine ((HMe _).out).mono ?_; rintro e W ⟨rfl, K⟩; replace O := O.keeps K; clear K c12; have c12 : ∀ i, W.cell? ⟨a12, i, none⟩ = #[Value.int .i64 who, .int .i64 6, .int .i64 (aN : Int), .int .i64 v, .bool false][i]? := (O.get 0 rfl).cell))
                clear c12
                have c12 : ∀ (p : Later W) (i : Nat), p.1.cell? ⟨a12, i, none⟩ = #[Value.int .i64 who, .int .i64 6, .int .i64 (aN : Int), .int .i64 v, .bool false][i]? := Later.cell (O.get 0 rfl)
                have ak := add_zero_ gs aN
                have ak' := add_zero_ gt aN
                have cs : ∀ p : Later W, p.1.cell? ⟨gs, aN, none⟩ = some (.int .i64 (st.sent aN)) := fun p => (Later.cell (O.get 4 rfl) p aN).trans (arrI_get _ _ _ (by omega))
                have ct : ∀ p : Later W, p.1.cell? ⟨gt, aN, none⟩ = some (.int .i64 (st.took aN)) := fun p => (Later.cell (O.get 3 rfl) p aN).trans (arrI_get _ _ _ (by omega))
                refine wp_quiet_later (by kernel_rfl) (by kernel_rfl) ?_
                repeat (first
                  | go_big_quiet_skip
                  | go_big_quiet_step (fail))
                refine wpQuiet_nil ?_
                intro _ hw
                obtain ⟨p', rfl⟩ := hw
                replace O := O.keeps p'.2
                clear c12 cs ct ak ak'
                generalize p'.1 = W at O ⊢
                go_wp2_with (first | go_big_skip)
                go_returns
                exact ⟨by rw [HF.out]; rfl, O.keep⟩
              · have HG := Lib.hid (HGOOD.out (by rw [HO.out]; simp [bodyE]; omega))
                have HN := Lib.hid (show stN E (k + 1) = { st with took := updI st.took aN (st.took aN + 1) } by rw [HNX.out]; simp [nextE])
                go_wp2_with (first
                  | go_big_skip
                  | (refine wpList_load_at 37 rfl rfl rfl rfl (HC.out [] _ O.keep (by simp)) Try.underlying37 rfl (by kernel_rfl) ?_; simp only [Act.put, List.setIfInBounds_toArray, List.set_cons_zero, List.set_cons_succ])
                  | (refine own_alloc 12 (evC ⟨0, 0, 0, 0, false⟩) O rfl rfl rfl (fun _ => by kernel_rfl) ?_; clear O; intro W a12 O; simp only [Act.put, List.setIfInBounds_toArray, List.set_cons_zero, List.set_cons_succ])
                  | (refine own_store_row 0 (.tmp 12) (.tmp 37) O rfl rfl rfl rfl rfl rfl (by kernel_rfl) (by rfl) (evC_cell _) ?_; clear O; intro W O; simp only [List.set_cons_zero] at O; have c12 : ∀ i, W.cell? ⟨a12, i, none⟩ = #[Value.int .i64 who, .int .i64 6, .int .i64 (aN : Int), .int .i64 v, .bool false][i]? := (O.get 0 rfl).cell)
                  | (go_at_call 65; refine ((HI _).out).mono ?_; rintro e W ⟨rfl, rfl⟩)
                  | (refine own_loadG 44 5 O rfl rfl rfl rfl rfl Try.underlying27 rfl (by kernel_rfl) ?_; simp only [Act.put, List.setIfInBounds_toArray, List.set_cons_zero, List.set_cons_succ])
                  | (refine own_loadG 45 0 O rfl rfl rfl rfl rfl Try.underlying37 rfl (by kernel_rfl) ?_; simp only [Act.put, List.setIfInBounds_toArray, List.set_cons_zero, List.set_cons_succ])
                  | (go_at_call 93; refine ((HMe _).out).mono ?_; rintro e W ⟨rfl, K⟩; replace O := O.keeps K; clear K c12; have c12 : ∀ i, W.cell? ⟨a12, i, none⟩ = #[Value.int .i64 who, .int .i64 6, .int .i64 (aN : Int), .int .i64 v, .bool false][i]? := (O.get 0 rfl).cell))
                clear c12
                have c12 : ∀ (p : Later W) (i : Nat), p.1.cell? ⟨a12, i, none⟩ = #[Value.int .i64 who, .int .i64 6, .int .i64 (aN : Int), .int .i64 v, .bool false][i]? := Later.cell (O.get 0 rfl)
                have ak := add_zero_ gs aN
                have ak' := add_zero_ gt aN
                have cs : ∀ p : Later W, p.1.cell? ⟨gs, aN, none⟩ = some (.int .i64 (st.sent aN)) := fun p => (Later.cell (O.get 4 rfl) p aN).trans (arrI_get _ _ _ (by omega))
                have ct : ∀ p : Later W, p.1.cell? ⟨gt, aN, none⟩ = some (.int .i64 (st.took aN)) := fun p => (Later.cell (O.get 3 rfl) p aN).trans (arrI_get _ _ _ (by omega))
                refine wp_quiet_later (by kernel_rfl) (by kernel_rfl) ?_
                repeat (first
                  | go_big_quiet_skip
                  | go_big_quiet_step (fail))
                refine wpQuiet_nil ?_
                intro _ hw
                obtain ⟨p', rfl⟩ := hw
                replace O := O.keeps p'.2
                clear c12 cs ct ak ak'
                generalize p'.1 = W at O ⊢
                go_wp2_with (first | go_big_skip)
                have c12 : ∀ (p : Later W) (i : Nat), p.1.cell? ⟨a12, i, none⟩ = #[Value.int .i64 who, .int .i64 6, .int .i64 (aN : Int), .int .i64 v, .bool false][i]? := Later.cell (O.get 0 rfl)
                have cs : ∀ p : Later W, p.1.cell? ⟨gt, aN, none⟩ = some (.int .i64 (st.took aN)) := fun p => (Later.cell (O.get 3 rfl) p aN).trans (arrI_get _ _ _ (by omega))
                have ak := add_zero_ gt aN
                have r1 : IntKind.i64.wrap (st.took aN + 1) = st.took aN + 1 := IntWalk.i64_in _ (by have := HST.out.2.2 aN; omega)
                refine wp_quiet_tail_later 10 (by kernel_rfl) (by kernel_rfl) ?_
                simp only [List.take, List.drop]
                repeat (first
                  | go_big_quiet_skip
                  | go_big_quiet_step (fail))
                refine wpQuiet_nil ?_
                intro _ hw
                obtain ⟨p', rfl⟩ := hw
                replace O := O.keeps p'.2
                clear c12 cs ak r1
                generalize p'.1 = W at O ⊢
                go_wp2_with (first
                  | (refine own_store 3 aN (.int .i64 (st.took aN + 1)) (.tmp 124) (.tmp 123) O rfl rfl rfl rfl rfl rfl (by simp only [arrI_size]; omega) rfl rfl (by kernel_rfl) (arrI_set _ _ _ _) ?_; clear O; intro W O; simp only [List.set_cons_zero, List.set_cons_succ] at O))
                go_roundw
                case rel => exact ⟨k + 1, by omega, by go_num, by rw [HN.out], by rw [HN.out]; exact O.drop_ 1, HG.out⟩
                case measure => (simp [intOf] <;> omega)
          by_cases o7 : op = 7
          · subst o7
            have HG := Lib.hid (HGOOD.out (by rw [HO.out]; simp [bodyE]))
            have HN := Lib.hid (show stN E (k + 1) = { st with shut := updI st.shut a true } by rw [HNX.out]; simp [nextE])
            have hin := HIN.out
            simp [meantB, cnt] at hin
            have hB := HB.out
            obtain ⟨aN, rfl⟩ : ∃ aN : Nat, a = (aN : Int) := ⟨a.toNat, by omega⟩
            have g3 : ((aN : Nat) : Int) < (S.nr : Int) := by omega
            have g4 : (0 : Int) ≤ aN := by omega
            clear hin hB
            have ak := add_zero_ gc aN
            go_wp2_with (first
              | go_big_skip
              | (refine wpList_load_at 37 rfl rfl rfl rfl (HC.out [] _ O.keep (by simp)) Try.underlying37 rfl (by kernel_rfl) ?_; simp only [Act.put, List.setIfInBounds_toArray, List.set_cons_zero, List.set_cons_succ])
              | (refine own_alloc 12 (evC ⟨0, 0, 0, 0, false⟩) O rfl rfl rfl (fun _ => by kernel_rfl) ?_; clear O; intro W a12 O; simp only [Act.put, List.setIfInBounds_toArray, List.set_cons_zero, List.set_cons_succ])
              | (refine own_store_row 0 (.tmp 12) (.tmp 37) O rfl rfl rfl rfl rfl rfl (by kernel_rfl) (by rfl) (evC_cell _) ?_; clear O; intro W O; simp only [List.set_cons_zero] at O; have c12 : ∀ i, W.cell? ⟨a12, i, none⟩ = #[Value.int .i64 who, .int .i64 7, .int .i64 (aN : Int), .int .i64 v, .bool sh][i]? := (O.get 0 rfl).cell)
              | (go_at_call 65; refine ((HI _).out).mono ?_; rintro e W ⟨rfl, rfl⟩)
              | (refine own_loadG 44 5 O rfl rfl rfl rfl rfl Try.underlying27 rfl (by kernel_rfl) ?_; simp only [Act.put, List.setIfInBounds_toArray, List.set_cons_zero, List.set_cons_succ])
              | (refine own_loadG 45 0 O rfl rfl rfl rfl rfl Try.underlying37 rfl (by kernel_rfl) ?_; simp only [Act.put, List.setIfInBounds_toArray, List.set_cons_zero, List.set_cons_succ])
              | (go_at_call 93; refine ((HMe _).out).mono ?_; rintro e W ⟨rfl, K⟩; replace O := O.keeps K; clear K c12; have c12 : ∀ i, W.cell? ⟨a12, i, none⟩ = #[Value.int .i64 who, .int .i64 7, .int .i64 (aN : Int), .int .i64 v, .bool sh][i]? := (O.get 0 rfl).cell)
              | (refine own_store 2 aN (.bool true) (.tmp 132) (.const (.bool true)) O rfl rfl rfl rfl rfl rfl (by simp only [arrB_size]; omega) rfl rfl (by kernel_rfl) (arrB_set _ _ _ _) ?_; clear O; intro W O; simp only [List.set_cons_zero, List.set_cons_succ] at O))
            clear c12 ak
            go_roundw
            case rel => exact ⟨k + 1, by omega, by go_num, by rw [HN.out], by rw [HN.out]; exact O.drop_ 1, HG.out⟩
            case measure => (simp [intOf] <;> omega)
          by_cases o8 : op = 8
          · subst o8
            have hin := HIN.out
            simp [meantB, cnt] at hin
            have hB := HB.out
            obtain ⟨aN, rfl⟩ : ∃ aN : Nat, a = (aN : Int) := ⟨a.toNat, by omega⟩
            have g3 : ((aN : Nat) : Int) < (lkN : Int) := by rw [HLK.out] at hin; omega
            have g4 : (0 : Int) ≤ aN := by omega
            clear hin hB
            cases hu : st.held aN with
            | true =>
              have HF := Lib.hid (HBAD.out (by rw [HO.out]; simp [bodyE, hu]))
              have ak := add_zero_ gh aN
              go_wp2_with (first
                | go_big_skip
                | (refine wpList_load_at 37 rfl rfl rfl rfl (HC.out [] _ O.keep (by simp)) Try.underlying37 rfl (by kernel_rfl) ?_; simp only [Act.put, List.setIfInBounds_toArray, List.set_cons_zero, List.set_cons_succ])
                | (refine own_alloc 12 (evC ⟨0, 0, 0, 0, false⟩) O rfl rfl rfl (fun _ => by kernel_rfl) ?_; clear O; intro W a12 O; simp only [Act.put, List.setIfInBounds_toArray, List.set_cons_zero, List.set_cons_succ])
                | (refine own_store_row 0 (.tmp 12) (.tmp 37) O rfl rfl rfl rfl rfl rfl (by kernel_rfl) (by rfl) (evC_cell _) ?_; clear O; intro W O; simp only [List.set_cons_zero] at O; have c12 : ∀ i, W.cell? ⟨a12, i, none⟩ = #[Value.int .i64 who, .int .i64 8, .int .i64 (aN : Int), .int .i64 v, .bool sh][i]? := (O.get 0 rfl).cell)
                | (go_at_call 65; refine ((HI _).out).mono ?_; rintro e W ⟨rfl, rfl⟩)
                | (refine own_loadG 44 5 O rfl rfl rfl rfl rfl Try.underlying27 rfl (by kernel_rfl) ?_; simp only [Act.put, List.setIfInBounds_toArray, List.set_cons_zero, List.set_cons_succ])
                | (refine own_loadG 45 0 O rfl rfl rfl rfl rfl Try.underlying37 rfl (by kernel_rfl) ?_; simp only [Act.put, List.setIfInBounds_toArray, List.set_cons_zero, List.set_cons_succ])
                | (go_at_call 93; refine ((HMe _).out).mono ?_; rintro e W ⟨rfl, K⟩; replace O := O.keeps K; clear K c12; have c12 : ∀ i, W.cell? ⟨a12, i, none⟩ = #[Value.int .i64 who, .int .i64 8, .int .i64 (aN : Int), .int .i64 v, .bool sh][i]? := (O.get 0 rfl).cell; have cs : W.cell? ⟨gh, aN, none⟩ = some (.bool (st.held aN)) := ((O.get 1 rfl).cell aN).trans (arrB_get _ _ _ (by omega)); rw [hu] at cs))
              go_returns
              exact ⟨by rw [HF.out]; rfl, O.keep⟩
            | false =>
              have HG := Lib.hid (HGOOD.out (by rw [HO.out]; simp [bodyE, hu]))
              have HN := Lib.hid (show stN E (k + 1) = { st with held := updI st.held aN true } by rw [HNX.out]; simp [nextE])
              have ak := add_zero_ gh aN
              go_wp2_with (first
                | go_big_skip
                | (refine wpList_load_at 37 rfl rfl rfl rfl (HC.out [] _ O.keep (by simp)) Try.underlying37 rfl (by kernel_rfl) ?_; simp only [Act.put, List.setIfInBounds_toArray, List.set_cons_zero, List.set_cons_succ])
                | (refine own_alloc 12 (evC ⟨0, 0, 0, 0, false⟩) O rfl rfl rfl (fun _ => by kernel_rfl) ?_; clear O; intro W a12 O; simp only [Act.put, List.setIfInBounds_toArray, List.set_cons_zero, List.set_cons_succ])
                | (refine own_store_row 0 (.tmp 12) (.tmp 37) O rfl rfl rfl rfl rfl rfl (by kernel_rfl) (by rfl) (evC_cell _) ?_; clear O; intro W O; simp only [List.set_cons_zero] at O; have c12 : ∀ i, W.cell? ⟨a12, i, none⟩ = #[Value.int .i64 who, .int .i64 8, .int .i64 (aN : Int), .int .i64 v, .bool sh][i]? := (O.get 0 rfl).cell)
                | (go_at_call 65; refine ((HI _).out).mono ?_; rintro e W ⟨rfl, rfl⟩)
                | (refine own_loadG 44 5 O rfl rfl rfl rfl rfl Try.underlying27 rfl (by kernel_rfl) ?_; simp only [Act.put, List.setIfInBounds_toArray, List.set_cons_zero, List.set_cons_succ])
                | (refine own_loadG 45 0 O rfl rfl rfl rfl rfl Try.underlying37 rfl (by kernel_rfl) ?_; simp only [Act.put, List.setIfInBounds_toArray, List.set_cons_zero, List.set_cons_succ])
                | (go_at_call 93; refine ((HMe _).out).mono ?_; rintro e W ⟨rfl, K⟩; replace O := O.keeps K; clear K c12; have c12 : ∀ i, W.cell? ⟨a12, i, none⟩ = #[Value.int .i64 who, .int .i64 8, .int .i64 (aN : Int), .int .i64 v, .bool sh][i]? := (O.get 0 rfl).cell; have cs : W.cell? ⟨gh, aN, none⟩ = some (.bool (st.held aN)) := ((O.get 1 rfl).cell aN).trans (arrB_get _ _ _ (by omega)); rw [hu] at cs)
                | (refine own_store 1 aN (.bool true) (.tmp 146) (.const (.bool true)) O rfl rfl rfl rfl rfl rfl (by simp only [arrB_size]; omega) rfl rfl (by kernel_rfl) (arrB_set _ _ _ _) ?_; clear O; intro W O; simp only [List.set_cons_zero, List.set_cons_succ] at O))
              clear c12 ak
              go_roundw
              case rel => exact ⟨k + 1, by omega, by go_num, by rw [HN.out], by rw [HN.out]; exact O.drop_ 1, HG.out⟩
              case measure => (simp [intOf] <;> omega)
          by_cases o9 : op = 9
          · subst o9
            have HG := Lib.hid (HGOOD.out (by rw [HO.out]; simp [bodyE]))
            have HN := Lib.hid (show stN E (k + 1) = { st with held := updI st.held a false } by rw [HNX.out]; simp [nextE])
            have hin := HIN.out
            simp [meantB, cnt] at hin
            have hB := HB.out
            obtain ⟨aN, rfl⟩ : ∃ aN : Nat, a = (aN : Int) := ⟨a.toNat, by omega⟩
            have g3 : ((aN : Nat) : Int) < (lkN : Int) := by rw [HLK.out] at hin; omega
            have g4 : (0 : Int) ≤ aN := by omega
            clear hin hB
            have ak := add_zero_ gh aN
            go_wp2_with (first
              | go_big_skip
              | (refine wpList_load_at 37 rfl rfl rfl rfl (HC.out [] _ O.keep (by simp)) Try.underlying37 rfl (by kernel_rfl) ?_; simp only [Act.put, List.setIfInBounds_toArray, List.set_cons_zero, List.set_cons_succ])
              | (refine own_alloc 12 (evC ⟨0, 0, 0, 0, false⟩) O rfl rfl rfl (fun _ => by kernel_rfl) ?_; clear O; intro W a12 O; simp only [Act.put, List.setIfInBounds_toArray, List.set_cons_zero, List.set_cons_succ])
              | (refine own_store_row 0 (.tmp 12) (.tmp 37) O rfl rfl rfl rfl rfl rfl (by kernel_rfl) (by rfl) (evC_cell _) ?_; clear O; intro W O; simp only [List.set_cons_zero] at O; have c12 : ∀ i, W.cell? ⟨a12, i, none⟩ = #[Value.int .i64 who, .int .i64 9, .int .i64 (aN : Int), .int .i64 v, .bool sh][i]? := (O.get 0 rfl).cell)
              | (go_at_call 65; refine ((HI _).out).mono ?_; rintro e W ⟨rfl, rfl⟩)
              | (refine own_loadG 44 5 O rfl rfl rfl rfl rfl Try.underlying27 rfl (by kernel_rfl) ?_; simp only [Act.put, List.setIfInBounds_toArray, List.set_cons_zero, List.set_cons_succ])
              | (refine own_loadG 45 0 O rfl rfl rfl rfl rfl Try.underlying37 rfl (by kernel_rfl) ?_; simp only [Act.put, List.setIfInBounds_toArray, List.set_cons_zero, List.set_cons_succ])
              | (go_at_call 93; refine ((HMe _).out).mono ?_; rintro e W ⟨rfl, K⟩; replace O := O.keeps K; clear K c12; have c12 : ∀ i, W.cell? ⟨a12, i, none⟩ = #[Value.int .i64 who, .int .i64 9, .int .i64 (aN : Int), .int .i64 v, .bool sh][i]? := (O.get 0 rfl).cell)
              | (refine own_store 1 aN (.bool false) (.tmp 154) (.const (.bool false)) O rfl rfl rfl rfl rfl rfl (by simp only [arrB_size]; omega) rfl rfl (by kernel_rfl) (arrB_set _ _ _ _) ?_; clear O; intro W O; simp only [List.set_cons_zero, List.set_cons_succ] at O))
            clear c12 ak
            go_roundw
            case rel => exact ⟨k + 1, by omega, by go_num, by rw [HN.out], by rw [HN.out]; exact O.drop_ 1, HG.out⟩
            case measure => (simp [intOf] <;> omega)
          have HG := Lib.hid (HGOOD.out (by rw [HO.out]; simp [bodyE, o14, o6, o8]))
          have HN := Lib.hid (show stN E (k + 1) = st by rw [HNX.out]; simp [nextE, o14, o5, o6, o7, o8, o9])
          go_wp2_with (first
            | go_big_skip
            | (refine wpList_load_at 37 rfl rfl rfl rfl (HC.out [] _ O.keep (by simp)) Try.underlying37 rfl (by kernel_rfl) ?_; simp only [Act.put, List.setIfInBounds_toArray, List.set_cons_zero, List.set_cons_succ])
            | (refine own_alloc 12 (evC ⟨0, 0, 0, 0, false⟩) O rfl rfl rfl (fun _ => by kernel_rfl) ?_; clear O; intro W a12 O; simp only [Act.put, List.setIfInBounds_toArray, List.set_cons_zero, List.set_cons_succ])
            | (refine own_store_row 0 (.tmp 12) (.tmp 37) O rfl rfl rfl rfl rfl rfl (by kernel_rfl) (by rfl) (evC_cell _) ?_; clear O; intro W O; simp only [List.set_cons_zero] at O; have c12 : ∀ i, W.cell? ⟨a12, i, none⟩ = #[Value.int .i64 who, .int .i64 op, .int .i64 a, .int .i64 v, .bool sh][i]? := (O.get 0 rfl).cell)
            | (go_at_call 65; refine ((HI _).out).mono ?_; rintro e W ⟨rfl, rfl⟩)
            | (refine own_loadG 44 5 O rfl rfl rfl rfl rfl Try.underlying27 rfl (by kernel_rfl) ?_; simp only [Act.put, List.setIfInBounds_toArray, List.set_cons_zero, List.set_cons_succ])
            | (refine own_loadG 45 0 O rfl rfl rfl rfl rfl Try.underlying37 rfl (by kernel_rfl) ?_; simp only [Act.put, List.setIfInBounds_toArray, List.set_cons_zero, List.set_cons_succ])
            | (go_at_call 93; refine ((HMe _).out).mono ?_; rintro e W ⟨rfl, K⟩; replace O := O.keeps K; clear K c12; have c12 : ∀ i, W.cell? ⟨a12, i, none⟩ = #[Value.int .i64 who, .int .i64 op, .int .i64 a, .int .i64 v, .bool sh][i]? := (O.get 0 rfl).cell))
          clear c12
          go_roundw
          case rel => exact ⟨k + 1, by omega, by go_num, by rw [HN.out], by rw [HN.out]; exact O.drop_ 1, HG.out⟩
          case measure => (simp [intOf] <;> omega)
    · obtain rfl : k = n := by omega
      have HT := Lib.hid (flt_none HMk.out)
      go_wp2
      go_returns
      exact ⟨by rw [HT.out]; rfl, O.keep⟩
end
end Go.Proofs.Ytakmcpadkanggaa
