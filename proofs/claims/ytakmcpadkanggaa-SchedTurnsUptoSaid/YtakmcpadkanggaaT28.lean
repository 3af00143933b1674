/-
  A run's world: where its parts lie; a runner's instruction; what can be done; the number of a cell.
-/
import Derived.Test.YtakmcpadkanggaaT27
import Derived.Handy
namespace Go.Proofs.Ytakmcpadkanggaa
open Go.RowKit Go.Maps Go.Deep

structure Ly where
  ps : Nat
  wp : Nat
  bp : Nat
  bl : Nat
  bg : Nat
  bc : Nat
  lk : Nat
  gr : Nat
  ce : Nat
def wpC (y : Ly) (nr gw n cw : Nat) (evs : Value) : Array Value := #[.pointer (some ⟨y.ps, 0, none⟩), .slice (some ⟨gw, 0, none⟩) n cw, .slice (some ⟨y.bp, 0, none⟩) nr nr, .slice (some ⟨y.bl, 0, none⟩) y.lk y.lk, .slice (some ⟨y.bg, 0, none⟩) y.gr y.gr, .slice (some ⟨y.bc, 0, none⟩) y.ce y.ce, evs]
def instC (f : Nat → Int) : Array Value := #[.int .i64 (f 0), .int .i64 (f 1), .int .i64 (f 2), .int .i64 (f 3)]
def instV : Option (Nat → Int) → Array Value
  | none => instC fun _ => 0
  | some f => instC f
theorem instC_get (f : Nat → Int) (j : Nat) (h : j < 4) : (instC f)[j]? = some (.int .i64 (f j)) := by
  match j, h with
  | 0, _ => rfl
  | 1, _ => rfl
  | 2, _ => rfl
  | 3, _ => rfl
theorem mod_twice (v : Int) (c : Nat) (h : 0 < c) (h' : c ≤ 64) : (wrap64 (v.tmod c + c)).tmod c = v % (c : Int) := by
  have h0 : (0 : Int) < c := by omega
  have h1 := Int.tmod_lt_of_pos v h0
  have h2 := Int.lt_tmod_of_pos v h0
  have e : wrap64 (v.tmod c + c) = v.tmod c + c := IntWalk.wrap64_in _ (by omega)
  rw [e, Int.tmod_eq_emod_of_nonneg (by omega), Int.add_emod_right]
  have h3 := Int.mul_tdiv_add_tmod v c
  conv => rhs; rw [← h3, Int.add_comm, Int.add_mul_emod_self_left]
theorem instC_cell (f : Nat → Int) : ∀ v ∈ (instC f).toList, v.oneCell' = true := by
  intro v hv
  simp [instC] at hv
  rcases hv with rfl | rfl | rfl | rfl <;> rfl
section
variable {w W : World} {S : Sys} {A : Option Addr} {c : Nat} {R : Option Addr} {d : Nat} {y : Ly} {gw n cw : Nat} {cur : Array Value} {evs : Value} {rs : Nat → Rn}
set_option maxRecDepth 100000 in
set_option maxHeartbeats 1000000 in
theorem wnext_any (hw : Blk W y.wp 110 (wpC y S.nr gw n cw evs)) (hg : Blk W gw 174 cur) (hs : Blk W y.ps 27 (sysV S A c R d)) (hS : SysIn W S A c R d) (hC : WhoC cur n rs) {k : Nat} (hk : k < n) (hp : (rs k).prog < S.np) :
    Calls Try.prog 103 #[.pointer (some ⟨y.wp, 0, none⟩), .pointer (some ⟨gw, k * 10, none⟩)] W fun e W' => e = .returned (.tuple #[.agg (instV (instP S (rs k))), .bool (instP S (rs k)).isSome]) ∧ Keeps W W' [] := by
  have O := Own.start W []
  obtain ⟨ad, rfl, hb, hpr⟩ := hS.progs (by omega)
  obtain ⟨B, cB, h1, h2, h3, hI⟩ := hpr _ hp
  have hq : (S.lp (rs k).prog : Int) ≤ 9223372036854775807 := by simp only [maxLen] at h3; omega
  have HW := Lib.hid hw
  have HG := Lib.hid hg
  have HS := Lib.hid hs
  have HC := Lib.hid hC
  have HK := Lib.hid hk
  have H1 := Lib.hid h1
  have HB := Lib.hid hb
  have HI := Lib.hid hI
  have g1 : ((rs k).prog : Int) < S.np := by omega
  have g2 : (0 : Int) ≤ (rs k).prog := by omega
  have HR := Lib.hid (show instP S (rs k) = if (rs k).pos < S.lp (rs k).prog then some (S.q (rs k).prog (rs k).pos) else none from rfl)
  clear hw hg hs hS hC hk h1 hb hI hpr h2 h3 hp
  generalize hr : instP S (rs k) = r at HR ⊢
  clear hr
  by_cases hlt : (rs k).pos < S.lp (rs k).prog
  · have HF := Lib.hid (show r = some (S.q (rs k).prog (rs k).pos) by rw [HR.out, if_pos hlt])
    obtain ⟨bd, rfl, hbb, hi⟩ := HI.out (by omega)
    have HJ := Lib.hid (hi (rs k).pos)
    have HBB := Lib.hid hbb
    have g3 : ((rs k).pos : Int) < S.lp (rs k).prog := by omega
    have g4 : (0 : Int) ≤ (rs k).pos := by omega
    have g5 : ¬ (S.lp (rs k).prog : Int) ≤ (rs k).pos := by omega
    clear hi hbb hlt
    go_enter Try.func103, Try.ntmps103
    go_wp2_with (first
      | go_big_skip
      | (refine own_alloc 4 (instC fun _ => 0) O rfl rfl rfl (fun _ => by kernel_rfl) ?_; clear O; intro V a4 O; simp only [Act.put, List.setIfInBounds_toArray, List.set_cons_zero, List.set_cons_succ]))
    have K0 := O.keep
    have cw : ∀ (p : Later V) i, p.1.cell? ⟨y.wp, i, none⟩ = #[Value.pointer (some ⟨y.ps, 0, none⟩), .slice (some ⟨gw, 0, none⟩) n cw, .slice (some ⟨y.bp, 0, none⟩) S.nr S.nr, .slice (some ⟨y.bl, 0, none⟩) y.lk y.lk, .slice (some ⟨y.bg, 0, none⟩) y.gr y.gr, .slice (some ⟨y.bc, 0, none⟩) y.ce y.ce, evs][i]? := Later.cell (HW.out.keeps K0 (by simp))
    have cs : ∀ (p : Later V) i, p.1.cell? ⟨y.ps, i, none⟩ = #[Value.slice (some ad) S.np c, .slice R S.nr d, .int .i64 S.gr, .int .i64 S.lk, .int .i64 S.ce][i]? := Later.cell (HS.out.keeps K0 (by simp))
    have c1 : ∀ p : Later V, p.1.cell? ⟨gw, k * 10, none⟩ = some (.int .i64 (rs k).prog) := fun p => (Later.cell (HG.out.keeps K0 (by simp)) p _).trans (HC.out.prog HK.out)
    have c3 : ∀ p : Later V, p.1.cell? (ad.add (rs k).prog) = some (.slice (some bd) (S.lp (rs k).prog) cB) := fun p => ((K0.trans p.2 (by simp)).cellAt (by rw [add_block]; exact HB.out) (by simp)).trans H1.out
    refine wp_quiet_later (by kernel_rfl) (by kernel_rfl) ?_
    repeat (first
      | go_big_quiet_skip
      | go_big_quiet_step (fail))
    refine wpQuiet_nil ?_
    intro _ hw
    obtain ⟨p', rfl⟩ := hw
    replace O := O.keeps p'.2
    clear cw cs c1 c3 K0
    generalize p'.1 = V at O ⊢
    have K0 := O.keep
    have c2 : V.cell? ⟨gw, k * 10 + 1, none⟩ = some (.int .i64 (rs k).pos) := ((HG.out.keeps K0 (by simp)).cell _).trans (HC.out.pos HK.out)
    have HL := Lib.hid (show ∀ j, j < 4 → V.cell? (bd.add ((rs k).pos * 4 + j)) = some (.int .i64 (S.q (rs k).prog (rs k).pos j)) from fun j hj => (K0.cellAt (by rw [add_block]; exact HBB.out) (by simp)).trans (HJ.out j (by omega) hj))
    clear K0
    go_wp2_with (first
      | go_big_skip
      | (refine wpList_load_at 34 (cs := instC (S.q (rs k).prog (rs k).pos)) rfl rfl rfl rfl ?_ Try.underlying99 rfl (by kernel_rfl) ?_; exact (fun j hj => by rw [Addr.add_add]; exact (HL.out j hj).trans (instC_get _ _ hj).symm); simp only [Act.put, List.setIfInBounds_toArray, List.set_cons_zero, List.set_cons_succ])
      | (refine own_store_row 0 (.tmp 4) (.tmp 34) O rfl rfl rfl rfl rfl rfl (by kernel_rfl) (by rfl) (instC_cell _) ?_; clear O; intro V O; simp only [List.set_cons_zero] at O))
    clear c2
    rw [HF.out]
    refine bodyPost_ret (v := .tuple #[.agg (instC (S.q (rs k).prog (rs k).pos)), .bool true]) (results_cell_tmp rfl _ _ a4 99 _ _ rfl (O.get 0 rfl) Try.underlying99 rfl (by kernel_rfl) _ rfl) rfl ⟨rfl, O.keep⟩
  · have HF := Lib.hid (show r = none by rw [HR.out, if_neg hlt])
    have g3 : (S.lp (rs k).prog : Int) ≤ (rs k).pos := by omega
    clear hlt
    go_enter Try.func103, Try.ntmps103
    go_wp2_with (first
      | go_big_skip
      | (refine own_alloc 4 (instC fun _ => 0) O rfl rfl rfl (fun _ => by kernel_rfl) ?_; clear O; intro V a4 O; simp only [Act.put, List.setIfInBounds_toArray, List.set_cons_zero, List.set_cons_succ]))
    have K0 := O.keep
    have cw : ∀ (p : Later V) i, p.1.cell? ⟨y.wp, i, none⟩ = #[Value.pointer (some ⟨y.ps, 0, none⟩), .slice (some ⟨gw, 0, none⟩) n cw, .slice (some ⟨y.bp, 0, none⟩) S.nr S.nr, .slice (some ⟨y.bl, 0, none⟩) y.lk y.lk, .slice (some ⟨y.bg, 0, none⟩) y.gr y.gr, .slice (some ⟨y.bc, 0, none⟩) y.ce y.ce, evs][i]? := Later.cell (HW.out.keeps K0 (by simp))
    have cs : ∀ (p : Later V) i, p.1.cell? ⟨y.ps, i, none⟩ = #[Value.slice (some ad) S.np c, .slice R S.nr d, .int .i64 S.gr, .int .i64 S.lk, .int .i64 S.ce][i]? := Later.cell (HS.out.keeps K0 (by simp))
    have c1 : ∀ p : Later V, p.1.cell? ⟨gw, k * 10, none⟩ = some (.int .i64 (rs k).prog) := fun p => (Later.cell (HG.out.keeps K0 (by simp)) p _).trans (HC.out.prog HK.out)
    have c3 : ∀ p : Later V, p.1.cell? (ad.add (rs k).prog) = some (.slice B (S.lp (rs k).prog) cB) := fun p => ((K0.trans p.2 (by simp)).cellAt (by rw [add_block]; exact HB.out) (by simp)).trans H1.out
    refine wp_quiet_later (by kernel_rfl) (by kernel_rfl) ?_
    repeat (first
      | go_big_quiet_skip
      | go_big_quiet_step (fail))
    refine wpQuiet_nil ?_
    intro _ hw
    obtain ⟨p', rfl⟩ := hw
    replace O := O.keeps p'.2
    clear cw cs c1 c3 K0
    generalize p'.1 = V at O ⊢
    have K0 := O.keep
    have c2 : V.cell? ⟨gw, k * 10 + 1, none⟩ = some (.int .i64 (rs k).pos) := ((HG.out.keeps K0 (by simp)).cell _).trans (HC.out.pos HK.out)
    clear K0
    go_wp2_with (first
      | go_big_skip
      | (refine wpList_const 27 (.agg (instC fun _ => 0)) rfl rfl (fun _ => by kernel_rfl) ?_; simp only [Act.put, List.setIfInBounds_toArray, List.set_cons_zero, List.set_cons_succ])
      | (refine own_store_row 0 (.tmp 4) (.tmp 27) O rfl rfl rfl rfl rfl rfl (by kernel_rfl) (by rfl) (instC_cell _) ?_; clear O; intro V O; simp only [List.set_cons_zero] at O))
    clear c2
    rw [HF.out]
    refine bodyPost_ret (v := .tuple #[.agg (instC fun _ => 0), .bool false]) (results_cell_tmp rfl _ _ a4 99 _ _ rfl (O.get 0 rfl) Try.underlying99 rfl (by kernel_rfl) _ rfl) rfl ⟨rfl, O.keep⟩

set_option maxRecDepth 100000 in
theorem wcell_any (hw : Blk W y.wp 110 (wpC y S.nr gw n cw evs)) (v : Int) (hce : 0 < y.ce) (hc : y.ce ≤ 64) : Calls Try.prog 107 #[.pointer (some ⟨y.wp, 0, none⟩), .int .i64 v] W fun e W' => e = .returned (.int .i64 (v % (y.ce : Int))) ∧ Keeps W W' [] := by
  have cw : ∀ (p : Later W) i, p.1.cell? ⟨y.wp, i, none⟩ = #[Value.pointer (some ⟨y.ps, 0, none⟩), .slice (some ⟨gw, 0, none⟩) n cw, .slice (some ⟨y.bp, 0, none⟩) S.nr S.nr, .slice (some ⟨y.bl, 0, none⟩) y.lk y.lk, .slice (some ⟨y.bg, 0, none⟩) y.gr y.gr, .slice (some ⟨y.bc, 0, none⟩) y.ce y.ce, evs][i]? := Later.cell hw
  have hm := mod_twice v y.ce hce hc
  have O := Own.start W []
  clear hw
  go_enter Try.func107, Try.ntmps107
  go_wp2_with (first
    | go_big_skip)
  refine wp_quiet_later (by kernel_rfl) (by kernel_rfl) ?_
  repeat (first
    | go_big_quiet_skip
    | go_big_quiet_step (fail))
  refine wpQuiet_nil ?_
  intro _ hw
  obtain ⟨p', rfl⟩ := hw
  replace O := O.keeps p'.2
  clear cw
  generalize p'.1 = V at O ⊢
  go_wp2
  go_ret
  exact ⟨rfl, O.keep⟩
end
end Go.Proofs.Ytakmcpadkanggaa
