/-
  Two runs compared, where they are the same.
-/
import Derived.Test.YtakmcpadkanggaaT41
namespace Go.Proofs.Ytakmcpadkanggaa
open Go.ChangeShapes Go.WideShapes Go.RowKit Go.Maps Go.Deep

theorem lE_get {l : List Ev} {k : Nat} (h : k < l.length) : l[k]? = some (lE l k) := by simp [lE, List.getD_eq_getElem?_getD, h]
section
variable {w : World}
set_option maxRecDepth 100000 in
theorem ints_same (v v' : Value) (xs : List Int) (hn : xs.length ≤ 1000000) (h : IntL w v xs) (h' : IntL w v' xs) : Calls Try.prog 59 #[v, v'] w fun e w' => e = .returned (.bool true) ∧ Keeps w w' [] := by
  obtain ⟨A, c, rfl, hx⟩ := h
  obtain ⟨A', c', rfl, hx'⟩ := h'
  generalize hl : xs.length = m at *
  have HX := Lib.hid hx
  have HX' := Lib.hid hx'
  clear hx hx' hl
  go_enter Try.func59, Try.ntmps59
  go_wp2
  go_loopw [5] (fun i wr => ∃ k : Nat, k ≤ m ∧ i = .int .i64 k ∧ Keeps w wr []) (fun i _ => m - (intOf i).toNat)
  case atStart => exact ⟨0, by omega, rfl, Keeps.refl _ _⟩
  case round =>
    obtain ⟨k, hk, rfl, K⟩ := hrel
    by_cases hlt : k < m
    · have g1 : ((k : Int)) < m := by omega
      have g0 : (0 : Int) ≤ k := by omega
      obtain ⟨ad, rfl, hb, hc⟩ := HX.out (by omega)
      obtain ⟨ad', rfl, hb', hc'⟩ := HX'.out (by omega)
      have c1 : ∀ p : Later wr, p.1.cell? (ad.add k) = some (.int .i64 (xs.getD k 0)) := fun p => ((K.trans p.2 (by simp)).cellAt (by rw [add_block]; exact hb) (by simp)).trans (hc k hlt)
      have c2 : ∀ p : Later wr, p.1.cell? (ad'.add k) = some (.int .i64 (xs.getD k 0)) := fun p => ((K.trans p.2 (by simp)).cellAt (by rw [add_block]; exact hb') (by simp)).trans (hc' k hlt)
      clear hc hc' hb hb'
      generalize xs.getD k 0 = x at c1 c2
      have e1 : (x != x) = false := by simp
      go_wp2
      refine wp_quiet_later (by kernel_rfl) (by kernel_rfl) ?_
      repeat (first
        | go_big_quiet_skip
        | go_big_quiet_step (fail))
      refine wpQuiet_nil ?_
      intro _ hw
      obtain ⟨p', rfl⟩ := hw
      replace K := K.trans p'.2 (by simp)
      clear c1 c2 e1
      generalize p'.1 = W at K ⊢
      go_wp2
      go_roundw
      case rel => exact ⟨k + 1, by omega, by go_num, K⟩
      case measure => (simp [intOf] <;> omega)
    · obtain rfl : k = m := by omega
      go_wp2
      go_ret
      exact ⟨rfl, K⟩

set_option maxRecDepth 100000 in
/-- A list of integers, opened. -/
theorem open_picks {H : Type} {enc : TypeId × Value → H} {base : Nat} {v : Value} {d : DataW H} {p : List MemPlace} (hval : Value.okWide Try.prog w .any base 25 v) (h : DataW.Trod enc Try.prog w 0 (fun _ => true) true 25 v d p) : ∃ picks, IntL w v picks := by
  obtain ⟨a0, len0, cap0, rfl⟩ := okWide_slice Try.underlying25 hval
  obtain ⟨fuel, hf⟩ := h
  obtain ⟨A, n, c, f, e, h1, h2, h3⟩ := open_rooms (v := .slice a0 len0 cap0) hf
  refine ⟨(List.range n).map fun i => f i, A, c, by rw [e]; simp, fun hn => ?_⟩
  simp only [List.length_map, List.length_range] at hn ⊢
  obtain ⟨ad, e1, hb, hc⟩ := h3 hn
  refine ⟨ad, e1, hb, fun j hj => ?_⟩
  rw [hc j hj]
  simp [List.getD_eq_getElem?_getD, hj]
/-- A run as it was handed out, in memory. -/
def RunV (W : World) (S : Sys) (X : RunP) (v : Value) : Prop :=
  ∃ (A : Option Addr) (c : Nat) (cells : Value) (m : Nat), v = .agg (runC X.fin X.fault (.slice A X.P.ev.length c) X.P.n cells) ∧ EvsAt W A X.P.ev.length (lE X.P.ev) ∧ X.P.ev.length ≤ c ∧ c ≤ maxLen ∧ S.ce = (m : Int) ∧ IntL W cells ((List.range m).map fun i => X.P.ce (i : Nat))
theorem RunV.kept {W u : World} {S : Sys} {X : RunP} {v : Value} (h : RunV W S X v) (k : Keeps W u []) : RunV u S X v := by
  obtain ⟨A, c, cells, m, h1, h2, h3, h4, h5, h6⟩ := h
  exact ⟨A, c, cells, m, h1, h2.kept k, h3, h4, h5, h6.kept k⟩
theorem RunAt.val {w W : World} {S : Sys} {X : RunP} {evs cells : Value} (h : RunAt w W S X evs cells) : RunV W S X (.agg (runC X.fin X.fault evs X.P.n cells)) := by
  obtain ⟨A, c, rfl, h1, h2, h3⟩ := h.evs
  obtain ⟨bc, m, rfl, h4, h5, h6⟩ := h.cell
  refine ⟨A, c, _, m, rfl, h1, h2, h3, h4, some ⟨bc, 0, none⟩, m, by simp, fun hm => ⟨_, rfl, h5.lt, fun j hj => ?_⟩⟩
  simp only [List.length_map, List.length_range] at hj hm
  rw [Addr.add_mid, Nat.zero_add, h5.cell, arrI_get _ _ _ hj]
  simp [List.getD_eq_getElem?_getD, hj]
theorem playV {S : Sys} {A : Option Addr} {c : Nat} {R : Option Addr} {d : Nat} {picks : List Int} {pv : Value} (hS : SysIn w S A c R d) (hv : validB S = true) (hp : IntL w pv picks) :
    Calls Try.prog 25 #[.agg (sysV S A c R d), pv] w fun e W => ∃ v, e = .returned (.tuple #[v, .int .i64 0]) ∧ RunV W S (playP S picks) v ∧ Keeps w W [] :=
  (play_good hS hv hp).mono fun _e _W ⟨_evs, _cells, he, hr⟩ => ⟨_, he, hr.val, hr.keep⟩
set_option maxRecDepth 100000 in
set_option maxHeartbeats 2000000 in
theorem alike_same {S : Sys} {X : RunP} {v v' : Value} (h : RunV w S X v) (h' : RunV w S X v') (hn : X.P.ev.length ≤ 40000) (hce : S.ce ≤ 64) : Calls Try.prog 26 #[v, v'] w fun e w' => e = .returned (.bool true) ∧ Keeps w w' [] := by
  have O := Own.start w []
  obtain ⟨B, c, cells, m, rfl, hE, q1, q2, hm, hI⟩ := h
  obtain ⟨B', c', cells', m', rfl, hE', q1', q2', hm', hI'⟩ := h'
  obtain rfl : m = m' := by omega
  have HE := Lib.hid hE
  have HE' := Lib.hid hE'
  have HS := Lib.hid ev_self
  have HI := Lib.hid (fun u (k : Keeps w u []) => ints_same cells cells' _ (by simp; omega) (hI.kept k) (hI'.kept k))
  have h1 : cells.oneCell' = true := by obtain ⟨A, c, e, _⟩ := hI; rw [e]; rfl
  have h1' : cells'.oneCell' = true := by obtain ⟨A, c, e, _⟩ := hI'; rw [e]; rfl
  clear hE hE' hI hI' q1 q2 q1' q2' hm hm' hce h1 h1'
  generalize X.P.ev.length = n at *
  generalize lE X.P.ev = E at *
  generalize X.fin = fin at *
  generalize X.fault = fault at *
  generalize X.P.n = rn at *
  have e1 : (fin != fin) = false := by simp
  have e2 : (fault != fault) = false := by simp
  have e3 : (((rn : Nat) : Int) != ((rn : Nat) : Int)) = false := by simp
  have e4 : (((n : Nat) : Int) != ((n : Nat) : Int)) = false := by simp
  go_enter Try.func26, Try.ntmps26
  go_wp2_with (first
    | (refine own_box 2 (runC fin fault (.slice B n c) rn cells) O rfl rfl rfl rfl ?_; clear O; intro W b2 O; simp only [Act.put, List.setIfInBounds_toArray, List.set_cons_zero, List.set_cons_succ])
    | (refine own_box 3 (runC fin fault (.slice B' n c') rn cells') O rfl rfl rfl rfl ?_; clear O; intro W b3 O; simp only [Act.put, List.setIfInBounds_toArray, List.set_cons_zero, List.set_cons_succ]; have c3 : ∀ i, W.cell? ⟨b3, i, none⟩ = #[Value.int .i64 fin, .int .i64 fault, .slice B' n c', .int .i64 (rn : Nat), cells'][i]? := (O.get 0 rfl).cell; have c2 : ∀ i, W.cell? ⟨b2, i, none⟩ = #[Value.int .i64 fin, .int .i64 fault, .slice B n c, .int .i64 (rn : Nat), cells][i]? := (O.get 1 rfl).cell)
    | (go_at_call 59; refine (HI.out _ O.keep).mono ?_; rintro e W ⟨rfl, K⟩; replace O := O.keeps K; clear K c2 c3; have c3 : ∀ i, W.cell? ⟨b3, i, none⟩ = #[Value.int .i64 fin, .int .i64 fault, .slice B' n c', .int .i64 (rn : Nat), cells'][i]? := (O.get 0 rfl).cell; have c2 : ∀ i, W.cell? ⟨b2, i, none⟩ = #[Value.int .i64 fin, .int .i64 fault, .slice B n c, .int .i64 (rn : Nat), cells][i]? := (O.get 1 rfl).cell)
    | go_big_skip)
  clear c2 c3 e1 e2 e3 e4 HI
  go_loopw [5] (fun i wr => ∃ k : Nat, k ≤ n ∧ i = .int .i64 k ∧ Own w wr [] [(b3, 33, runC fin fault (.slice B' n c') rn cells'), (b2, 33, runC fin fault (.slice B n c) rn cells)]) (fun i _ => n - (intOf i).toNat)
  case atStart => exact ⟨0, by omega, rfl, O⟩
  case round =>
    clear O
    obtain ⟨k, hk, rfl, O⟩ := hrel
    have K := O.keep
    have c3 : ∀ i, wr.cell? ⟨b3, i, none⟩ = #[Value.int .i64 fin, .int .i64 fault, .slice B' n c', .int .i64 (rn : Nat), cells'][i]? := (O.get 0 rfl).cell
    have c2 : ∀ i, wr.cell? ⟨b2, i, none⟩ = #[Value.int .i64 fin, .int .i64 fault, .slice B n c, .int .i64 (rn : Nat), cells][i]? := (O.get 1 rfl).cell
    by_cases hlt : k < n
    · have g1 : ((k : Int)) < n := by omega
      have g0 : (0 : Int) ≤ k := by omega
      obtain ⟨ad, rfl, hc⟩ := EvsAt.row (u := w) HE.out hlt
      obtain ⟨ad', rfl, hc'⟩ := EvsAt.row (u := w) HE'.out hlt
      have HC := Lib.hid hc
      have HC' := Lib.hid hc'
      clear hc hc'
      have hs := HS.out (E k)
      generalize E k = e at HC HC' hs
      go_wp2
      clear c2 c3
      have c3 : ∀ (p : Later wr) i, p.1.cell? ⟨b3, i, none⟩ = #[Value.int .i64 fin, .int .i64 fault, .slice (some ad') n c', .int .i64 (rn : Nat), cells'][i]? := Later.cell (O.get 0 rfl)
      have c2 : ∀ (p : Later wr) i, p.1.cell? ⟨b2, i, none⟩ = #[Value.int .i64 fin, .int .i64 fault, .slice (some ad) n c, .int .i64 (rn : Nat), cells][i]? := Later.cell (O.get 1 rfl)
      refine wp_quiet_later (by kernel_rfl) (by kernel_rfl) ?_
      repeat (first
        | go_big_quiet_skip
        | (refine wpQuiet_load_at (cs := evC e) 53 rfl rfl rfl rfl (fun u hu => HC.out [] u (by obtain ⟨p', rfl⟩ := hu; exact K.trans p'.2 (by simp)) (by simp)) Try.underlying37 rfl (by kernel_rfl) ?_; simp only [Act.put, List.setIfInBounds_toArray, List.set_cons_zero, List.set_cons_succ])
        | (refine wpQuiet_load_at (cs := evC e) 58 rfl rfl rfl rfl (fun u hu => HC'.out [] u (by obtain ⟨p', rfl⟩ := hu; exact K.trans p'.2 (by simp)) (by simp)) Try.underlying37 rfl (by kernel_rfl) ?_; simp only [Act.put, List.setIfInBounds_toArray, List.set_cons_zero, List.set_cons_succ])
        | go_big_quiet_step (fail))
      refine wpQuiet_nil ?_
      intro _ hw
      obtain ⟨p', rfl⟩ := hw
      replace O := O.keeps p'.2
      clear hs c2 c3 K
      generalize p'.1 = W at O ⊢
      go_wp2
      go_roundw
      case rel => exact ⟨k + 1, by omega, by go_num, O⟩
      case measure => (simp [intOf] <;> omega)
    · obtain rfl : k = n := by omega
      go_wp2
      go_ret
      exact ⟨rfl, K⟩
end
end Go.Proofs.Ytakmcpadkanggaa
