/-
  Who can go on, and whether all have ended (sched's ready).
-/
import Derived.Test.YtakmcpadkanggaaT29
import Derived.Test.YtakmcpadkanggaaT31b
import Derived.Test.YtakmcpadkanggaaLite2
namespace Go.Proofs.Ytakmcpadkanggaa
open Go.RowKit Go.Maps Go.Deep

/-- A run's world, as those look at it that write nothing. -/
structure Sees (base : Nat) (W : World) (S : Sys) (A : Option Addr) (c : Nat) (R : Option Addr) (d : Nat) (y : Ly) (P : PW) (gw cw : Nat) (cur : Array Value) (evs : Value) (hv : Nat → Value) : Prop where
  wp : Blk W y.wp 110 (wpC y S.nr gw P.n cw evs)
  who : Blk W gw 174 cur
  bp : Blk W y.bp 186 (pipesA S.nr hv P.cl)
  bl : Blk W y.bl 4 (arrB y.lk P.lk)
  bg : Blk W y.bg 3 (arrI y.gr P.gr)
  ps : Blk W y.ps 27 (sysV S A c R d)
  sin : SysIn W S A c R d
  rel : WhoC cur P.n P.rs
  held : ∀ c, c < S.nr → HRow base W (hv c) (P.held c)
theorem Mint.apart {base : Nat} {W : World} {v : Value} {xs : List Int} (h : Mint base W v xs) {g t : Nat} {cs : Array Value} (hB : Blk W g t cs) (ht : t ≠ 3) : ∀ b, v.ownBlock = some b → b ∉ [g] := fun b hb hm => by
  obtain ⟨_, _, cur, hcur⟩ := h.own hb
  obtain rfl : b = g := by simpa using hm
  rw [Blk, hcur] at hB
  injection hB with hB
  injection hB with _ h1 _
  exact ht h1.symm
section
variable {base : Nat} {w W : World} {S : Sys} {A : Option Addr} {c : Nat} {R : Option Addr} {d : Nat} {y : Ly} {P : PW} {gw cw : Nat} {cur : Array Value} {evs : Value} {hv : Nat → Value}
theorem Sees.kept {u : World} (h : Sees base W S A c R d y P gw cw cur evs hv) (k : Keeps W u []) : Sees base u S A c R d y P gw cw cur evs hv :=
  ⟨h.wp.keeps k (by simp), h.who.keeps k (by simp), h.bp.keeps k (by simp), h.bl.keeps k (by simp), h.bg.keeps k (by simp), h.ps.keeps k (by simp), h.sin.kept k, h.rel, fun c hc => (h.held c hc).keeps k (by simp)⟩
def readyI (S : Sys) (P : PW) (m : Nat) : List Int := (readyN S P m).map fun (x : Nat) => (x : Int)
theorem readyI_length (S : Sys) (P : PW) (m : Nat) : (readyI S P m).length ≤ m := by unfold readyI; rw [List.length_map]; exact readyN_length S P m
set_option maxRecDepth 100000 in
set_option maxHeartbeats 2000000 in
theorem ready_any (h : Sees base w S A c R d y P gw cw cur evs hv) (hvd : validB S = true) (hr : RInv S P) (hlk : S.lk = (y.lk : Int)) (hgr : S.gr = (y.gr : Int)) (hn : P.n ≤ 100000) : Calls Try.prog 90 #[.pointer (some ⟨y.wp, 0, none⟩)] w fun e w' =>
    (∃ v, e = .returned (.tuple #[v, .bool (endedN S P P.n)]) ∧ Mint w.heap.size w' v (readyI S P P.n)) ∧ Keeps w w' [] := by
  have O := Own.start w []
  have HN := Lib.hid (fun u (K : Keeps w u []) k (hk : k < P.n) => wnext_any (h.kept K).wp (h.kept K).who (h.kept K).ps (h.kept K).sin h.rel hk (hr k hk))
  have HC := Lib.hid (fun u (K : Keeps w u []) k f (hk : k < P.n) (hf : instP S (P.rs k) = some f) => wcan_any (h.kept K).wp (h.kept K).bp (h.kept K).bl (h.kept K).bg (h.kept K).ps (h.kept K).sin (h.kept K).held hlk hgr f (right_of hvd (hr k hk) hf))
  have c1 : w.cell? ⟨y.wp, 1, none⟩ = some (.slice (some ⟨gw, 0, none⟩) P.n cw) := h.wp.cell 1
  have HW := Lib.hid h.wp
  clear h hvd hr hlk hgr
  have HR := Lib.hid (fun m => readyI_length S P m)
  have HRS := Lib.hid (show ∀ k, readyI S P (k + 1) = readyI S P k ++ (match instP S (P.rs k) with | some f => if canP S P f = true then [(k : Int)] else [] | none => []) from fun k => by
    unfold readyI
    simp only [readyN, List.map_append]
    congr 1
    cases instP S (P.rs k) with
    | none => rfl
    | some f => by_cases hx : canP S P f = true <;> simp [hx])
  have HES := Lib.hid (show ∀ k, endedN S P (k + 1) = (endedN S P k && (instP S (P.rs k)).isNone) from fun k => rfl)
  have HR0 := Lib.hid (show readyI S P 0 = [] from rfl)
  have HE0 := Lib.hid (show endedN S P 0 = true from rfl)
  generalize readyI S P = rd at HR HRS HR0 ⊢
  generalize endedN S P = en at HES HE0 ⊢
  generalize hPn : P.n = n at *
  clear hPn
  have g0 : n ≤ 100000 := hn
  clear hn
  go_enter Try.func90, Try.ntmps90
  go_wp2
  clear c1
  go_loopw [14, 4, 5] (fun i v b wr => ∃ k : Nat, k ≤ n ∧ i = .int .i64 k ∧ b = .bool (en k) ∧ Own w wr [] [] ∧ Mint w.heap.size wr v (rd k)) (fun i _ _ _ => n - (intOf i).toNat)
  case atStart => exact ⟨0, by omega, rfl, by rw [HE0.out], O, by rw [HR0.out]; exact Mint.nil _ _⟩
  case round =>
    obtain ⟨k, hk, rfl, rfl, O, M⟩ := hrel
    by_cases hlt : k < n
    · have g1 : ((k : Int)) < n := by omega
      have g2 : (0 : Int) ≤ k := by omega
      have c1 : wr.cell? ⟨y.wp, 1, none⟩ = some (.slice (some ⟨gw, 0, none⟩) n cw) := (HW.out.keeps O.keep (by simp)).cell 1
      have ak := add_zero_ gw (k * 10)
      cases hi : instP S (P.rs k) with
      | none =>
        have HR1 := Lib.hid (show rd (k + 1) = rd k by rw [HRS.out, hi]; simp)
        have HE1 := Lib.hid (show en (k + 1) = en k by rw [HES.out, hi]; simp)
        have HNk := Lib.hid (show ∀ u, Keeps w u [] → Calls Try.prog 103 #[.pointer (some ⟨y.wp, 0, none⟩), .pointer (some ⟨gw, k * 10, none⟩)] u fun e W' => e = .returned (.tuple #[.agg (instC fun _ => 0), .bool false]) ∧ Keeps u W' [] from fun u K => by have := HN.out u K k hlt; rwa [hi] at this)
        clear hi
        go_wp2_with (first
          | go_big_skip
          | (go_at_call 103; refine (HNk.out _ O.keep).mono ?_; rintro e W ⟨rfl, K⟩; replace O := O.keeps K; replace M := M.keeps K (by simp); clear K c1)
          | (refine own_allocK 7 (instC fun _ => 0) O rfl rfl rfl (fun _ => by kernel_rfl) ?_; clear O; intro W a7 O K1 hg; replace M := M.keeps K1 (by simp); clear K1 hg; simp only [Act.put, List.setIfInBounds_toArray, List.set_cons_zero, List.set_cons_succ])
          | (refine own_store_rowK 0 (.tmp 7) (.tmp 26) (cs' := instC fun _ => 0) O rfl rfl rfl rfl rfl rfl (by kernel_rfl) (by rfl) (instC_cell _) ?_; have HA := Lib.hid (M.apart (O.get 0 rfl) (by decide)); clear O; intro W O K1; replace M := M.keeps K1 HA.out; clear K1 HA; simp only [List.set_cons_zero] at O))
        go_roundw
        case rel => exact ⟨k + 1, by omega, by go_num, by rw [HE1.out], O.drop_ 1, by rw [HR1.out]; exact M⟩
        case measure => (simp [intOf] <;> omega)
      | some f =>
        have HNk := Lib.hid (show ∀ u, Keeps w u [] → Calls Try.prog 103 #[.pointer (some ⟨y.wp, 0, none⟩), .pointer (some ⟨gw, k * 10, none⟩)] u fun e W' => e = .returned (.tuple #[.agg (instC f), .bool true]) ∧ Keeps u W' [] from fun u K => by have := HN.out u K k hlt; rwa [hi] at this)
        have HE1 := Lib.hid (show en (k + 1) = false by rw [HES.out, hi]; simp)
        have HCk := Lib.hid (fun u K => HC.out u K k f hlt hi)
        have HR1 := Lib.hid (show rd (k + 1) = rd k ++ (if canP S P f = true then [(k : Int)] else []) by rw [HRS.out, hi])
        clear hi
        generalize canP S P f = b at HCk HR1
        cases b with
        | false =>
          go_wp2_with (first
          | go_big_skip
          | (go_at_call 103; refine (HNk.out _ O.keep).mono ?_; rintro e W ⟨rfl, K⟩; replace O := O.keeps K; replace M := M.keeps K (by simp); clear K c1)
          | (refine own_allocK 7 (instC fun _ => 0) O rfl rfl rfl (fun _ => by kernel_rfl) ?_; clear O; intro W a7 O K1 hg; replace M := M.keeps K1 (by simp); clear K1 hg; simp only [Act.put, List.setIfInBounds_toArray, List.set_cons_zero, List.set_cons_succ])
          | (refine own_store_rowK 0 (.tmp 7) (.tmp 26) (cs' := instC f) O rfl rfl rfl rfl rfl rfl (by kernel_rfl) (by rfl) (instC_cell _) ?_; have HA := Lib.hid (M.apart (O.get 0 rfl) (by decide)); clear O; intro W O K1; replace M := M.keeps K1 HA.out; clear K1 HA; simp only [List.set_cons_zero] at O)
          | (refine own_load 31 0 O rfl rfl rfl rfl rfl Try.underlying99 rfl (by kernel_rfl) ?_; simp only [Act.put, List.setIfInBounds_toArray, List.set_cons_zero, List.set_cons_succ])
          | (go_at_call 104; refine (HCk.out _ O.keep).mono ?_; rintro e W ⟨rfl, K⟩; replace O := O.keeps K; replace M := M.keeps K (by simp); clear K))
          go_roundw
          case rel => exact ⟨k + 1, by omega, by go_num, by rw [HE1.out], O.drop_ 1, by rw [HR1.out]; simpa using M⟩
          case measure => (simp [intOf] <;> omega)
        | true =>
          go_wp2_with (first
          | go_big_skip
          | (go_at_call 103; refine (HNk.out _ O.keep).mono ?_; rintro e W ⟨rfl, K⟩; replace O := O.keeps K; replace M := M.keeps K (by simp); clear K c1)
          | (refine own_allocK 7 (instC fun _ => 0) O rfl rfl rfl (fun _ => by kernel_rfl) ?_; clear O; intro W a7 O K1 hg; replace M := M.keeps K1 (by simp); clear K1 hg; simp only [Act.put, List.setIfInBounds_toArray, List.set_cons_zero, List.set_cons_succ])
          | (refine own_store_rowK 0 (.tmp 7) (.tmp 26) (cs' := instC f) O rfl rfl rfl rfl rfl rfl (by kernel_rfl) (by rfl) (instC_cell _) ?_; have HA := Lib.hid (M.apart (O.get 0 rfl) (by decide)); clear O; intro W O K1; replace M := M.keeps K1 HA.out; clear K1 HA; simp only [List.set_cons_zero] at O)
          | (refine own_load 31 0 O rfl rfl rfl rfl rfl Try.underlying99 rfl (by kernel_rfl) ?_; simp only [Act.put, List.setIfInBounds_toArray, List.set_cons_zero, List.set_cons_succ])
          | (go_at_call 104; refine (HCk.out _ O.keep).mono ?_; rintro e W ⟨rfl, K⟩; replace O := O.keeps K; replace M := M.keeps K (by simp); clear K)
          | (refine own_lit1 35 (k : Int) O rfl rfl rfl rfl ?_; clear O; intro W gl O K1 hg; replace M := M.keeps K1 (by simp); clear K1 hg; simp only [Act.put, List.setIfInBounds_toArray, List.set_cons_zero, List.set_cons_succ])
          | (at_builtin; (refine own_app w.heap.size _ (rd k) (k : Int) gl (.tmp 33) (.tmp 35) (O.drop_ 2) M rfl rfl rfl rfl ((O.get 0 rfl).cell 0) rfl (by simp) (by have := HR.out k; omega) ?_; clear O M; intro v1 W O M; simp only [Act.put, List.setIfInBounds_toArray, List.set_cons_zero, List.set_cons_succ])))
          go_roundw
          case rel => exact ⟨k + 1, by omega, by go_num, by rw [HE1.out], O, by rw [HR1.out]; simpa using M⟩
          case measure => (simp [intOf] <;> omega)
    · obtain rfl : k = n := by omega
      go_wp2
      go_returns
      exact ⟨⟨_, rfl, M⟩, O.keep⟩
end
end Go.Proofs.Ytakmcpadkanggaa
