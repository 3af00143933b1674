/-
 Part 13 of what this claim rests on.
-/
import Derived.Test.YtakmcpadkanggaaOd12
namespace Go.Proofs.Ytakmcpadkanggaa
open Go.ChangeShapes Go.WideShapes Go.RowKit Go.Maps Go.Deep
section
variable {ops : Array Oper} {rest : List Oper} {o : Oper} {a : Act} {w W : World} {Q : Exit → Act → World → Prop} {S : List Nat} {L : List Ent} {g t : Nat} {ty : TypeId} {cs : Array Value} {x : Operand}
theorem own_loadW (d k : Nat) (O : Own w W S L) (_hd : o.dst = some d) (hw : Region.wanted o (yielded ops a.tmps) = true) (ho : o.op = .load ty x) (hx : a.eval x = .pointer (some ⟨g, 0, none⟩)) (hk : L[k]? = some (g, t, cs)) {e : TypeDesc}
   (hu : Try.prog.underlying ty = some e) (hd : (match e with | .struct _ | .array _ _ => true | _ => false) = true) (hi : (Try.prog.info? ty).map (·.size) = some cs.size)
   (h : wpList Try.prog ops Q rest (a.put o.dst (.agg cs)) W) : wpList Try.prog ops Q (o :: rest) a W :=
 BigFrame.wpList_want hw fun _ hK => wp_load_row ty x ho g hx t cs (0, 0) e (O.get k hk) hu (by cases e <;> first | rfl | exact hd) hi (hK _ _ h)
end
section
variable {w : World}
set_option maxRecDepth 100000 in
set_option maxHeartbeats 1000000 in
theorem ordered_bad (jb : Nat) (hj : jb ≤ 255) (x y : Int) (pv : Value) (h : plB x y = false) : Calls Try.prog 19 #[.int .u8 (jb : Int), .agg (plV x y), pv] w fun e u => e = .returned (.bool true) ∧ Keeps w u [] := by
 have O := Own.start w []
 obtain ⟨J, hJ⟩ : ∃ J, J = jb % 8 := ⟨_, rfl⟩
 have hmod : ((jb : Nat) : Int) % 8 = (J : Int) := by omega
 have htm : Int.tmod (jb : Int) 8 = (J : Int) := by rw [Int.tmod_eq_emod_of_nonneg (by omega)]; exact hmod
 have hJ2 : J ≤ 7 := by omega
 have HV := Lib.hid (fun u => rpvalid_any (w := u) x y)
 have HP := Lib.hid (fun u => pvalid_any (w := u) x y)
 unfold plE at HV HP
 rw [h] at HV HP
 clear h hJ
 go_enter Try.func19, Try.ntmps19
 go_wp2_with (first
   | go_big_skip
   | (refine own_box 4 (plV x y) O rfl rfl rfl rfl ?_; clear O; intro W b4 O; simp only [Act.put, kA, kZ, kS])
   | (refine own_load 25 0 O rfl rfl rfl rfl rfl Try.underlying89 rfl (by kernel_rfl) ?_; simp only [Act.put, kA, kZ, kS])
   | (go_at_call 48; refine (HV.out _).mono ?_; rintro e W ⟨rfl, K⟩; replace O := O.keeps K; clear K)
   | (refine own_load 33 0 O rfl rfl rfl rfl rfl Try.underlying89 rfl (by kernel_rfl) ?_; simp only [Act.put, kA, kZ, kS])
   | (go_at_call 49; refine (HP.out _).mono ?_; rintro e W ⟨rfl, K⟩; replace O := O.keeps K; clear K))
 go_returns
 exact ⟨rfl, O.keep⟩
set_option maxRecDepth 100000 in
set_option maxHeartbeats 1000000 in
theorem ordered_many (jb : Nat) (hj : jb ≤ 255) (x y : Nat) (pv : Value) (h : plB x y = true) (hx : 8 < x) : Calls Try.prog 19 #[.int .u8 (jb : Int), .agg (plV x y), pv] w fun e u => e = .returned (.bool true) ∧ Keeps w u [] := by
 have O := Own.start w []
 obtain ⟨J, hJ⟩ : ∃ J, J = jb % 8 := ⟨_, rfl⟩
 have hmod : ((jb : Nat) : Int) % 8 = (J : Int) := by omega
 have htm : Int.tmod (jb : Int) 8 = (J : Int) := by rw [Int.tmod_eq_emod_of_nonneg (by omega)]; exact hmod
 have hJ2 : J ≤ 7 := by omega
 have HV := Lib.hid (fun u => rpvalid_any (w := u) (x : Int) (y : Int))
 have HP := Lib.hid (fun u => pvalid_any (w := u) (x : Int) (y : Int))
 unfold plE at HV HP
 rw [if_pos h] at HV HP
 have g1 : (8 : Int) < (x : Int) := by omega
 have g2 : decide ((8 : Int) < (x : Int)) = true := decide_eq_true g1
 clear h hJ
 go_enter Try.func19, Try.ntmps19
 go_wp2_with (first
   | go_big_skip
   | (refine own_box 4 (plV x y) O rfl rfl rfl rfl ?_; clear O; intro W b4 O; simp only [Act.put, kA, kZ, kS])
   | (refine own_load 25 0 O rfl rfl rfl rfl rfl Try.underlying89 rfl (by kernel_rfl) ?_; simp only [Act.put, kA, kZ, kS])
   | (go_at_call 48; refine (HV.out _).mono ?_; rintro e W ⟨rfl, K⟩; replace O := O.keeps K; clear K; have c4 : W.cell? ⟨b4, 0, none⟩ = some (.int .i64 (x : Int)) := (O.get 0 rfl).cell 0)
   | (refine own_load 33 0 O rfl rfl rfl rfl rfl Try.underlying89 rfl (by kernel_rfl) ?_; simp only [Act.put, kA, kZ, kS])
   | (go_at_call 49; refine (HP.out _).mono ?_; try clear c4; rintro e W ⟨rfl, K⟩; replace O := O.keeps K; clear K)
   | (refine own_loadW 37 0 O rfl rfl rfl rfl rfl Try.underlying89 rfl (by kernel_rfl) ?_; simp only [Act.put, kA, kZ, kS]))
 go_returns
 exact ⟨rfl, O.keep⟩
set_option maxRecDepth 100000 in
set_option maxHeartbeats 8000000 in
theorem ordered_good (jb : Nat) (hj : jb ≤ 255) (x y : Nat) (pv : Value) (picks : List Int) (hp : IntL w pv picks) (h : plB x y = true) (hx : 1 ≤ x ∧ x ≤ 256 ∧ 1 ≤ y ∧ y ≤ 1024) (hx8 : x ≤ 8) : Calls Try.prog 19 #[.int .u8 (jb : Int), .agg (plV x y), pv] w fun e u => e = .returned (.bool true) ∧ Keeps w u [] := by
 have O := Own.start w []
 obtain ⟨J0, hJ0⟩ : ∃ J0, J0 = jb % 8 := ⟨_, rfl⟩
 have hmod : ((jb : Nat) : Int) % 8 = (J0 : Int) := by omega
 have htm : Int.tmod (jb : Int) 8 = (J0 : Int) := by rw [Int.tmod_eq_emod_of_nonneg (by omega)]; exact hmod
 have hJ02 : J0 ≤ 7 := by omega
 obtain ⟨J, hJ⟩ : ∃ J, J = 1 + J0 := ⟨_, rfl⟩
 have hadd : (1 : Int) + (J0 : Int) = (J : Int) := by omega
 have hJ2 : J ≤ 8 := by omega
 have HS := Lib.hid (fun u => psys_good (w := u) x y J h (by omega))
 have HV := Lib.hid (fun u => rpvalid_any (w := u) (x : Int) (y : Int))
 unfold plE at HV
 rw [if_pos h] at HV
 obtain ⟨b, hb⟩ : ∃ b, b = min (y + x) 64 := ⟨_, rfl⟩
 rw [← hb] at HS
 have pk : PoolOk x y b J := ⟨by omega, by omega, by omega, by omega, by omega, by omega⟩
 have hv := pool_valid pk (by omega)
 obtain ⟨f1, f2, f3, f4, _⟩ := play_pool pk picks (Φ := fun _ _ => True) trivial (fun _ _ _ _ _ _ _ _ => trivial)
 have HTB := Lib.hid (fun j (hj : j < J) => pool_tables pk hv picks j hj)
 have HP := Lib.hid (fun u A c R d (hS : SysIn u (poolS x y b J) A c R d) (hp : IntL u pv picks) => show Calls Try.prog 25 #[.agg (sysV (poolS x y b J) A c R d), pv] u fun e W => ∃ evs cells, e = .returned (.tuple #[.agg (runC (playP (poolS x y b J) picks).fin (playP (poolS x y b J) picks).fault evs (playP (poolS x y b J) picks).P.n cells), .int .i64 0]) ∧ RunAt u W (poolS x y b J) (playP (poolS x y b J) picks) evs cells from play_good hS hv hp)
 have HWF := Lib.hid (play_awf hv pool_wf picks)
 obtain ⟨S, hS⟩ : ∃ S, S = poolS x y b J := ⟨_, rfl⟩
 rw [← hS] at HS HTB HP HWF f1 f2 f3 f4
 obtain ⟨X, hX⟩ : ∃ X, X = playP S picks := ⟨_, rfl⟩
 rw [← hX] at HTB HP HWF f1 f2 f3 f4
 obtain ⟨n, hn⟩ : ∃ n, n = X.P.ev.length := ⟨_, rfl⟩
 rw [← hn] at HTB HWF f4
 rw [f1, f2, f3] at HP
 have HNN := Lib.hid hn
 have HIP := Lib.hid hp
 have hn4 : n ≤ 40000 := by omega
 have hx2 : x ≤ 256 := by omega
 have g1 : ¬ (8 : Int) < (x : Int) := by omega
 have hJi : (J : Int) ≤ 8 := by omega
 clear h hJ hJ0 hX hn hS hp hv pk f1 f2 f3 f4 hb hx
 go_enter Try.func19, Try.ntmps19
 go_wp2_with (first
   | go_big_skip
   | (refine own_box 4 (plV x y) O rfl rfl rfl rfl ?_; clear O; intro W b4 O; simp only [Act.put, kA, kZ, kS])
   | (refine own_load 25 0 O rfl rfl rfl rfl rfl Try.underlying89 rfl (by kernel_rfl) ?_; simp only [Act.put, kA, kZ, kS])
   | (go_at_call 48; refine (HV.out _).mono ?_; rintro e W ⟨rfl, K⟩; replace O := O.keeps K; clear K; have c4 : W.cell? ⟨b4, 0, none⟩ = some (.int .i64 (x : Int)) := (O.get 0 rfl).cell 0)
   | (refine own_load 43 0 O rfl rfl rfl rfl rfl Try.underlying89 rfl (by kernel_rfl) ?_; simp only [Act.put, kA, kZ, kS])
   | (go_at_call 50; refine (HS.out _).mono ?_; clear c4; rintro e W ⟨A, c, R, d, rfl, HI0, K⟩; replace O := O.keeps K; have HI := Lib.hid HI0; clear K HI0)
   | (refine own_allocK 8 sysZ O rfl rfl rfl (fun _ => by kernel_rfl) ?_; clear O; intro W8 b8 O K8 hb8; have HK8 := Lib.hid (And.intro K8 hb8); clear K8 hb8; simp only [Act.put, kA, kZ, kS])
   | (refine own_store_rowK 0 (.tmp 8) (.tmp 45) (cs' := sysV S A c R d) O rfl rfl rfl rfl rfl rfl (by kernel_rfl) (by rfl) (by simp [sysV, Value.oneCell']) ?_; clear O; intro W O K; simp only [kZ] at O; replace HI := Lib.hid (HI.out.kept (HK8.out.1.trans K (fun b hb hlt => by rw [List.mem_singleton.1 hb] at hlt; have := HK8.out.2; omega))); clear K HK8)
   | (refine own_load 48 0 O rfl rfl rfl rfl rfl Try.underlying27 rfl (by kernel_rfl) ?_; simp only [Act.put, kA, kZ, kS])
   | (go_at_call 25; refine (HP.out _ _ _ _ _ HI.out (HIP.out.kept O.keep)).mono ?_; rintro e W ⟨evs, cells, rfl, HR⟩; replace O := O.keeps HR.keep; replace HI := Lib.hid (HI.out.kept HR.keep); obtain ⟨Ae, ce, e1, hE, hce, hcm⟩ := HR.evs; obtain ⟨bc, mc, e2, _, _, _⟩ := HR.cell; clear HR; rw [← HNN.out] at e1 hE hce; subst e1; subst e2; have HE := Lib.hid hE; have HCE := Lib.hid hce; clear hE hce hcm)
   | (refine own_allocK 10 (#[Value.int .i64 0, .int .i64 0, .slice none 0 0, .int .i64 0, .slice none 0 0]) O rfl rfl rfl (fun _ => by kernel_rfl) ?_; clear O; intro W10 a10 O K10 hb10; have HK10 := Lib.hid (And.intro K10 hb10); clear K10 hb10; simp only [Act.put, kA, kZ, kS])
   | (refine own_store_rowK 0 (.tmp 10) (.tmp 51) (cs' := runC 1 0 (.slice Ae n ce) (x + 3 : Nat) (.slice (some ⟨bc, 0, none⟩) mc mc)) O rfl rfl rfl rfl rfl rfl (by kernel_rfl) (by rfl) (runC_cell _ _ _ _ _ rfl rfl) ?_; clear O; intro W O K; have KK := (HK10.out.1.trans K (fun b hb hlt => by rw [List.mem_singleton.1 hb] at hlt; have := HK10.out.2; omega) : Keeps _ _ []); replace HE := Lib.hid (HE.out.kept KK); replace HI := Lib.hid (HI.out.kept KK); clear K HK10 KK; simp only [kZ] at O; have hK0 := O.keep; have HK0 := Lib.hid hK0; have hB8 := O.get 1 rfl; have hA10 := O.get 0 rfl; have HB8 := Lib.hid (fun u (K : Keeps W u []) => hB8.keeps K (by simp)); have HA10 := Lib.hid (fun u (K : Keeps W u []) => hA10.keeps K (by simp)); have c0 : W.cell? ⟨a10, 0, none⟩ = some (.int .i64 1) := hA10.cell 0; have hwq : ∃ wq, wq = W := ⟨_, rfl⟩; clear O hK0 hB8 hA10; obtain ⟨wq, hwq⟩ := hwq; have O : Own wq W [] [] := (by rw [hwq]; exact Own.start W []); rw [← hwq] at HB8 HA10 HE HI HK0; clear hwq)
   | (refine own_makeIK 65 J O rfl rfl rfl (by first | rfl | go_num) (by omega) ?_; clear O; try clear c0; intro W gh O K1 hgh; clear K1 hgh; simp only [Act.put, kA, kZ, kS])
   | (refine own_makeIK 67 J O rfl rfl rfl (by first | rfl | go_num) (by omega) ?_; clear O; intro W gd O K1 hgd; clear K1 hgd; have c2 : W.cell? ⟨a10, 2, none⟩ = some (.slice Ae n ce) := (HA10.out _ O.keep).cell 2; simp only [Act.put, kA, kZ, kS]))
 clear c2 HS HV HP HIP
 obtain ⟨E, hE⟩ : ∃ E, E = lE X.P.ev := ⟨_, rfl⟩
 rw [← hE] at HE HTB HWF
 clear hE HNN
 go_loopg [71] n (fun g s71 wr => ∃ k, k ≤ n ∧ g = n - k ∧ s71 = .int .i64 (k : Int) ∧ Own wq wr [] [(gd, 3, arrI J (wkF E J false k)), (gh, 3, arrI J (wkF E J true k))])
 case atStart => exact ⟨0, by omega, by omega, rfl, O⟩
 case round =>
   clear O
   obtain ⟨k, hk, hgk, rfl, O⟩ := hrel
   have HG := Lib.hid hgk
   clear hgk
   by_cases hlt : k < n
   · have g2 : (k : Int) < (n : Int) := by omega
     have g3 : (0 : Int) ≤ (k : Int) := by omega
     have hk4 : k ≤ 40000 := by omega
     obtain ⟨ad, e1, hc⟩ := EvsAt.row (u := wq) HE.out hlt
     subst e1
     have HC := Lib.hid hc
     have HT1 := Lib.hid (show wkF E J true (k + 1) = if wkB E J true k = true then updI (wkF E J true k) (E k).v ((k : Int) + 1) else wkF E J true k from rfl)
     have HT2 := Lib.hid (show wkF E J false (k + 1) = if wkB E J false k = true then updI (wkF E J false k) (E k).v ((k : Int) + 1) else wkF E J false k from rfl)
     unfold wkB at HT1 HT2
     clear hc
     obtain ⟨wh, op, a, v, sh, he⟩ : ∃ wh op a v sh, E k = ⟨wh, op, a, v, sh⟩ := ⟨_, _, _, _, _, rfl⟩
     rw [he] at HC HT1 HT2
     simp only at HT1 HT2
     clear he
     generalize wkF E J true k = F1 at O HT1
     generalize wkF E J false k = F2 at O HT2
     by_cases hw : op = 15 ∧ 0 ≤ v ∧ v < J
     · obtain ⟨rfl, hv0, hvJ⟩ := hw
       obtain ⟨vn, rfl⟩ : ∃ vn : Nat, v = (vn : Int) := ⟨v.toNat, by omega⟩
       have hvn : vn < J := by omega
       by_cases ha : a = 0
       · subst ha
         have h1 := HT1.out
         have h2 := HT2.out
         rw [if_pos (by simp; omega)] at h1
         rw [if_neg (by simp)] at h2
         have HX1 := Lib.hid h1
         have HX2 := Lib.hid h2
         clear h1 h2 HT1 HT2
         go_wp2_with (first
           | go_big_skip
           | (refine wpList_load_at 75 rfl rfl rfl rfl (HC.out [] _ O.keep (by simp)) Try.underlying37 rfl (by kernel_rfl) ?_; simp only [Act.put, kA, kZ, kS])
           | (refine own_allocK 15 (evC ⟨0, 0, 0, 0, false⟩) O rfl rfl rfl (fun _ => by kernel_rfl) ?_; clear O; intro W1 b15 O K1 hb; clear K1 hb; simp only [Act.put, kA, kZ, kS])
           | (refine own_store_rowK 0 (.tmp 15) (.tmp 75) O rfl rfl rfl rfl rfl rfl (by kernel_rfl) (by rfl) (evC_cell _) ?_; clear O; intro W2 O K2; simp only [kZ] at O; clear K2; have d1 : W2.cell? ⟨b15, 1, none⟩ = some (.int .i64 15) := (O.get 0 rfl).cell 1; have d2 : W2.cell? ⟨b15, 2, none⟩ = some (.int .i64 0) := (O.get 0 rfl).cell 2; have d3 : W2.cell? ⟨b15, 3, none⟩ = some (.int .i64 (vn : Int)) := (O.get 0 rfl).cell 3)
           | (refine own_storeK 2 vn (.int .i64 ((k : Int) + 1)) (.tmp 98) (.tmp 97) O rfl rfl rfl rfl rfl rfl (by rw [arrI_size]; exact hvn) rfl rfl (by kernel_rfl) (arrI_set _ _ _ _) ?_; clear O; intro W3 O K3; simp only [kZ, kS] at O; clear K3 d1 d2 d3))
         go_roundg (n - (k + 1))
         case measure => (have := HG.out; omega)
         case rel => exact ⟨k + 1, by omega, rfl, by go_num, by rw [HX1.out, HX2.out]; exact O.drop_ 1⟩
       · have h1 := HT1.out
         have h2 := HT2.out
         rw [if_neg (by simp [ha])] at h1
         rw [if_pos (by simp [ha]; omega)] at h2
         have HX1 := Lib.hid h1
         have HX2 := Lib.hid h2
         have q1 : (a == 0) = false := by rw [beq_eq_false_iff_ne]; exact ha
         clear h1 h2 HT1 HT2
         go_wp2_with (first
           | go_big_skip
           | (refine wpList_load_at 75 rfl rfl rfl rfl (HC.out [] _ O.keep (by simp)) Try.underlying37 rfl (by kernel_rfl) ?_; simp only [Act.put, kA, kZ, kS])
           | (refine own_allocK 15 (evC ⟨0, 0, 0, 0, false⟩) O rfl rfl rfl (fun _ => by kernel_rfl) ?_; clear O; intro W1 b15 O K1 hb; clear K1 hb; simp only [Act.put, kA, kZ, kS])
           | (refine own_store_rowK 0 (.tmp 15) (.tmp 75) O rfl rfl rfl rfl rfl rfl (by kernel_rfl) (by rfl) (evC_cell _) ?_; clear O; intro W2 O K2; simp only [kZ] at O; clear K2; have d1 : W2.cell? ⟨b15, 1, none⟩ = some (.int .i64 15) := (O.get 0 rfl).cell 1; have d2 : W2.cell? ⟨b15, 2, none⟩ = some (.int .i64 a) := (O.get 0 rfl).cell 2; have d3 : W2.cell? ⟨b15, 3, none⟩ = some (.int .i64 (vn : Int)) := (O.get 0 rfl).cell 3)
           | (refine own_storeK 1 vn (.int .i64 ((k : Int) + 1)) (.tmp 104) (.tmp 103) O rfl rfl rfl rfl rfl rfl (by rw [arrI_size]; exact hvn) rfl rfl (by kernel_rfl) (arrI_set _ _ _ _) ?_; clear O; intro W3 O K3; simp only [kZ, kS] at O; clear K3 d1 d2 d3))
         go_roundg (n - (k + 1))
         case measure => (have := HG.out; omega)
         case rel => exact ⟨k + 1, by omega, rfl, by go_num, by rw [HX1.out, HX2.out]; exact O.drop_ 1⟩
     · have h1 := HT1.out
       have h2 := HT2.out
       rw [if_neg (by simp only [Bool.and_eq_true, decide_eq_true_eq]; exact fun q => hw ⟨q.1, q.2.1⟩)] at h1
       rw [if_neg (by simp only [Bool.and_eq_true, decide_eq_true_eq]; exact fun q => hw ⟨q.1, q.2.1⟩)] at h2
       have HX1 := Lib.hid h1
       have HX2 := Lib.hid h2
       clear h1 h2 HT1 HT2
       by_cases ho : op = 15
       · subst ho
         by_cases hv0 : v < 0
         · have q1 : decide (v < 0) = true := decide_eq_true hv0
           clear hw
           go_wp2_with (first
           | go_big_skip
           | (refine wpList_load_at 75 rfl rfl rfl rfl (HC.out [] _ O.keep (by simp)) Try.underlying37 rfl (by kernel_rfl) ?_; simp only [Act.put, kA, kZ, kS])
           | (refine own_allocK 15 (evC ⟨0, 0, 0, 0, false⟩) O rfl rfl rfl (fun _ => by kernel_rfl) ?_; clear O; intro W1 b15 O K1 hb; clear K1 hb; simp only [Act.put, kA, kZ, kS])
           | (refine own_store_rowK 0 (.tmp 15) (.tmp 75) O rfl rfl rfl rfl rfl rfl (by kernel_rfl) (by rfl) (evC_cell _) ?_; clear O; intro W2 O K2; simp only [kZ] at O; clear K2; have d1 : W2.cell? ⟨b15, 1, none⟩ = some (.int .i64 15) := (O.get 0 rfl).cell 1; have d2 : W2.cell? ⟨b15, 2, none⟩ = some (.int .i64 a) := (O.get 0 rfl).cell 2; have d3 : W2.cell? ⟨b15, 3, none⟩ = some (.int .i64 v) := (O.get 0 rfl).cell 3))
           clear d1 d2 d3
           go_roundg (n - (k + 1))
           case measure => (have := HG.out; omega)
           case rel => exact ⟨k + 1, by omega, rfl, by go_num, by rw [HX1.out, HX2.out]; exact O.drop_ 1⟩
         · have hvJ : (J : Int) ≤ v := by
             refine Int.not_lt.1 fun q => hw ⟨rfl, by omega, q⟩
           have q1 : decide ((J : Int) ≤ v) = true := decide_eq_true hvJ
           have q2 : decide (v < 0) = false := decide_eq_false hv0
           clear hw
           go_wp2_with (first
           | go_big_skip
           | (refine wpList_load_at 75 rfl rfl rfl rfl (HC.out [] _ O.keep (by simp)) Try.underlying37 rfl (by kernel_rfl) ?_; simp only [Act.put, kA, kZ, kS])
           | (refine own_allocK 15 (evC ⟨0, 0, 0, 0, false⟩) O rfl rfl rfl (fun _ => by kernel_rfl) ?_; clear O; intro W1 b15 O K1 hb; clear K1 hb; simp only [Act.put, kA, kZ, kS])
           | (refine own_store_rowK 0 (.tmp 15) (.tmp 75) O rfl rfl rfl rfl rfl rfl (by kernel_rfl) (by rfl) (evC_cell _) ?_; clear O; intro W2 O K2; simp only [kZ] at O; clear K2; have d1 : W2.cell? ⟨b15, 1, none⟩ = some (.int .i64 15) := (O.get 0 rfl).cell 1; have d2 : W2.cell? ⟨b15, 2, none⟩ = some (.int .i64 a) := (O.get 0 rfl).cell 2; have d3 : W2.cell? ⟨b15, 3, none⟩ = some (.int .i64 v) := (O.get 0 rfl).cell 3))
           clear d1 d2 d3
           go_roundg (n - (k + 1))
           case measure => (have := HG.out; omega)
           case rel => exact ⟨k + 1, by omega, rfl, by go_num, by rw [HX1.out, HX2.out]; exact O.drop_ 1⟩
       · have q1 : (op != 15) = true := by simpa using ho
         clear hw
         try skip
         go_wp2_with (first
         | go_big_skip
         | (refine wpList_load_at 75 rfl rfl rfl rfl (HC.out [] _ O.keep (by simp)) Try.underlying37 rfl (by kernel_rfl) ?_; simp only [Act.put, kA, kZ, kS])
         | (refine own_allocK 15 (evC ⟨0, 0, 0, 0, false⟩) O rfl rfl rfl (fun _ => by kernel_rfl) ?_; clear O; intro W1 b15 O K1 hb; clear K1 hb; simp only [Act.put, kA, kZ, kS])
         | (refine own_store_rowK 0 (.tmp 15) (.tmp 75) O rfl rfl rfl rfl rfl rfl (by kernel_rfl) (by rfl) (evC_cell _) ?_; clear O; intro W2 O K2; simp only [kZ] at O; clear K2; have d1 : W2.cell? ⟨b15, 1, none⟩ = some (.int .i64 op) := (O.get 0 rfl).cell 1; have d2 : W2.cell? ⟨b15, 2, none⟩ = some (.int .i64 a) := (O.get 0 rfl).cell 2; have d3 : W2.cell? ⟨b15, 3, none⟩ = some (.int .i64 v) := (O.get 0 rfl).cell 3))
         clear d1 d2 d3
         go_roundg (n - (k + 1))
         case measure => (have := HG.out; omega)
         case rel => exact ⟨k + 1, by omega, rfl, by go_num, by rw [HX1.out, HX2.out]; exact O.drop_ 1⟩
   · obtain rfl : n = k := by omega
     have hgh := (own_at O 1 rfl).1
     clear hlt
     have g2 : ¬ (n : Int) < (n : Int) := by omega
     have HBF := Lib.hid (fun u (K : Keeps wq u []) (i j : Int) => tbefore_any (cb := ce) (HI.out.kept K) (HE.out.kept K) HCE.out HWF.out i j)
     clear g2 hgh HG
     rename World => wr1
     have HJ1 := Lib.hid (fun u (K : Keeps wr1 u []) => (O.get 1 rfl).keeps K (by simp))
     have HJ2 := Lib.hid (fun u (K : Keeps wr1 u []) => (O.get 0 rfl).keeps K (by simp))
     have HO1 := Lib.hid O.keep
     clear O
     go_wp2
     go_loopg [16] J (fun g s16 wr => ∃ k, k ≤ J ∧ g = J - k ∧ s16 = .int .i64 (k : Int) ∧ Keeps wr1 wr [])
     case atStart => exact ⟨0, by omega, by omega, rfl, Keeps.refl _ _⟩
     case round =>
       rename World => wr2
       obtain ⟨k, hk, hgk, rfl, K2⟩ := hrel
       have HG := Lib.hid hgk
       have HK2 := Lib.hid K2
       clear hgk K2
       by_cases hkj : k < J
       · have g2 : (k : Int) < (J : Int) := by omega
         have g3 : (0 : Int) ≤ (k : Int) := by omega
         obtain ⟨h, f, h1, h2, h3, h4, h5, h6⟩ := HTB.out k hkj
         have h14 : h ≤ 40000 := by omega
         have f14 : f ≤ 40000 := by omega
         have dH : wr2.cell? ⟨gh, k, none⟩ = some (.int .i64 ((h : Int) + 1)) := ((HJ1.out _ HK2.out).cell k).trans ((arrI_get _ _ _ hkj).trans (by rw [h3]))
         have dF : wr2.cell? ⟨gd, k, none⟩ = some (.int .i64 ((f : Int) + 1)) := ((HJ2.out _ HK2.out).cell k).trans ((arrI_get _ _ _ hkj).trans (by rw [h4]))
         have HA : ∀ u, Keeps wr2 u [] → Hid (Calls Try.prog 44 #[.agg (sysV S A c R d), .slice Ae n ce, .int .i64 (h : Int), .int .i64 (f : Int)] u fun e u' => e = .returned (.tuple #[.bool true, .int .i64 0]) ∧ Keeps u u' []) := fun u K => Lib.hid (by have := HBF.out u (HO1.out.trans (HK2.out.trans K (by simp)) (by simp)) (h : Int) (f : Int); rw [h5] at this; exact this)
         have HC2 : ∀ u, Keeps wr2 u [] → Hid (Calls Try.prog 44 #[.agg (sysV S A c R d), .slice Ae n ce, .int .i64 (f : Int), .int .i64 (h : Int)] u fun e u' => e = .returned (.tuple #[.bool false, .int .i64 0]) ∧ Keeps u u' []) := fun u K => Lib.hid (by have := HBF.out u (HO1.out.trans (HK2.out.trans K (by simp)) (by simp)) (f : Int) (h : Int); rw [h6] at this; exact this)
         have r1 : ((h : Int) + 1 == 0) = false := by rw [beq_eq_false_iff_ne]; omega
         have r2 : ((f : Int) + 1 == 0) = false := by rw [beq_eq_false_iff_ne]; omega
         have HS8 := Lib.hid (fun u (K : Keeps wr2 u []) => HB8.out u (HO1.out.trans (HK2.out.trans K (by simp)) (by simp)))
         have HS10 := Lib.hid (fun u (K : Keeps wr2 u []) => HA10.out u (HO1.out.trans (HK2.out.trans K (by simp)) (by simp)))
         clear h1 h2 h3 h4 h5 h6
         go_wp2_with go_big_skip
         have dHL : ∀ q : Later wr2, q.1.cell? ⟨gh, k, none⟩ = some (.int .i64 ((h : Int) + 1)) := fun q => by rw [q.2.cellAt (World.block_lt_of_cell? wr2 _ dH) (by simp)]; exact dH
         have dFL : ∀ q : Later wr2, q.1.cell? ⟨gd, k, none⟩ = some (.int .i64 ((f : Int) + 1)) := fun q => by rw [q.2.cellAt (World.block_lt_of_cell? wr2 _ dF) (by simp)]; exact dF
         have c2L : ∀ q : Later wr2, q.1.cell? ⟨a10, 2, none⟩ = some (.slice Ae n ce) := fun q => (HS10.out _ q.2).cell 2
         have c8L : ∀ u, (∃ p : Later wr2, u = p.1) → ∀ k, k < (sysV S A c R d).size → u.cell? ((⟨b8, 0, none⟩ : Addr).add k) = (sysV S A c R d)[k]? := fun u hu k _ => by
           obtain ⟨p, rfl⟩ := hu
           exact blk_add (HS8.out _ p.2) k
         clear dH dF
         refine wp_quiet_later (by kernel_rfl) (by kernel_rfl) ?_
         repeat (first
           | go_big_quiet_skip
           | (refine wpQuiet_load_at (cs := sysV S A c R d) 124 rfl rfl rfl rfl c8L Try.underlying27 rfl (by kernel_rfl) ?_; simp only [Act.put, kA, kZ, kS])
           | go_big_quiet_step ((go_at_call 44; exact later_of (HA _ (Later.keep _)).out)))
         refine kq fun p' => ?_
         have HK3 := Lib.hid (HK2.out.trans p'.2 (by simp))
         have dHL' : ∀ q : Later p'.1, q.1.cell? ⟨gh, k, none⟩ = some (.int .i64 ((h : Int) + 1)) := fun q => dHL ⟨q.1, p'.2.trans q.2 (by simp)⟩
         have dFL' : ∀ q : Later p'.1, q.1.cell? ⟨gd, k, none⟩ = some (.int .i64 ((f : Int) + 1)) := fun q => dFL ⟨q.1, p'.2.trans q.2 (by simp)⟩
         have c2L' : ∀ q : Later p'.1, q.1.cell? ⟨a10, 2, none⟩ = some (.slice Ae n ce) := fun q => c2L ⟨q.1, p'.2.trans q.2 (by simp)⟩
         have c8L' : ∀ u, (∃ p : Later p'.1, u = p.1) → ∀ k, k < (sysV S A c R d).size → u.cell? ((⟨b8, 0, none⟩ : Addr).add k) = (sysV S A c R d)[k]? := fun u hu => by
           obtain ⟨q, rfl⟩ := hu
           exact c8L _ ⟨⟨q.1, p'.2.trans q.2 (by simp)⟩, rfl⟩
         have HC3 : ∀ q : Later p'.1, Hid (Calls Try.prog 44 #[.agg (sysV S A c R d), .slice Ae n ce, .int .i64 (f : Int), .int .i64 (h : Int)] q.1 fun e u' => e = .returned (.tuple #[.bool false, .int .i64 0]) ∧ Keeps q.1 u' []) := fun q => HC2 _ (p'.2.trans q.2 (by simp))
         clear dHL dFL c2L c8L HA HC2 HS8 HS10
         generalize p'.1 = W9 at HK3 dHL' dFL' c2L' c8L' HC3 ⊢
         go_wp2
         refine wp_quiet_later (by kernel_rfl) (by kernel_rfl) ?_
         repeat (first
           | go_big_quiet_skip
           | (refine wpQuiet_load_at (cs := sysV S A c R d) 141 rfl rfl rfl rfl c8L' Try.underlying27 rfl (by kernel_rfl) ?_; simp only [Act.put, kA, kZ, kS])
           | go_big_quiet_step ((go_at_call 44; exact later_of (HC3 _).out)))
         refine wpQuiet_nil ?_
         intro _ hw
         obtain ⟨p2, rfl⟩ := hw
         have HK4 := Lib.hid (HK3.out.trans p2.2 (by simp))
         clear dHL' dFL' c2L' c8L' HC3
         generalize p2.1 = W10 at HK4 ⊢
         go_wp2_with go_big_skip
         go_roundg (J - (k + 1))
         case measure => (have := HG.out; omega)
         case rel => exact ⟨k + 1, by omega, rfl, by go_num, HK4.out⟩
       · obtain rfl : J = k := by omega
         have g2 : ¬ (J : Int) < (J : Int) := by omega
         clear hkj
         go_wp2
         go_returns
         exact ⟨rfl, HK0.out.trans (HO1.out.trans HK2.out (by simp)) (by simp)⟩
theorem ordered_walk (jb : Nat) (hj : jb ≤ 255) (x y : Int) (pv : Value) (picks : List Int) (hp : IntL w pv picks) : Calls Try.prog 19 #[.int .u8 (jb : Int), .agg (plV x y), pv] w fun e u => e = .returned (.bool true) ∧ Keeps w u [] := by
 cases h : plB x y with
 | false => exact ordered_bad jb hj x y pv h
 | true =>
   obtain ⟨a, b, rfl, rfl, h1⟩ := pl_nat h
   by_cases h8 : a ≤ 8
   · exact ordered_good jb hj a b pv picks hp h h1 h8
   · exact ordered_many jb hj a b pv h (by omega)
end
open Go.ChangeShapes Go.WideShapes Go.RowKit Go.Maps Go.Deep
section
variable {w : World}
set_option maxRecDepth 100000 in
theorem open_picks {H : Type} {enc : TypeId × Value → H} {base : Nat} {v : Value} {d : DataW H} {p : List MemPlace} (hval : Value.okWide Try.prog w .any base 25 v) (h : DataW.Trod enc Try.prog w 0 (fun _ => true) true 25 v d p) : ∃ picks, IntL w v picks := by
 obtain ⟨a0, len0, cap0, rfl⟩ := okWide_slice Try.underlying25 hval
 obtain ⟨fuel, hf⟩ := h
 obtain ⟨A, n, c, f, e, h1, h2, h3⟩ := open_rooms (v := .slice a0 len0 cap0) hf
 refine ⟨(List.range n).map fun i => f i, A, c, by rw [e]; simp, fun hn => ?_⟩
 simp only [List.length_map, List.length_range] at hn ⊢
 obtain ⟨ad, e1, hb, hc⟩ := h3 hn
 refine ⟨ad, e1, hb, fun j hj => ?_⟩
 rw [hc j hj]
 simp [List.getD_eq_getElem?_getD, hj]
end
end Go.Proofs.Ytakmcpadkanggaa
