/-
  What guards a cell: one event (the closure of trace.Guards).
-/
import Derived.Test.YtakmcpadkanggaaT18
namespace Go.Proofs.Ytakmcpadkanggaa
open Go.RowKit Go.Maps Go.Deep

def rwB (e : Ev) (cell : Int) : Bool := (decide (e.op = 12) || decide (e.op = 13)) && decide (e.a = cell)
/-- Does lock q guard the cell, behind k events? -/
def goodR (E : Nat → Ev) (cell q : Int) : Nat → Bool
  | 0 => true
  | k + 1 => goodR E cell q k && ((!rwB (E k) cell || decide (refW E q k = (E k).who)) && (!(decide ((E k).op = 9) && decide ((E k).a = q)) || decide (refW E q k = (E k).who)))
def someR (E : Nat → Ev) (cell : Int) : Nat → Bool
  | 0 => false
  | k + 1 => someR E cell k || rwB (E k) cell
/-- The first ones anew. -/
def mixG (G1 G0 : Int → Bool) (j : Nat) : Int → Bool := fun q => if q < (j : Int) then G1 q else G0 q
theorem mixG_step (G1 G0 : Int → Bool) (j : Nat) : updI (mixG G1 G0 j) (j : Nat) (G1 j) = mixG G1 G0 (j + 1) := by
  funext q
  by_cases h : q = (j : Int)
  · subst h; rw [updI_same]; simp [mixG]; omega
  · rw [updI_other _ _ _ _ h]
    simp only [mixG]
    by_cases h2 : q < (j : Int)
    · rw [if_pos h2, if_pos (by omega)]
    · rw [if_neg h2, if_neg (by omega)]
theorem arrB_congr {n : Nat} {f g : Int → Bool} (h : ∀ i : Nat, i < n → f i = g i) : arrB n f = arrB n g := by
  apply Array.ext_getElem?
  intro j
  by_cases hj : j < n
  · rw [arrB_get _ _ _ hj, arrB_get _ _ _ hj, h j hj]
  · simp [arrB, hj]
theorem mixG_zero (G1 G0 : Int → Bool) (n : Nat) : arrB n (mixG G1 G0 0) = arrB n G0 := arrB_congr fun i _ => by simp [mixG]; omega
theorem mixG_all (G1 G0 : Int → Bool) (n : Nat) : arrB n (mixG G1 G0 n) = arrB n G1 := arrB_congr fun i hi => by simp [mixG]; omega
section
variable {n : Nat} {E : Nat → Ev} {B : Option Addr} {cb : Nat}
/-- What is known where Guards calls holder. -/
structure GuardAt (w1 : World) (E : Nat → Ev) (B : Option Addr) (n cb m : Nat) (cell : Int) (pl pg pc po ga : Nat) : Prop where
  fl : Blk w1 pl 31 #[.slice B n cb]
  fg : Blk w1 pg 41 #[.slice (some ⟨ga, 0, none⟩) m m]
  fc : Blk w1 pc 3 #[.int .i64 cell]
  fo : Blk w1 po 4 #[.bool false]
  fa : Blk w1 ga 4 (arrB m fun _ => true)
  ne : ga ≠ po
  fe : EvsAt w1 B n E
  off : 0 < n → ∀ ad, B = some ad → ad.block ≠ po ∧ ad.block ≠ ga
  m64 : m ≤ 64
  hn : n ≤ 40000
  who : ∀ j, j < n → 0 ≤ (E j).who ∧ (E j).who ≤ 100000
  free : ∀ j, j < n → (E j).op = 9 → 0 ≤ (E j).a ∧ (E j).a < m
  wf : ∀ j, j < n → (Lit.int .i64 (E j).a).wf = true
structure GInv (w1 u : World) (E : Nat → Ev) (m : Nat) (cell : Int) (po ga k : Nat) : Prop where
  keep : Keeps w1 u [ga, po]
  a : Blk u ga 4 (arrB m fun q => goodR E cell q k)
  o : Blk u po 4 #[.bool (someR E cell k)]
variable {w1 u : World} {m pl pg pc po ga b k : Nat} {cell : Int}
def GPost (w1 : World) (E : Nat → Ev) (m : Nat) (cell : Int) (po ga b k : Nat) (u : World) (e : Ending) (u' : World) : Prop :=
  e = .returned (.tuple #[]) ∧ GInv w1 u' E m cell po ga (k + 1) ∧ MapI u' b k (whoF E k) ∧ ∀ g cs, Blk u g 37 cs → Blk u' g 37 cs
theorem GInv.post {u' : World} {f : Int → Bool} {s : Bool} {L : List Ent} {i j : Nat} (I : GInv w1 u E m cell po ga k) (M : MapI u b k (whoF E k)) (O : Own u u' [ga, po] L) (hi : L[i]? = some (ga, 4, arrB m f)) (hj : L[j]? = some (po, 4, #[.bool s]))
    (hf : ∀ q : Nat, q < m → f q = goodR E cell q (k + 1)) (hs : s = someR E cell (k + 1)) : GPost w1 E m cell po ga b k u (.returned (.tuple #[])) u' := by
  refine ⟨rfl, ⟨I.keep.trans O.keep (fun x hx _ => hx), by have := O.get i hi; rwa [arrB_congr (g := fun q => goodR E cell q (k + 1)) hf] at this, by rw [← hs]; exact O.get j hj⟩, M.keeps O.keep (by simpa using ⟨(M.not_blk I.a).symm, (M.not_blk I.o).symm⟩), fun g cs h => h.keeps O.keep (by simpa using ⟨h.ne I.a (by decide), h.ne I.o (by decide)⟩)⟩

set_option maxRecDepth 100000 in
set_option maxHeartbeats 1000000 in
theorem guard1_A (H : GuardAt w1 E B n cb m cell pl pg pc po ga) (hk : k < n) (I : GInv w1 u E m cell po ga k) (M : MapI u b k (whoF E k)) (who op a v : Int) (sh : Bool) (he : E k = ⟨who, op, a, v, sh⟩) (h9 : op = 9) (hw : ¬ refW E a k = who) : Calls Try.prog 67 #[.int .i64 (k : Int), .map (some b), .pointer (some ⟨pl, 0, none⟩), .pointer (some ⟨pg, 0, none⟩), .pointer (some ⟨pc, 0, none⟩), .pointer (some ⟨po, 0, none⟩)] u (GPost w1 E m cell po ga b k u) := by
  have O := ((Own.start u [ga, po]).have_ I.a (by simp) (by simp)).have_ I.o (by simp) (by simpa using H.ne)
  have HP := Lib.hid (fun (u' : World) (f : Int → Bool) (s : Bool) (L : List Ent) (i j : Nat) => I.post (u' := u') (f := f) (s := s) (L := L) (i := i) (j := j) M)
  have npl : pl ≠ ga ∧ pl ≠ po := ⟨H.fl.ne H.fa (by decide), H.fl.ne H.fo (by decide)⟩
  have npg : pg ≠ ga ∧ pg ≠ po := ⟨H.fg.ne H.fa (by decide), H.fg.ne H.fo (by decide)⟩
  have npc : pc ≠ ga ∧ pc ≠ po := ⟨H.fc.ne H.fa (by decide), H.fc.ne H.fo (by decide)⟩
  have CL := Lib.hid (fun W (K : Keeps u W [ga, po]) => (H.fl.keeps (I.keep.trans K (fun x hx _ => hx)) (by simpa using npl)).cell 0)
  have CG := Lib.hid (fun W (K : Keeps u W [ga, po]) => (H.fg.keeps (I.keep.trans K (fun x hx _ => hx)) (by simpa using npg)).cell 0)
  have CC := Lib.hid (fun W (K : Keeps u W [ga, po]) => (H.fc.keeps (I.keep.trans K (fun x hx _ => hx)) (by simpa using npc)).cell 0)
  have LK := Lib.hid (fun W (K : Keeps u W [ga, po]) (q : Int) (hq : (Lit.int .i64 q).wf = true) => (show (Instr.lookup 117 (.map (some b)) (.int .i64 q) false).run Try.prog W = .ok (.int .i64 (refW E q k + 1)) W from by have := look_eqI (M.keeps K (by simpa using ⟨(M.not_blk I.a).symm, (M.not_blk I.o).symm⟩)) 117 Try.underlying117 q hq; rwa [whoF_ref] at this))
  have HWF := Lib.hid (show (Lit.int .i64 a).wf = true by have := H.wf k hk; rwa [he] at this)
  have HWO := Lib.hid (show 0 ≤ who ∧ who ≤ 100000 by have := H.who k hk; rwa [he] at this)
  have HFR := Lib.hid (show op = 9 → 0 ≤ a ∧ a < m by have := H.free k hk; rwa [he] at this)
  have r1 : IntKind.i64.wrap (who + 1) = who + 1 := IntWalk.i64_in _ (by have := HWO.out; omega)
  have b1 := H.m64
  have g1 : ((k : Nat) : Int) < n := by omega
  have g0 : (0 : Int) ≤ k := by omega
  obtain ⟨ad, hB, hc⟩ := EvsAt.row (u := w1) H.fe hk
  have HC := Lib.hid (fun W (K : Keeps u W [ga, po]) => hc [ga, po] W (I.keep.trans K (fun x hx _ => hx)) (by simpa using ⟨(H.off (by omega) ad hB).2, (H.off (by omega) ad hB).1⟩))
  subst hB
  have HG0 := Lib.hid (show ∀ q, goodR E cell q (k + 1) = (goodR E cell q k && ((!rwB (E k) cell || decide (refW E q k = (E k).who)) && (!(decide ((E k).op = 9) && decide ((E k).a = q)) || decide (refW E q k = (E k).who)))) from fun q => rfl)
  have HS0 := Lib.hid (show someR E cell (k + 1) = (someR E cell k || rwB (E k) cell) from rfl)
  rw [he] at HC HG0 HS0
  subst h9
  obtain ⟨aN, rfl⟩ : ∃ aN : Nat, a = (aN : Int) := ⟨a.toNat, by have := HFR.out rfl; omega⟩
  have e1 : (refW E aN k + 1 != who + 1) = true := by simpa using (show ¬ refW E aN k + 1 = who + 1 by omega)
  have g3 : ((aN : Nat) : Int) < m := (HFR.out rfl).2
  have g4 : (0 : Int) ≤ aN := by omega
  have ak := add_zero_ ga aN
  clear hc H I M npl npg npc he
  go_enter Try.func67, Try.ntmps67
  have cl := CL.out _ O.keep
  go_wp2_with (first
    | go_big_skip
    | (refine wpList_load_at 13 rfl rfl rfl rfl (HC.out _ O.keep) Try.underlying37 rfl (by kernel_rfl) ?_; simp only [Act.put, List.setIfInBounds_toArray, List.set_cons_zero, List.set_cons_succ])
    | (refine own_alloc 8 (evC ⟨0, 0, 0, 0, false⟩) O rfl rfl rfl (fun _ => by kernel_rfl) ?_; clear O; intro W a8 O; simp only [Act.put, List.setIfInBounds_toArray, List.set_cons_zero, List.set_cons_succ]; clear cl)
    | (refine own_store_row 0 (.tmp 8) (.tmp 13) O rfl rfl rfl rfl rfl rfl (by kernel_rfl) (by rfl) (evC_cell _) ?_; clear O; intro W O; simp only [List.set_cons_zero] at O; have cl := CL.out _ O.keep; have cg := CG.out _ O.keep; have cc := CC.out _ O.keep; have c8 : ∀ i, W.cell? ⟨a8, i, none⟩ = #[Value.int .i64 who, .int .i64 9, .int .i64 (aN : Int), .int .i64 v, .bool sh][i]? := (O.get 0 rfl).cell; have lk := LK.out _ O.keep _ HWF.out)
    | (refine own_store 2 aN (.bool false) (.tmp 31) (.const (.bool false)) O rfl rfl rfl rfl rfl rfl (by simp only [arrB_size]; omega) rfl rfl (by kernel_rfl) (arrB_set _ _ _ _) ?_; clear O; intro W O; simp only [List.set_cons_zero, List.set_cons_succ] at O))
  go_returns
  refine HP.out _ _ _ _ 2 1 O rfl rfl (fun q hq => ?_) ?_
  · rw [HG0.out]
    by_cases hqa : q = aN
    · subst hqa; rw [updI_same]; simp [rwB, hw]
    · rw [updI_other _ _ _ _ (by omega)]; simp [rwB]; omega
  · rw [HS0.out]; simp [rwB]

set_option maxRecDepth 100000 in
set_option maxHeartbeats 1000000 in
theorem guard1_B (H : GuardAt w1 E B n cb m cell pl pg pc po ga) (hk : k < n) (I : GInv w1 u E m cell po ga k) (M : MapI u b k (whoF E k)) (who op a v : Int) (sh : Bool) (he : E k = ⟨who, op, a, v, sh⟩) (h9 : op = 9) (hw : refW E a k = who) : Calls Try.prog 67 #[.int .i64 (k : Int), .map (some b), .pointer (some ⟨pl, 0, none⟩), .pointer (some ⟨pg, 0, none⟩), .pointer (some ⟨pc, 0, none⟩), .pointer (some ⟨po, 0, none⟩)] u (GPost w1 E m cell po ga b k u) := by
  have O := ((Own.start u [ga, po]).have_ I.a (by simp) (by simp)).have_ I.o (by simp) (by simpa using H.ne)
  have HP := Lib.hid (fun (u' : World) (f : Int → Bool) (s : Bool) (L : List Ent) (i j : Nat) => I.post (u' := u') (f := f) (s := s) (L := L) (i := i) (j := j) M)
  have npl : pl ≠ ga ∧ pl ≠ po := ⟨H.fl.ne H.fa (by decide), H.fl.ne H.fo (by decide)⟩
  have npg : pg ≠ ga ∧ pg ≠ po := ⟨H.fg.ne H.fa (by decide), H.fg.ne H.fo (by decide)⟩
  have npc : pc ≠ ga ∧ pc ≠ po := ⟨H.fc.ne H.fa (by decide), H.fc.ne H.fo (by decide)⟩
  have CL := Lib.hid (fun W (K : Keeps u W [ga, po]) => (H.fl.keeps (I.keep.trans K (fun x hx _ => hx)) (by simpa using npl)).cell 0)
  have CG := Lib.hid (fun W (K : Keeps u W [ga, po]) => (H.fg.keeps (I.keep.trans K (fun x hx _ => hx)) (by simpa using npg)).cell 0)
  have CC := Lib.hid (fun W (K : Keeps u W [ga, po]) => (H.fc.keeps (I.keep.trans K (fun x hx _ => hx)) (by simpa using npc)).cell 0)
  have LK := Lib.hid (fun W (K : Keeps u W [ga, po]) (q : Int) (hq : (Lit.int .i64 q).wf = true) => (show (Instr.lookup 117 (.map (some b)) (.int .i64 q) false).run Try.prog W = .ok (.int .i64 (refW E q k + 1)) W from by have := look_eqI (M.keeps K (by simpa using ⟨(M.not_blk I.a).symm, (M.not_blk I.o).symm⟩)) 117 Try.underlying117 q hq; rwa [whoF_ref] at this))
  have HWF := Lib.hid (show (Lit.int .i64 a).wf = true by have := H.wf k hk; rwa [he] at this)
  have HWO := Lib.hid (show 0 ≤ who ∧ who ≤ 100000 by have := H.who k hk; rwa [he] at this)
  have HFR := Lib.hid (show op = 9 → 0 ≤ a ∧ a < m by have := H.free k hk; rwa [he] at this)
  have r1 : IntKind.i64.wrap (who + 1) = who + 1 := IntWalk.i64_in _ (by have := HWO.out; omega)
  have b1 := H.m64
  have g1 : ((k : Nat) : Int) < n := by omega
  have g0 : (0 : Int) ≤ k := by omega
  obtain ⟨ad, hB, hc⟩ := EvsAt.row (u := w1) H.fe hk
  have HC := Lib.hid (fun W (K : Keeps u W [ga, po]) => hc [ga, po] W (I.keep.trans K (fun x hx _ => hx)) (by simpa using ⟨(H.off (by omega) ad hB).2, (H.off (by omega) ad hB).1⟩))
  subst hB
  have HG0 := Lib.hid (show ∀ q, goodR E cell q (k + 1) = (goodR E cell q k && ((!rwB (E k) cell || decide (refW E q k = (E k).who)) && (!(decide ((E k).op = 9) && decide ((E k).a = q)) || decide (refW E q k = (E k).who)))) from fun q => rfl)
  have HS0 := Lib.hid (show someR E cell (k + 1) = (someR E cell k || rwB (E k) cell) from rfl)
  rw [he] at HC HG0 HS0
  subst h9
  have e1 : (who + 1 != who + 1) = false := by simp
  have HW := Lib.hid hw
  clear hw
  clear hc H I M npl npg npc he
  go_enter Try.func67, Try.ntmps67
  have cl := CL.out _ O.keep
  go_wp2_with (first
    | go_big_skip
    | (refine wpList_load_at 13 rfl rfl rfl rfl (HC.out _ O.keep) Try.underlying37 rfl (by kernel_rfl) ?_; simp only [Act.put, List.setIfInBounds_toArray, List.set_cons_zero, List.set_cons_succ])
    | (refine own_alloc 8 (evC ⟨0, 0, 0, 0, false⟩) O rfl rfl rfl (fun _ => by kernel_rfl) ?_; clear O; intro W a8 O; simp only [Act.put, List.setIfInBounds_toArray, List.set_cons_zero, List.set_cons_succ]; clear cl)
    | (refine own_store_row 0 (.tmp 8) (.tmp 13) O rfl rfl rfl rfl rfl rfl (by kernel_rfl) (by rfl) (evC_cell _) ?_; clear O; intro W O; simp only [List.set_cons_zero] at O; have cl := CL.out _ O.keep; have cg := CG.out _ O.keep; have cc := CC.out _ O.keep; have c8 : ∀ i, W.cell? ⟨a8, i, none⟩ = #[Value.int .i64 who, .int .i64 9, .int .i64 a, .int .i64 v, .bool sh][i]? := (O.get 0 rfl).cell; have lk := LK.out _ O.keep _ HWF.out; rw [HW.out] at lk))
  go_returns
  refine HP.out _ _ _ _ 2 1 O rfl rfl (fun q hq => ?_) ?_
  · rw [HG0.out]; by_cases hqa : a = (q : Int)
    · rw [← hqa]; simp [rwB, HW.out]
    · simp [rwB, hqa]
  · rw [HS0.out]; simp [rwB]

set_option maxRecDepth 100000 in
set_option maxHeartbeats 1000000 in
theorem guard1_D12 (H : GuardAt w1 E B n cb m cell pl pg pc po ga) (hk : k < n) (I : GInv w1 u E m cell po ga k) (M : MapI u b k (whoF E k)) (who op a v : Int) (sh : Bool) (he : E k = ⟨who, op, a, v, sh⟩) (ho : op = 12) (hw : ¬ a = cell) : Calls Try.prog 67 #[.int .i64 (k : Int), .map (some b), .pointer (some ⟨pl, 0, none⟩), .pointer (some ⟨pg, 0, none⟩), .pointer (some ⟨pc, 0, none⟩), .pointer (some ⟨po, 0, none⟩)] u (GPost w1 E m cell po ga b k u) := by
  have O := ((Own.start u [ga, po]).have_ I.a (by simp) (by simp)).have_ I.o (by simp) (by simpa using H.ne)
  have HP := Lib.hid (fun (u' : World) (f : Int → Bool) (s : Bool) (L : List Ent) (i j : Nat) => I.post (u' := u') (f := f) (s := s) (L := L) (i := i) (j := j) M)
  have npl : pl ≠ ga ∧ pl ≠ po := ⟨H.fl.ne H.fa (by decide), H.fl.ne H.fo (by decide)⟩
  have npg : pg ≠ ga ∧ pg ≠ po := ⟨H.fg.ne H.fa (by decide), H.fg.ne H.fo (by decide)⟩
  have npc : pc ≠ ga ∧ pc ≠ po := ⟨H.fc.ne H.fa (by decide), H.fc.ne H.fo (by decide)⟩
  have CL := Lib.hid (fun W (K : Keeps u W [ga, po]) => (H.fl.keeps (I.keep.trans K (fun x hx _ => hx)) (by simpa using npl)).cell 0)
  have CG := Lib.hid (fun W (K : Keeps u W [ga, po]) => (H.fg.keeps (I.keep.trans K (fun x hx _ => hx)) (by simpa using npg)).cell 0)
  have CC := Lib.hid (fun W (K : Keeps u W [ga, po]) => (H.fc.keeps (I.keep.trans K (fun x hx _ => hx)) (by simpa using npc)).cell 0)
  have LK := Lib.hid (fun W (K : Keeps u W [ga, po]) (q : Int) (hq : (Lit.int .i64 q).wf = true) => (show (Instr.lookup 117 (.map (some b)) (.int .i64 q) false).run Try.prog W = .ok (.int .i64 (refW E q k + 1)) W from by have := look_eqI (M.keeps K (by simpa using ⟨(M.not_blk I.a).symm, (M.not_blk I.o).symm⟩)) 117 Try.underlying117 q hq; rwa [whoF_ref] at this))
  have HWF := Lib.hid (show (Lit.int .i64 a).wf = true by have := H.wf k hk; rwa [he] at this)
  have HWO := Lib.hid (show 0 ≤ who ∧ who ≤ 100000 by have := H.who k hk; rwa [he] at this)
  have HFR := Lib.hid (show op = 9 → 0 ≤ a ∧ a < m by have := H.free k hk; rwa [he] at this)
  have r1 : IntKind.i64.wrap (who + 1) = who + 1 := IntWalk.i64_in _ (by have := HWO.out; omega)
  have b1 := H.m64
  have g1 : ((k : Nat) : Int) < n := by omega
  have g0 : (0 : Int) ≤ k := by omega
  obtain ⟨ad, hB, hc⟩ := EvsAt.row (u := w1) H.fe hk
  have HC := Lib.hid (fun W (K : Keeps u W [ga, po]) => hc [ga, po] W (I.keep.trans K (fun x hx _ => hx)) (by simpa using ⟨(H.off (by omega) ad hB).2, (H.off (by omega) ad hB).1⟩))
  subst hB
  have HG0 := Lib.hid (show ∀ q, goodR E cell q (k + 1) = (goodR E cell q k && ((!rwB (E k) cell || decide (refW E q k = (E k).who)) && (!(decide ((E k).op = 9) && decide ((E k).a = q)) || decide (refW E q k = (E k).who)))) from fun q => rfl)
  have HS0 := Lib.hid (show someR E cell (k + 1) = (someR E cell k || rwB (E k) cell) from rfl)
  rw [he] at HC HG0 HS0
  subst ho
  have ea : (a == cell) = false := by simpa using hw
  clear hc H I M npl npg npc he
  go_enter Try.func67, Try.ntmps67
  have cl := CL.out _ O.keep
  go_wp2_with (first
    | go_big_skip
    | (refine wpList_load_at 13 rfl rfl rfl rfl (HC.out _ O.keep) Try.underlying37 rfl (by kernel_rfl) ?_; simp only [Act.put, List.setIfInBounds_toArray, List.set_cons_zero, List.set_cons_succ])
    | (refine own_alloc 8 (evC ⟨0, 0, 0, 0, false⟩) O rfl rfl rfl (fun _ => by kernel_rfl) ?_; clear O; intro W a8 O; simp only [Act.put, List.setIfInBounds_toArray, List.set_cons_zero, List.set_cons_succ]; clear cl)
    | (refine own_store_row 0 (.tmp 8) (.tmp 13) O rfl rfl rfl rfl rfl rfl (by kernel_rfl) (by rfl) (evC_cell _) ?_; clear O; intro W O; simp only [List.set_cons_zero] at O; have cl := CL.out _ O.keep; have cg := CG.out _ O.keep; have cc := CC.out _ O.keep; have c8 : ∀ i, W.cell? ⟨a8, i, none⟩ = #[Value.int .i64 who, .int .i64 12, .int .i64 a, .int .i64 v, .bool sh][i]? := (O.get 0 rfl).cell))
  go_returns
  refine HP.out _ _ _ _ 2 1 O rfl rfl (fun q hq => ?_) ?_
  · rw [HG0.out]; simp [rwB, hw]
  · rw [HS0.out]; simp [rwB, hw]

set_option maxRecDepth 100000 in
set_option maxHeartbeats 1000000 in
theorem guard1_D13 (H : GuardAt w1 E B n cb m cell pl pg pc po ga) (hk : k < n) (I : GInv w1 u E m cell po ga k) (M : MapI u b k (whoF E k)) (who op a v : Int) (sh : Bool) (he : E k = ⟨who, op, a, v, sh⟩) (ho : op = 13) (hw : ¬ a = cell) : Calls Try.prog 67 #[.int .i64 (k : Int), .map (some b), .pointer (some ⟨pl, 0, none⟩), .pointer (some ⟨pg, 0, none⟩), .pointer (some ⟨pc, 0, none⟩), .pointer (some ⟨po, 0, none⟩)] u (GPost w1 E m cell po ga b k u) := by
  have O := ((Own.start u [ga, po]).have_ I.a (by simp) (by simp)).have_ I.o (by simp) (by simpa using H.ne)
  have HP := Lib.hid (fun (u' : World) (f : Int → Bool) (s : Bool) (L : List Ent) (i j : Nat) => I.post (u' := u') (f := f) (s := s) (L := L) (i := i) (j := j) M)
  have npl : pl ≠ ga ∧ pl ≠ po := ⟨H.fl.ne H.fa (by decide), H.fl.ne H.fo (by decide)⟩
  have npg : pg ≠ ga ∧ pg ≠ po := ⟨H.fg.ne H.fa (by decide), H.fg.ne H.fo (by decide)⟩
  have npc : pc ≠ ga ∧ pc ≠ po := ⟨H.fc.ne H.fa (by decide), H.fc.ne H.fo (by decide)⟩
  have CL := Lib.hid (fun W (K : Keeps u W [ga, po]) => (H.fl.keeps (I.keep.trans K (fun x hx _ => hx)) (by simpa using npl)).cell 0)
  have CG := Lib.hid (fun W (K : Keeps u W [ga, po]) => (H.fg.keeps (I.keep.trans K (fun x hx _ => hx)) (by simpa using npg)).cell 0)
  have CC := Lib.hid (fun W (K : Keeps u W [ga, po]) => (H.fc.keeps (I.keep.trans K (fun x hx _ => hx)) (by simpa using npc)).cell 0)
  have LK := Lib.hid (fun W (K : Keeps u W [ga, po]) (q : Int) (hq : (Lit.int .i64 q).wf = true) => (show (Instr.lookup 117 (.map (some b)) (.int .i64 q) false).run Try.prog W = .ok (.int .i64 (refW E q k + 1)) W from by have := look_eqI (M.keeps K (by simpa using ⟨(M.not_blk I.a).symm, (M.not_blk I.o).symm⟩)) 117 Try.underlying117 q hq; rwa [whoF_ref] at this))
  have HWF := Lib.hid (show (Lit.int .i64 a).wf = true by have := H.wf k hk; rwa [he] at this)
  have HWO := Lib.hid (show 0 ≤ who ∧ who ≤ 100000 by have := H.who k hk; rwa [he] at this)
  have HFR := Lib.hid (show op = 9 → 0 ≤ a ∧ a < m by have := H.free k hk; rwa [he] at this)
  have r1 : IntKind.i64.wrap (who + 1) = who + 1 := IntWalk.i64_in _ (by have := HWO.out; omega)
  have b1 := H.m64
  have g1 : ((k : Nat) : Int) < n := by omega
  have g0 : (0 : Int) ≤ k := by omega
  obtain ⟨ad, hB, hc⟩ := EvsAt.row (u := w1) H.fe hk
  have HC := Lib.hid (fun W (K : Keeps u W [ga, po]) => hc [ga, po] W (I.keep.trans K (fun x hx _ => hx)) (by simpa using ⟨(H.off (by omega) ad hB).2, (H.off (by omega) ad hB).1⟩))
  subst hB
  have HG0 := Lib.hid (show ∀ q, goodR E cell q (k + 1) = (goodR E cell q k && ((!rwB (E k) cell || decide (refW E q k = (E k).who)) && (!(decide ((E k).op = 9) && decide ((E k).a = q)) || decide (refW E q k = (E k).who)))) from fun q => rfl)
  have HS0 := Lib.hid (show someR E cell (k + 1) = (someR E cell k || rwB (E k) cell) from rfl)
  rw [he] at HC HG0 HS0
  subst ho
  have ea : (a == cell) = false := by simpa using hw
  clear hc H I M npl npg npc he
  go_enter Try.func67, Try.ntmps67
  have cl := CL.out _ O.keep
  go_wp2_with (first
    | go_big_skip
    | (refine wpList_load_at 13 rfl rfl rfl rfl (HC.out _ O.keep) Try.underlying37 rfl (by kernel_rfl) ?_; simp only [Act.put, List.setIfInBounds_toArray, List.set_cons_zero, List.set_cons_succ])
    | (refine own_alloc 8 (evC ⟨0, 0, 0, 0, false⟩) O rfl rfl rfl (fun _ => by kernel_rfl) ?_; clear O; intro W a8 O; simp only [Act.put, List.setIfInBounds_toArray, List.set_cons_zero, List.set_cons_succ]; clear cl)
    | (refine own_store_row 0 (.tmp 8) (.tmp 13) O rfl rfl rfl rfl rfl rfl (by kernel_rfl) (by rfl) (evC_cell _) ?_; clear O; intro W O; simp only [List.set_cons_zero] at O; have cl := CL.out _ O.keep; have cg := CG.out _ O.keep; have cc := CC.out _ O.keep; have c8 : ∀ i, W.cell? ⟨a8, i, none⟩ = #[Value.int .i64 who, .int .i64 13, .int .i64 a, .int .i64 v, .bool sh][i]? := (O.get 0 rfl).cell))
  go_returns
  refine HP.out _ _ _ _ 2 1 O rfl rfl (fun q hq => ?_) ?_
  · rw [HG0.out]; simp [rwB, hw]
  · rw [HS0.out]; simp [rwB, hw]

set_option maxRecDepth 100000 in
set_option maxHeartbeats 1000000 in
theorem guard1_E (H : GuardAt w1 E B n cb m cell pl pg pc po ga) (hk : k < n) (I : GInv w1 u E m cell po ga k) (M : MapI u b k (whoF E k)) (who op a v : Int) (sh : Bool) (he : E k = ⟨who, op, a, v, sh⟩) (h9 : ¬ op = 9) (h12 : ¬ op = 12) (h13 : ¬ op = 13) : Calls Try.prog 67 #[.int .i64 (k : Int), .map (some b), .pointer (some ⟨pl, 0, none⟩), .pointer (some ⟨pg, 0, none⟩), .pointer (some ⟨pc, 0, none⟩), .pointer (some ⟨po, 0, none⟩)] u (GPost w1 E m cell po ga b k u) := by
  have O := ((Own.start u [ga, po]).have_ I.a (by simp) (by simp)).have_ I.o (by simp) (by simpa using H.ne)
  have HP := Lib.hid (fun (u' : World) (f : Int → Bool) (s : Bool) (L : List Ent) (i j : Nat) => I.post (u' := u') (f := f) (s := s) (L := L) (i := i) (j := j) M)
  have npl : pl ≠ ga ∧ pl ≠ po := ⟨H.fl.ne H.fa (by decide), H.fl.ne H.fo (by decide)⟩
  have npg : pg ≠ ga ∧ pg ≠ po := ⟨H.fg.ne H.fa (by decide), H.fg.ne H.fo (by decide)⟩
  have npc : pc ≠ ga ∧ pc ≠ po := ⟨H.fc.ne H.fa (by decide), H.fc.ne H.fo (by decide)⟩
  have CL := Lib.hid (fun W (K : Keeps u W [ga, po]) => (H.fl.keeps (I.keep.trans K (fun x hx _ => hx)) (by simpa using npl)).cell 0)
  have CG := Lib.hid (fun W (K : Keeps u W [ga, po]) => (H.fg.keeps (I.keep.trans K (fun x hx _ => hx)) (by simpa using npg)).cell 0)
  have CC := Lib.hid (fun W (K : Keeps u W [ga, po]) => (H.fc.keeps (I.keep.trans K (fun x hx _ => hx)) (by simpa using npc)).cell 0)
  have LK := Lib.hid (fun W (K : Keeps u W [ga, po]) (q : Int) (hq : (Lit.int .i64 q).wf = true) => (show (Instr.lookup 117 (.map (some b)) (.int .i64 q) false).run Try.prog W = .ok (.int .i64 (refW E q k + 1)) W from by have := look_eqI (M.keeps K (by simpa using ⟨(M.not_blk I.a).symm, (M.not_blk I.o).symm⟩)) 117 Try.underlying117 q hq; rwa [whoF_ref] at this))
  have HWF := Lib.hid (show (Lit.int .i64 a).wf = true by have := H.wf k hk; rwa [he] at this)
  have HWO := Lib.hid (show 0 ≤ who ∧ who ≤ 100000 by have := H.who k hk; rwa [he] at this)
  have HFR := Lib.hid (show op = 9 → 0 ≤ a ∧ a < m by have := H.free k hk; rwa [he] at this)
  have r1 : IntKind.i64.wrap (who + 1) = who + 1 := IntWalk.i64_in _ (by have := HWO.out; omega)
  have b1 := H.m64
  have g1 : ((k : Nat) : Int) < n := by omega
  have g0 : (0 : Int) ≤ k := by omega
  obtain ⟨ad, hB, hc⟩ := EvsAt.row (u := w1) H.fe hk
  have HC := Lib.hid (fun W (K : Keeps u W [ga, po]) => hc [ga, po] W (I.keep.trans K (fun x hx _ => hx)) (by simpa using ⟨(H.off (by omega) ad hB).2, (H.off (by omega) ad hB).1⟩))
  subst hB
  have HG0 := Lib.hid (show ∀ q, goodR E cell q (k + 1) = (goodR E cell q k && ((!rwB (E k) cell || decide (refW E q k = (E k).who)) && (!(decide ((E k).op = 9) && decide ((E k).a = q)) || decide (refW E q k = (E k).who)))) from fun q => rfl)
  have HS0 := Lib.hid (show someR E cell (k + 1) = (someR E cell k || rwB (E k) cell) from rfl)
  rw [he] at HC HG0 HS0
  clear hc H I M npl npg npc he
  go_enter Try.func67, Try.ntmps67
  have cl := CL.out _ O.keep
  go_wp2_with (first
    | go_big_skip
    | (refine wpList_load_at 13 rfl rfl rfl rfl (HC.out _ O.keep) Try.underlying37 rfl (by kernel_rfl) ?_; simp only [Act.put, List.setIfInBounds_toArray, List.set_cons_zero, List.set_cons_succ])
    | (refine own_alloc 8 (evC ⟨0, 0, 0, 0, false⟩) O rfl rfl rfl (fun _ => by kernel_rfl) ?_; clear O; intro W a8 O; simp only [Act.put, List.setIfInBounds_toArray, List.set_cons_zero, List.set_cons_succ]; clear cl)
    | (refine own_store_row 0 (.tmp 8) (.tmp 13) O rfl rfl rfl rfl rfl rfl (by kernel_rfl) (by rfl) (evC_cell _) ?_; clear O; intro W O; simp only [List.set_cons_zero] at O; have cl := CL.out _ O.keep; have cg := CG.out _ O.keep; have cc := CC.out _ O.keep; have c8 : ∀ i, W.cell? ⟨a8, i, none⟩ = #[Value.int .i64 who, .int .i64 op, .int .i64 a, .int .i64 v, .bool sh][i]? := (O.get 0 rfl).cell))
  go_returns
  refine HP.out _ _ _ _ 2 1 O rfl rfl (fun q hq => ?_) ?_
  · rw [HG0.out]; simp [rwB, h9, h12, h13]
  · rw [HS0.out]; simp [rwB, h12, h13]

set_option maxRecDepth 100000 in
set_option maxHeartbeats 1000000 in
theorem guard1_C12 (H : GuardAt w1 E B n cb m cell pl pg pc po ga) (hk : k < n) (I : GInv w1 u E m cell po ga k) (M : MapI u b k (whoF E k)) (who op a v : Int) (sh : Bool) (he : E k = ⟨who, op, a, v, sh⟩) (ho : op = 12) (hw : a = cell) : Calls Try.prog 67 #[.int .i64 (k : Int), .map (some b), .pointer (some ⟨pl, 0, none⟩), .pointer (some ⟨pg, 0, none⟩), .pointer (some ⟨pc, 0, none⟩), .pointer (some ⟨po, 0, none⟩)] u (GPost w1 E m cell po ga b k u) := by
  have O := ((Own.start u [ga, po]).have_ I.a (by simp) (by simp)).have_ I.o (by simp) (by simpa using H.ne)
  have HP := Lib.hid (fun (u' : World) (f : Int → Bool) (s : Bool) (L : List Ent) (i j : Nat) => I.post (u' := u') (f := f) (s := s) (L := L) (i := i) (j := j) M)
  have npl : pl ≠ ga ∧ pl ≠ po := ⟨H.fl.ne H.fa (by decide), H.fl.ne H.fo (by decide)⟩
  have npg : pg ≠ ga ∧ pg ≠ po := ⟨H.fg.ne H.fa (by decide), H.fg.ne H.fo (by decide)⟩
  have npc : pc ≠ ga ∧ pc ≠ po := ⟨H.fc.ne H.fa (by decide), H.fc.ne H.fo (by decide)⟩
  have CL := Lib.hid (fun W (K : Keeps u W [ga, po]) => (H.fl.keeps (I.keep.trans K (fun x hx _ => hx)) (by simpa using npl)).cell 0)
  have CG := Lib.hid (fun W (K : Keeps u W [ga, po]) => (H.fg.keeps (I.keep.trans K (fun x hx _ => hx)) (by simpa using npg)).cell 0)
  have CC := Lib.hid (fun W (K : Keeps u W [ga, po]) => (H.fc.keeps (I.keep.trans K (fun x hx _ => hx)) (by simpa using npc)).cell 0)
  have LK := Lib.hid (fun W (K : Keeps u W [ga, po]) (q : Int) (hq : (Lit.int .i64 q).wf = true) => (show (Instr.lookup 117 (.map (some b)) (.int .i64 q) false).run Try.prog W = .ok (.int .i64 (refW E q k + 1)) W from by have := look_eqI (M.keeps K (by simpa using ⟨(M.not_blk I.a).symm, (M.not_blk I.o).symm⟩)) 117 Try.underlying117 q hq; rwa [whoF_ref] at this))
  have HWF := Lib.hid (show (Lit.int .i64 a).wf = true by have := H.wf k hk; rwa [he] at this)
  have HWO := Lib.hid (show 0 ≤ who ∧ who ≤ 100000 by have := H.who k hk; rwa [he] at this)
  have HFR := Lib.hid (show op = 9 → 0 ≤ a ∧ a < m by have := H.free k hk; rwa [he] at this)
  have r1 : IntKind.i64.wrap (who + 1) = who + 1 := IntWalk.i64_in _ (by have := HWO.out; omega)
  have b1 := H.m64
  have g1 : ((k : Nat) : Int) < n := by omega
  have g0 : (0 : Int) ≤ k := by omega
  obtain ⟨ad, hB, hc⟩ := EvsAt.row (u := w1) H.fe hk
  have HC := Lib.hid (fun W (K : Keeps u W [ga, po]) => hc [ga, po] W (I.keep.trans K (fun x hx _ => hx)) (by simpa using ⟨(H.off (by omega) ad hB).2, (H.off (by omega) ad hB).1⟩))
  subst hB
  have HG0 := Lib.hid (show ∀ q, goodR E cell q (k + 1) = (goodR E cell q k && ((!rwB (E k) cell || decide (refW E q k = (E k).who)) && (!(decide ((E k).op = 9) && decide ((E k).a = q)) || decide (refW E q k = (E k).who)))) from fun q => rfl)
  have HS0 := Lib.hid (show someR E cell (k + 1) = (someR E cell k || rwB (E k) cell) from rfl)
  rw [he] at HC HG0 HS0
  subst ho
  subst hw
  have ea : (a == a) = true := by simp
  clear hc H I M npl npg npc he
  go_enter Try.func67, Try.ntmps67
  have cl := CL.out _ O.keep
  go_wp2_with (first
    | go_big_skip
    | (refine wpList_load_at 13 rfl rfl rfl rfl (HC.out _ O.keep) Try.underlying37 rfl (by kernel_rfl) ?_; simp only [Act.put, List.setIfInBounds_toArray, List.set_cons_zero, List.set_cons_succ])
    | (refine own_alloc 8 (evC ⟨0, 0, 0, 0, false⟩) O rfl rfl rfl (fun _ => by kernel_rfl) ?_; clear O; intro W a8 O; simp only [Act.put, List.setIfInBounds_toArray, List.set_cons_zero, List.set_cons_succ]; clear cl)
    | (refine own_store_row 0 (.tmp 8) (.tmp 13) O rfl rfl rfl rfl rfl rfl (by kernel_rfl) (by rfl) (evC_cell _) ?_; clear O; intro W O; simp only [List.set_cons_zero] at O; have cl := CL.out _ O.keep; have cg := CG.out _ O.keep; have cc := CC.out _ O.keep; have c8 : ∀ i, W.cell? ⟨a8, i, none⟩ = #[Value.int .i64 who, .int .i64 12, .int .i64 a, .int .i64 v, .bool sh][i]? := (O.get 0 rfl).cell)
    | (refine own_store 1 0 (.bool true) (.tmp 5) (.const (.bool true)) O rfl rfl rfl rfl rfl rfl (by show 0 < 1; omega) rfl rfl (by kernel_rfl) rfl ?_; clear O; intro W O; simp only [List.set_cons_zero, List.set_cons_succ] at O; clear cl cg cc c8; have cg := CG.out _ O.keep))
  clear cg ea
  go_loopw [49] (fun i wr => ∃ j : Nat, j ≤ m ∧ i = .int .i64 j ∧ Own u wr [ga, po] [(a8, 37, evC ⟨who, 12, a, v, sh⟩), (po, 4, #[.bool true]), (ga, 4, arrB m (mixG (fun q => goodR E a q (k + 1)) (fun q => goodR E a q k) j))]) (fun i _ => m - (intOf i).toNat)
  case atStart => exact ⟨0, by omega, rfl, O.put 2 rfl (mixG_zero _ _ _).symm⟩
  case round =>
    obtain ⟨j, hj, rfl, O⟩ := hrel
    by_cases hlt : j < m
    · have g2 : ((j : Int)) < m := by omega
      have g3 : (0 : Int) ≤ j := by omega
      have ak := add_zero_ ga j
      have HGj := Lib.hid (show goodR E a (j : Int) (k + 1) = (goodR E a j k && decide (refW E j k = who)) by rw [HG0.out]; simp [rwB])
      have cgL : ∀ p : Later wr, p.1.cell? ⟨pg, 0, none⟩ = some (.slice (some ⟨ga, 0, none⟩) m m) := fun p => CG.out _ (O.keep.trans p.2 (by simp))
      have cj : ∀ p : Later wr, p.1.cell? ⟨ga, j, none⟩ = some (.bool (goodR E a j k)) := fun p => (Later.cell (O.get 2 rfl) p j).trans ((arrB_get _ _ _ hlt).trans (by simp [mixG]))
      have c8 : ∀ (p : Later wr) (i : Nat), p.1.cell? ⟨a8, i, none⟩ = #[Value.int .i64 who, .int .i64 12, .int .i64 a, .int .i64 v, .bool sh][i]? := Later.cell (O.get 0 rfl)
      have lk : ∀ p : Later wr, (Instr.lookup 117 (.map (some b)) (.int .i64 (j : Int)) false).run Try.prog p.1 = .ok (.int .i64 (refW E j k + 1)) p.1 := fun p => LK.out _ (O.keep.trans p.2 (by simp)) _ (WalkArith.wf_i64 (by omega))
      cases hv : goodR E a (j : Int) k with
      | false =>
        rw [hv] at cj
        have HV := Lib.hid hv
        clear hv
        go_wp2
        refine wp_quiet_tail_later 16 (by kernel_rfl) (by kernel_rfl) ?_
        simp only [List.take, List.drop]
        repeat (first
          | go_big_quiet_skip
          | go_big_quiet_step (fail))
        refine wpQuiet_nil ?_
        intro _ hw
        obtain ⟨p', rfl⟩ := hw
        replace O := O.keeps p'.2
        clear cgL cj c8 lk
        generalize p'.1 = W at O ⊢
        go_wp2_with (first
          | (refine own_store 2 j (.bool false) (.tmp 67) (.tmp 66) O rfl rfl rfl rfl rfl rfl (by simp only [arrB_size]; omega) rfl rfl (by kernel_rfl) (arrB_set _ _ _ _) ?_; clear O; intro W O; simp only [List.set_cons_zero, List.set_cons_succ] at O))
        clear ak
        go_roundw
        case rel =>
          have e := mixG_step (fun q => goodR E a q (k + 1)) (fun q => goodR E a q k) j
          have e2 : goodR E a (j : Int) (k + 1) = false := by rw [HGj.out]; simp [HV.out]
          simp only [e2] at e
          exact ⟨j + 1, by omega, by go_num, O.put 2 rfl (by rw [e])⟩
        case measure => (simp [intOf] <;> omega)
      | true =>
        rw [hv] at cj
        by_cases hq : refW E j k = who
        · have HV := Lib.hid (show goodR E a (j : Int) k = true ∧ refW E j k = who from ⟨hv, hq⟩)
          rw [hq] at lk
          have e1 : (who + 1 == who + 1) = true := by simp
          clear hv hq
          go_wp2
          refine wp_quiet_tail_later 16 (by kernel_rfl) (by kernel_rfl) ?_
          simp only [List.take, List.drop]
          repeat (first
            | go_big_quiet_skip
            | go_big_quiet_step (fail))
          refine wpQuiet_nil ?_
          intro _ hw
          obtain ⟨p', rfl⟩ := hw
          replace O := O.keeps p'.2
          clear cgL cj c8 lk
          generalize p'.1 = W at O ⊢
          go_wp2_with (first
            | (refine own_store 2 j (.bool true) (.tmp 67) (.tmp 66) O rfl rfl rfl rfl rfl rfl (by simp only [arrB_size]; omega) rfl rfl (by kernel_rfl) (arrB_set _ _ _ _) ?_; clear O; intro W O; simp only [List.set_cons_zero, List.set_cons_succ] at O))
          clear ak
          go_roundw
          case rel =>
            have e := mixG_step (fun q => goodR E a q (k + 1)) (fun q => goodR E a q k) j
            have e2 : goodR E a (j : Int) (k + 1) = true := by rw [HGj.out]; simp [HV.out]
            simp only [e2] at e
            exact ⟨j + 1, by omega, by go_num, O.put 2 rfl (by rw [e])⟩
          case measure => (simp [intOf] <;> omega)
        · have HV := Lib.hid (show goodR E a (j : Int) k = true ∧ ¬ refW E j k = who from ⟨hv, hq⟩)
          have e1 : (refW E j k + 1 == who + 1) = false := by simpa using (show ¬ refW E j k + 1 = who + 1 by omega)
          clear hv hq
          go_wp2
          refine wp_quiet_tail_later 16 (by kernel_rfl) (by kernel_rfl) ?_
          simp only [List.take, List.drop]
          repeat (first
            | go_big_quiet_skip
            | go_big_quiet_step (fail))
          refine wpQuiet_nil ?_
          intro _ hw
          obtain ⟨p', rfl⟩ := hw
          replace O := O.keeps p'.2
          clear cgL cj c8 lk
          generalize p'.1 = W at O ⊢
          go_wp2_with (first
            | (refine own_store 2 j (.bool false) (.tmp 67) (.tmp 66) O rfl rfl rfl rfl rfl rfl (by simp only [arrB_size]; omega) rfl rfl (by kernel_rfl) (arrB_set _ _ _ _) ?_; clear O; intro W O; simp only [List.set_cons_zero, List.set_cons_succ] at O))
          clear ak
          go_roundw
          case rel =>
            have e := mixG_step (fun q => goodR E a q (k + 1)) (fun q => goodR E a q k) j
            have e2 : goodR E a (j : Int) (k + 1) = false := by rw [HGj.out]; simp [HV.out]
            simp only [e2] at e
            exact ⟨j + 1, by omega, by go_num, O.put 2 rfl (by rw [e])⟩
          case measure => (simp [intOf] <;> omega)
    · obtain rfl : j = m := by omega
      go_wp2
      go_returns
      have O2 := O.put 2 rfl (mixG_all _ _ _)
      exact HP.out _ _ _ _ 2 1 O2 rfl rfl (fun q hq => rfl) (by rw [HS0.out]; simp [rwB])

set_option maxRecDepth 100000 in
set_option maxHeartbeats 1000000 in
theorem guard1_C13 (H : GuardAt w1 E B n cb m cell pl pg pc po ga) (hk : k < n) (I : GInv w1 u E m cell po ga k) (M : MapI u b k (whoF E k)) (who op a v : Int) (sh : Bool) (he : E k = ⟨who, op, a, v, sh⟩) (ho : op = 13) (hw : a = cell) : Calls Try.prog 67 #[.int .i64 (k : Int), .map (some b), .pointer (some ⟨pl, 0, none⟩), .pointer (some ⟨pg, 0, none⟩), .pointer (some ⟨pc, 0, none⟩), .pointer (some ⟨po, 0, none⟩)] u (GPost w1 E m cell po ga b k u) := by
  have O := ((Own.start u [ga, po]).have_ I.a (by simp) (by simp)).have_ I.o (by simp) (by simpa using H.ne)
  have HP := Lib.hid (fun (u' : World) (f : Int → Bool) (s : Bool) (L : List Ent) (i j : Nat) => I.post (u' := u') (f := f) (s := s) (L := L) (i := i) (j := j) M)
  have npl : pl ≠ ga ∧ pl ≠ po := ⟨H.fl.ne H.fa (by decide), H.fl.ne H.fo (by decide)⟩
  have npg : pg ≠ ga ∧ pg ≠ po := ⟨H.fg.ne H.fa (by decide), H.fg.ne H.fo (by decide)⟩
  have npc : pc ≠ ga ∧ pc ≠ po := ⟨H.fc.ne H.fa (by decide), H.fc.ne H.fo (by decide)⟩
  have CL := Lib.hid (fun W (K : Keeps u W [ga, po]) => (H.fl.keeps (I.keep.trans K (fun x hx _ => hx)) (by simpa using npl)).cell 0)
  have CG := Lib.hid (fun W (K : Keeps u W [ga, po]) => (H.fg.keeps (I.keep.trans K (fun x hx _ => hx)) (by simpa using npg)).cell 0)
  have CC := Lib.hid (fun W (K : Keeps u W [ga, po]) => (H.fc.keeps (I.keep.trans K (fun x hx _ => hx)) (by simpa using npc)).cell 0)
  have LK := Lib.hid (fun W (K : Keeps u W [ga, po]) (q : Int) (hq : (Lit.int .i64 q).wf = true) => (show (Instr.lookup 117 (.map (some b)) (.int .i64 q) false).run Try.prog W = .ok (.int .i64 (refW E q k + 1)) W from by have := look_eqI (M.keeps K (by simpa using ⟨(M.not_blk I.a).symm, (M.not_blk I.o).symm⟩)) 117 Try.underlying117 q hq; rwa [whoF_ref] at this))
  have HWF := Lib.hid (show (Lit.int .i64 a).wf = true by have := H.wf k hk; rwa [he] at this)
  have HWO := Lib.hid (show 0 ≤ who ∧ who ≤ 100000 by have := H.who k hk; rwa [he] at this)
  have HFR := Lib.hid (show op = 9 → 0 ≤ a ∧ a < m by have := H.free k hk; rwa [he] at this)
  have r1 : IntKind.i64.wrap (who + 1) = who + 1 := IntWalk.i64_in _ (by have := HWO.out; omega)
  have b1 := H.m64
  have g1 : ((k : Nat) : Int) < n := by omega
  have g0 : (0 : Int) ≤ k := by omega
  obtain ⟨ad, hB, hc⟩ := EvsAt.row (u := w1) H.fe hk
  have HC := Lib.hid (fun W (K : Keeps u W [ga, po]) => hc [ga, po] W (I.keep.trans K (fun x hx _ => hx)) (by simpa using ⟨(H.off (by omega) ad hB).2, (H.off (by omega) ad hB).1⟩))
  subst hB
  have HG0 := Lib.hid (show ∀ q, goodR E cell q (k + 1) = (goodR E cell q k && ((!rwB (E k) cell || decide (refW E q k = (E k).who)) && (!(decide ((E k).op = 9) && decide ((E k).a = q)) || decide (refW E q k = (E k).who)))) from fun q => rfl)
  have HS0 := Lib.hid (show someR E cell (k + 1) = (someR E cell k || rwB (E k) cell) from rfl)
  rw [he] at HC HG0 HS0
  subst ho
  subst hw
  have ea : (a == a) = true := by simp
  clear hc H I M npl npg npc he
  go_enter Try.func67, Try.ntmps67
  have cl := CL.out _ O.keep
  go_wp2_with (first
    | go_big_skip
    | (refine wpList_load_at 13 rfl rfl rfl rfl (HC.out _ O.keep) Try.underlying37 rfl (by kernel_rfl) ?_; simp only [Act.put, List.setIfInBounds_toArray, List.set_cons_zero, List.set_cons_succ])
    | (refine own_alloc 8 (evC ⟨0, 0, 0, 0, false⟩) O rfl rfl rfl (fun _ => by kernel_rfl) ?_; clear O; intro W a8 O; simp only [Act.put, List.setIfInBounds_toArray, List.set_cons_zero, List.set_cons_succ]; clear cl)
    | (refine own_store_row 0 (.tmp 8) (.tmp 13) O rfl rfl rfl rfl rfl rfl (by kernel_rfl) (by rfl) (evC_cell _) ?_; clear O; intro W O; simp only [List.set_cons_zero] at O; have cl := CL.out _ O.keep; have cg := CG.out _ O.keep; have cc := CC.out _ O.keep; have c8 : ∀ i, W.cell? ⟨a8, i, none⟩ = #[Value.int .i64 who, .int .i64 13, .int .i64 a, .int .i64 v, .bool sh][i]? := (O.get 0 rfl).cell)
    | (refine own_store 1 0 (.bool true) (.tmp 5) (.const (.bool true)) O rfl rfl rfl rfl rfl rfl (by show 0 < 1; omega) rfl rfl (by kernel_rfl) rfl ?_; clear O; intro W O; simp only [List.set_cons_zero, List.set_cons_succ] at O; clear cl cg cc c8; have cg := CG.out _ O.keep))
  clear cg ea
  go_loopw [49] (fun i wr => ∃ j : Nat, j ≤ m ∧ i = .int .i64 j ∧ Own u wr [ga, po] [(a8, 37, evC ⟨who, 13, a, v, sh⟩), (po, 4, #[.bool true]), (ga, 4, arrB m (mixG (fun q => goodR E a q (k + 1)) (fun q => goodR E a q k) j))]) (fun i _ => m - (intOf i).toNat)
  case atStart => exact ⟨0, by omega, rfl, O.put 2 rfl (mixG_zero _ _ _).symm⟩
  case round =>
    obtain ⟨j, hj, rfl, O⟩ := hrel
    by_cases hlt : j < m
    · have g2 : ((j : Int)) < m := by omega
      have g3 : (0 : Int) ≤ j := by omega
      have ak := add_zero_ ga j
      have HGj := Lib.hid (show goodR E a (j : Int) (k + 1) = (goodR E a j k && decide (refW E j k = who)) by rw [HG0.out]; simp [rwB])
      have cgL : ∀ p : Later wr, p.1.cell? ⟨pg, 0, none⟩ = some (.slice (some ⟨ga, 0, none⟩) m m) := fun p => CG.out _ (O.keep.trans p.2 (by simp))
      have cj : ∀ p : Later wr, p.1.cell? ⟨ga, j, none⟩ = some (.bool (goodR E a j k)) := fun p => (Later.cell (O.get 2 rfl) p j).trans ((arrB_get _ _ _ hlt).trans (by simp [mixG]))
      have c8 : ∀ (p : Later wr) (i : Nat), p.1.cell? ⟨a8, i, none⟩ = #[Value.int .i64 who, .int .i64 13, .int .i64 a, .int .i64 v, .bool sh][i]? := Later.cell (O.get 0 rfl)
      have lk : ∀ p : Later wr, (Instr.lookup 117 (.map (some b)) (.int .i64 (j : Int)) false).run Try.prog p.1 = .ok (.int .i64 (refW E j k + 1)) p.1 := fun p => LK.out _ (O.keep.trans p.2 (by simp)) _ (WalkArith.wf_i64 (by omega))
      cases hv : goodR E a (j : Int) k with
      | false =>
        rw [hv] at cj
        have HV := Lib.hid hv
        clear hv
        go_wp2
        refine wp_quiet_tail_later 16 (by kernel_rfl) (by kernel_rfl) ?_
        simp only [List.take, List.drop]
        repeat (first
          | go_big_quiet_skip
          | go_big_quiet_step (fail))
        refine wpQuiet_nil ?_
        intro _ hw
        obtain ⟨p', rfl⟩ := hw
        replace O := O.keeps p'.2
        clear cgL cj c8 lk
        generalize p'.1 = W at O ⊢
        go_wp2_with (first
          | (refine own_store 2 j (.bool false) (.tmp 67) (.tmp 66) O rfl rfl rfl rfl rfl rfl (by simp only [arrB_size]; omega) rfl rfl (by kernel_rfl) (arrB_set _ _ _ _) ?_; clear O; intro W O; simp only [List.set_cons_zero, List.set_cons_succ] at O))
        clear ak
        go_roundw
        case rel =>
          have e := mixG_step (fun q => goodR E a q (k + 1)) (fun q => goodR E a q k) j
          have e2 : goodR E a (j : Int) (k + 1) = false := by rw [HGj.out]; simp [HV.out]
          simp only [e2] at e
          exact ⟨j + 1, by omega, by go_num, O.put 2 rfl (by rw [e])⟩
        case measure => (simp [intOf] <;> omega)
      | true =>
        rw [hv] at cj
        by_cases hq : refW E j k = who
        · have HV := Lib.hid (show goodR E a (j : Int) k = true ∧ refW E j k = who from ⟨hv, hq⟩)
          rw [hq] at lk
          have e1 : (who + 1 == who + 1) = true := by simp
          clear hv hq
          go_wp2
          refine wp_quiet_tail_later 16 (by kernel_rfl) (by kernel_rfl) ?_
          simp only [List.take, List.drop]
          repeat (first
            | go_big_quiet_skip
            | go_big_quiet_step (fail))
          refine wpQuiet_nil ?_
          intro _ hw
          obtain ⟨p', rfl⟩ := hw
          replace O := O.keeps p'.2
          clear cgL cj c8 lk
          generalize p'.1 = W at O ⊢
          go_wp2_with (first
            | (refine own_store 2 j (.bool true) (.tmp 67) (.tmp 66) O rfl rfl rfl rfl rfl rfl (by simp only [arrB_size]; omega) rfl rfl (by kernel_rfl) (arrB_set _ _ _ _) ?_; clear O; intro W O; simp only [List.set_cons_zero, List.set_cons_succ] at O))
          clear ak
          go_roundw
          case rel =>
            have e := mixG_step (fun q => goodR E a q (k + 1)) (fun q => goodR E a q k) j
            have e2 : goodR E a (j : Int) (k + 1) = true := by rw [HGj.out]; simp [HV.out]
            simp only [e2] at e
            exact ⟨j + 1, by omega, by go_num, O.put 2 rfl (by rw [e])⟩
          case measure => (simp [intOf] <;> omega)
        · have HV := Lib.hid (show goodR E a (j : Int) k = true ∧ ¬ refW E j k = who from ⟨hv, hq⟩)
          have e1 : (refW E j k + 1 == who + 1) = false := by simpa using (show ¬ refW E j k + 1 = who + 1 by omega)
          clear hv hq
          go_wp2
          refine wp_quiet_tail_later 16 (by kernel_rfl) (by kernel_rfl) ?_
          simp only [List.take, List.drop]
          repeat (first
            | go_big_quiet_skip
            | go_big_quiet_step (fail))
          refine wpQuiet_nil ?_
          intro _ hw
          obtain ⟨p', rfl⟩ := hw
          replace O := O.keeps p'.2
          clear cgL cj c8 lk
          generalize p'.1 = W at O ⊢
          go_wp2_with (first
            | (refine own_store 2 j (.bool false) (.tmp 67) (.tmp 66) O rfl rfl rfl rfl rfl rfl (by simp only [arrB_size]; omega) rfl rfl (by kernel_rfl) (arrB_set _ _ _ _) ?_; clear O; intro W O; simp only [List.set_cons_zero, List.set_cons_succ] at O))
          clear ak
          go_roundw
          case rel =>
            have e := mixG_step (fun q => goodR E a q (k + 1)) (fun q => goodR E a q k) j
            have e2 : goodR E a (j : Int) (k + 1) = false := by rw [HGj.out]; simp [HV.out]
            simp only [e2] at e
            exact ⟨j + 1, by omega, by go_num, O.put 2 rfl (by rw [e])⟩
          case measure => (simp [intOf] <;> omega)
    · obtain rfl : j = m := by omega
      go_wp2
      go_returns
      have O2 := O.put 2 rfl (mixG_all _ _ _)
      exact HP.out _ _ _ _ 2 1 O2 rfl rfl (fun q hq => rfl) (by rw [HS0.out]; simp [rwB])

theorem guard1_any (H : GuardAt w1 E B n cb m cell pl pg pc po ga) (hk : k < n) (I : GInv w1 u E m cell po ga k) (M : MapI u b k (whoF E k)) : Calls Try.prog 67 #[.int .i64 (k : Int), .map (some b), .pointer (some ⟨pl, 0, none⟩), .pointer (some ⟨pg, 0, none⟩), .pointer (some ⟨pc, 0, none⟩), .pointer (some ⟨po, 0, none⟩)] u (GPost w1 E m cell po ga b k u) := by
  obtain ⟨⟨who, op, a, v, sh⟩, he⟩ : ∃ e, E k = e := ⟨_, rfl⟩
  by_cases h9 : op = 9
  · by_cases hw : refW E a k = who
    · exact guard1_B H hk I M who op a v sh he h9 hw
    · exact guard1_A H hk I M who op a v sh he h9 hw
  by_cases h12 : op = 12
  · by_cases hw : a = cell
    · exact guard1_C12 H hk I M who op a v sh he h12 hw
    · exact guard1_D12 H hk I M who op a v sh he h12 hw
  by_cases h13 : op = 13
  · by_cases hw : a = cell
    · exact guard1_C13 H hk I M who op a v sh he h13 hw
    · exact guard1_D13 H hk I M who op a v sh he h13 hw
  exact guard1_E H hk I M who op a v sh he h9 h12 h13
end
end Go.Proofs.Ytakmcpadkanggaa
