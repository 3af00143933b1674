/-
 Part 2 of what this claim rests on.
-/
import Derived.Test.YtakmcpadkanggaaOd1
namespace Go.Proofs.Ytakmcpadkanggaa
open Go.RowKit
structure Rn where
 prog : Nat
 pos : Nat
 rg : Nat → Int
structure PW where
 n : Nat
 rs : Nat → Rn
 held : Nat → List Int
 cl : Nat → Bool
 lk : Int → Bool
 gr : Int → Int
 ce : Int → Int
 ev : List Ev
def instP (S : Sys) (r : Rn) : Option (Nat → Int) := if r.pos < S.lp r.prog then some (S.q r.prog r.pos) else none
def canP (S : Sys) (P : PW) (f : Nat → Int) : Bool :=
 if f 0 = 5 then P.cl (f 1).toNat || decide (((P.held (f 1).toNat).length : Int) < S.rm (f 1).toNat)
 else if f 0 = 6 then P.cl (f 1).toNat || decide (0 < ((P.held (f 1).toNat).length : Int))
 else if f 0 = 8 then !P.lk (f 1)
 else if f 0 = 11 then decide (P.gr (f 1) = 0)
 else true
def readyN (S : Sys) (P : PW) : Nat → List Nat
 | 0 => []
 | k + 1 => readyN S P k ++ (match instP S (P.rs k) with | some f => if canP S P f = true then [k] else [] | none => [])
def endedN (S : Sys) (P : PW) : Nat → Bool
 | 0 => true
 | k + 1 => endedN S P k && (instP S (P.rs k)).isNone
def setReg (r : Rn) (i : Nat) (v : Int) : Rn := { r with rg := fun j => if j = i then v else r.rg j }
def setR (P : PW) (k : Nat) (r : Rn) : PW := { P with rs := fun j => if j = k then r else P.rs j }
def tellP (P : PW) (e : Ev) : PW := { P with ev := P.ev ++ [e] }
def finP (P : PW) (k : Nat) (r : Rn) (on : Nat) (e : Ev) : PW × Int := (tellP (setR P k { r with pos := on }) e, 0)
def updN {α : Type} (f : Nat → α) (i : Nat) (x : α) : Nat → α := fun j => if j = i then x else f j
def stepP (S : Sys) (P : PW) (k : Nat) (f : Nat → Int) : PW × Int :=
 let r := P.rs k
 let a := (f 1).toNat
 let b := (f 2).toNat
 let on := r.pos + 1
 if f 0 = 1 then finP P k (setReg r a (f 2)) on ⟨k, 1, 0, 0, false⟩
 else if f 0 = 2 then finP P k (setReg r a (IntKind.i64.wrap (r.rg a + r.rg b))) on ⟨k, 2, 0, 0, false⟩
 else if f 0 = 3 then finP P k r (if r.rg b ≤ r.rg a then on else (f 3).toNat) ⟨k, 3, 0, 0, false⟩
 else if f 0 = 4 then finP P k r (f 3).toNat ⟨k, 4, 0, 0, false⟩
 else if f 0 = 16 then finP P k r (S.lp r.prog) ⟨k, 16, 0, 0, false⟩
 else if f 0 = 12 then finP P k (setReg r b (P.ce (r.rg a % S.ce))) on ⟨k, 12, r.rg a % S.ce, P.ce (r.rg a % S.ce), false⟩
 else if f 0 = 13 then finP { P with ce := updI P.ce (r.rg a % S.ce) (r.rg b) } k r on ⟨k, 13, r.rg a % S.ce, r.rg b, false⟩
 else if f 0 = 14 then
   (if 512 ≤ P.n then (tellP P ⟨k, 14, f 1, 0, false⟩, 135)
   else finP { P with n := P.n + 1, rs := updN P.rs P.n ⟨a, 0, r.rg⟩ } k r on ⟨k, 14, f 1, P.n, false⟩)
 else if f 0 = 15 then finP P k r on ⟨k, 15, f 1, r.rg b, false⟩
 else if f 0 = 5 then
   (if P.cl a then (tellP P ⟨k, 5, f 1, r.rg b, false⟩, 131)
   else finP { P with held := updN P.held a (P.held a ++ [r.rg b]) } k r on ⟨k, 5, f 1, r.rg b, false⟩)
 else if f 0 = 6 then
   (match P.held a with
   | [] => finP P k r (f 3).toNat ⟨k, 6, f 1, 0, true⟩
   | x :: l => finP { P with held := updN P.held a l } k (setReg r b x) on ⟨k, 6, f 1, x, false⟩)
 else if f 0 = 7 then
   (if P.cl a then (tellP P ⟨k, 7, f 1, 0, false⟩, 132)
   else finP { P with cl := updN P.cl a true } k r on ⟨k, 7, f 1, 0, false⟩)
 else if f 0 = 8 then finP { P with lk := updI P.lk (f 1) true } k r on ⟨k, 8, f 1, 0, false⟩
 else if f 0 = 9 then
   (if P.lk (f 1) then finP { P with lk := updI P.lk (f 1) false } k r on ⟨k, 9, f 1, 0, false⟩
   else (tellP P ⟨k, 9, f 1, 0, false⟩, 133))
 else if f 0 = 10 then
   (if IntKind.i64.wrap (P.gr (f 1) + f 2) < 0 then (tellP P ⟨k, 10, f 1, IntKind.i64.wrap (P.gr (f 1) + f 2), false⟩, 134)
   else finP { P with gr := updI P.gr (f 1) (IntKind.i64.wrap (P.gr (f 1) + f 2)) } k r on ⟨k, 10, f 1, IntKind.i64.wrap (P.gr (f 1) + f 2), false⟩)
 else finP P k r on ⟨k, f 0, f 1, 0, false⟩
def begunP : PW := ⟨1, fun _ => ⟨0, 0, fun _ => 0⟩, fun _ => [], fun _ => false, fun _ => false, fun _ => 0, fun _ => 0, []⟩
def pickP (picks : List Int) (t n : Nat) : Nat := match picks[t]? with | some x => (x % (n : Int)).toNat | none => 0
structure RunP where
 fin : Int
 fault : Int
 P : PW
def runP (S : Sys) (picks : List Int) : Nat → Nat → PW → RunP
 | 0, _, P => ⟨4, 0, P⟩
 | fuel + 1, t, P =>
   if endedN S P P.n then ⟨1, 0, P⟩
   else if 40000 ≤ t then ⟨4, 0, P⟩
   else if readyN S P P.n = [] then ⟨2, 0, P⟩
   else
     let k := (readyN S P P.n).getD (pickP picks t (readyN S P P.n).length) 0
     match instP S (P.rs k) with
     | none => ⟨4, 0, P⟩
     | some f => if (stepP S P k f).2 = 0 then runP S picks fuel (t + 1) (stepP S P k f).1 else ⟨3, (stepP S P k f).2, (stepP S P k f).1⟩
def playP (S : Sys) (picks : List Int) : RunP := runP S picks 40001 0 begunP
def Tells (P : PW) (x : PW × Int) : Prop := ∃ e, x.1.ev = P.ev ++ [e]
theorem tells_ite {P : PW} {c : Prop} [Decidable c] {x y : PW × Int} (h1 : Tells P x) (h2 : Tells P y) : Tells P (if c then x else y) := by split <;> assumption
theorem stepP_ev (S : Sys) (P : PW) (k : Nat) (f : Nat → Int) : ∃ e, (stepP S P k f).1.ev = P.ev ++ [e] := by
 show Tells P (stepP S P k f)
 unfold stepP
 simp only []
 repeat' (refine tells_ite ?_ ?_)
 all_goals first
   | exact ⟨_, rfl⟩
   | (cases P.held (f 1).toNat <;> exact ⟨_, rfl⟩)
theorem pickP_lt (picks : List Int) (t n : Nat) (hn : 0 < n) : pickP picks t n < n := by
 unfold pickP
 split
 · rename_i x _
   have h1 := Int.emod_nonneg x (b := (n : Int)) (by omega)
   have h2 := Int.emod_lt_of_pos x (b := (n : Int)) (by omega)
   omega
 · exact hn
theorem readyN_mem (S : Sys) (P : PW) : ∀ m k, k ∈ readyN S P m → k < m ∧ ∃ f, instP S (P.rs k) = some f ∧ canP S P f = true
 | 0, k, h => by simp [readyN] at h
 | m + 1, k, h => by
   simp only [readyN, List.mem_append] at h
   rcases h with h | h
   · have := readyN_mem S P m k h
     exact ⟨by omega, this.2⟩
   · split at h
     · rename_i f hf
       split at h
       · rename_i hc
         obtain rfl : k = m := by simpa using h
         exact ⟨by omega, f, hf, hc⟩
       · simp at h
     · simp at h
theorem picked (S : Sys) (P : PW) (picks : List Int) (t : Nat) (h : readyN S P P.n ≠ []) : (readyN S P P.n).getD (pickP picks t (readyN S P P.n).length) 0 < P.n ∧ ∃ f, instP S (P.rs ((readyN S P P.n).getD (pickP picks t (readyN S P P.n).length) 0)) = some f ∧ canP S P f = true := by
 have hn : 0 < (readyN S P P.n).length := List.length_pos_iff.2 h
 have hl := pickP_lt picks t _ hn
 refine readyN_mem S P P.n _ ?_
 rw [List.getD_eq_getElem?_getD, List.getElem?_eq_getElem hl]
 exact List.getElem_mem hl
theorem readyN_length (S : Sys) (P : PW) : ∀ m, (readyN S P m).length ≤ m
 | 0 => by simp [readyN]
 | m + 1 => by
   have := readyN_length S P m
   simp only [readyN, List.length_append]
   split
   · split <;> simp <;> omega
   · simp; omega
open Go.RowKit
def RInv (S : Sys) (P : PW) : Prop := ∀ k, k < P.n → (P.rs k).prog < S.np
def RInvX (S : Sys) (x : PW × Int) : Prop := RInv S x.1
theorem rinv_ite {S : Sys} {c : Prop} [Decidable c] {x y : PW × Int} (h1 : c → RInvX S x) (h2 : ¬ c → RInvX S y) : RInvX S (if c then x else y) := by
 by_cases h : c
 · rw [if_pos h]; exact h1 h
 · rw [if_neg h]; exact h2 h
theorem RInv.fin {S : Sys} {P : PW} (h : RInv S P) {k : Nat} {r : Rn} {on : Nat} {e : Ev} (hr : k < P.n → r.prog < S.np) : RInvX S (finP P k r on e) := by
 intro j hj
 have hj' : j < P.n := hj
 show ((if j = k then { r with pos := on } else P.rs j) : Rn).prog < S.np
 by_cases hjk : j = k
 · subst hjk; rw [if_pos rfl]; exact hr hj'
 · rw [if_neg hjk]; exact h j hj'
theorem right_of {S : Sys} (hv : validB S = true) {r : Rn} (hr : r.prog < S.np) {f : Nat → Int} (hf : instP S r = some f) : rightS S r.prog f = true := by
 unfold instP at hf
 split at hf
 · rename_i hp
   injection hf with hf
   subst hf
   exact (((validB_iff S).1 hv).2.2 r.prog hr).2 r.pos hp
 · cases hf
theorem right_lock {S : Sys} {p : Nat} {f : Nat → Int} (h : rightS S p f = true) (ho : f 0 = 8 ∨ f 0 = 9) : 0 ≤ f 1 ∧ f 1 < S.lk := by
 unfold rightS at h
 rcases ho with ho | ho <;> rw [ho] at h <;> simp [kd, kdL, mayS, bnd, opOk] at h <;> omega
theorem right_group {S : Sys} {p : Nat} {f : Nat → Int} (h : rightS S p f = true) (ho : f 0 = 10 ∨ f 0 = 11) : 0 ≤ f 1 ∧ f 1 < S.gr := by
 unfold rightS at h
 rcases ho with ho | ho <;> rw [ho] at h <;> simp [kd, kdL, mayS, bnd, opOk] at h <;> omega
theorem right_start {S : Sys} {p : Nat} {f : Nat → Int} (h : rightS S p f = true) (ho : f 0 = 14) : 0 ≤ f 1 ∧ f 1 < S.np := by
 unfold rightS at h
 rw [ho] at h; simp [kd, kdL, mayS, bnd, opOk] at h; omega
theorem right_room {S : Sys} {p : Nat} {f : Nat → Int} (h : rightS S p f = true) (ho : f 0 = 5 ∨ f 0 = 6 ∨ f 0 = 7) : 0 ≤ f 1 ∧ f 1 < S.nr := by
 unfold rightS at h
 rcases ho with ho | ho | ho <;> rw [ho] at h <;> simp [kd, kdL, mayS, bnd, opOk] at h <;> omega
theorem stepP_rinv (S : Sys) (P : PW) (k : Nat) (f : Nat → Int) (h : RInv S P) (hk : k < P.n) (hr : rightS S (P.rs k).prog f = true) : RInv S (stepP S P k f).1 := by
 show RInvX S (stepP S P k f)
 have hp := h k hk
 unfold stepP
 simp only []
 repeat' (refine rinv_ite (fun _ => ?_) (fun _ => ?_))
 all_goals first
   | (refine RInv.fin ?_ (fun _ => hp); exact h)
   | exact h
   | (cases P.held (f 1).toNat <;> (refine RInv.fin ?_ (fun _ => hp); exact h))
   | skip
 have h14 : f 0 = 14 := by assumption
 have hs := right_start hr h14
 refine RInv.fin (P := { P with n := P.n + 1, rs := updN P.rs P.n ⟨(f 1).toNat, 0, (P.rs k).rg⟩ }) (fun j hj => ?_) (fun _ => hp)
 have hj' : j < P.n + 1 := hj
 show (updN P.rs P.n ⟨(f 1).toNat, 0, (P.rs k).rg⟩ j).prog < S.np
 unfold updN
 by_cases hjn : j = P.n
 · rw [if_pos hjn]; show (f 1).toNat < S.np; omega
 · rw [if_neg hjn]; exact h j (by omega)
open Go.RowKit
def pqC (W : Nat) : Nat → List Int
 | 0 => [1, 0, 0, 0] | 1 => [1, 1, (W : Int), 0] | 2 => [1, 2, 1, 0] | 3 => [3, 0, 1, 5] | 4 => [4, 0, 0, 9]
 | 5 => [10, 0, 1, 0] | 6 => [14, 1, 0, 0] | 7 => [2, 0, 2, 0] | 8 => [4, 0, 0, 3] | 9 => [14, 2, 0, 0] | 10 => [14, 3, 0, 0]
 | 11 => [6, 1, 3, 14] | 12 => [15, 1, 3, 0] | 13 => [4, 0, 0, 11] | 14 => [16, 0, 0, 0] | _ => []
def pqW : Nat → List Int
 | 0 => [6, 0, 3, 6] | 1 => [12, 3, 4, 0] | 2 => [15, 0, 4, 0] | 3 => [5, 2, 3, 0] | 4 => [5, 1, 4, 0] | 5 => [4, 0, 0, 0] | 6 => [10, 0, -1, 0] | 7 => [16, 0, 0, 0] | _ => []
def pqF (b J : Nat) : Nat → List Int
 | 0 => [1, 0, 0, 0] | 1 => [1, 1, (b : Int), 0] | 2 => [1, 2, 1, 0] | 3 => [3, 0, 1, 5] | 4 => [4, 0, 0, 8]
 | 5 => [5, 2, 0, 0] | 6 => [2, 0, 2, 0] | 7 => [4, 0, 0, 3] | 8 => [1, 0, 0, 0] | 9 => [1, 1, (J : Int), 0]
 | 10 => [3, 0, 1, 12] | 11 => [4, 0, 0, 17] | 12 => [6, 2, 3, 17] | 13 => [13, 3, 0, 0] | 14 => [5, 0, 3, 0] | 15 => [2, 0, 2, 0] | 16 => [4, 0, 0, 10]
 | 17 => [7, 0, 0, 0] | 18 => [16, 0, 0, 0] | _ => []
def pqK : Nat → List Int
 | 0 => [11, 0, 0, 0] | 1 => [7, 1, 0, 0] | 2 => [16, 0, 0, 0] | _ => []
def pqI (W b J : Nat) (p i : Nat) : List Int := if p = 0 then pqC W i else if p = 1 then pqW i else if p = 2 then pqF b J i else pqK i
def poolS (W Q b J : Nat) : Sys where
 np := 4
 lp := fun p => if p = 0 then 15 else if p = 1 then 8 else if p = 2 then 19 else 3
 q := fun p i j => (pqI W b J p i).getD j 0
 nr := 3
 rm := fun c => if c = 2 then (b : Int) else (Q : Int)
 gr := 1
 lk := 0
 ce := (b : Int)
def cw (P : PW) (n p : Nat) : Nat := ((List.range n).filter fun q => decide ((P.rs (q + 1)).pos = p)).length
theorem cw_zero (P : PW) (p : Nat) : cw P 0 p = 0 := rfl
theorem cw_succ (P : PW) (n p : Nat) : cw P (n + 1) p = cw P n p + (if (P.rs (n + 1)).pos = p then 1 else 0) := by
 unfold cw
 rw [List.range_succ, List.filter_append, List.length_append]
 congr 1
 by_cases h : (P.rs (n + 1)).pos = p <;> simp [h]
theorem cw_same {P P' : PW} (n p : Nat) (h : ∀ q, q < n → (P'.rs (q + 1)).pos = (P.rs (q + 1)).pos) : cw P' n p = cw P n p := by
 unfold cw
 congr 1
 exact List.filter_congr fun q hq => by rw [h q (List.mem_range.1 hq)]
theorem cw_move {P P' : PW} (p : Nat) {q0 : Nat} (h : ∀ q, q ≠ q0 → (P'.rs (q + 1)).pos = (P.rs (q + 1)).pos) : ∀ n, q0 < n → cw P' n p + (if (P.rs (q0 + 1)).pos = p then 1 else 0) = cw P n p + (if (P'.rs (q0 + 1)).pos = p then 1 else 0)
 | 0, hq => by omega
 | n + 1, hq => by
   rw [cw_succ, cw_succ]
   by_cases e : q0 = n
   · subst e
     rw [cw_same (P := P) (P' := P') q0 p (fun q hq => h q (by omega))]
     omega
   · have ih := cw_move p h n (by omega)
     rw [h n (fun e' => e e'.symm)]
     omega
theorem cw_pos {P : PW} {p q : Nat} : ∀ {n : Nat}, q < n → (P.rs (q + 1)).pos = p → 0 < cw P n p := fun {n} hq hp => by
 unfold cw
 exact List.length_pos_iff.2 (List.ne_nil_of_mem (List.mem_filter.2 ⟨List.mem_range.2 hq, by simpa using hp⟩))
theorem cw_all {P : PW} {p : Nat} {n : Nat} (h : ∀ q, q < n → (P.rs (q + 1)).pos = p) : cw P n p = n := by
 unfold cw
 rw [List.filter_eq_self.2 (fun q hq => by simpa using h q (List.mem_range.1 hq)), List.length_range]
theorem cw_none {P : PW} {p : Nat} {n : Nat} (h : ∀ q, q < n → (P.rs (q + 1)).pos ≠ p) : cw P n p = 0 := by
 unfold cw
 rw [List.length_eq_zero_iff, List.filter_eq_nil_iff]
 exact fun q hq => by simpa using h q (List.mem_range.1 hq)
section
variable {S : Sys} {P : PW} {k : Nat} {f : Nat → Int}
theorem st_set (h : f 0 = 1) : stepP S P k f = finP P k (setReg (P.rs k) (f 1).toNat (f 2)) ((P.rs k).pos + 1) ⟨k, 1, 0, 0, false⟩ := by simp [stepP, h]
theorem st_sum (h : f 0 = 2) : stepP S P k f = finP P k (setReg (P.rs k) (f 1).toNat (IntKind.i64.wrap ((P.rs k).rg (f 1).toNat + (P.rs k).rg (f 2).toNat))) ((P.rs k).pos + 1) ⟨k, 2, 0, 0, false⟩ := by simp [stepP, h]
theorem st_less (h : f 0 = 3) : stepP S P k f = finP P k (P.rs k) (if (P.rs k).rg (f 2).toNat ≤ (P.rs k).rg (f 1).toNat then (P.rs k).pos + 1 else (f 3).toNat) ⟨k, 3, 0, 0, false⟩ := by simp [stepP, h]
theorem st_jump (h : f 0 = 4) : stepP S P k f = finP P k (P.rs k) (f 3).toNat ⟨k, 4, 0, 0, false⟩ := by simp [stepP, h]
theorem st_end (h : f 0 = 16) : stepP S P k f = finP P k (P.rs k) (S.lp (P.rs k).prog) ⟨k, 16, 0, 0, false⟩ := by simp [stepP, h]
theorem st_read (h : f 0 = 12) : stepP S P k f = finP P k (setReg (P.rs k) (f 2).toNat (P.ce ((P.rs k).rg (f 1).toNat % S.ce))) ((P.rs k).pos + 1) ⟨k, 12, (P.rs k).rg (f 1).toNat % S.ce, P.ce ((P.rs k).rg (f 1).toNat % S.ce), false⟩ := by simp [stepP, h]
theorem st_write (h : f 0 = 13) : stepP S P k f = finP { P with ce := updI P.ce ((P.rs k).rg (f 1).toNat % S.ce) ((P.rs k).rg (f 2).toNat) } k (P.rs k) ((P.rs k).pos + 1) ⟨k, 13, (P.rs k).rg (f 1).toNat % S.ce, (P.rs k).rg (f 2).toNat, false⟩ := by simp [stepP, h]
theorem st_start (h : f 0 = 14) (hn : P.n < 512) : stepP S P k f = finP { P with n := P.n + 1, rs := updN P.rs P.n ⟨(f 1).toNat, 0, (P.rs k).rg⟩ } k (P.rs k) ((P.rs k).pos + 1) ⟨k, 14, f 1, P.n, false⟩ := by simp [stepP, h, show ¬ 512 ≤ P.n by omega]
theorem st_work (h : f 0 = 15) : stepP S P k f = finP P k (P.rs k) ((P.rs k).pos + 1) ⟨k, 15, f 1, (P.rs k).rg (f 2).toNat, false⟩ := by simp [stepP, h]
theorem st_send (h : f 0 = 5) (hc : P.cl (f 1).toNat = false) : stepP S P k f = finP { P with held := updN P.held (f 1).toNat (P.held (f 1).toNat ++ [(P.rs k).rg (f 2).toNat]) } k (P.rs k) ((P.rs k).pos + 1) ⟨k, 5, f 1, (P.rs k).rg (f 2).toNat, false⟩ := by simp [stepP, h, hc]
theorem st_shut (h : f 0 = 6) (hc : P.held (f 1).toNat = []) : stepP S P k f = finP P k (P.rs k) (f 3).toNat ⟨k, 6, f 1, 0, true⟩ := by simp [stepP, h, hc]
theorem st_take {x : Int} {l : List Int} (h : f 0 = 6) (hc : P.held (f 1).toNat = x :: l) : stepP S P k f = finP { P with held := updN P.held (f 1).toNat l } k (setReg (P.rs k) (f 2).toNat x) ((P.rs k).pos + 1) ⟨k, 6, f 1, x, false⟩ := by simp [stepP, h, hc]
theorem st_close (h : f 0 = 7) (hc : P.cl (f 1).toNat = false) : stepP S P k f = finP { P with cl := updN P.cl (f 1).toNat true } k (P.rs k) ((P.rs k).pos + 1) ⟨k, 7, f 1, 0, false⟩ := by simp [stepP, h, hc]
theorem st_add (h : f 0 = 10) (hc : 0 ≤ IntKind.i64.wrap (P.gr (f 1) + f 2)) : stepP S P k f = finP { P with gr := updI P.gr (f 1) (IntKind.i64.wrap (P.gr (f 1) + f 2)) } k (P.rs k) ((P.rs k).pos + 1) ⟨k, 10, f 1, IntKind.i64.wrap (P.gr (f 1) + f 2), false⟩ := by simp [stepP, h, show ¬ IntKind.i64.wrap (P.gr (f 1) + f 2) < 0 by omega]
theorem st_wait (h : f 0 = 11) : stepP S P k f = finP P k (P.rs k) ((P.rs k).pos + 1) ⟨k, 11, f 1, 0, false⟩ := by simp [stepP, h]
end
theorem wrap_small {n : Int} (h0 : -1000000 ≤ n) (h1 : n ≤ 1000000) : IntKind.i64.wrap n = n := by
 have e : IntKind.i64.wrap n = (n + 9223372036854775808) % 18446744073709551616 - 9223372036854775808 := by simp [IntKind.wrap, IntKind.bits, IntKind.signed]; omega
 rw [e]
 omega
open Go.RowKit
def ICb (W J pc : Nat) (r : Nat → Int) (nW t1 rC : Nat) : Prop :=
 match pc with
 | 0 => nW = 0 ∧ t1 = 0 ∧ rC = 9 + 5 * W + 3 * J
 | 1 => nW = 0 ∧ r 0 = 0 ∧ t1 = 0 ∧ rC = 8 + 5 * W + 3 * J
 | 2 => nW = 0 ∧ r 0 = 0 ∧ r 1 = W ∧ t1 = 0 ∧ rC = 7 + 5 * W + 3 * J
 | 3 => r 0 = nW ∧ r 1 = W ∧ r 2 = 1 ∧ nW ≤ W ∧ t1 = 0 ∧ rC + 5 * nW = 6 + 5 * W + 3 * J
 | 4 => nW = W ∧ t1 = 0 ∧ rC = 5 + 3 * J
 | 5 => r 0 = nW ∧ r 1 = W ∧ r 2 = 1 ∧ nW < W ∧ t1 = 0 ∧ rC + 5 * nW = 5 + 5 * W + 3 * J
 | 6 => r 0 = nW ∧ r 1 = W ∧ r 2 = 1 ∧ nW < W ∧ t1 = 0 ∧ rC + 5 * nW = 4 + 5 * W + 3 * J
 | 7 => r 0 + 1 = nW ∧ r 1 = W ∧ r 2 = 1 ∧ nW ≤ W ∧ t1 = 0 ∧ rC + 5 * nW = 8 + 5 * W + 3 * J
 | 8 => r 0 = nW ∧ r 1 = W ∧ r 2 = 1 ∧ nW ≤ W ∧ t1 = 0 ∧ rC + 5 * nW = 7 + 5 * W + 3 * J
 | 9 => nW = W ∧ t1 = 0 ∧ rC = 4 + 3 * J
 | 10 => nW = W ∧ t1 = 0 ∧ rC = 3 + 3 * J
 | 11 => nW = W ∧ rC + 3 * t1 = 2 + 3 * J
 | 12 => nW = W ∧ rC + 3 * t1 = 4 + 3 * J
 | 13 => nW = W ∧ rC + 3 * t1 = 3 + 3 * J
 | 14 => nW = W ∧ t1 = J ∧ rC = 1
 | 15 => nW = W ∧ t1 = J ∧ rC = 0
 | _ => False
def IFd (b J fp : Nat) (r : Nat → Int) (sent fed rF : Nat) : Prop :=
 match fp with
 | 0 => sent = 0 ∧ fed = 0 ∧ rF = 11 + 4 * b + 6 * J
 | 1 => r 0 = 0 ∧ sent = 0 ∧ fed = 0 ∧ rF = 10 + 4 * b + 6 * J
 | 2 => r 0 = 0 ∧ r 1 = b ∧ sent = 0 ∧ fed = 0 ∧ rF = 9 + 4 * b + 6 * J
 | 3 => r 0 = sent ∧ r 1 = b ∧ r 2 = 1 ∧ sent ≤ b ∧ fed = 0 ∧ rF + 4 * sent = 8 + 4 * b + 6 * J
 | 4 => sent = b ∧ r 2 = 1 ∧ fed = 0 ∧ rF = 7 + 6 * J
 | 5 => r 0 = sent ∧ r 1 = b ∧ r 2 = 1 ∧ sent < b ∧ fed = 0 ∧ rF + 4 * sent = 7 + 4 * b + 6 * J
 | 6 => r 0 + 1 = sent ∧ r 1 = b ∧ r 2 = 1 ∧ sent ≤ b ∧ fed = 0 ∧ rF + 4 * sent = 10 + 4 * b + 6 * J
 | 7 => r 0 = sent ∧ r 1 = b ∧ r 2 = 1 ∧ sent ≤ b ∧ fed = 0 ∧ rF + 4 * sent = 9 + 4 * b + 6 * J
 | 8 => sent = b ∧ r 2 = 1 ∧ fed = 0 ∧ rF = 6 + 6 * J
 | 9 => sent = b ∧ r 0 = 0 ∧ r 2 = 1 ∧ fed = 0 ∧ rF = 5 + 6 * J
 | 10 => sent = b ∧ r 0 = fed ∧ r 1 = J ∧ r 2 = 1 ∧ fed ≤ J ∧ rF + 6 * fed = 4 + 6 * J
 | 11 => sent = b ∧ fed = J ∧ rF = 3
 | 12 => sent = b ∧ r 0 = fed ∧ r 1 = J ∧ r 2 = 1 ∧ fed < J ∧ rF + 6 * fed = 3 + 6 * J
 | 13 => sent = b ∧ r 0 = fed ∧ r 1 = J ∧ r 2 = 1 ∧ fed < J ∧ rF + 6 * fed = 2 + 6 * J
 | 14 => sent = b ∧ r 0 = fed ∧ r 1 = J ∧ r 2 = 1 ∧ fed < J ∧ rF + 6 * fed = 1 + 6 * J
 | 15 => sent = b ∧ r 0 + 1 = fed ∧ r 1 = J ∧ r 2 = 1 ∧ fed ≤ J ∧ rF + 6 * fed = 6 + 6 * J
 | 16 => sent = b ∧ r 0 = fed ∧ r 1 = J ∧ r 2 = 1 ∧ fed ≤ J ∧ rF + 6 * fed = 5 + 6 * J
 | 17 => sent = b ∧ fed = J ∧ rF = 2
 | 18 => sent = b ∧ fed = J ∧ rF = 1
 | 19 => sent = b ∧ fed = J ∧ rF = 0
 | _ => False
theorem ICb.le {W J pc : Nat} {r : Nat → Int} {nW t1 rC : Nat} (h : ICb W J pc r nW t1 rC) : pc ≤ 15 := by
 rcases Nat.lt_or_ge 15 pc with hl | hl
 · unfold ICb at h
   split at h <;> first | omega | exact h.elim
 · exact hl
theorem IFd.le {b J fp : Nat} {r : Nat → Int} {sent fed rF : Nat} (h : IFd b J fp r sent fed rF) : fp ≤ 19 := by
 rcases Nat.lt_or_ge 19 fp with hl | hl
 · unfold IFd at h
   split at h <;> first | omega | exact h.elim
 · exact hl
theorem ICb.nw {W J pc : Nat} {r : Nat → Int} {nW t1 rC : Nat} (h : ICb W J pc r nW t1 rC) (hp : 9 ≤ pc) : nW = W := by
 unfold ICb at h
 split at h <;> first | omega | exact h.elim
theorem ICb.nle {W J pc : Nat} {r : Nat → Int} {nW t1 rC : Nat} (h : ICb W J pc r nW t1 rC) : nW ≤ W := by
 unfold ICb at h
 split at h <;> first | omega | exact h.elim
theorem IFd.sb {b J fp : Nat} {r : Nat → Int} {sent fed rF : Nat} (h : IFd b J fp r sent fed rF) : sent ≤ b ∧ fed ≤ J ∧ (18 ≤ fp → fed = J) := by
 unfold IFd at h
 split at h <;> first | (refine ⟨?_, ?_, ?_⟩ <;> omega) | exact h.elim
structure Gh where
 nW : Nat
 t0 : Nat
 t1 : Nat
 sent : Nat
 fed : Nat
 rC : Nat
 rF : Nat
structure Vw (W : Nat) (P : PW) (nW : Nat) : Prop where
 c : (P.rs 0).prog = 0
 w : ∀ q, q < nW → (P.rs (q + 1)).prog = 1 ∧ (P.rs (q + 1)).pos ≤ 8
 f : 10 ≤ (P.rs 0).pos → (P.rs (W + 1)).prog = 2
 k : 11 ≤ (P.rs 0).pos → (P.rs (W + 2)).prog = 3
 n9 : (P.rs 0).pos ≤ 9 → P.n = 1 + nW
 n10 : (P.rs 0).pos = 10 → P.n = 2 + nW
 n11 : 11 ≤ (P.rs 0).pos → P.n = 3 + nW
 f0 : (P.rs 0).pos < 10 → (P.rs (W + 1)).pos = 0
 k0 : (P.rs 0).pos < 11 → (P.rs (W + 2)).pos = 0
 u : ∀ q, nW ≤ q → q < W → (P.rs (q + 1)).pos = 0
structure GN (W J B : Nat) (pc fp kp : Nat) (γ : Gh) (n : Nat → Nat) (h0 h1 h2 : Nat) (x0 x1 x2 : Bool) (g : Int) (len : Nat) : Prop where
 tot : n 0 + n 1 + n 2 + n 3 + n 4 + n 5 + n 6 + n 7 + n 8 = γ.nW
 tok1 : fp = 13 ∨ fp = 14 → h2 + h0 + n 1 + n 2 + n 3 + 1 = γ.sent
 tok0 : ¬ (fp = 13 ∨ fp = 14) → h2 + h0 + n 1 + n 2 + n 3 = γ.sent
 j0 : γ.fed = γ.t0 + h0
 j1 : γ.t0 = γ.t1 + h1 + n 1 + n 2 + n 3 + n 4
 e0 : x0 = true ↔ 18 ≤ fp
 e1 : x1 = true ↔ 2 ≤ kp
 e2 : x2 = false
 w6 : 0 < n 6 + n 7 + n 8 → 18 ≤ fp ∧ h0 = 0
 gr1 : pc = 6 → g + n 7 + n 8 = γ.nW + 1
 gr0 : pc ≠ 6 → g + n 7 + n 8 = γ.nW
 k1 : 1 ≤ kp → 11 ≤ pc ∧ n 7 + n 8 = W
 k3 : kp ≤ 3
 c14 : 14 ≤ pc → 2 ≤ kp
 f1 : 1 ≤ fp → 10 ≤ pc
 me : len + γ.rC + 3 * W + (3 * n 0 + 8 * n 1 + 7 * n 2 + 6 * n 3 + 5 * n 4 + 4 * n 5 + 2 * n 6 + n 7) + 6 * J + γ.rF + 3 = B + 3 * γ.nW + 6 * γ.t0 + kp
structure PoolOk (W Q b J : Nat) : Prop where
 w1 : 1 ≤ W
 w2 : W ≤ 256
 q1 : 1 ≤ Q
 b1 : 1 ≤ b
 b2 : b ≤ 64
 j2 : J ≤ 1024
structure I1 (W b J B : Nat) (γ : Gh) (P : PW) : Prop where
 vw : Vw W P γ.nW
 cb : ICb W J (P.rs 0).pos (P.rs 0).rg γ.nW γ.t1 γ.rC
 fd : IFd b J (P.rs (W + 1)).pos (P.rs (W + 1)).rg γ.sent γ.fed γ.rF
 gn : GN W J B (P.rs 0).pos (P.rs (W + 1)).pos (P.rs (W + 2)).pos γ (cw P γ.nW) (P.held 0).length (P.held 1).length (P.held 2).length (P.cl 0) (P.cl 1) (P.cl 2) (P.gr 0) P.ev.length
structure Hd where
 tf : Option Int
 wf : Bool
 tw : Nat → Option Int
 jw : Nat → Option Int
 ww : Nat → Bool
 jc : Option Int
theorem Hd.ext {x y : Hd} (h0 : x.tf = y.tf) (h1 : x.wf = y.wf) (h2 : x.tw = y.tw) (h3 : x.jw = y.jw) (h4 : x.ww = y.ww) (h5 : x.jc = y.jc) : x = y := by
 cases x
 cases y
 simp only at h0 h1 h2 h3 h4 h5
 subst h0 h1 h2 h3 h4 h5
 rfl
def hdP (W : Nat) (P : PW) : Hd where
 tf := if (P.rs (W + 1)).pos = 13 ∨ (P.rs (W + 1)).pos = 14 then some ((P.rs (W + 1)).rg 3) else none
 wf := decide ((P.rs (W + 1)).pos = 14)
 tw := fun q => if q < W ∧ ((P.rs (q + 1)).pos = 1 ∨ (P.rs (q + 1)).pos = 2 ∨ (P.rs (q + 1)).pos = 3) then some ((P.rs (q + 1)).rg 3) else none
 jw := fun q => if q < W ∧ ((P.rs (q + 1)).pos = 2 ∨ (P.rs (q + 1)).pos = 3 ∨ (P.rs (q + 1)).pos = 4) then some ((P.rs (q + 1)).rg 4) else none
 ww := fun q => decide (q < W ∧ ((P.rs (q + 1)).pos = 3 ∨ (P.rs (q + 1)).pos = 4))
 jc := if (P.rs 0).pos = 12 then some ((P.rs 0).rg 3) else none
inductive Tr (W b : Nat) (P : PW) (s f : Nat) (P' : PW) (s' f' : Nat) : Prop where
 | silent (e : Ev) : P'.ev = P.ev ++ [e] → e.op ≠ 5 → e.op ≠ 12 → e.op ≠ 13 → e.op ≠ 15 → (e.op = 6 → e.sh = true) → P'.held = P.held → P'.ce = P.ce → hdP W P' = hdP W P → s' = s → f' = f → Tr W b P s f P' s' f'
 | send2f : P'.ev = P.ev ++ [⟨(W : Int) + 1, 5, 2, s, false⟩] → P'.held = updN P.held 2 (P.held 2 ++ [(s : Int)]) → P'.ce = P.ce → hdP W P' = hdP W P → s < b → s' = s + 1 → f' = f → Tr W b P s f P' s' f'
 | take2 (x : Int) (l : List Int) : P'.ev = P.ev ++ [⟨(W : Int) + 1, 6, 2, x, false⟩] → P.held 2 = x :: l → P'.held = updN P.held 2 l → P'.ce = P.ce → (hdP W P).tf = none → (hdP W P).wf = false → hdP W P' = { hdP W P with tf := some x } → s' = s → f' = f → Tr W b P s f P' s' f'
 | write (x : Int) : P'.ev = P.ev ++ [⟨(W : Int) + 1, 13, x % b, f, false⟩] → P'.held = P.held → P'.ce = updI P.ce (x % b) f → (hdP W P).tf = some x → (hdP W P).wf = false → hdP W P' = { hdP W P with wf := true } → s' = s → f' = f → Tr W b P s f P' s' f'
 | send0 (x : Int) : P'.ev = P.ev ++ [⟨(W : Int) + 1, 5, 0, x, false⟩] → P'.held = updN P.held 0 (P.held 0 ++ [x]) → P'.ce = P.ce → (hdP W P).tf = some x → (hdP W P).wf = true → hdP W P' = { hdP W P with tf := none, wf := false } → s' = s → f' = f + 1 → Tr W b P s f P' s' f'
 | take0 (q : Nat) (x : Int) (l : List Int) : q < W → P'.ev = P.ev ++ [⟨(q : Int) + 1, 6, 0, x, false⟩] → P.held 0 = x :: l → P'.held = updN P.held 0 l → P'.ce = P.ce → (hdP W P).tw q = none → (hdP W P).jw q = none → (hdP W P).ww q = false → hdP W P' = { hdP W P with tw := updN (hdP W P).tw q (some x) } → s' = s → f' = f → Tr W b P s f P' s' f'
 | read (q : Nat) (x : Int) : q < W → P'.ev = P.ev ++ [⟨(q : Int) + 1, 12, x % b, P.ce (x % b), false⟩] → P'.held = P.held → P'.ce = P.ce → (hdP W P).tw q = some x → (hdP W P).jw q = none → (hdP W P).ww q = false → hdP W P' = { hdP W P with jw := updN (hdP W P).jw q (some (P.ce (x % b))) } → s' = s → f' = f → Tr W b P s f P' s' f'
 | work (q : Nat) (x y : Int) : q < W → P'.ev = P.ev ++ [⟨(q : Int) + 1, 15, 0, y, false⟩] → P'.held = P.held → P'.ce = P.ce → (hdP W P).tw q = some x → (hdP W P).jw q = some y → (hdP W P).ww q = false → hdP W P' = { hdP W P with ww := updN (hdP W P).ww q true } → s' = s → f' = f → Tr W b P s f P' s' f'
 | send2w (q : Nat) (x y : Int) : q < W → P'.ev = P.ev ++ [⟨(q : Int) + 1, 5, 2, x, false⟩] → P'.held = updN P.held 2 (P.held 2 ++ [x]) → P'.ce = P.ce → (hdP W P).tw q = some x → (hdP W P).jw q = some y → (hdP W P).ww q = true → hdP W P' = { hdP W P with tw := updN (hdP W P).tw q none } → s' = s → f' = f → Tr W b P s f P' s' f'
 | send1 (q : Nat) (y : Int) : q < W → P'.ev = P.ev ++ [⟨(q : Int) + 1, 5, 1, y, false⟩] → P'.held = updN P.held 1 (P.held 1 ++ [y]) → P'.ce = P.ce → (hdP W P).tw q = none → (hdP W P).jw q = some y → (hdP W P).ww q = true → hdP W P' = { hdP W P with jw := updN (hdP W P).jw q none, ww := updN (hdP W P).ww q false } → s' = s → f' = f → Tr W b P s f P' s' f'
 | take1 (y : Int) (l : List Int) : P'.ev = P.ev ++ [⟨0, 6, 1, y, false⟩] → P.held 1 = y :: l → P'.held = updN P.held 1 l → P'.ce = P.ce → (hdP W P).jc = none → hdP W P' = { hdP W P with jc := some y } → s' = s → f' = f → Tr W b P s f P' s' f'
 | workc (y : Int) : P'.ev = P.ev ++ [⟨0, 15, 1, y, false⟩] → P'.held = P.held → P'.ce = P.ce → (hdP W P).jc = some y → hdP W P' = { hdP W P with jc := none } → s' = s → f' = f → Tr W b P s f P' s' f'
open Go.RowKit
section
variable {W Q b J B : Nat} {γ : Gh} {P P' : PW} {f : Nat → Int} {nW p : Nat}
theorem inst_of {S : Sys} {r : Rn} {f : Nat → Int} (h : instP S r = some f) : r.pos < S.lp r.prog ∧ f = S.q r.prog r.pos := by
 unfold instP at h
 split at h
 · rename_i hp
   injection h with h
   exact ⟨hp, h.symm⟩
 · cases h
theorem Vw.comb (h : Vw W P nW) (h0 : (P'.rs 0).prog = 0) (hr : ∀ j, j ≠ 0 → P'.rs j = P.rs j) (hn : P'.n = P.n) (h9 : ((P.rs 0).pos ≤ 9 ∧ (P'.rs 0).pos ≤ 9) ∨ (11 ≤ (P.rs 0).pos ∧ 11 ≤ (P'.rs 0).pos)) : Vw W P' nW := by
 have e1 := hr (W + 1) (by omega)
 have e2 := hr (W + 2) (by omega)
 refine ⟨h0, fun q hq => ?_, fun hp => ?_, fun hp => ?_, fun hp => ?_, fun hp => ?_, fun hp => ?_, fun hp => ?_, fun hp => ?_, fun q h1 h2 => ?_⟩
 · rw [hr _ (by omega)]; exact h.w q hq
 · rw [e1]; exact h.f (by omega)
 · rw [e2]; exact h.k (by omega)
 · rw [hn]; exact h.n9 (by omega)
 · omega
 · rw [hn]; exact h.n11 (by omega)
 · rw [e1]; exact h.f0 (by omega)
 · rw [e2]; exact h.k0 (by omega)
 · rw [hr _ (by omega)]; exact h.u q h1 h2
theorem hd_comb (hr : ∀ j, j ≠ 0 → P'.rs j = P.rs j) (h12 : (P.rs 0).pos ≠ 12) (h12' : (P'.rs 0).pos ≠ 12) : hdP W P' = hdP W P := by
 have e1 : ∀ q, P'.rs (q + 1) = P.rs (q + 1) := fun q => hr _ (by omega)
 unfold hdP
 simp only [e1, if_neg h12, if_neg h12']
theorem hd_key (hf : (P'.rs (W + 1)).pos = (P.rs (W + 1)).pos) (hf2 : (P.rs (W + 1)).pos ≠ 0 → P'.rs (W + 1) = P.rs (W + 1)) (key : ∀ q, q < W → (P'.rs (q + 1)).pos = (P.rs (q + 1)).pos ∧ ((P.rs (q + 1)).pos ≠ 0 → P'.rs (q + 1) = P.rs (q + 1))) (h12 : (P'.rs 0).pos ≠ 12) (h12' : (P.rs 0).pos ≠ 12) : hdP W P' = hdP W P := by
 unfold hdP
 rw [hf, if_neg h12, if_neg h12']
 refine Hd.ext ?_ rfl (funext fun q => ?_) (funext fun q => ?_) (funext fun q => ?_) rfl
 · show (if _ then some ((P'.rs (W + 1)).rg 3) else none) = (if _ then some ((P.rs (W + 1)).rg 3) else none)
   split
   · rw [hf2 (by omega)]
   · rfl
 · show (if q < W ∧ _ then some ((P'.rs (q + 1)).rg 3) else none) = (if q < W ∧ _ then some ((P.rs (q + 1)).rg 3) else none)
   by_cases hq : q < W
   · rw [(key q hq).1]
     split
     · rw [(key q hq).2 (by omega)]
     · rfl
   · rw [if_neg (fun h => hq h.1), if_neg (fun h => hq h.1)]
 · show (if q < W ∧ _ then some ((P'.rs (q + 1)).rg 4) else none) = (if q < W ∧ _ then some ((P.rs (q + 1)).rg 4) else none)
   by_cases hq : q < W
   · rw [(key q hq).1]
     split
     · rw [(key q hq).2 (by omega)]
     · rfl
   · rw [if_neg (fun h => hq h.1), if_neg (fun h => hq h.1)]
 · show decide (q < W ∧ _) = decide (q < W ∧ _)
   by_cases hq : q < W
   · rw [(key q hq).1]
   · rw [decide_eq_false (fun h => hq h.1), decide_eq_false (fun h => hq h.1)]
theorem I1.comb (h : I1 W b J B γ P) (rC : Nat) (h0 : (P'.rs 0).prog = 0) (hr : ∀ j, j ≠ 0 → P'.rs j = P.rs j) (hn : P'.n = P.n) (h9 : ((P.rs 0).pos ≤ 9 ∧ (P'.rs 0).pos ≤ 9) ∨ (11 ≤ (P.rs 0).pos ∧ 11 ≤ (P'.rs 0).pos)) (hh : P'.held = P.held) (hcl : P'.cl = P.cl) (hg : P'.gr = P.gr) (he : P'.ev.length = P.ev.length + 1)
   (hcb : ICb W J (P'.rs 0).pos (P'.rs 0).rg γ.nW γ.t1 rC) (hC : rC + 1 = γ.rC) (h6 : (P.rs 0).pos ≠ 6 ∧ (P'.rs 0).pos ≠ 6) (h14 : 14 ≤ (P'.rs 0).pos → 14 ≤ (P.rs 0).pos) : I1 W b J B { γ with rC := rC } P' := by
 have e1 := hr (W + 1) (by omega)
 have e2 := hr (W + 2) (by omega)
 have hw : cw P' γ.nW = cw P γ.nW := funext fun p => cw_same _ _ fun q _ => by rw [hr _ (by omega)]
 obtain ⟨q1, q2, q3, q4, q5, q6, q7, q8, q9, q10, q11, q12, q13, q14, q15, q16⟩ := h.gn
 refine ⟨h.vw.comb h0 hr hn h9, hcb, by rw [e1]; exact h.fd, ?_⟩
 show GN W J B _ _ _ _ (cw P' γ.nW) _ _ _ _ _ _ _ _
 rw [hw, hh, hcl, hg, he, e1, e2]
 refine ⟨q1, q2, q3, q4, q5, q6, q7, q8, q9, by omega, by intro _; exact q11 h6.1, by intro h; have := q12 h; omega, q13, fun h => q14 (h14 h), by intro h; have := q15 h; omega, ?_⟩
 show P.ev.length + 1 + rC + 3 * W + _ + 6 * J + γ.rF + 3 = _
 simp only at *
 omega
theorem rs_start {S : Sys} (hf : f 0 = 14) (hn : P.n < 512) {k : Nat} : (stepP S P k f).2 = 0 ∧ (∀ j, (stepP S P k f).1.rs j = if j = k then { (P.rs k) with pos := (P.rs k).pos + 1 } else if j = P.n then ⟨(f 1).toNat, 0, (P.rs k).rg⟩ else P.rs j) ∧ (stepP S P k f).1.n = P.n + 1 ∧ (stepP S P k f).1.held = P.held ∧ (stepP S P k f).1.cl = P.cl ∧ (stepP S P k f).1.gr = P.gr ∧ (stepP S P k f).1.ce = P.ce ∧ (stepP S P k f).1.ev = P.ev ++ [⟨k, 14, f 1, P.n, false⟩] := by
 rw [st_start hf hn]
 exact ⟨rfl, fun j => rfl, rfl, rfl, rfl, rfl, rfl, rfl⟩
def StepOk (W b J B : Nat) (γ : Gh) (P : PW) (x : PW × Int) : Prop := x.2 = 0 ∧ ∃ γ', I1 W b J B γ' x.1 ∧ Tr W b P γ.sent γ.fed x.1 γ'.sent γ'.fed
set_option maxHeartbeats 1000000 in
theorem comb_0 (pk : PoolOk W Q b J) (h : I1 W b J B γ P) (e : (P.rs 0).pos = 0) (hc : canP (poolS W Q b J) P (fun j => (pqC W 0).getD j 0) = true) : StepOk W b J B γ P (stepP (poolS W Q b J) P 0 (fun j => (pqC W 0).getD j 0)) := by
 have hcb := h.cb
 have hw1 := pk.w1
 have hw2 := pk.w2
 rw [e] at hcb
 simp only [ICb] at hcb
 have htJ : γ.t1 ≤ J := by
   have a := h.gn.j0
   have b := h.gn.j1
   have c := h.fd.sb
   omega
 have e1 : stepP (poolS W Q b J) P 0 (fun j => (pqC W 0).getD j 0) = finP P 0 (setReg (P.rs 0) 0 0) 1 ⟨0, 1, 0, 0, false⟩ := by rw [st_set rfl, e]; rfl
 rw [e1]
 refine ⟨rfl, _, h.comb (γ.rC - 1) (by simp [finP, tellP, setR, setReg, h.vw.c]) (fun j hj => by simp [finP, tellP, setR, hj]) rfl (by simp [finP, tellP, setR, e]) rfl rfl rfl (by simp [finP, tellP, setR]) (by simp only [finP, tellP, setR, setReg, if_true, ICb]; simp; omega) (by omega) (by simp [finP, tellP, setR, e]) (by simp [finP, tellP, setR, e]), ?_⟩
 exact .silent _ rfl (by simp) (by simp) (by simp) (by simp) (fun h => by first | rfl | simp at h) rfl rfl (hd_comb (fun j hj => by simp [finP, tellP, setR, hj]) (by omega) (by simp [finP, tellP, setR])) rfl rfl
set_option maxHeartbeats 1000000 in
theorem comb_1 (pk : PoolOk W Q b J) (h : I1 W b J B γ P) (e : (P.rs 0).pos = 1) (hc : canP (poolS W Q b J) P (fun j => (pqC W 1).getD j 0) = true) : StepOk W b J B γ P (stepP (poolS W Q b J) P 0 (fun j => (pqC W 1).getD j 0)) := by
 have hcb := h.cb
 have hw1 := pk.w1
 have hw2 := pk.w2
 rw [e] at hcb
 simp only [ICb] at hcb
 have htJ : γ.t1 ≤ J := by
   have a := h.gn.j0
   have b := h.gn.j1
   have c := h.fd.sb
   omega
 have e1 : stepP (poolS W Q b J) P 0 (fun j => (pqC W 1).getD j 0) = finP P 0 (setReg (P.rs 0) 1 W) 2 ⟨0, 1, 0, 0, false⟩ := by rw [st_set rfl, e]; rfl
 rw [e1]
 refine ⟨rfl, _, h.comb (γ.rC - 1) (by simp [finP, tellP, setR, setReg, h.vw.c]) (fun j hj => by simp [finP, tellP, setR, hj]) rfl (by simp [finP, tellP, setR, e]) rfl rfl rfl (by simp [finP, tellP, setR]) (by simp only [finP, tellP, setR, setReg, if_true, ICb]; simp; omega) (by omega) (by simp [finP, tellP, setR, e]) (by simp [finP, tellP, setR, e]), ?_⟩
 exact .silent _ rfl (by simp) (by simp) (by simp) (by simp) (fun h => by first | rfl | simp at h) rfl rfl (hd_comb (fun j hj => by simp [finP, tellP, setR, hj]) (by omega) (by simp [finP, tellP, setR])) rfl rfl
set_option maxHeartbeats 1000000 in
theorem comb_2 (pk : PoolOk W Q b J) (h : I1 W b J B γ P) (e : (P.rs 0).pos = 2) (hc : canP (poolS W Q b J) P (fun j => (pqC W 2).getD j 0) = true) : StepOk W b J B γ P (stepP (poolS W Q b J) P 0 (fun j => (pqC W 2).getD j 0)) := by
 have hcb := h.cb
 have hw1 := pk.w1
 have hw2 := pk.w2
 rw [e] at hcb
 simp only [ICb] at hcb
 have htJ : γ.t1 ≤ J := by
   have a := h.gn.j0
   have b := h.gn.j1
   have c := h.fd.sb
   omega
 have e1 : stepP (poolS W Q b J) P 0 (fun j => (pqC W 2).getD j 0) = finP P 0 (setReg (P.rs 0) 2 1) 3 ⟨0, 1, 0, 0, false⟩ := by rw [st_set rfl, e]; rfl
 rw [e1]
 refine ⟨rfl, _, h.comb (γ.rC - 1) (by simp [finP, tellP, setR, setReg, h.vw.c]) (fun j hj => by simp [finP, tellP, setR, hj]) rfl (by simp [finP, tellP, setR, e]) rfl rfl rfl (by simp [finP, tellP, setR]) (by simp only [finP, tellP, setR, setReg, if_true, ICb]; simp; omega) (by omega) (by simp [finP, tellP, setR, e]) (by simp [finP, tellP, setR, e]), ?_⟩
 exact .silent _ rfl (by simp) (by simp) (by simp) (by simp) (fun h => by first | rfl | simp at h) rfl rfl (hd_comb (fun j hj => by simp [finP, tellP, setR, hj]) (by omega) (by simp [finP, tellP, setR])) rfl rfl
set_option maxHeartbeats 1000000 in
theorem comb_3 (pk : PoolOk W Q b J) (h : I1 W b J B γ P) (e : (P.rs 0).pos = 3) (hc : canP (poolS W Q b J) P (fun j => (pqC W 3).getD j 0) = true) : StepOk W b J B γ P (stepP (poolS W Q b J) P 0 (fun j => (pqC W 3).getD j 0)) := by
 have hcb := h.cb
 have hw1 := pk.w1
 have hw2 := pk.w2
 rw [e] at hcb
 simp only [ICb] at hcb
 have htJ : γ.t1 ≤ J := by
   have a := h.gn.j0
   have b := h.gn.j1
   have c := h.fd.sb
   omega
 have e0 : stepP (poolS W Q b J) P 0 (fun j => (pqC W 3).getD j 0) = finP P 0 (P.rs 0) (if (P.rs 0).rg 1 ≤ (P.rs 0).rg 0 then 4 else 5) ⟨0, 3, 0, 0, false⟩ := by rw [st_less rfl, e]; rfl
 by_cases hl : (P.rs 0).rg 1 ≤ (P.rs 0).rg 0
 · have e1 : stepP (poolS W Q b J) P 0 (fun j => (pqC W 3).getD j 0) = finP P 0 (P.rs 0) 4 ⟨0, 3, 0, 0, false⟩ := by rw [e0, if_pos hl]
   rw [e1]
   refine ⟨rfl, _, h.comb (γ.rC - 1) (by simp [finP, tellP, setR, setReg, h.vw.c]) (fun j hj => by simp [finP, tellP, setR, hj]) rfl (by simp [finP, tellP, setR, e]) rfl rfl rfl (by simp [finP, tellP, setR]) (by simp only [finP, tellP, setR, setReg, if_true, ICb]; omega) (by omega) (by simp [finP, tellP, setR, e]) (by simp [finP, tellP, setR, e]), ?_⟩
   exact .silent _ rfl (by simp) (by simp) (by simp) (by simp) (fun h => by first | rfl | simp at h) rfl rfl (hd_comb (fun j hj => by simp [finP, tellP, setR, hj]) (by omega) (by simp [finP, tellP, setR])) rfl rfl
 · have e1 : stepP (poolS W Q b J) P 0 (fun j => (pqC W 3).getD j 0) = finP P 0 (P.rs 0) 5 ⟨0, 3, 0, 0, false⟩ := by rw [e0, if_neg hl]
   rw [e1]
   refine ⟨rfl, _, h.comb (γ.rC - 1) (by simp [finP, tellP, setR, setReg, h.vw.c]) (fun j hj => by simp [finP, tellP, setR, hj]) rfl (by simp [finP, tellP, setR, e]) rfl rfl rfl (by simp [finP, tellP, setR]) (by simp only [finP, tellP, setR, setReg, if_true, ICb]; omega) (by omega) (by simp [finP, tellP, setR, e]) (by simp [finP, tellP, setR, e]), ?_⟩
   exact .silent _ rfl (by simp) (by simp) (by simp) (by simp) (fun h => by first | rfl | simp at h) rfl rfl (hd_comb (fun j hj => by simp [finP, tellP, setR, hj]) (by omega) (by simp [finP, tellP, setR])) rfl rfl
set_option maxHeartbeats 1000000 in
theorem comb_4 (pk : PoolOk W Q b J) (h : I1 W b J B γ P) (e : (P.rs 0).pos = 4) (hc : canP (poolS W Q b J) P (fun j => (pqC W 4).getD j 0) = true) : StepOk W b J B γ P (stepP (poolS W Q b J) P 0 (fun j => (pqC W 4).getD j 0)) := by
 have hcb := h.cb
 have hw1 := pk.w1
 have hw2 := pk.w2
 rw [e] at hcb
 simp only [ICb] at hcb
 have htJ : γ.t1 ≤ J := by
   have a := h.gn.j0
   have b := h.gn.j1
   have c := h.fd.sb
   omega
 have e1 : stepP (poolS W Q b J) P 0 (fun j => (pqC W 4).getD j 0) = finP P 0 (P.rs 0) 9 ⟨0, 4, 0, 0, false⟩ := by rw [st_jump rfl]; rfl
 rw [e1]
 refine ⟨rfl, _, h.comb (γ.rC - 1) (by simp [finP, tellP, setR, setReg, h.vw.c]) (fun j hj => by simp [finP, tellP, setR, hj]) rfl (by simp [finP, tellP, setR, e]) rfl rfl rfl (by simp [finP, tellP, setR]) (by simp only [finP, tellP, setR, setReg, if_true, ICb]; omega) (by omega) (by simp [finP, tellP, setR, e]) (by simp [finP, tellP, setR, e]), ?_⟩
 exact .silent _ rfl (by simp) (by simp) (by simp) (by simp) (fun h => by first | rfl | simp at h) rfl rfl (hd_comb (fun j hj => by simp [finP, tellP, setR, hj]) (by omega) (by simp [finP, tellP, setR])) rfl rfl
set_option maxHeartbeats 1000000 in
theorem comb_5 (pk : PoolOk W Q b J) (h : I1 W b J B γ P) (e : (P.rs 0).pos = 5) (hc : canP (poolS W Q b J) P (fun j => (pqC W 5).getD j 0) = true) : StepOk W b J B γ P (stepP (poolS W Q b J) P 0 (fun j => (pqC W 5).getD j 0)) := by
 have hcb := h.cb
 have hw1 := pk.w1
 have hw2 := pk.w2
 rw [e] at hcb
 simp only [ICb] at hcb
 have htJ : γ.t1 ≤ J := by
   have a := h.gn.j0
   have b := h.gn.j1
   have c := h.fd.sb
   omega
 obtain ⟨q1, q2, q3, q4, q5, q6, q7, q8, q9, q10, q11, q12, q13, q14, q15, q16⟩ := h.gn
 have hg := q11 (by omega)
 have e0 : IntKind.i64.wrap (P.gr 0 + 1) = P.gr 0 + 1 := wrap_small (by omega) (by omega)
 have e1 : stepP (poolS W Q b J) P 0 (fun j => (pqC W 5).getD j 0) = finP { P with gr := updI P.gr 0 (P.gr 0 + 1) } 0 (P.rs 0) 6 ⟨0, 10, 0, P.gr 0 + 1, false⟩ := by
   have h10 := st_add (S := poolS W Q b J) (P := P) (k := 0) (f := fun j => (pqC W 5).getD j 0) rfl (by show 0 ≤ IntKind.i64.wrap (P.gr 0 + 1); rw [e0]; omega)
   rw [h10]
   show finP { P with gr := updI P.gr 0 (IntKind.i64.wrap (P.gr 0 + 1)) } 0 (P.rs 0) ((P.rs 0).pos + 1) ⟨0, 10, 0, IntKind.i64.wrap (P.gr 0 + 1), false⟩ = _
   rw [e0, e]
 rw [e1]
 refine ⟨rfl, { γ with rC := γ.rC - 1 }, ⟨h.vw.comb (by simp [finP, tellP, setR, h.vw.c]) (fun j hj => by simp [finP, tellP, setR, hj]) rfl (by simp [finP, tellP, setR, e]), (by simp only [finP, tellP, setR, if_true, ICb]; omega), h.fd, ?_⟩, ?_⟩
 · have hw : cw (finP { P with gr := updI P.gr 0 (P.gr 0 + 1) } 0 (P.rs 0) 6 ⟨0, 10, 0, P.gr 0 + 1, false⟩).1 γ.nW = cw P γ.nW := funext fun p => cw_same _ _ fun q _ => by simp [finP, tellP, setR]
   show GN W J B _ _ _ _ (cw _ γ.nW) _ _ _ _ _ _ _ _
   rw [hw]
   simp only [finP, tellP, setR, updI, if_true, List.length_append, List.length_singleton, show ¬ (W + 1 = 0) by omega, show ¬ (W + 2 = 0) by omega, if_false]
   rw [e] at q12 q14 q15
   refine ⟨?_, ?_, ?_, ?_, ?_, ?_, ?_, ?_, ?_, ?_, ?_, ?_, ?_, ?_, ?_, ?_⟩
   · clear q2 q3 q4 q5 q6 q7 q8 q9 q10 q11 q12 q13 q14 q15 q16; try dsimp only
     first | exact q1 | omega
   · clear q1 q3 q4 q5 q6 q7 q8 q9 q10 q11 q12 q13 q14 q15 q16; try dsimp only
     first | exact q2 | omega
   · clear q1 q2 q4 q5 q6 q7 q8 q9 q10 q11 q12 q13 q14 q15 q16; try dsimp only
     first | exact q3 | omega
   · clear q1 q2 q3 q5 q6 q7 q8 q9 q10 q11 q12 q13 q14 q15 q16; try dsimp only
     first | exact q4 | omega
   · clear q1 q2 q3 q4 q6 q7 q8 q9 q10 q11 q12 q13 q14 q15 q16; try dsimp only
     first | exact q5 | omega
   · clear q1 q2 q3 q4 q5 q7 q8 q9 q10 q11 q12 q13 q14 q15 q16; try dsimp only
     first | exact q6 | omega
   · clear q1 q2 q3 q4 q5 q6 q8 q9 q10 q11 q12 q13 q14 q15 q16; try dsimp only
     first | exact q7 | omega
   · clear q1 q2 q3 q4 q5 q6 q7 q9 q10 q11 q12 q13 q14 q15 q16; try dsimp only
     first | exact q8 | omega
   · clear q1 q2 q3 q4 q5 q6 q7 q8 q10 q11 q12 q13 q14 q15 q16; try dsimp only
     first | exact q9 | omega
   · clear q1 q2 q3 q4 q5 q6 q7 q8 q9 q11 q12 q13 q14 q15 q16; try dsimp only
     first | exact q10 | omega
   · clear q1 q2 q3 q4 q5 q6 q7 q8 q9 q10 q12 q13 q14 q15 q16; try dsimp only
     first | exact q11 | omega
   · clear q1 q2 q3 q4 q5 q6 q7 q8 q9 q10 q11 q13 q14 q15 q16; try dsimp only
     first | exact q12 | omega
   · clear q1 q2 q3 q4 q5 q6 q7 q8 q9 q10 q11 q12 q14 q15 q16; try dsimp only
     first | exact q13 | omega
   · clear q1 q2 q3 q4 q5 q6 q7 q8 q9 q10 q11 q12 q13 q15 q16; try dsimp only
     first | exact q14 | omega
   · clear q1 q2 q3 q4 q5 q6 q7 q8 q9 q10 q11 q12 q13 q14 q16; try dsimp only
     first | exact q15 | omega
   · clear q1 q2 q3 q4 q5 q6 q7 q8 q9 q10 q11 q12 q13 q14 q15; try dsimp only
     first | exact q16 | omega
 · exact .silent _ rfl (by simp) (by simp) (by simp) (by simp) (fun h => by simp at h) rfl rfl (hd_comb (fun j hj => by simp [finP, tellP, setR, hj]) (by omega) (by simp [finP, tellP, setR])) rfl rfl
set_option maxHeartbeats 1000000 in
theorem comb_6 (pk : PoolOk W Q b J) (h : I1 W b J B γ P) (e : (P.rs 0).pos = 6) (hc : canP (poolS W Q b J) P (fun j => (pqC W 6).getD j 0) = true) : StepOk W b J B γ P (stepP (poolS W Q b J) P 0 (fun j => (pqC W 6).getD j 0)) := by
 have hcb := h.cb
 have hw1 := pk.w1
 have hw2 := pk.w2
 rw [e] at hcb
 simp only [ICb] at hcb
 have htJ : γ.t1 ≤ J := by
   have a := h.gn.j0
   have b := h.gn.j1
   have c := h.fd.sb
   omega
 obtain ⟨q1, q2, q3, q4, q5, q6, q7, q8, q9, q10, q11, q12, q13, q14, q15, q16⟩ := h.gn
 have hnn : P.n = 1 + γ.nW := h.vw.n9 (by omega)
 obtain ⟨s1, s2, s3, s4, s5, s6, s7, s8⟩ := rs_start (S := poolS W Q b J) (P := P) (k := 0) (f := fun j => (pqC W 6).getD j 0) rfl (by omega)
 generalize stepP (poolS W Q b J) P 0 (fun j => (pqC W 6).getD j 0) = X at s1 s2 s3 s4 s5 s6 s7 s8 ⊢
 have r0 : X.1.rs 0 = ⟨0, 7, (P.rs 0).rg⟩ := by rw [s2 0, if_pos rfl, e]; exact congrArg (fun p => (⟨p, _, _⟩ : Rn)) h.vw.c
 have rn : X.1.rs P.n = ⟨1, 0, (P.rs 0).rg⟩ := by rw [s2, if_neg (by omega), if_pos rfl]; rfl
 have ro : ∀ j, j ≠ 0 → j ≠ P.n → X.1.rs j = P.rs j := fun j h1 h2 => by rw [s2, if_neg h1, if_neg h2]
 have hnW := hcb.2.2.2.1
 have rw1 := ro (W + 1) (by omega) (by omega)
 have rw2 := ro (W + 2) (by omega) (by omega)
 have hu := h.vw.u γ.nW (Nat.le_refl _) hnW
 have rn' : X.1.rs (γ.nW + 1) = ⟨1, 0, (P.rs 0).rg⟩ := by rw [← rn, hnn, Nat.add_comm]
 have hw : ∀ p, cw X.1 (γ.nW + 1) p = cw P γ.nW p + (if p = 0 then 1 else 0) := fun p => by
   rw [cw_succ, rn', cw_same (P := P) (P' := X.1) γ.nW p (fun q hq => by rw [ro _ (by omega) (by omega)])]
   by_cases hp : p = 0
   · subst hp; simp
   · simp [hp, show ¬ 0 = p from fun q => hp q.symm]
 refine ⟨s1, { γ with nW := γ.nW + 1, rC := γ.rC - 1 }, ⟨⟨by rw [r0], fun q hq => ?_, fun hh => ?_, fun hh => ?_, fun hh => ?_, fun hh => ?_, fun hh => ?_, fun hh => ?_, fun hh => ?_, fun q h1 h2 => ?_⟩, ?_, by rw [rw1]; exact h.fd, ?_⟩, ?_⟩
 · by_cases hq' : q = γ.nW
   · subst hq'; rw [rn']; exact ⟨rfl, by show 0 ≤ 8; omega⟩
   · have hq2 : q < γ.nW + 1 := hq
     rw [ro _ (by omega) (by omega)]; exact h.vw.w q (by omega)
 · rw [r0] at hh; exact absurd hh (by simp)
 · rw [r0] at hh; exact absurd hh (by simp)
 · rw [s3, hnn]; show 1 + γ.nW + 1 = 1 + (γ.nW + 1); omega
 · rw [r0] at hh; exact absurd hh (by simp)
 · rw [r0] at hh; exact absurd hh (by simp)
 · rw [rw1]; exact h.vw.f0 (by omega)
 · rw [rw2]; exact h.vw.k0 (by omega)
 · have h1' : γ.nW + 1 ≤ q := h1
   rw [ro _ (by omega) (by omega)]; exact h.vw.u q (by omega) h2
 · show ICb W J (X.1.rs 0).pos (X.1.rs 0).rg _ _ _; rw [r0]; (try simp only [ICb]); (try dsimp only); omega
 · have w0 := hw 0; have w1 := hw 1; have w2 := hw 2; have w3 := hw 3; have w4 := hw 4; have w5 := hw 5; have w6 := hw 6; have w7 := hw 7; have w8 := hw 8
   simp only [if_true, if_false, Nat.add_zero, show ¬ (1 = 0) by decide, show ¬ (2 = 0) by decide, show ¬ (3 = 0) by decide, show ¬ (4 = 0) by decide, show ¬ (5 = 0) by decide, show ¬ (6 = 0) by decide, show ¬ (7 = 0) by decide, show ¬ (8 = 0) by decide] at w0 w1 w2 w3 w4 w5 w6 w7 w8
   rw [s4, s5, s6, s8, rw1, rw2, r0]
   rw [e] at q12 q14 q15
   have g1 := q10 e
   refine ⟨?_, ?_, ?_, ?_, ?_, ?_, ?_, ?_, ?_, ?_, ?_, ?_, ?_, ?_, ?_, ?_⟩
   · clear q2 q3 q4 q5 q6 q7 q8 q9 q10 q11 q12 q13 q14 q15 q16; try dsimp only
     (try simp only [w0, w1, w2, w3, w4, w5, w6, w7, w8, List.length_append, List.length_singleton]); first | exact q1 | omega
   · clear q1 q3 q4 q5 q6 q7 q8 q9 q10 q11 q12 q13 q14 q15 q16; try dsimp only
     (try simp only [w0, w1, w2, w3, w4, w5, w6, w7, w8, List.length_append, List.length_singleton]); first | exact q2 | omega
   · clear q1 q2 q4 q5 q6 q7 q8 q9 q10 q11 q12 q13 q14 q15 q16; try dsimp only
     (try simp only [w0, w1, w2, w3, w4, w5, w6, w7, w8, List.length_append, List.length_singleton]); first | exact q3 | omega
   · clear q1 q2 q3 q5 q6 q7 q8 q9 q10 q11 q12 q13 q14 q15 q16; try dsimp only
     (try simp only [w0, w1, w2, w3, w4, w5, w6, w7, w8, List.length_append, List.length_singleton]); first | exact q4 | omega
   · clear q1 q2 q3 q4 q6 q7 q8 q9 q10 q11 q12 q13 q14 q15 q16; try dsimp only
     (try simp only [w0, w1, w2, w3, w4, w5, w6, w7, w8, List.length_append, List.length_singleton]); first | exact q5 | omega
   · clear q1 q2 q3 q4 q5 q7 q8 q9 q10 q11 q12 q13 q14 q15 q16; try dsimp only
     (try simp only [w0, w1, w2, w3, w4, w5, w6, w7, w8, List.length_append, List.length_singleton]); first | exact q6 | omega
   · clear q1 q2 q3 q4 q5 q6 q8 q9 q10 q11 q12 q13 q14 q15 q16; try dsimp only
     (try simp only [w0, w1, w2, w3, w4, w5, w6, w7, w8, List.length_append, List.length_singleton]); first | exact q7 | omega
   · clear q1 q2 q3 q4 q5 q6 q7 q9 q10 q11 q12 q13 q14 q15 q16; try dsimp only
     (try simp only [w0, w1, w2, w3, w4, w5, w6, w7, w8, List.length_append, List.length_singleton]); first | exact q8 | omega
   · clear q1 q2 q3 q4 q5 q6 q7 q8 q10 q11 q12 q13 q14 q15 q16; try dsimp only
     (try simp only [w0, w1, w2, w3, w4, w5, w6, w7, w8, List.length_append, List.length_singleton]); first | exact q9 | omega
   · clear q1 q2 q3 q4 q5 q6 q7 q8 q9 q11 q12 q13 q14 q15 q16; try dsimp only
     (try simp only [w0, w1, w2, w3, w4, w5, w6, w7, w8, List.length_append, List.length_singleton]); first | exact q10 | omega
   · clear q1 q2 q3 q4 q5 q6 q7 q8 q9 q10 q12 q13 q14 q15 q16; try dsimp only
     (try simp only [w0, w1, w2, w3, w4, w5, w6, w7, w8, List.length_append, List.length_singleton]); first | exact q11 | omega
   · clear q1 q2 q3 q4 q5 q6 q7 q8 q9 q10 q11 q13 q14 q15 q16; try dsimp only
     (try simp only [w0, w1, w2, w3, w4, w5, w6, w7, w8, List.length_append, List.length_singleton]); first | exact q12 | omega
   · clear q1 q2 q3 q4 q5 q6 q7 q8 q9 q10 q11 q12 q14 q15 q16; try dsimp only
     (try simp only [w0, w1, w2, w3, w4, w5, w6, w7, w8, List.length_append, List.length_singleton]); first | exact q13 | omega
   · clear q1 q2 q3 q4 q5 q6 q7 q8 q9 q10 q11 q12 q13 q15 q16; try dsimp only
     (try simp only [w0, w1, w2, w3, w4, w5, w6, w7, w8, List.length_append, List.length_singleton]); first | exact q14 | omega
   · clear q1 q2 q3 q4 q5 q6 q7 q8 q9 q10 q11 q12 q13 q14 q16; try dsimp only
     (try simp only [w0, w1, w2, w3, w4, w5, w6, w7, w8, List.length_append, List.length_singleton]); first | exact q15 | omega
   · clear q1 q2 q3 q4 q5 q6 q7 q8 q9 q10 q11 q12 q13 q14 q15; try dsimp only
     (try simp only [w0, w1, w2, w3, w4, w5, w6, w7, w8, List.length_append, List.length_singleton]); first | exact q16 | omega
 · refine .silent _ s8 (by simp) (by simp) (by simp) (by simp) (fun h => by simp at h) s4 s7 ?_ rfl rfl
   have key : ∀ q, q < W → (X.1.rs (q + 1)).pos = (P.rs (q + 1)).pos ∧ ((P.rs (q + 1)).pos ≠ 0 → X.1.rs (q + 1) = P.rs (q + 1)) := fun q hq => by
     by_cases hq' : q = γ.nW
     · subst hq'; rw [rn', hu]; exact ⟨rfl, fun h => absurd rfl h⟩
     · rw [ro _ (by omega) (by omega)]; exact ⟨rfl, fun _ => rfl⟩
   exact hd_key (by rw [rw1]) (by rw [rw1]; exact fun _ => rfl) key (by rw [r0]; simp) (by omega)
set_option maxHeartbeats 1000000 in
theorem comb_7 (pk : PoolOk W Q b J) (h : I1 W b J B γ P) (e : (P.rs 0).pos = 7) (hc : canP (poolS W Q b J) P (fun j => (pqC W 7).getD j 0) = true) : StepOk W b J B γ P (stepP (poolS W Q b J) P 0 (fun j => (pqC W 7).getD j 0)) := by
 have hcb := h.cb
 have hw1 := pk.w1
 have hw2 := pk.w2
 rw [e] at hcb
 simp only [ICb] at hcb
 have htJ : γ.t1 ≤ J := by
   have a := h.gn.j0
   have b := h.gn.j1
   have c := h.fd.sb
   omega
 have e1 : stepP (poolS W Q b J) P 0 (fun j => (pqC W 7).getD j 0) = finP P 0 (setReg (P.rs 0) 0 ((P.rs 0).rg 0 + 1)) 8 ⟨0, 2, 0, 0, false⟩ := by rw [st_sum rfl, e]; show finP P 0 (setReg (P.rs 0) 0 (IntKind.i64.wrap ((P.rs 0).rg 0 + (P.rs 0).rg 2))) _ _ = _; rw [hcb.2.2.1, wrap_small (by omega) (by omega)]; rfl
 rw [e1]
 refine ⟨rfl, _, h.comb (γ.rC - 1) (by simp [finP, tellP, setR, setReg, h.vw.c]) (fun j hj => by simp [finP, tellP, setR, hj]) rfl (by simp [finP, tellP, setR, e]) rfl rfl rfl (by simp [finP, tellP, setR]) (by simp only [finP, tellP, setR, setReg, if_true, ICb]; simp; omega) (by omega) (by simp [finP, tellP, setR, e]) (by simp [finP, tellP, setR, e]), ?_⟩
 exact .silent _ rfl (by simp) (by simp) (by simp) (by simp) (fun h => by first | rfl | simp at h) rfl rfl (hd_comb (fun j hj => by simp [finP, tellP, setR, hj]) (by omega) (by simp [finP, tellP, setR])) rfl rfl
set_option maxHeartbeats 1000000 in
theorem comb_8 (pk : PoolOk W Q b J) (h : I1 W b J B γ P) (e : (P.rs 0).pos = 8) (hc : canP (poolS W Q b J) P (fun j => (pqC W 8).getD j 0) = true) : StepOk W b J B γ P (stepP (poolS W Q b J) P 0 (fun j => (pqC W 8).getD j 0)) := by
 have hcb := h.cb
 have hw1 := pk.w1
 have hw2 := pk.w2
 rw [e] at hcb
 simp only [ICb] at hcb
 have htJ : γ.t1 ≤ J := by
   have a := h.gn.j0
   have b := h.gn.j1
   have c := h.fd.sb
   omega
 have e1 : stepP (poolS W Q b J) P 0 (fun j => (pqC W 8).getD j 0) = finP P 0 (P.rs 0) 3 ⟨0, 4, 0, 0, false⟩ := by rw [st_jump rfl]; rfl
 rw [e1]
 refine ⟨rfl, _, h.comb (γ.rC - 1) (by simp [finP, tellP, setR, setReg, h.vw.c]) (fun j hj => by simp [finP, tellP, setR, hj]) rfl (by simp [finP, tellP, setR, e]) rfl rfl rfl (by simp [finP, tellP, setR]) (by simp only [finP, tellP, setR, setReg, if_true, ICb]; omega) (by omega) (by simp [finP, tellP, setR, e]) (by simp [finP, tellP, setR, e]), ?_⟩
 exact .silent _ rfl (by simp) (by simp) (by simp) (by simp) (fun h => by first | rfl | simp at h) rfl rfl (hd_comb (fun j hj => by simp [finP, tellP, setR, hj]) (by omega) (by simp [finP, tellP, setR])) rfl rfl
set_option maxHeartbeats 1000000 in
theorem comb_9 (pk : PoolOk W Q b J) (h : I1 W b J B γ P) (e : (P.rs 0).pos = 9) (hc : canP (poolS W Q b J) P (fun j => (pqC W 9).getD j 0) = true) : StepOk W b J B γ P (stepP (poolS W Q b J) P 0 (fun j => (pqC W 9).getD j 0)) := by
 have hcb := h.cb
 have hw1 := pk.w1
 have hw2 := pk.w2
 rw [e] at hcb
 simp only [ICb] at hcb
 have htJ : γ.t1 ≤ J := by
   have a := h.gn.j0
   have b := h.gn.j1
   have c := h.fd.sb
   omega
 obtain ⟨q1, q2, q3, q4, q5, q6, q7, q8, q9, q10, q11, q12, q13, q14, q15, q16⟩ := h.gn
 have hnn : P.n = 1 + γ.nW := h.vw.n9 (by omega)
 obtain ⟨s1, s2, s3, s4, s5, s6, s7, s8⟩ := rs_start (S := poolS W Q b J) (P := P) (k := 0) (f := fun j => (pqC W 9).getD j 0) rfl (by omega)
 generalize stepP (poolS W Q b J) P 0 (fun j => (pqC W 9).getD j 0) = X at s1 s2 s3 s4 s5 s6 s7 s8 ⊢
 have r0 : X.1.rs 0 = ⟨0, 10, (P.rs 0).rg⟩ := by rw [s2 0, if_pos rfl, e]; exact congrArg (fun p => (⟨p, _, _⟩ : Rn)) h.vw.c
 have rn : X.1.rs P.n = ⟨2, 0, (P.rs 0).rg⟩ := by rw [s2, if_neg (by omega), if_pos rfl]; rfl
 have ro : ∀ j, j ≠ 0 → j ≠ P.n → X.1.rs j = P.rs j := fun j h1 h2 => by rw [s2, if_neg h1, if_neg h2]
 have hnW : γ.nW = W := hcb.1
 have hne : P.n = W + 1 := by omega
 have rwn : X.1.rs (W + 1) = ⟨2, 0, (P.rs 0).rg⟩ := by rw [← hne, rn]
 have rwo := ro (W + 2) (by omega) (by omega)
 have hw : cw X.1 γ.nW = cw P γ.nW := funext fun p => cw_same _ _ fun q hq => by rw [ro _ (by omega) (by omega)]
 have hz : (P.rs (W + 1)).pos = 0 := h.vw.f0 (by omega)
 refine ⟨s1, { γ with rC := γ.rC - 1 }, ⟨⟨by rw [r0], fun q hq => ?_, fun hh => ?_, fun hh => ?_, fun hh => ?_, fun hh => ?_, fun hh => ?_, fun hh => ?_, fun hh => ?_, fun q h1 h2 => ?_⟩, ?_, ?_, ?_⟩, ?_⟩
 · have hq2 : q < γ.nW := hq
   rw [ro _ (by omega) (by omega)]; exact h.vw.w q hq2
 · rw [rwn]
 · rw [r0] at hh; exact absurd hh (by simp)
 · rw [r0] at hh; exact absurd hh (by simp)
 · rw [s3, hnn]; show 1 + γ.nW + 1 = 2 + γ.nW; omega
 · rw [r0] at hh; exact absurd hh (by simp)
 · rw [r0] at hh; exact absurd hh (by simp)
 · rw [rwo]; exact h.vw.k0 (by omega)
 · rw [ro _ (by omega) (by omega)]; exact h.vw.u q h1 h2
 · show ICb W J (X.1.rs 0).pos (X.1.rs 0).rg _ _ _; rw [r0]; (try simp only [ICb]); (try dsimp only); omega
 · have hfd := h.fd; rw [hz] at hfd; rw [rwn]; exact hfd
 · show GN W J B _ _ _ _ (cw X.1 γ.nW) _ _ _ _ _ _ _ _
   rw [hw, s4, s5, s6, s8, rwn, rwo, r0]
   rw [hz] at q2 q3 q6 q9 q15
   have g0 := q11 (by omega)
   refine ⟨?_, ?_, ?_, ?_, ?_, ?_, ?_, ?_, ?_, ?_, ?_, ?_, ?_, ?_, ?_, ?_⟩
   · clear q2 q3 q4 q5 q6 q7 q8 q9 q10 q11 q12 q13 q14 q15 q16; try dsimp only
     (try simp only [List.length_append, List.length_singleton]); first | exact q1 | omega
   · clear q1 q3 q4 q5 q6 q7 q8 q9 q10 q11 q12 q13 q14 q15 q16; try dsimp only
     (try simp only [List.length_append, List.length_singleton]); first | exact q2 | omega
   · clear q1 q2 q4 q5 q6 q7 q8 q9 q10 q11 q12 q13 q14 q15 q16; try dsimp only
     (try simp only [List.length_append, List.length_singleton]); first | exact q3 | omega
   · clear q1 q2 q3 q5 q6 q7 q8 q9 q10 q11 q12 q13 q14 q15 q16; try dsimp only
     (try simp only [List.length_append, List.length_singleton]); first | exact q4 | omega
   · clear q1 q2 q3 q4 q6 q7 q8 q9 q10 q11 q12 q13 q14 q15 q16; try dsimp only
     (try simp only [List.length_append, List.length_singleton]); first | exact q5 | omega
   · clear q1 q2 q3 q4 q5 q7 q8 q9 q10 q11 q12 q13 q14 q15 q16; try dsimp only
     (try simp only [List.length_append, List.length_singleton]); first | exact q6 | omega
   · clear q1 q2 q3 q4 q5 q6 q8 q9 q10 q11 q12 q13 q14 q15 q16; try dsimp only
     (try simp only [List.length_append, List.length_singleton]); first | exact q7 | omega
   · clear q1 q2 q3 q4 q5 q6 q7 q9 q10 q11 q12 q13 q14 q15 q16; try dsimp only
     (try simp only [List.length_append, List.length_singleton]); first | exact q8 | omega
   · clear q1 q2 q3 q4 q5 q6 q7 q8 q10 q11 q12 q13 q14 q15 q16; try dsimp only
     (try simp only [List.length_append, List.length_singleton]); first | exact q9 | omega
   · clear q1 q2 q3 q4 q5 q6 q7 q8 q9 q11 q12 q13 q14 q15 q16; try dsimp only
     (try simp only [List.length_append, List.length_singleton]); first | exact q10 | omega
   · clear q1 q2 q3 q4 q5 q6 q7 q8 q9 q10 q12 q13 q14 q15 q16; try dsimp only
     (try simp only [List.length_append, List.length_singleton]); first | exact q11 | omega
   · clear q1 q2 q3 q4 q5 q6 q7 q8 q9 q10 q11 q13 q14 q15 q16; try dsimp only
     (try simp only [List.length_append, List.length_singleton]); first | exact q12 | omega
   · clear q1 q2 q3 q4 q5 q6 q7 q8 q9 q10 q11 q12 q14 q15 q16; try dsimp only
     (try simp only [List.length_append, List.length_singleton]); first | exact q13 | omega
   · clear q1 q2 q3 q4 q5 q6 q7 q8 q9 q10 q11 q12 q13 q15 q16; try dsimp only
     (try simp only [List.length_append, List.length_singleton]); first | exact q14 | omega
   · clear q1 q2 q3 q4 q5 q6 q7 q8 q9 q10 q11 q12 q13 q14 q16; try dsimp only
     (try simp only [List.length_append, List.length_singleton]); first | exact q15 | omega
   · clear q1 q2 q3 q4 q5 q6 q7 q8 q9 q10 q11 q12 q13 q14 q15; try dsimp only
     (try simp only [List.length_append, List.length_singleton]); first | exact q16 | omega
 · refine .silent _ s8 (by simp) (by simp) (by simp) (by simp) (fun h => by simp at h) s4 s7 ?_ rfl rfl
   have key : ∀ q, q < W → (X.1.rs (q + 1)).pos = (P.rs (q + 1)).pos ∧ ((P.rs (q + 1)).pos ≠ 0 → X.1.rs (q + 1) = P.rs (q + 1)) := fun q hq => by
     rw [ro _ (by omega) (by omega)]; exact ⟨rfl, fun _ => rfl⟩
   exact hd_key (by rw [rwn, hz]) (fun hh => absurd hz hh) key (by rw [r0]; simp) (by omega)
set_option maxHeartbeats 1000000 in
theorem comb_10 (pk : PoolOk W Q b J) (h : I1 W b J B γ P) (e : (P.rs 0).pos = 10) (hc : canP (poolS W Q b J) P (fun j => (pqC W 10).getD j 0) = true) : StepOk W b J B γ P (stepP (poolS W Q b J) P 0 (fun j => (pqC W 10).getD j 0)) := by
 have hcb := h.cb
 have hw1 := pk.w1
 have hw2 := pk.w2
 rw [e] at hcb
 simp only [ICb] at hcb
 have htJ : γ.t1 ≤ J := by
   have a := h.gn.j0
   have b := h.gn.j1
   have c := h.fd.sb
   omega
 obtain ⟨q1, q2, q3, q4, q5, q6, q7, q8, q9, q10, q11, q12, q13, q14, q15, q16⟩ := h.gn
 have hnn : P.n = 2 + γ.nW := h.vw.n10 e
 obtain ⟨s1, s2, s3, s4, s5, s6, s7, s8⟩ := rs_start (S := poolS W Q b J) (P := P) (k := 0) (f := fun j => (pqC W 10).getD j 0) rfl (by omega)
 generalize stepP (poolS W Q b J) P 0 (fun j => (pqC W 10).getD j 0) = X at s1 s2 s3 s4 s5 s6 s7 s8 ⊢
 have r0 : X.1.rs 0 = ⟨0, 11, (P.rs 0).rg⟩ := by rw [s2 0, if_pos rfl, e]; exact congrArg (fun p => (⟨p, _, _⟩ : Rn)) h.vw.c
 have rn : X.1.rs P.n = ⟨3, 0, (P.rs 0).rg⟩ := by rw [s2, if_neg (by omega), if_pos rfl]; rfl
 have ro : ∀ j, j ≠ 0 → j ≠ P.n → X.1.rs j = P.rs j := fun j h1 h2 => by rw [s2, if_neg h1, if_neg h2]
 have hnW : γ.nW = W := hcb.1
 have hne : P.n = W + 2 := by omega
 have rwn : X.1.rs (W + 2) = ⟨3, 0, (P.rs 0).rg⟩ := by rw [← hne, rn]
 have rwo := ro (W + 1) (by omega) (by omega)
 have hw : cw X.1 γ.nW = cw P γ.nW := funext fun p => cw_same _ _ fun q hq => by rw [ro _ (by omega) (by omega)]
 have hz : (P.rs (W + 2)).pos = 0 := h.vw.k0 (by omega)
 refine ⟨s1, { γ with rC := γ.rC - 1 }, ⟨⟨by rw [r0], fun q hq => ?_, fun hh => ?_, fun hh => ?_, fun hh => ?_, fun hh => ?_, fun hh => ?_, fun hh => ?_, fun hh => ?_, fun q h1 h2 => ?_⟩, ?_, ?_, ?_⟩, ?_⟩
 · have hq2 : q < γ.nW := hq
   rw [ro _ (by omega) (by omega)]; exact h.vw.w q hq2
 · rw [rwo]; exact h.vw.f (by omega)
 · rw [rwn]
 · rw [r0] at hh; exact absurd hh (by simp)
 · rw [r0] at hh; exact absurd hh (by simp)
 · rw [s3, hnn]; show 2 + γ.nW + 1 = 3 + γ.nW; omega
 · rw [r0] at hh; exact absurd hh (by simp)
 · rw [r0] at hh; exact absurd hh (by simp)
 · rw [ro _ (by omega) (by omega)]; exact h.vw.u q h1 h2
 · show ICb W J (X.1.rs 0).pos (X.1.rs 0).rg _ _ _; rw [r0]; (try simp only [ICb]); (try dsimp only); omega
 · rw [rwo]; exact h.fd
 · show GN W J B _ _ _ _ (cw X.1 γ.nW) _ _ _ _ _ _ _ _
   rw [hw, s4, s5, s6, s8, rwo, rwn, r0]
   rw [hz] at q7 q12 q13 q14 q16
   have g0 := q11 (by omega)
   refine ⟨?_, ?_, ?_, ?_, ?_, ?_, ?_, ?_, ?_, ?_, ?_, ?_, ?_, ?_, ?_, ?_⟩
   · clear q2 q3 q4 q5 q6 q7 q8 q9 q10 q11 q12 q13 q14 q15 q16; try dsimp only
     (try simp only [List.length_append, List.length_singleton]); first | exact q1 | omega
   · clear q1 q3 q4 q5 q6 q7 q8 q9 q10 q11 q12 q13 q14 q15 q16; try dsimp only
     (try simp only [List.length_append, List.length_singleton]); first | exact q2 | omega
   · clear q1 q2 q4 q5 q6 q7 q8 q9 q10 q11 q12 q13 q14 q15 q16; try dsimp only
     (try simp only [List.length_append, List.length_singleton]); first | exact q3 | omega
   · clear q1 q2 q3 q5 q6 q7 q8 q9 q10 q11 q12 q13 q14 q15 q16; try dsimp only
     (try simp only [List.length_append, List.length_singleton]); first | exact q4 | omega
   · clear q1 q2 q3 q4 q6 q7 q8 q9 q10 q11 q12 q13 q14 q15 q16; try dsimp only
     (try simp only [List.length_append, List.length_singleton]); first | exact q5 | omega
   · clear q1 q2 q3 q4 q5 q7 q8 q9 q10 q11 q12 q13 q14 q15 q16; try dsimp only
     (try simp only [List.length_append, List.length_singleton]); first | exact q6 | omega
   · clear q1 q2 q3 q4 q5 q6 q8 q9 q10 q11 q12 q13 q14 q15 q16; try dsimp only
     (try simp only [List.length_append, List.length_singleton]); first | exact q7 | omega
   · clear q1 q2 q3 q4 q5 q6 q7 q9 q10 q11 q12 q13 q14 q15 q16; try dsimp only
     (try simp only [List.length_append, List.length_singleton]); first | exact q8 | omega
   · clear q1 q2 q3 q4 q5 q6 q7 q8 q10 q11 q12 q13 q14 q15 q16; try dsimp only
     (try simp only [List.length_append, List.length_singleton]); first | exact q9 | omega
   · clear q1 q2 q3 q4 q5 q6 q7 q8 q9 q11 q12 q13 q14 q15 q16; try dsimp only
     (try simp only [List.length_append, List.length_singleton]); first | exact q10 | omega
   · clear q1 q2 q3 q4 q5 q6 q7 q8 q9 q10 q12 q13 q14 q15 q16; try dsimp only
     (try simp only [List.length_append, List.length_singleton]); first | exact q11 | omega
   · clear q1 q2 q3 q4 q5 q6 q7 q8 q9 q10 q11 q13 q14 q15 q16; try dsimp only
     (try simp only [List.length_append, List.length_singleton]); first | exact q12 | omega
   · clear q1 q2 q3 q4 q5 q6 q7 q8 q9 q10 q11 q12 q14 q15 q16; try dsimp only
     (try simp only [List.length_append, List.length_singleton]); first | exact q13 | omega
   · clear q1 q2 q3 q4 q5 q6 q7 q8 q9 q10 q11 q12 q13 q15 q16; try dsimp only
     (try simp only [List.length_append, List.length_singleton]); first | exact q14 | omega
   · clear q1 q2 q3 q4 q5 q6 q7 q8 q9 q10 q11 q12 q13 q14 q16; try dsimp only
     (try simp only [List.length_append, List.length_singleton]); first | exact q15 | omega
   · clear q1 q2 q3 q4 q5 q6 q7 q8 q9 q10 q11 q12 q13 q14 q15; try dsimp only
     (try simp only [List.length_append, List.length_singleton]); first | exact q16 | omega
 · refine .silent _ s8 (by simp) (by simp) (by simp) (by simp) (fun h => by simp at h) s4 s7 ?_ rfl rfl
   have key : ∀ q, q < W → (X.1.rs (q + 1)).pos = (P.rs (q + 1)).pos ∧ ((P.rs (q + 1)).pos ≠ 0 → X.1.rs (q + 1) = P.rs (q + 1)) := fun q hq => by
     rw [ro _ (by omega) (by omega)]; exact ⟨rfl, fun _ => rfl⟩
   exact hd_key (by rw [rwo]) (by rw [rwo]; exact fun _ => rfl) key (by rw [r0]; simp) (by omega)
set_option maxHeartbeats 1000000 in
theorem comb_11 (pk : PoolOk W Q b J) (h : I1 W b J B γ P) (e : (P.rs 0).pos = 11) (hc : canP (poolS W Q b J) P (fun j => (pqC W 11).getD j 0) = true) : StepOk W b J B γ P (stepP (poolS W Q b J) P 0 (fun j => (pqC W 11).getD j 0)) := by
 have hcb := h.cb
 have hw1 := pk.w1
 have hw2 := pk.w2
 rw [e] at hcb
 simp only [ICb] at hcb
 have htJ : γ.t1 ≤ J := by
   have a := h.gn.j0
   have b := h.gn.j1
   have c := h.fd.sb
   omega
 obtain ⟨q1, q2, q3, q4, q5, q6, q7, q8, q9, q10, q11, q12, q13, q14, q15, q16⟩ := h.gn
 have hg := q11 (by omega)
 cases hh : P.held 1 with
 | nil =>
   have hcl : P.cl 1 = true := by
     have : (P.cl 1 || decide (0 < ((P.held 1).length : Int))) = true := hc
     simpa [hh] using this
   have hk2 := (q7.1 hcl)
   have hk1 := q12 (by omega)
   rw [hh, List.length_nil] at q5
   have hw6 := q9 (by omega)
   have hfb := h.fd.sb
   have e1 : stepP (poolS W Q b J) P 0 (fun j => (pqC W 11).getD j 0) = finP P 0 (P.rs 0) 14 ⟨0, 6, 1, 0, true⟩ := by rw [st_shut rfl hh]; rfl
   rw [e1]
   have ht1 : γ.t1 = J := by have := hfb.2.2 hw6.1; omega
   have hfd := h.fd
   refine ⟨rfl, { γ with rC := γ.rC - 1 }, ⟨h.vw.comb (by simp [finP, tellP, setR, h.vw.c]) (fun j hj => by simp [finP, tellP, setR, hj]) rfl (by simp [finP, tellP, setR, e]), (by simp only [finP, tellP, setR, if_true, ICb]; omega), hfd, ?_⟩, ?_⟩
   · have hw : cw (finP P 0 (P.rs 0) 14 ⟨0, 6, 1, 0, true⟩).1 γ.nW = cw P γ.nW := funext fun p => cw_same _ _ fun q _ => by simp [finP, tellP, setR]
     show GN W J B _ _ _ _ (cw _ γ.nW) _ _ _ _ _ _ _ _
     rw [hw]
     simp only [finP, tellP, setR, if_true, List.length_append, List.length_singleton, show ¬ (W + 1 = 0) by omega, show ¬ (W + 2 = 0) by omega, if_false, hh, List.length_nil]
     refine ⟨?_, ?_, ?_, ?_, ?_, ?_, ?_, ?_, ?_, ?_, ?_, ?_, ?_, ?_, ?_, ?_⟩
     · clear q2 q3 q4 q5 q6 q7 q8 q9 q10 q11 q12 q13 q14 q15 q16; try dsimp only
       first | exact q1 | omega
     · clear q1 q3 q4 q5 q6 q7 q8 q9 q10 q11 q12 q13 q14 q15 q16; try dsimp only
       first | exact q2 | omega
     · clear q1 q2 q4 q5 q6 q7 q8 q9 q10 q11 q12 q13 q14 q15 q16; try dsimp only
       first | exact q3 | omega
     · clear q1 q2 q3 q5 q6 q7 q8 q9 q10 q11 q12 q13 q14 q15 q16; try dsimp only
       first | exact q4 | omega
     · clear q1 q2 q3 q4 q6 q7 q8 q9 q10 q11 q12 q13 q14 q15 q16; try dsimp only
       first | exact q5 | omega
     · clear q1 q2 q3 q4 q5 q7 q8 q9 q10 q11 q12 q13 q14 q15 q16; try dsimp only
       first | exact q6 | omega
     · clear q1 q2 q3 q4 q5 q6 q8 q9 q10 q11 q12 q13 q14 q15 q16; try dsimp only
       first | exact q7 | omega
     · clear q1 q2 q3 q4 q5 q6 q7 q9 q10 q11 q12 q13 q14 q15 q16; try dsimp only
       first | exact q8 | omega
     · clear q1 q2 q3 q4 q5 q6 q7 q8 q10 q11 q12 q13 q14 q15 q16; try dsimp only
       first | exact q9 | omega
     · clear q1 q2 q3 q4 q5 q6 q7 q8 q9 q11 q12 q13 q14 q15 q16; try dsimp only
       first | exact q10 | omega
     · clear q1 q2 q3 q4 q5 q6 q7 q8 q9 q10 q12 q13 q14 q15 q16; try dsimp only
       first | exact q11 | omega
     · clear q1 q2 q3 q4 q5 q6 q7 q8 q9 q10 q11 q13 q14 q15 q16; try dsimp only
       first | exact q12 | omega
     · clear q1 q2 q3 q4 q5 q6 q7 q8 q9 q10 q11 q12 q14 q15 q16; try dsimp only
       first | exact q13 | omega
     · clear q1 q2 q3 q4 q5 q6 q7 q8 q9 q10 q11 q12 q13 q15 q16; try dsimp only
       first | exact q14 | omega
     · clear q1 q2 q3 q4 q5 q6 q7 q8 q9 q10 q11 q12 q13 q14 q16; try dsimp only
       first | exact q15 | omega
     · clear q1 q2 q3 q4 q5 q6 q7 q8 q9 q10 q11 q12 q13 q14 q15; try dsimp only
       first | exact q16 | omega
   · exact .silent _ rfl (by simp) (by simp) (by simp) (by simp) (fun _ => rfl) rfl rfl (hd_comb (fun j hj => by simp [finP, tellP, setR, hj]) (by omega) (by simp [finP, tellP, setR])) rfl rfl
 | cons x l =>
   have e1 : stepP (poolS W Q b J) P 0 (fun j => (pqC W 11).getD j 0) = finP { P with held := updN P.held 1 l } 0 (setReg (P.rs 0) 3 x) 12 ⟨0, 6, 1, x, false⟩ := by
     rw [st_take rfl hh, e]; rfl
   rw [e1]
   rw [hh, List.length_cons] at q5
   have hfd := h.fd
   refine ⟨rfl, { γ with t1 := γ.t1 + 1, rC := γ.rC - 1 }, ⟨h.vw.comb (by simp [finP, tellP, setR, setReg, h.vw.c]) (fun j hj => by simp [finP, tellP, setR, hj]) rfl (by simp [finP, tellP, setR, e]), (by simp only [finP, tellP, setR, if_true, ICb]; omega), hfd, ?_⟩, ?_⟩
   · have hw : cw (finP { P with held := updN P.held 1 l } 0 (setReg (P.rs 0) 3 x) 12 ⟨0, 6, 1, x, false⟩).1 γ.nW = cw P γ.nW := funext fun p => cw_same _ _ fun q _ => by simp [finP, tellP, setR]
     show GN W J B _ _ _ _ (cw _ γ.nW) _ _ _ _ _ _ _ _
     rw [hw]
     simp only [finP, tellP, setR, setReg, updN, if_true, List.length_append, List.length_singleton, show ¬ (W + 1 = 0) by omega, show ¬ (W + 2 = 0) by omega, show ¬ (0 = 1) by decide, show ¬ (2 = 1) by decide, if_false]
     refine ⟨?_, ?_, ?_, ?_, ?_, ?_, ?_, ?_, ?_, ?_, ?_, ?_, ?_, ?_, ?_, ?_⟩
     · clear q2 q3 q4 q5 q6 q7 q8 q9 q10 q11 q12 q13 q14 q15 q16; try dsimp only
       first | exact q1 | omega
     · clear q1 q3 q4 q5 q6 q7 q8 q9 q10 q11 q12 q13 q14 q15 q16; try dsimp only
       first | exact q2 | omega
     · clear q1 q2 q4 q5 q6 q7 q8 q9 q10 q11 q12 q13 q14 q15 q16; try dsimp only
       first | exact q3 | omega
     · clear q1 q2 q3 q5 q6 q7 q8 q9 q10 q11 q12 q13 q14 q15 q16; try dsimp only
       first | exact q4 | omega
     · clear q1 q2 q3 q4 q6 q7 q8 q9 q10 q11 q12 q13 q14 q15 q16; try dsimp only
       first | exact q5 | omega
     · clear q1 q2 q3 q4 q5 q7 q8 q9 q10 q11 q12 q13 q14 q15 q16; try dsimp only
       first | exact q6 | omega
     · clear q1 q2 q3 q4 q5 q6 q8 q9 q10 q11 q12 q13 q14 q15 q16; try dsimp only
       first | exact q7 | omega
     · clear q1 q2 q3 q4 q5 q6 q7 q9 q10 q11 q12 q13 q14 q15 q16; try dsimp only
       first | exact q8 | omega
     · clear q1 q2 q3 q4 q5 q6 q7 q8 q10 q11 q12 q13 q14 q15 q16; try dsimp only
       first | exact q9 | omega
     · clear q1 q2 q3 q4 q5 q6 q7 q8 q9 q11 q12 q13 q14 q15 q16; try dsimp only
       first | exact q10 | omega
     · clear q1 q2 q3 q4 q5 q6 q7 q8 q9 q10 q12 q13 q14 q15 q16; try dsimp only
       first | exact q11 | omega
     · clear q1 q2 q3 q4 q5 q6 q7 q8 q9 q10 q11 q13 q14 q15 q16; try dsimp only
       first | exact q12 | omega
     · clear q1 q2 q3 q4 q5 q6 q7 q8 q9 q10 q11 q12 q14 q15 q16; try dsimp only
       first | exact q13 | omega
     · clear q1 q2 q3 q4 q5 q6 q7 q8 q9 q10 q11 q12 q13 q15 q16; try dsimp only
       first | exact q14 | omega
     · clear q1 q2 q3 q4 q5 q6 q7 q8 q9 q10 q11 q12 q13 q14 q16; try dsimp only
       first | exact q15 | omega
     · clear q1 q2 q3 q4 q5 q6 q7 q8 q9 q10 q11 q12 q13 q14 q15; try dsimp only
       first | exact q16 | omega
   · refine .take1 x l rfl hh rfl rfl (by simp [hdP, e]) ?_ rfl rfl
     simp [hdP, finP, tellP, setR, setReg]
set_option maxHeartbeats 1000000 in
theorem comb_12 (pk : PoolOk W Q b J) (h : I1 W b J B γ P) (e : (P.rs 0).pos = 12) (hc : canP (poolS W Q b J) P (fun j => (pqC W 12).getD j 0) = true) : StepOk W b J B γ P (stepP (poolS W Q b J) P 0 (fun j => (pqC W 12).getD j 0)) := by
 have hcb := h.cb
 have hw1 := pk.w1
 have hw2 := pk.w2
 rw [e] at hcb
 simp only [ICb] at hcb
 have htJ : γ.t1 ≤ J := by
   have a := h.gn.j0
   have b := h.gn.j1
   have c := h.fd.sb
   omega
 have e1 : stepP (poolS W Q b J) P 0 (fun j => (pqC W 12).getD j 0) = finP P 0 (P.rs 0) 13 ⟨0, 15, 1, (P.rs 0).rg 3, false⟩ := by rw [st_work rfl, e]; rfl
 rw [e1]
 refine ⟨rfl, _, h.comb (γ.rC - 1) (by simp [finP, tellP, setR, setReg, h.vw.c]) (fun j hj => by simp [finP, tellP, setR, hj]) rfl (by simp [finP, tellP, setR, e]) rfl rfl rfl (by simp [finP, tellP, setR]) (by simp only [finP, tellP, setR, setReg, if_true, ICb]; omega) (by omega) (by simp [finP, tellP, setR, e]) (by simp [finP, tellP, setR, e]), ?_⟩
 refine .workc ((P.rs 0).rg 3) rfl rfl rfl (by simp [hdP, e]) ?_ rfl rfl
 simp [hdP, finP, tellP, setR]
set_option maxHeartbeats 1000000 in
theorem comb_13 (pk : PoolOk W Q b J) (h : I1 W b J B γ P) (e : (P.rs 0).pos = 13) (hc : canP (poolS W Q b J) P (fun j => (pqC W 13).getD j 0) = true) : StepOk W b J B γ P (stepP (poolS W Q b J) P 0 (fun j => (pqC W 13).getD j 0)) := by
 have hcb := h.cb
 have hw1 := pk.w1
 have hw2 := pk.w2
 rw [e] at hcb
 simp only [ICb] at hcb
 have htJ : γ.t1 ≤ J := by
   have a := h.gn.j0
   have b := h.gn.j1
   have c := h.fd.sb
   omega
 have e1 : stepP (poolS W Q b J) P 0 (fun j => (pqC W 13).getD j 0) = finP P 0 (P.rs 0) 11 ⟨0, 4, 0, 0, false⟩ := by rw [st_jump rfl]; rfl
 rw [e1]
 refine ⟨rfl, _, h.comb (γ.rC - 1) (by simp [finP, tellP, setR, setReg, h.vw.c]) (fun j hj => by simp [finP, tellP, setR, hj]) rfl (by simp [finP, tellP, setR, e]) rfl rfl rfl (by simp [finP, tellP, setR]) (by simp only [finP, tellP, setR, setReg, if_true, ICb]; omega) (by omega) (by simp [finP, tellP, setR, e]) (by simp [finP, tellP, setR, e]), ?_⟩
 exact .silent _ rfl (by simp) (by simp) (by simp) (by simp) (fun h => by first | rfl | simp at h) rfl rfl (hd_comb (fun j hj => by simp [finP, tellP, setR, hj]) (by omega) (by simp [finP, tellP, setR])) rfl rfl
set_option maxHeartbeats 1000000 in
theorem comb_14 (pk : PoolOk W Q b J) (h : I1 W b J B γ P) (e : (P.rs 0).pos = 14) (hc : canP (poolS W Q b J) P (fun j => (pqC W 14).getD j 0) = true) : StepOk W b J B γ P (stepP (poolS W Q b J) P 0 (fun j => (pqC W 14).getD j 0)) := by
 have hcb := h.cb
 have hw1 := pk.w1
 have hw2 := pk.w2
 rw [e] at hcb
 simp only [ICb] at hcb
 have htJ : γ.t1 ≤ J := by
   have a := h.gn.j0
   have b := h.gn.j1
   have c := h.fd.sb
   omega
 have e1 : stepP (poolS W Q b J) P 0 (fun j => (pqC W 14).getD j 0) = finP P 0 (P.rs 0) 15 ⟨0, 16, 0, 0, false⟩ := by rw [st_end rfl, h.vw.c]; rfl
 rw [e1]
 refine ⟨rfl, _, h.comb (γ.rC - 1) (by simp [finP, tellP, setR, setReg, h.vw.c]) (fun j hj => by simp [finP, tellP, setR, hj]) rfl (by simp [finP, tellP, setR, e]) rfl rfl rfl (by simp [finP, tellP, setR]) (by simp only [finP, tellP, setR, setReg, if_true, ICb]; omega) (by omega) (by simp [finP, tellP, setR, e]) (by simp [finP, tellP, setR, e]), ?_⟩
 exact .silent _ rfl (by simp) (by simp) (by simp) (by simp) (fun h => by first | rfl | simp at h) rfl rfl (hd_comb (fun j hj => by simp [finP, tellP, setR, hj]) (by omega) (by simp [finP, tellP, setR])) rfl rfl
theorem step_comb (pk : PoolOk W Q b J) (h : I1 W b J B γ P) (hf : instP (poolS W Q b J) (P.rs 0) = some f) (hc : canP (poolS W Q b J) P f = true) : StepOk W b J B γ P (stepP (poolS W Q b J) P 0 f) := by
 obtain ⟨hp, rfl⟩ := inst_of hf
 rw [h.vw.c] at hp hc ⊢
 have hp' : (P.rs 0).pos < 15 := hp
 have hcb := h.cb
 have hw1 := pk.w1
 have hw2 := pk.w2
 have hn : ∀ pc, (P.rs 0).pos = pc → (poolS W Q b J).q 0 (P.rs 0).pos = fun j => (pqC W pc).getD j 0 := fun pc e => by rw [e]; rfl
 have hcase : (P.rs 0).pos = 0 ∨ (P.rs 0).pos = 1 ∨ (P.rs 0).pos = 2 ∨ (P.rs 0).pos = 3 ∨ (P.rs 0).pos = 4 ∨ (P.rs 0).pos = 5 ∨ (P.rs 0).pos = 6 ∨ (P.rs 0).pos = 7 ∨ (P.rs 0).pos = 8 ∨ (P.rs 0).pos = 9 ∨ (P.rs 0).pos = 10 ∨ (P.rs 0).pos = 11 ∨ (P.rs 0).pos = 12 ∨ (P.rs 0).pos = 13 ∨ (P.rs 0).pos = 14 := by omega
 rcases hcase with e | e | e | e | e | e | e | e | e | e | e | e | e | e | e <;> rw [hn _ e] at hc ⊢
 · exact comb_0 pk h e hc
 · exact comb_1 pk h e hc
 · exact comb_2 pk h e hc
 · exact comb_3 pk h e hc
 · exact comb_4 pk h e hc
 · exact comb_5 pk h e hc
 · exact comb_6 pk h e hc
 · exact comb_7 pk h e hc
 · exact comb_8 pk h e hc
 · exact comb_9 pk h e hc
 · exact comb_10 pk h e hc
 · exact comb_11 pk h e hc
 · exact comb_12 pk h e hc
 · exact comb_13 pk h e hc
 · exact comb_14 pk h e hc
end
open Go.RowKit
section
variable {W Q b J B : Nat} {γ : Gh} {P P' : PW} {f : Nat → Int} {nW p : Nat}
theorem Vw.clos (h : Vw W P nW) (hle : nW ≤ W) (h0 : (P'.rs (W + 2)).prog = (P.rs (W + 2)).prog) (hr : ∀ j, j ≠ W + 2 → P'.rs j = P.rs j) (hn : P'.n = P.n) (h11 : 11 ≤ (P.rs 0).pos) : Vw W P' nW := by
 have e0 := hr 0 (by omega)
 have e1 := hr (W + 1) (by omega)
 refine ⟨by rw [e0]; exact h.c, fun q hq => by rw [hr _ (by omega)]; exact h.w q hq, fun hp => by rw [e1]; rw [e0] at hp; exact h.f hp, fun hp => by rw [h0]; exact h.k h11, fun hp => ?_, fun hp => ?_, fun hp => by rw [hn]; exact h.n11 h11, fun hp => ?_, fun hp => ?_, fun q h1 h2 => by rw [hr _ (by omega)]; exact h.u q h1 h2⟩
 all_goals (rw [e0] at hp; omega)
theorem hd_key2 (h0 : P'.rs 0 = P.rs 0) (h1 : P'.rs (W + 1) = P.rs (W + 1)) (hr : ∀ q, q < W → P'.rs (q + 1) = P.rs (q + 1)) : hdP W P' = hdP W P := by
 refine Hd.ext ?_ ?_ (funext fun q => ?_) (funext fun q => ?_) (funext fun q => ?_) ?_
 · simp only [hdP, h1]
 · simp only [hdP, h1]
 · simp only [hdP]; by_cases hq : q < W; (· rw [hr q hq]); (· simp [hq])
 · simp only [hdP]; by_cases hq : q < W; (· rw [hr q hq]); (· simp [hq])
 · simp only [hdP]; by_cases hq : q < W; (· rw [hr q hq]); (· simp [hq])
 · simp only [hdP, h0]
theorem hd_clos (hr : ∀ j, j ≠ W + 2 → P'.rs j = P.rs j) : hdP W P' = hdP W P := by
 refine hd_key2 (hr _ (by omega)) (hr _ (by omega)) fun q hq => hr _ (by omega)
theorem Vw.feed (h : Vw W P nW) (hle : nW ≤ W) (h0 : (P'.rs (W + 1)).prog = (P.rs (W + 1)).prog) (hr : ∀ j, j ≠ W + 1 → P'.rs j = P.rs j) (hn : P'.n = P.n) (h10 : 10 ≤ (P.rs 0).pos) : Vw W P' nW := by
 have e0 := hr 0 (by omega)
 have e2 := hr (W + 2) (by omega)
 refine ⟨by rw [e0]; exact h.c, fun q hq => by rw [hr _ (by omega)]; exact h.w q hq, fun hp => by rw [h0]; exact h.f h10, fun hp => by rw [e2]; rw [e0] at hp; exact h.k hp, fun hp => ?_, fun hp => ?_, fun hp => ?_, fun hp => ?_, fun hp => ?_, fun q h1 h2 => by rw [hr _ (by omega)]; exact h.u q h1 h2⟩
 · rw [e0] at hp; omega
 · rw [e0] at hp; rw [hn]; exact h.n10 hp
 · rw [e0] at hp; rw [hn]; exact h.n11 hp
 · rw [e0] at hp; omega
 · rw [e0] at hp; rw [e2]; exact h.k0 hp
theorem hd_feed (hr : ∀ j, j ≠ W + 1 → P'.rs j = P.rs j) (h1 : ¬ ((P.rs (W + 1)).pos = 13 ∨ (P.rs (W + 1)).pos = 14)) (h2 : ¬ ((P'.rs (W + 1)).pos = 13 ∨ (P'.rs (W + 1)).pos = 14)) : hdP W P' = hdP W P := by
 have e : ∀ q, q < W → P'.rs (q + 1) = P.rs (q + 1) := fun q hq => hr _ (by omega)
 refine Hd.ext ?_ ?_ (funext fun q => ?_) (funext fun q => ?_) (funext fun q => ?_) ?_
 · show (if _ then _ else _) = (if _ then _ else _)
   rw [if_neg h1, if_neg h2]
 · show decide _ = decide _
   rw [decide_eq_false (fun q => h1 (.inr q)), decide_eq_false (fun q => h2 (.inr q))]
 all_goals try (simp only [hdP]; by_cases hq : q < W; (· rw [e q hq]); (· simp [hq]))
 simp only [hdP]
 rw [hr 0 (by omega)]
theorem hd_feed2 (hr : ∀ j, j ≠ W + 1 → P'.rs j = P.rs j) : hdP W P' = { hdP W P with tf := (hdP W P').tf, wf := (hdP W P').wf } := by
 have e : ∀ q, q < W → P'.rs (q + 1) = P.rs (q + 1) := fun q hq => hr _ (by omega)
 refine Hd.ext rfl rfl (funext fun q => ?_) (funext fun q => ?_) (funext fun q => ?_) ?_
 all_goals try (simp only [hdP]; by_cases hq : q < W; (· rw [e q hq]); (· simp [hq]))
 simp only [hdP]
 rw [hr 0 (by omega)]
theorem cw_else {k : Nat} (hk : W < k) (hle : nW ≤ W) (hr : ∀ j, j ≠ k → P'.rs j = P.rs j) : cw P' nW = cw P nW := funext fun p => cw_same _ _ fun q hq => by rw [hr _ (by omega)]
theorem I1.feed (h : I1 W b J B γ P) (rF : Nat) (h0 : (P'.rs (W + 1)).prog = (P.rs (W + 1)).prog) (hr : ∀ j, j ≠ W + 1 → P'.rs j = P.rs j) (hn : P'.n = P.n) (h10 : 10 ≤ (P.rs 0).pos) (hh : P'.held = P.held) (hcl : P'.cl = P.cl) (hg : P'.gr = P.gr) (he : P'.ev.length = P.ev.length + 1)
   (hfd : IFd b J (P'.rs (W + 1)).pos (P'.rs (W + 1)).rg γ.sent γ.fed rF) (hF : rF + 1 = γ.rF) (h13 : ((P'.rs (W + 1)).pos = 13 ∨ (P'.rs (W + 1)).pos = 14) ↔ ((P.rs (W + 1)).pos = 13 ∨ (P.rs (W + 1)).pos = 14)) (h18 : 18 ≤ (P'.rs (W + 1)).pos ↔ 18 ≤ (P.rs (W + 1)).pos) : I1 W b J B { γ with rF := rF } P' := by
 have e0 := hr 0 (by omega)
 have e2 := hr (W + 2) (by omega)
 have hle := h.cb.nle
 obtain ⟨q1, q2, q3, q4, q5, q6, q7, q8, q9, q10, q11, q12, q13, q14, q15, q16⟩ := h.gn
 refine ⟨h.vw.feed hle h0 hr hn h10, by rw [e0]; exact h.cb, hfd, ?_⟩
 show GN W J B _ _ _ _ (cw P' γ.nW) _ _ _ _ _ _ _ _
 rw [cw_else (by omega) hle hr, hh, hcl, hg, he, e0, e2]
 refine ⟨q1, fun hp => q2 (h13.1 hp), fun hp => q3 (fun x => hp (h13.2 x)), q4, q5, q6.trans h18.symm, q7, q8, fun hp => ⟨h18.2 (q9 hp).1, (q9 hp).2⟩, q10, q11, q12, q13, q14, fun _ => h10, ?_⟩
 try dsimp only
 omega
set_option maxHeartbeats 1000000 in
theorem clos_0 (pk : PoolOk W Q b J) (h : I1 W b J B γ P) (h11 : 11 ≤ (P.rs 0).pos) (e : (P.rs (W + 2)).pos = 0) (hc : canP (poolS W Q b J) P (fun j => (pqK 0).getD j 0) = true) : StepOk W b J B γ P (stepP (poolS W Q b J) P (W + 2) (fun j => (pqK 0).getD j 0)) := by
 have hw1 := pk.w1
 have hle := h.cb.nle
 have hnW := h.cb.nw (by omega)
 obtain ⟨q1, q2, q3, q4, q5, q6, q7, q8, q9, q10, q11, q12, q13, q14, q15, q16⟩ := h.gn
 have hg := q11
 have hgr : P.gr 0 = 0 := by
   have : decide (P.gr 0 = 0) = true := hc
   simpa using this
 have h78 : cw P γ.nW 7 + cw P γ.nW 8 = W := by
   by_cases h6 : (P.rs 0).pos = 6
   · omega
   · have := q11 h6; omega
 have e1 : stepP (poolS W Q b J) P (W + 2) (fun j => (pqK 0).getD j 0) = finP P (W + 2) (P.rs (W + 2)) 1 ⟨(W + 2 : Nat), 11, 0, 0, false⟩ := by rw [st_wait rfl, e]; rfl
 rw [e1]
 have hr : ∀ j, j ≠ W + 2 → (finP P (W + 2) (P.rs (W + 2)) 1 ⟨(W + 2 : Nat), 11, 0, 0, false⟩).1.rs j = P.rs j := fun j hj => by simp [finP, tellP, setR, hj]
 refine ⟨rfl, γ, ⟨h.vw.clos hle (by simp [finP, tellP, setR]) hr rfl h11, by rw [hr 0 (by omega)]; exact h.cb, by rw [hr (W + 1) (by omega)]; exact h.fd, ?_⟩, .silent _ rfl (by simp) (by simp) (by simp) (by simp) (fun h => by simp at h) rfl rfl (hd_clos hr) rfl rfl⟩
 have hw := cw_else (nW := γ.nW) (show W < W + 2 by omega) hle hr
 rw [hw, hr 0 (by omega), hr (W + 1) (by omega)]
 simp only [finP, tellP, setR, updN, if_true, if_false, List.length_append, List.length_singleton, show ¬ (0 = 1) by decide, show ¬ (2 = 1) by decide]
 rw [e] at q7 q12 q14 q16
 clear hg
 refine ⟨?_, ?_, ?_, ?_, ?_, ?_, ?_, ?_, ?_, ?_, ?_, ?_, ?_, ?_, ?_, ?_⟩
 · clear q2 q3 q4 q5 q6 q7 q8 q9 q10 q11 q12 q13 q14 q15 q16; try dsimp only
   first | exact q1 | omega | simpa using q1 | simp
 · clear q1 q4 q5 q6 q7 q8 q9 q10 q11 q12 q13 q14 q15 q16; try dsimp only
   first | exact q2 | omega | simpa using q2 | simp
 · clear q1 q4 q5 q6 q7 q8 q9 q10 q11 q12 q13 q14 q15 q16; try dsimp only
   first | exact q3 | omega | simpa using q3 | simp
 · clear q1 q2 q3 q5 q6 q7 q8 q9 q10 q11 q12 q13 q14 q15 q16; try dsimp only
   first | exact q4 | omega | simpa using q4 | simp
 · clear q1 q2 q3 q4 q6 q7 q8 q9 q10 q11 q12 q13 q14 q15 q16; try dsimp only
   first | exact q5 | omega | simpa using q5 | simp
 · clear q1 q2 q3 q4 q5 q7 q8 q9 q10 q11 q12 q13 q14 q15 q16; try dsimp only
   first | exact q6 | omega | simpa using q6 | simp
 · clear q1 q2 q3 q4 q5 q6 q8 q9 q10 q11 q12 q13 q14 q15 q16; try dsimp only
   first | exact q7 | omega | simpa using q7 | simp
 · clear q1 q2 q3 q4 q5 q6 q7 q9 q10 q11 q12 q13 q14 q15 q16; try dsimp only
   first | exact q8 | omega | simpa using q8 | simp
 · clear q1 q2 q3 q4 q5 q6 q7 q8 q10 q11 q12 q13 q14 q15 q16; try dsimp only
   first | exact q9 | omega | simpa using q9 | simp
 · clear q1 q2 q3 q4 q5 q6 q7 q8 q9 q11 q12 q13 q14 q15 q16; try dsimp only
   first | exact q10 | omega | simpa using q10 | simp
 · clear q1 q2 q3 q4 q5 q6 q7 q8 q9 q10 q12 q13 q14 q15 q16; try dsimp only
   first | exact q11 | omega | simpa using q11 | simp
 · clear q1 q2 q3 q4 q5 q6 q7 q8 q9 q10 q11 q13 q14 q15 q16; try dsimp only
   first | exact q12 | omega | simpa using q12 | simp
 · clear q1 q2 q3 q4 q5 q6 q7 q8 q9 q10 q11 q12 q14 q15 q16; try dsimp only
   first | exact q13 | omega | simpa using q13 | simp
 · clear q1 q2 q3 q4 q5 q6 q7 q8 q9 q10 q11 q12 q13 q15 q16; try dsimp only
   first | exact q14 | omega | simpa using q14 | simp
 · clear q1 q2 q3 q4 q5 q6 q7 q8 q9 q10 q11 q12 q13 q14 q16; try dsimp only
   first | exact q15 | omega | simpa using q15 | simp
 · clear q1 q2 q3 q4 q5 q6 q7 q8 q9 q10 q11 q12 q13 q14 q15; try dsimp only
   first | exact q16 | omega | simpa using q16 | simp
set_option maxHeartbeats 1000000 in
theorem clos_1 (pk : PoolOk W Q b J) (h : I1 W b J B γ P) (h11 : 11 ≤ (P.rs 0).pos) (e : (P.rs (W + 2)).pos = 1) (hc : canP (poolS W Q b J) P (fun j => (pqK 1).getD j 0) = true) : StepOk W b J B γ P (stepP (poolS W Q b J) P (W + 2) (fun j => (pqK 1).getD j 0)) := by
 have hw1 := pk.w1
 have hle := h.cb.nle
 have hnW := h.cb.nw (by omega)
 obtain ⟨q1, q2, q3, q4, q5, q6, q7, q8, q9, q10, q11, q12, q13, q14, q15, q16⟩ := h.gn
 have hg := q11
 have hcl : P.cl 1 = false := by
   cases hx : P.cl 1 with
   | false => rfl
   | true => have := q7.1 hx; omega
 have e1 : stepP (poolS W Q b J) P (W + 2) (fun j => (pqK 1).getD j 0) = finP { P with cl := updN P.cl 1 true } (W + 2) (P.rs (W + 2)) 2 ⟨(W + 2 : Nat), 7, 1, 0, false⟩ := by rw [st_close rfl hcl, e]; rfl
 rw [e1]
 have hr : ∀ j, j ≠ W + 2 → (finP { P with cl := updN P.cl 1 true } (W + 2) (P.rs (W + 2)) 2 ⟨(W + 2 : Nat), 7, 1, 0, false⟩).1.rs j = P.rs j := fun j hj => by simp [finP, tellP, setR, hj]
 refine ⟨rfl, γ, ⟨h.vw.clos hle (by simp [finP, tellP, setR]) hr rfl h11, by rw [hr 0 (by omega)]; exact h.cb, by rw [hr (W + 1) (by omega)]; exact h.fd, ?_⟩, .silent _ rfl (by simp) (by simp) (by simp) (by simp) (fun h => by simp at h) rfl rfl (hd_clos hr) rfl rfl⟩
 have hw := cw_else (nW := γ.nW) (show W < W + 2 by omega) hle hr
 rw [hw, hr 0 (by omega), hr (W + 1) (by omega)]
 simp only [finP, tellP, setR, updN, if_true, if_false, List.length_append, List.length_singleton, show ¬ (0 = 1) by decide, show ¬ (2 = 1) by decide]
 rw [e] at q7 q12 q14 q16
 clear hg
 refine ⟨?_, ?_, ?_, ?_, ?_, ?_, ?_, ?_, ?_, ?_, ?_, ?_, ?_, ?_, ?_, ?_⟩
 · clear q2 q3 q4 q5 q6 q7 q8 q9 q10 q11 q12 q13 q14 q15 q16; try dsimp only
   first | exact q1 | omega | simpa using q1 | simp
 · clear q1 q4 q5 q6 q7 q8 q9 q10 q11 q12 q13 q14 q15 q16; try dsimp only
   first | exact q2 | omega | simpa using q2 | simp
 · clear q1 q4 q5 q6 q7 q8 q9 q10 q11 q12 q13 q14 q15 q16; try dsimp only
   first | exact q3 | omega | simpa using q3 | simp
 · clear q1 q2 q3 q5 q6 q7 q8 q9 q10 q11 q12 q13 q14 q15 q16; try dsimp only
   first | exact q4 | omega | simpa using q4 | simp
 · clear q1 q2 q3 q4 q6 q7 q8 q9 q10 q11 q12 q13 q14 q15 q16; try dsimp only
   first | exact q5 | omega | simpa using q5 | simp
 · clear q1 q2 q3 q4 q5 q7 q8 q9 q10 q11 q12 q13 q14 q15 q16; try dsimp only
   first | exact q6 | omega | simpa using q6 | simp
 · clear q1 q2 q3 q4 q5 q6 q8 q9 q10 q11 q12 q13 q14 q15 q16; try dsimp only
   first | exact q7 | omega | simp | simpa using q7
 · clear q1 q2 q3 q4 q5 q6 q7 q9 q10 q11 q12 q13 q14 q15 q16; try dsimp only
   first | exact q8 | omega | simpa using q8 | simp
 · clear q1 q2 q3 q4 q5 q6 q7 q8 q10 q11 q12 q13 q14 q15 q16; try dsimp only
   first | exact q9 | omega | simpa using q9 | simp
 · clear q1 q2 q3 q4 q5 q6 q7 q8 q9 q11 q12 q13 q14 q15 q16; try dsimp only
   first | exact q10 | omega | simpa using q10 | simp
 · clear q1 q2 q3 q4 q5 q6 q7 q8 q9 q10 q12 q13 q14 q15 q16; try dsimp only
   first | exact q11 | omega | simpa using q11 | simp
 · clear q1 q2 q3 q4 q5 q6 q7 q8 q9 q10 q11 q13 q14 q15 q16; try dsimp only
   first | exact q12 | omega | simpa using q12 | simp
 · clear q1 q2 q3 q4 q5 q6 q7 q8 q9 q10 q11 q12 q14 q15 q16; try dsimp only
   first | exact q13 | omega | simpa using q13 | simp
 · clear q1 q2 q3 q4 q5 q6 q7 q8 q9 q10 q11 q12 q13 q15 q16; try dsimp only
   first | exact q14 | omega | simpa using q14 | simp
 · clear q1 q2 q3 q4 q5 q6 q7 q8 q9 q10 q11 q12 q13 q14 q16; try dsimp only
   first | exact q15 | omega | simpa using q15 | simp
 · clear q1 q2 q3 q4 q5 q6 q7 q8 q9 q10 q11 q12 q13 q14 q15; try dsimp only
   first | exact q16 | omega | simpa using q16 | simp
set_option maxHeartbeats 1000000 in
theorem clos_2 (pk : PoolOk W Q b J) (h : I1 W b J B γ P) (h11 : 11 ≤ (P.rs 0).pos) (e : (P.rs (W + 2)).pos = 2) (hc : canP (poolS W Q b J) P (fun j => (pqK 2).getD j 0) = true) : StepOk W b J B γ P (stepP (poolS W Q b J) P (W + 2) (fun j => (pqK 2).getD j 0)) := by
 have hw1 := pk.w1
 have hle := h.cb.nle
 have hnW := h.cb.nw (by omega)
 obtain ⟨q1, q2, q3, q4, q5, q6, q7, q8, q9, q10, q11, q12, q13, q14, q15, q16⟩ := h.gn
 have hg := q11
 have e1 : stepP (poolS W Q b J) P (W + 2) (fun j => (pqK 2).getD j 0) = finP P (W + 2) (P.rs (W + 2)) 3 ⟨(W + 2 : Nat), 16, 0, 0, false⟩ := by rw [st_end rfl, h.vw.k h11]; rfl
 rw [e1]
 have hr : ∀ j, j ≠ W + 2 → (finP P (W + 2) (P.rs (W + 2)) 3 ⟨(W + 2 : Nat), 16, 0, 0, false⟩).1.rs j = P.rs j := fun j hj => by simp [finP, tellP, setR, hj]
 refine ⟨rfl, γ, ⟨h.vw.clos hle (by simp [finP, tellP, setR]) hr rfl h11, by rw [hr 0 (by omega)]; exact h.cb, by rw [hr (W + 1) (by omega)]; exact h.fd, ?_⟩, .silent _ rfl (by simp) (by simp) (by simp) (by simp) (fun h => by simp at h) rfl rfl (hd_clos hr) rfl rfl⟩
 have hw := cw_else (nW := γ.nW) (show W < W + 2 by omega) hle hr
 rw [hw, hr 0 (by omega), hr (W + 1) (by omega)]
 simp only [finP, tellP, setR, updN, if_true, if_false, List.length_append, List.length_singleton, show ¬ (0 = 1) by decide, show ¬ (2 = 1) by decide]
 rw [e] at q7 q12 q14 q16
 clear hg
 refine ⟨?_, ?_, ?_, ?_, ?_, ?_, ?_, ?_, ?_, ?_, ?_, ?_, ?_, ?_, ?_, ?_⟩
 · clear q2 q3 q4 q5 q6 q7 q8 q9 q10 q11 q12 q13 q14 q15 q16; try dsimp only
   first | exact q1 | omega | simpa using q1 | simp
 · clear q1 q4 q5 q6 q7 q8 q9 q10 q11 q12 q13 q14 q15 q16; try dsimp only
   first | exact q2 | omega | simpa using q2 | simp
 · clear q1 q4 q5 q6 q7 q8 q9 q10 q11 q12 q13 q14 q15 q16; try dsimp only
   first | exact q3 | omega | simpa using q3 | simp
 · clear q1 q2 q3 q5 q6 q7 q8 q9 q10 q11 q12 q13 q14 q15 q16; try dsimp only
   first | exact q4 | omega | simpa using q4 | simp
 · clear q1 q2 q3 q4 q6 q7 q8 q9 q10 q11 q12 q13 q14 q15 q16; try dsimp only
   first | exact q5 | omega | simpa using q5 | simp
 · clear q1 q2 q3 q4 q5 q7 q8 q9 q10 q11 q12 q13 q14 q15 q16; try dsimp only
   first | exact q6 | omega | simpa using q6 | simp
 · clear q1 q2 q3 q4 q5 q6 q8 q9 q10 q11 q12 q13 q14 q15 q16; try dsimp only
   first | exact q7 | omega | simpa using q7 | simp
 · clear q1 q2 q3 q4 q5 q6 q7 q9 q10 q11 q12 q13 q14 q15 q16; try dsimp only
   first | exact q8 | omega | simpa using q8 | simp
 · clear q1 q2 q3 q4 q5 q6 q7 q8 q10 q11 q12 q13 q14 q15 q16; try dsimp only
   first | exact q9 | omega | simpa using q9 | simp
 · clear q1 q2 q3 q4 q5 q6 q7 q8 q9 q11 q12 q13 q14 q15 q16; try dsimp only
   first | exact q10 | omega | simpa using q10 | simp
 · clear q1 q2 q3 q4 q5 q6 q7 q8 q9 q10 q12 q13 q14 q15 q16; try dsimp only
   first | exact q11 | omega | simpa using q11 | simp
 · clear q1 q2 q3 q4 q5 q6 q7 q8 q9 q10 q11 q13 q14 q15 q16; try dsimp only
   first | exact q12 | omega | simpa using q12 | simp
 · clear q1 q2 q3 q4 q5 q6 q7 q8 q9 q10 q11 q12 q14 q15 q16; try dsimp only
   first | exact q13 | omega | simpa using q13 | simp
 · clear q1 q2 q3 q4 q5 q6 q7 q8 q9 q10 q11 q12 q13 q15 q16; try dsimp only
   first | exact q14 | omega | simpa using q14 | simp
 · clear q1 q2 q3 q4 q5 q6 q7 q8 q9 q10 q11 q12 q13 q14 q16; try dsimp only
   first | exact q15 | omega | simpa using q15 | simp
 · clear q1 q2 q3 q4 q5 q6 q7 q8 q9 q10 q11 q12 q13 q14 q15; try dsimp only
   first | exact q16 | omega | simpa using q16 | simp
theorem step_clos (pk : PoolOk W Q b J) (h : I1 W b J B γ P) (h11 : 11 ≤ (P.rs 0).pos) (hf : instP (poolS W Q b J) (P.rs (W + 2)) = some f) (hc : canP (poolS W Q b J) P f = true) : StepOk W b J B γ P (stepP (poolS W Q b J) P (W + 2) f) := by
 obtain ⟨hp, rfl⟩ := inst_of hf
 rw [h.vw.k h11] at hp hc ⊢
 have hp' : (P.rs (W + 2)).pos < 3 := hp
 have hn : ∀ pc, (P.rs (W + 2)).pos = pc → (poolS W Q b J).q 3 (P.rs (W + 2)).pos = fun j => (pqK pc).getD j 0 := fun pc e => by rw [e]; rfl
 have hcase : (P.rs (W + 2)).pos = 0 ∨ (P.rs (W + 2)).pos = 1 ∨ (P.rs (W + 2)).pos = 2 := by omega
 rcases hcase with e | e | e <;> rw [hn _ e] at hc ⊢
 · exact clos_0 pk h h11 e hc
 · exact clos_1 pk h h11 e hc
 · exact clos_2 pk h h11 e hc
set_option maxHeartbeats 1000000 in
theorem feed_0 (pk : PoolOk W Q b J) (h : I1 W b J B γ P) (h10 : 10 ≤ (P.rs 0).pos) (e : (P.rs (W + 1)).pos = 0) (hc : canP (poolS W Q b J) P (fun j => (pqF b J 0).getD j 0) = true) : StepOk W b J B γ P (stepP (poolS W Q b J) P (W + 1) (fun j => (pqF b J 0).getD j 0)) := by
 have hb2 := pk.b2
 have hj2 := pk.j2
 have hfd := h.fd
 have hle := h.cb.nle
 rw [e] at hfd
 simp only [IFd] at hfd
 have e1 : stepP (poolS W Q b J) P (W + 1) (fun j => (pqF b J 0).getD j 0) = finP P (W + 1) (setReg (P.rs (W + 1)) 0 0) 1 ⟨(W + 1 : Nat), 1, 0, 0, false⟩ := by rw [st_set rfl, e]; rfl
 rw [e1]
 have hr : ∀ j, j ≠ W + 1 → (finP P (W + 1) (setReg (P.rs (W + 1)) 0 0) 1 ⟨(W + 1 : Nat), 1, 0, 0, false⟩).1.rs j = P.rs j := fun j hj => by simp [finP, tellP, setR, hj]
 refine ⟨rfl, _, h.feed (γ.rF - 1) (by simp [finP, tellP, setR, setReg]) hr rfl h10 rfl rfl rfl (by simp [finP, tellP, setR]) (by simp only [finP, tellP, setR, setReg, if_true, IFd]; first | (simp; omega) | (simp; done)) (by omega) (by simp [finP, tellP, setR, e]) (by simp [finP, tellP, setR, e]), ?_⟩
 exact .silent _ rfl (by simp) (by simp) (by simp) (by simp) (fun h => by first | rfl | simp at h) rfl rfl (hd_feed hr (by omega) (by simp [finP, tellP, setR])) rfl rfl
set_option maxHeartbeats 1000000 in
theorem feed_1 (pk : PoolOk W Q b J) (h : I1 W b J B γ P) (h10 : 10 ≤ (P.rs 0).pos) (e : (P.rs (W + 1)).pos = 1) (hc : canP (poolS W Q b J) P (fun j => (pqF b J 1).getD j 0) = true) : StepOk W b J B γ P (stepP (poolS W Q b J) P (W + 1) (fun j => (pqF b J 1).getD j 0)) := by
 have hb2 := pk.b2
 have hj2 := pk.j2
 have hfd := h.fd
 have hle := h.cb.nle
 rw [e] at hfd
 simp only [IFd] at hfd
 have e1 : stepP (poolS W Q b J) P (W + 1) (fun j => (pqF b J 1).getD j 0) = finP P (W + 1) (setReg (P.rs (W + 1)) 1 b) 2 ⟨(W + 1 : Nat), 1, 0, 0, false⟩ := by rw [st_set rfl, e]; rfl
 rw [e1]
 have hr : ∀ j, j ≠ W + 1 → (finP P (W + 1) (setReg (P.rs (W + 1)) 1 b) 2 ⟨(W + 1 : Nat), 1, 0, 0, false⟩).1.rs j = P.rs j := fun j hj => by simp [finP, tellP, setR, hj]
 refine ⟨rfl, _, h.feed (γ.rF - 1) (by simp [finP, tellP, setR, setReg]) hr rfl h10 rfl rfl rfl (by simp [finP, tellP, setR]) (by simp only [finP, tellP, setR, setReg, if_true, IFd]; first | (simp; omega) | (simp; done)) (by omega) (by simp [finP, tellP, setR, e]) (by simp [finP, tellP, setR, e]), ?_⟩
 exact .silent _ rfl (by simp) (by simp) (by simp) (by simp) (fun h => by first | rfl | simp at h) rfl rfl (hd_feed hr (by omega) (by simp [finP, tellP, setR])) rfl rfl
set_option maxHeartbeats 1000000 in
theorem feed_2 (pk : PoolOk W Q b J) (h : I1 W b J B γ P) (h10 : 10 ≤ (P.rs 0).pos) (e : (P.rs (W + 1)).pos = 2) (hc : canP (poolS W Q b J) P (fun j => (pqF b J 2).getD j 0) = true) : StepOk W b J B γ P (stepP (poolS W Q b J) P (W + 1) (fun j => (pqF b J 2).getD j 0)) := by
 have hb2 := pk.b2
 have hj2 := pk.j2
 have hfd := h.fd
 have hle := h.cb.nle
 rw [e] at hfd
 simp only [IFd] at hfd
 have e1 : stepP (poolS W Q b J) P (W + 1) (fun j => (pqF b J 2).getD j 0) = finP P (W + 1) (setReg (P.rs (W + 1)) 2 1) 3 ⟨(W + 1 : Nat), 1, 0, 0, false⟩ := by rw [st_set rfl, e]; rfl
 rw [e1]
 have hr : ∀ j, j ≠ W + 1 → (finP P (W + 1) (setReg (P.rs (W + 1)) 2 1) 3 ⟨(W + 1 : Nat), 1, 0, 0, false⟩).1.rs j = P.rs j := fun j hj => by simp [finP, tellP, setR, hj]
 refine ⟨rfl, _, h.feed (γ.rF - 1) (by simp [finP, tellP, setR, setReg]) hr rfl h10 rfl rfl rfl (by simp [finP, tellP, setR]) (by simp only [finP, tellP, setR, setReg, if_true, IFd]; first | (simp; omega) | (simp; done)) (by omega) (by simp [finP, tellP, setR, e]) (by simp [finP, tellP, setR, e]), ?_⟩
 exact .silent _ rfl (by simp) (by simp) (by simp) (by simp) (fun h => by first | rfl | simp at h) rfl rfl (hd_feed hr (by omega) (by simp [finP, tellP, setR])) rfl rfl
set_option maxHeartbeats 1000000 in
theorem feed_8 (pk : PoolOk W Q b J) (h : I1 W b J B γ P) (h10 : 10 ≤ (P.rs 0).pos) (e : (P.rs (W + 1)).pos = 8) (hc : canP (poolS W Q b J) P (fun j => (pqF b J 8).getD j 0) = true) : StepOk W b J B γ P (stepP (poolS W Q b J) P (W + 1) (fun j => (pqF b J 8).getD j 0)) := by
 have hb2 := pk.b2
 have hj2 := pk.j2
 have hfd := h.fd
 have hle := h.cb.nle
 rw [e] at hfd
 simp only [IFd] at hfd
 have e1 : stepP (poolS W Q b J) P (W + 1) (fun j => (pqF b J 8).getD j 0) = finP P (W + 1) (setReg (P.rs (W + 1)) 0 0) 9 ⟨(W + 1 : Nat), 1, 0, 0, false⟩ := by rw [st_set rfl, e]; rfl
 rw [e1]
 have hr : ∀ j, j ≠ W + 1 → (finP P (W + 1) (setReg (P.rs (W + 1)) 0 0) 9 ⟨(W + 1 : Nat), 1, 0, 0, false⟩).1.rs j = P.rs j := fun j hj => by simp [finP, tellP, setR, hj]
 refine ⟨rfl, _, h.feed (γ.rF - 1) (by simp [finP, tellP, setR, setReg]) hr rfl h10 rfl rfl rfl (by simp [finP, tellP, setR]) (by simp only [finP, tellP, setR, setReg, if_true, IFd]; first | (simp; omega) | (simp; done)) (by omega) (by simp [finP, tellP, setR, e]) (by simp [finP, tellP, setR, e]), ?_⟩
 exact .silent _ rfl (by simp) (by simp) (by simp) (by simp) (fun h => by first | rfl | simp at h) rfl rfl (hd_feed hr (by omega) (by simp [finP, tellP, setR])) rfl rfl
set_option maxHeartbeats 1000000 in
theorem feed_9 (pk : PoolOk W Q b J) (h : I1 W b J B γ P) (h10 : 10 ≤ (P.rs 0).pos) (e : (P.rs (W + 1)).pos = 9) (hc : canP (poolS W Q b J) P (fun j => (pqF b J 9).getD j 0) = true) : StepOk W b J B γ P (stepP (poolS W Q b J) P (W + 1) (fun j => (pqF b J 9).getD j 0)) := by
 have hb2 := pk.b2
 have hj2 := pk.j2
 have hfd := h.fd
 have hle := h.cb.nle
 rw [e] at hfd
 simp only [IFd] at hfd
 have e1 : stepP (poolS W Q b J) P (W + 1) (fun j => (pqF b J 9).getD j 0) = finP P (W + 1) (setReg (P.rs (W + 1)) 1 J) 10 ⟨(W + 1 : Nat), 1, 0, 0, false⟩ := by rw [st_set rfl, e]; rfl
 rw [e1]
 have hr : ∀ j, j ≠ W + 1 → (finP P (W + 1) (setReg (P.rs (W + 1)) 1 J) 10 ⟨(W + 1 : Nat), 1, 0, 0, false⟩).1.rs j = P.rs j := fun j hj => by simp [finP, tellP, setR, hj]
 refine ⟨rfl, _, h.feed (γ.rF - 1) (by simp [finP, tellP, setR, setReg]) hr rfl h10 rfl rfl rfl (by simp [finP, tellP, setR]) (by simp only [finP, tellP, setR, setReg, if_true, IFd]; first | (simp; omega) | (simp; done)) (by omega) (by simp [finP, tellP, setR, e]) (by simp [finP, tellP, setR, e]), ?_⟩
 exact .silent _ rfl (by simp) (by simp) (by simp) (by simp) (fun h => by first | rfl | simp at h) rfl rfl (hd_feed hr (by omega) (by simp [finP, tellP, setR])) rfl rfl
set_option maxHeartbeats 1000000 in
theorem feed_4 (pk : PoolOk W Q b J) (h : I1 W b J B γ P) (h10 : 10 ≤ (P.rs 0).pos) (e : (P.rs (W + 1)).pos = 4) (hc : canP (poolS W Q b J) P (fun j => (pqF b J 4).getD j 0) = true) : StepOk W b J B γ P (stepP (poolS W Q b J) P (W + 1) (fun j => (pqF b J 4).getD j 0)) := by
 have hb2 := pk.b2
 have hj2 := pk.j2
 have hfd := h.fd
 have hle := h.cb.nle
 rw [e] at hfd
 simp only [IFd] at hfd
 have e1 : stepP (poolS W Q b J) P (W + 1) (fun j => (pqF b J 4).getD j 0) = finP P (W + 1) (P.rs (W + 1)) 8 ⟨(W + 1 : Nat), 4, 0, 0, false⟩ := by rw [st_jump rfl]; rfl
 rw [e1]
 have hr : ∀ j, j ≠ W + 1 → (finP P (W + 1) (P.rs (W + 1)) 8 ⟨(W + 1 : Nat), 4, 0, 0, false⟩).1.rs j = P.rs j := fun j hj => by simp [finP, tellP, setR, hj]
 refine ⟨rfl, _, h.feed (γ.rF - 1) (by simp [finP, tellP, setR, setReg]) hr rfl h10 rfl rfl rfl (by simp [finP, tellP, setR]) (by simp only [finP, tellP, setR, setReg, if_true, IFd]; omega) (by omega) (by simp [finP, tellP, setR, e]) (by simp [finP, tellP, setR, e]), ?_⟩
 exact .silent _ rfl (by simp) (by simp) (by simp) (by simp) (fun h => by first | rfl | simp at h) rfl rfl (hd_feed hr (by omega) (by simp [finP, tellP, setR])) rfl rfl
set_option maxHeartbeats 1000000 in
theorem feed_7 (pk : PoolOk W Q b J) (h : I1 W b J B γ P) (h10 : 10 ≤ (P.rs 0).pos) (e : (P.rs (W + 1)).pos = 7) (hc : canP (poolS W Q b J) P (fun j => (pqF b J 7).getD j 0) = true) : StepOk W b J B γ P (stepP (poolS W Q b J) P (W + 1) (fun j => (pqF b J 7).getD j 0)) := by
 have hb2 := pk.b2
 have hj2 := pk.j2
 have hfd := h.fd
 have hle := h.cb.nle
 rw [e] at hfd
 simp only [IFd] at hfd
 have e1 : stepP (poolS W Q b J) P (W + 1) (fun j => (pqF b J 7).getD j 0) = finP P (W + 1) (P.rs (W + 1)) 3 ⟨(W + 1 : Nat), 4, 0, 0, false⟩ := by rw [st_jump rfl]; rfl
 rw [e1]
 have hr : ∀ j, j ≠ W + 1 → (finP P (W + 1) (P.rs (W + 1)) 3 ⟨(W + 1 : Nat), 4, 0, 0, false⟩).1.rs j = P.rs j := fun j hj => by simp [finP, tellP, setR, hj]
 refine ⟨rfl, _, h.feed (γ.rF - 1) (by simp [finP, tellP, setR, setReg]) hr rfl h10 rfl rfl rfl (by simp [finP, tellP, setR]) (by simp only [finP, tellP, setR, setReg, if_true, IFd]; omega) (by omega) (by simp [finP, tellP, setR, e]) (by simp [finP, tellP, setR, e]), ?_⟩
 exact .silent _ rfl (by simp) (by simp) (by simp) (by simp) (fun h => by first | rfl | simp at h) rfl rfl (hd_feed hr (by omega) (by simp [finP, tellP, setR])) rfl rfl
set_option maxHeartbeats 1000000 in
theorem feed_11 (pk : PoolOk W Q b J) (h : I1 W b J B γ P) (h10 : 10 ≤ (P.rs 0).pos) (e : (P.rs (W + 1)).pos = 11) (hc : canP (poolS W Q b J) P (fun j => (pqF b J 11).getD j 0) = true) : StepOk W b J B γ P (stepP (poolS W Q b J) P (W + 1) (fun j => (pqF b J 11).getD j 0)) := by
 have hb2 := pk.b2
 have hj2 := pk.j2
 have hfd := h.fd
 have hle := h.cb.nle
 rw [e] at hfd
 simp only [IFd] at hfd
 have e1 : stepP (poolS W Q b J) P (W + 1) (fun j => (pqF b J 11).getD j 0) = finP P (W + 1) (P.rs (W + 1)) 17 ⟨(W + 1 : Nat), 4, 0, 0, false⟩ := by rw [st_jump rfl]; rfl
 rw [e1]
 have hr : ∀ j, j ≠ W + 1 → (finP P (W + 1) (P.rs (W + 1)) 17 ⟨(W + 1 : Nat), 4, 0, 0, false⟩).1.rs j = P.rs j := fun j hj => by simp [finP, tellP, setR, hj]
 refine ⟨rfl, _, h.feed (γ.rF - 1) (by simp [finP, tellP, setR, setReg]) hr rfl h10 rfl rfl rfl (by simp [finP, tellP, setR]) (by simp only [finP, tellP, setR, setReg, if_true, IFd]; omega) (by omega) (by simp [finP, tellP, setR, e]) (by simp [finP, tellP, setR, e]), ?_⟩
 exact .silent _ rfl (by simp) (by simp) (by simp) (by simp) (fun h => by first | rfl | simp at h) rfl rfl (hd_feed hr (by omega) (by simp [finP, tellP, setR])) rfl rfl
set_option maxHeartbeats 1000000 in
theorem feed_16 (pk : PoolOk W Q b J) (h : I1 W b J B γ P) (h10 : 10 ≤ (P.rs 0).pos) (e : (P.rs (W + 1)).pos = 16) (hc : canP (poolS W Q b J) P (fun j => (pqF b J 16).getD j 0) = true) : StepOk W b J B γ P (stepP (poolS W Q b J) P (W + 1) (fun j => (pqF b J 16).getD j 0)) := by
 have hb2 := pk.b2
 have hj2 := pk.j2
 have hfd := h.fd
 have hle := h.cb.nle
 rw [e] at hfd
 simp only [IFd] at hfd
 have e1 : stepP (poolS W Q b J) P (W + 1) (fun j => (pqF b J 16).getD j 0) = finP P (W + 1) (P.rs (W + 1)) 10 ⟨(W + 1 : Nat), 4, 0, 0, false⟩ := by rw [st_jump rfl]; rfl
 rw [e1]
 have hr : ∀ j, j ≠ W + 1 → (finP P (W + 1) (P.rs (W + 1)) 10 ⟨(W + 1 : Nat), 4, 0, 0, false⟩).1.rs j = P.rs j := fun j hj => by simp [finP, tellP, setR, hj]
 refine ⟨rfl, _, h.feed (γ.rF - 1) (by simp [finP, tellP, setR, setReg]) hr rfl h10 rfl rfl rfl (by simp [finP, tellP, setR]) (by simp only [finP, tellP, setR, setReg, if_true, IFd]; omega) (by omega) (by simp [finP, tellP, setR, e]) (by simp [finP, tellP, setR, e]), ?_⟩
 exact .silent _ rfl (by simp) (by simp) (by simp) (by simp) (fun h => by first | rfl | simp at h) rfl rfl (hd_feed hr (by omega) (by simp [finP, tellP, setR])) rfl rfl
set_option maxHeartbeats 1000000 in
theorem feed_3 (pk : PoolOk W Q b J) (h : I1 W b J B γ P) (h10 : 10 ≤ (P.rs 0).pos) (e : (P.rs (W + 1)).pos = 3) (hc : canP (poolS W Q b J) P (fun j => (pqF b J 3).getD j 0) = true) : StepOk W b J B γ P (stepP (poolS W Q b J) P (W + 1) (fun j => (pqF b J 3).getD j 0)) := by
 have hb2 := pk.b2
 have hj2 := pk.j2
 have hfd := h.fd
 have hle := h.cb.nle
 rw [e] at hfd
 simp only [IFd] at hfd
 have e0 : stepP (poolS W Q b J) P (W + 1) (fun j => (pqF b J 3).getD j 0) = finP P (W + 1) (P.rs (W + 1)) (if (P.rs (W + 1)).rg 1 ≤ (P.rs (W + 1)).rg 0 then 4 else 5) ⟨(W + 1 : Nat), 3, 0, 0, false⟩ := by rw [st_less rfl, e]; rfl
 by_cases hl : (P.rs (W + 1)).rg 1 ≤ (P.rs (W + 1)).rg 0
 · have e1 : stepP (poolS W Q b J) P (W + 1) (fun j => (pqF b J 3).getD j 0) = finP P (W + 1) (P.rs (W + 1)) 4 ⟨(W + 1 : Nat), 3, 0, 0, false⟩ := by rw [e0, if_pos hl]
   rw [e1]
   have hr : ∀ j, j ≠ W + 1 → (finP P (W + 1) (P.rs (W + 1)) 4 ⟨(W + 1 : Nat), 3, 0, 0, false⟩).1.rs j = P.rs j := fun j hj => by simp [finP, tellP, setR, hj]
   refine ⟨rfl, _, h.feed (γ.rF - 1) (by simp [finP, tellP, setR, setReg]) hr rfl h10 rfl rfl rfl (by simp [finP, tellP, setR]) (by simp only [finP, tellP, setR, setReg, if_true, IFd]; omega) (by omega) (by simp [finP, tellP, setR, e]) (by simp [finP, tellP, setR, e]), ?_⟩
   exact .silent _ rfl (by simp) (by simp) (by simp) (by simp) (fun h => by first | rfl | simp at h) rfl rfl (hd_feed hr (by omega) (by simp [finP, tellP, setR])) rfl rfl
 · have e1 : stepP (poolS W Q b J) P (W + 1) (fun j => (pqF b J 3).getD j 0) = finP P (W + 1) (P.rs (W + 1)) 5 ⟨(W + 1 : Nat), 3, 0, 0, false⟩ := by rw [e0, if_neg hl]
   rw [e1]
   have hr : ∀ j, j ≠ W + 1 → (finP P (W + 1) (P.rs (W + 1)) 5 ⟨(W + 1 : Nat), 3, 0, 0, false⟩).1.rs j = P.rs j := fun j hj => by simp [finP, tellP, setR, hj]
   refine ⟨rfl, _, h.feed (γ.rF - 1) (by simp [finP, tellP, setR, setReg]) hr rfl h10 rfl rfl rfl (by simp [finP, tellP, setR]) (by simp only [finP, tellP, setR, setReg, if_true, IFd]; omega) (by omega) (by simp [finP, tellP, setR, e]) (by simp [finP, tellP, setR, e]), ?_⟩
   exact .silent _ rfl (by simp) (by simp) (by simp) (by simp) (fun h => by first | rfl | simp at h) rfl rfl (hd_feed hr (by omega) (by simp [finP, tellP, setR])) rfl rfl
set_option maxHeartbeats 1000000 in
theorem feed_10 (pk : PoolOk W Q b J) (h : I1 W b J B γ P) (h10 : 10 ≤ (P.rs 0).pos) (e : (P.rs (W + 1)).pos = 10) (hc : canP (poolS W Q b J) P (fun j => (pqF b J 10).getD j 0) = true) : StepOk W b J B γ P (stepP (poolS W Q b J) P (W + 1) (fun j => (pqF b J 10).getD j 0)) := by
 have hb2 := pk.b2
 have hj2 := pk.j2
 have hfd := h.fd
 have hle := h.cb.nle
 rw [e] at hfd
 simp only [IFd] at hfd
 have e0 : stepP (poolS W Q b J) P (W + 1) (fun j => (pqF b J 10).getD j 0) = finP P (W + 1) (P.rs (W + 1)) (if (P.rs (W + 1)).rg 1 ≤ (P.rs (W + 1)).rg 0 then 11 else 12) ⟨(W + 1 : Nat), 3, 0, 0, false⟩ := by rw [st_less rfl, e]; rfl
 by_cases hl : (P.rs (W + 1)).rg 1 ≤ (P.rs (W + 1)).rg 0
 · have e1 : stepP (poolS W Q b J) P (W + 1) (fun j => (pqF b J 10).getD j 0) = finP P (W + 1) (P.rs (W + 1)) 11 ⟨(W + 1 : Nat), 3, 0, 0, false⟩ := by rw [e0, if_pos hl]
   rw [e1]
   have hr : ∀ j, j ≠ W + 1 → (finP P (W + 1) (P.rs (W + 1)) 11 ⟨(W + 1 : Nat), 3, 0, 0, false⟩).1.rs j = P.rs j := fun j hj => by simp [finP, tellP, setR, hj]
   refine ⟨rfl, _, h.feed (γ.rF - 1) (by simp [finP, tellP, setR, setReg]) hr rfl h10 rfl rfl rfl (by simp [finP, tellP, setR]) (by simp only [finP, tellP, setR, setReg, if_true, IFd]; omega) (by omega) (by simp [finP, tellP, setR, e]) (by simp [finP, tellP, setR, e]), ?_⟩
   exact .silent _ rfl (by simp) (by simp) (by simp) (by simp) (fun h => by first | rfl | simp at h) rfl rfl (hd_feed hr (by omega) (by simp [finP, tellP, setR])) rfl rfl
 · have e1 : stepP (poolS W Q b J) P (W + 1) (fun j => (pqF b J 10).getD j 0) = finP P (W + 1) (P.rs (W + 1)) 12 ⟨(W + 1 : Nat), 3, 0, 0, false⟩ := by rw [e0, if_neg hl]
   rw [e1]
   have hr : ∀ j, j ≠ W + 1 → (finP P (W + 1) (P.rs (W + 1)) 12 ⟨(W + 1 : Nat), 3, 0, 0, false⟩).1.rs j = P.rs j := fun j hj => by simp [finP, tellP, setR, hj]
   refine ⟨rfl, _, h.feed (γ.rF - 1) (by simp [finP, tellP, setR, setReg]) hr rfl h10 rfl rfl rfl (by simp [finP, tellP, setR]) (by simp only [finP, tellP, setR, setReg, if_true, IFd]; omega) (by omega) (by simp [finP, tellP, setR, e]) (by simp [finP, tellP, setR, e]), ?_⟩
   exact .silent _ rfl (by simp) (by simp) (by simp) (by simp) (fun h => by first | rfl | simp at h) rfl rfl (hd_feed hr (by omega) (by simp [finP, tellP, setR])) rfl rfl
set_option maxHeartbeats 1000000 in
theorem feed_6 (pk : PoolOk W Q b J) (h : I1 W b J B γ P) (h10 : 10 ≤ (P.rs 0).pos) (e : (P.rs (W + 1)).pos = 6) (hc : canP (poolS W Q b J) P (fun j => (pqF b J 6).getD j 0) = true) : StepOk W b J B γ P (stepP (poolS W Q b J) P (W + 1) (fun j => (pqF b J 6).getD j 0)) := by
 have hb2 := pk.b2
 have hj2 := pk.j2
 have hfd := h.fd
 have hle := h.cb.nle
 rw [e] at hfd
 simp only [IFd] at hfd
 have e1 : stepP (poolS W Q b J) P (W + 1) (fun j => (pqF b J 6).getD j 0) = finP P (W + 1) (setReg (P.rs (W + 1)) 0 ((P.rs (W + 1)).rg 0 + 1)) 7 ⟨(W + 1 : Nat), 2, 0, 0, false⟩ := by rw [st_sum rfl, e]; show finP P (W + 1) (setReg (P.rs (W + 1)) 0 (IntKind.i64.wrap ((P.rs (W + 1)).rg 0 + (P.rs (W + 1)).rg 2))) _ _ = _; rw [hfd.2.2.1, wrap_small (by omega) (by omega)]; try rfl
 rw [e1]
 have hr : ∀ j, j ≠ W + 1 → (finP P (W + 1) (setReg (P.rs (W + 1)) 0 ((P.rs (W + 1)).rg 0 + 1)) 7 ⟨(W + 1 : Nat), 2, 0, 0, false⟩).1.rs j = P.rs j := fun j hj => by simp [finP, tellP, setR, hj]
 refine ⟨rfl, _, h.feed (γ.rF - 1) (by simp [finP, tellP, setR, setReg]) hr rfl h10 rfl rfl rfl (by simp [finP, tellP, setR]) (by simp only [finP, tellP, setR, setReg, if_true, IFd]; first | (simp; omega) | (simp; done)) (by omega) (by simp [finP, tellP, setR, e]) (by simp [finP, tellP, setR, e]), ?_⟩
 exact .silent _ rfl (by simp) (by simp) (by simp) (by simp) (fun h => by first | rfl | simp at h) rfl rfl (hd_feed hr (by omega) (by simp [finP, tellP, setR])) rfl rfl
set_option maxHeartbeats 1000000 in
theorem feed_15 (pk : PoolOk W Q b J) (h : I1 W b J B γ P) (h10 : 10 ≤ (P.rs 0).pos) (e : (P.rs (W + 1)).pos = 15) (hc : canP (poolS W Q b J) P (fun j => (pqF b J 15).getD j 0) = true) : StepOk W b J B γ P (stepP (poolS W Q b J) P (W + 1) (fun j => (pqF b J 15).getD j 0)) := by
 have hb2 := pk.b2
 have hj2 := pk.j2
 have hfd := h.fd
 have hle := h.cb.nle
 rw [e] at hfd
 simp only [IFd] at hfd
 have e1 : stepP (poolS W Q b J) P (W + 1) (fun j => (pqF b J 15).getD j 0) = finP P (W + 1) (setReg (P.rs (W + 1)) 0 ((P.rs (W + 1)).rg 0 + 1)) 16 ⟨(W + 1 : Nat), 2, 0, 0, false⟩ := by rw [st_sum rfl, e]; show finP P (W + 1) (setReg (P.rs (W + 1)) 0 (IntKind.i64.wrap ((P.rs (W + 1)).rg 0 + (P.rs (W + 1)).rg 2))) _ _ = _; rw [hfd.2.2.2.1, wrap_small (by omega) (by omega)]; try rfl
 rw [e1]
 have hr : ∀ j, j ≠ W + 1 → (finP P (W + 1) (setReg (P.rs (W + 1)) 0 ((P.rs (W + 1)).rg 0 + 1)) 16 ⟨(W + 1 : Nat), 2, 0, 0, false⟩).1.rs j = P.rs j := fun j hj => by simp [finP, tellP, setR, hj]
 refine ⟨rfl, _, h.feed (γ.rF - 1) (by simp [finP, tellP, setR, setReg]) hr rfl h10 rfl rfl rfl (by simp [finP, tellP, setR]) (by simp only [finP, tellP, setR, setReg, if_true, IFd]; first | (simp; omega) | (simp; done)) (by omega) (by simp [finP, tellP, setR, e]) (by simp [finP, tellP, setR, e]), ?_⟩
 exact .silent _ rfl (by simp) (by simp) (by simp) (by simp) (fun h => by first | rfl | simp at h) rfl rfl (hd_feed hr (by omega) (by simp [finP, tellP, setR])) rfl rfl
set_option maxHeartbeats 1000000 in
theorem feed_18 (pk : PoolOk W Q b J) (h : I1 W b J B γ P) (h10 : 10 ≤ (P.rs 0).pos) (e : (P.rs (W + 1)).pos = 18) (hc : canP (poolS W Q b J) P (fun j => (pqF b J 18).getD j 0) = true) : StepOk W b J B γ P (stepP (poolS W Q b J) P (W + 1) (fun j => (pqF b J 18).getD j 0)) := by
 have hb2 := pk.b2
 have hj2 := pk.j2
 have hfd := h.fd
 have hle := h.cb.nle
 rw [e] at hfd
 simp only [IFd] at hfd
 have e1 : stepP (poolS W Q b J) P (W + 1) (fun j => (pqF b J 18).getD j 0) = finP P (W + 1) (P.rs (W + 1)) 19 ⟨(W + 1 : Nat), 16, 0, 0, false⟩ := by rw [st_end rfl, h.vw.f h10]; rfl
 rw [e1]
 have hr : ∀ j, j ≠ W + 1 → (finP P (W + 1) (P.rs (W + 1)) 19 ⟨(W + 1 : Nat), 16, 0, 0, false⟩).1.rs j = P.rs j := fun j hj => by simp [finP, tellP, setR, hj]
 refine ⟨rfl, _, h.feed (γ.rF - 1) (by simp [finP, tellP, setR, setReg]) hr rfl h10 rfl rfl rfl (by simp [finP, tellP, setR]) (by simp only [finP, tellP, setR, setReg, if_true, IFd]; omega) (by omega) (by simp [finP, tellP, setR, e]) (by simp [finP, tellP, setR, e]), ?_⟩
 exact .silent _ rfl (by simp) (by simp) (by simp) (by simp) (fun h => by first | rfl | simp at h) rfl rfl (hd_feed hr (by omega) (by simp [finP, tellP, setR])) rfl rfl
set_option maxHeartbeats 1000000 in
theorem feed_13 (pk : PoolOk W Q b J) (h : I1 W b J B γ P) (h10 : 10 ≤ (P.rs 0).pos) (e : (P.rs (W + 1)).pos = 13) (hc : canP (poolS W Q b J) P (fun j => (pqF b J 13).getD j 0) = true) : StepOk W b J B γ P (stepP (poolS W Q b J) P (W + 1) (fun j => (pqF b J 13).getD j 0)) := by
 have hb2 := pk.b2
 have hj2 := pk.j2
 have hfd := h.fd
 have hle := h.cb.nle
 rw [e] at hfd
 simp only [IFd] at hfd
 have e1 : stepP (poolS W Q b J) P (W + 1) (fun j => (pqF b J 13).getD j 0) = finP { P with ce := updI P.ce ((P.rs (W + 1)).rg 3 % (b : Int)) ((P.rs (W + 1)).rg 0) } (W + 1) (P.rs (W + 1)) 14 ⟨(W + 1 : Nat), 13, ((P.rs (W + 1)).rg 3 % (b : Int)), ((P.rs (W + 1)).rg 0), false⟩ := by rw [st_write rfl, e]; rfl
 rw [e1]
 have hr : ∀ j, j ≠ W + 1 → (finP { P with ce := updI P.ce ((P.rs (W + 1)).rg 3 % (b : Int)) ((P.rs (W + 1)).rg 0) } (W + 1) (P.rs (W + 1)) 14 ⟨(W + 1 : Nat), 13, ((P.rs (W + 1)).rg 3 % (b : Int)), ((P.rs (W + 1)).rg 0), false⟩).1.rs j = P.rs j := fun j hj => by simp [finP, tellP, setR, hj]
 refine ⟨rfl, _, h.feed (γ.rF - 1) (by simp [finP, tellP, setR, setReg]) hr rfl h10 rfl rfl rfl (by simp [finP, tellP, setR]) (by simp only [finP, tellP, setR, setReg, if_true, IFd]; omega) (by omega) (by simp [finP, tellP, setR, e]) (by simp [finP, tellP, setR, e]), ?_⟩
 refine .write ((P.rs (W + 1)).rg 3) (by rw [← hfd.2.1]; rfl) rfl (by rw [← hfd.2.1]; rfl) (by simp [hdP, e]) (by simp [hdP, e]) ?_ rfl rfl
 rw [hd_feed2 hr]
 simp [hdP, finP, tellP, setR, e]
set_option maxHeartbeats 1000000 in
theorem feed_5 (pk : PoolOk W Q b J) (h : I1 W b J B γ P) (h10 : 10 ≤ (P.rs 0).pos) (e : (P.rs (W + 1)).pos = 5) (hc : canP (poolS W Q b J) P (fun j => (pqF b J 5).getD j 0) = true) : StepOk W b J B γ P (stepP (poolS W Q b J) P (W + 1) (fun j => (pqF b J 5).getD j 0)) := by
 have hb2 := pk.b2
 have hj2 := pk.j2
 have hfd := h.fd
 have hle := h.cb.nle
 rw [e] at hfd
 simp only [IFd] at hfd
 obtain ⟨q1, q2, q3, q4, q5, q6, q7, q8, q9, q10, q11, q12, q13, q14, q15, q16⟩ := h.gn
 have e1 : stepP (poolS W Q b J) P (W + 1) (fun j => (pqF b J 5).getD j 0) = finP { P with held := updN P.held 2 (P.held 2 ++ [(P.rs (W + 1)).rg 0]) } (W + 1) (P.rs (W + 1)) 6 ⟨(W + 1 : Nat), 5, 2, ((P.rs (W + 1)).rg 0), false⟩ := by rw [st_send rfl q8, e]; rfl
 rw [e1]
 have hr : ∀ j, j ≠ W + 1 → (finP { P with held := updN P.held 2 (P.held 2 ++ [(P.rs (W + 1)).rg 0]) } (W + 1) (P.rs (W + 1)) 6 ⟨(W + 1 : Nat), 5, 2, ((P.rs (W + 1)).rg 0), false⟩).1.rs j = P.rs j := fun j hj => by simp [finP, tellP, setR, hj]
 refine ⟨rfl, { γ with sent := γ.sent + 1, rF := γ.rF - 1 }, ⟨h.vw.feed hle (by simp [finP, tellP, setR, setReg]) hr rfl h10, by rw [hr 0 (by omega)]; exact h.cb, (by simp only [finP, tellP, setR, setReg, if_true, IFd]; omega), ?_⟩, ?_⟩
 · have hw := cw_else (nW := γ.nW) (show W < W + 1 by omega) hle hr
   show GN W J B _ _ _ _ (cw _ γ.nW) _ _ _ _ _ _ _ _
   rw [hw, hr 0 (by omega), hr (W + 2) (by omega)]
   simp only [finP, tellP, setR, setReg, updN, if_true, if_false, List.length_append, List.length_singleton, show ¬ (0 = 1) by decide, show ¬ (2 = 1) by decide, show ¬ (0 = 2) by decide, show ¬ (1 = 2) by decide, show ¬ (1 = 0) by decide, show ¬ (2 = 0) by decide]
   rw [e] at q2 q3 q6 q9 q15
   refine ⟨?_, ?_, ?_, ?_, ?_, ?_, ?_, ?_, ?_, ?_, ?_, ?_, ?_, ?_, ?_, ?_⟩
   · clear q2 q3 q4 q5 q6 q7 q8 q9 q10 q11 q12 q13 q14 q15 q16; try dsimp only
     first | exact q1 | omega | simpa using q1 | simp
   · clear q1 q4 q5 q6 q7 q8 q9 q10 q11 q12 q13 q14 q15 q16; try dsimp only
     first | exact q2 | omega | simpa using q2 | simp
   · clear q1 q4 q5 q6 q7 q8 q9 q10 q11 q12 q13 q14 q15 q16; try dsimp only
     first | exact q3 | omega | simpa using q3 | simp
   · clear q1 q2 q3 q5 q6 q7 q8 q9 q10 q11 q12 q13 q14 q15 q16; try dsimp only
     first | exact q4 | omega | simpa using q4 | simp
   · clear q1 q2 q3 q4 q6 q7 q8 q9 q10 q11 q12 q13 q14 q15 q16; try dsimp only
     first | exact q5 | omega | simpa using q5 | simp
   · clear q1 q2 q3 q4 q5 q7 q8 q9 q10 q11 q12 q13 q14 q15 q16; try dsimp only
     first | exact q6 | omega | simpa using q6 | simp
   · clear q1 q2 q3 q4 q5 q6 q8 q9 q10 q11 q12 q13 q14 q15 q16; try dsimp only
     first | exact q7 | omega | simpa using q7 | simp
   · clear q1 q2 q3 q4 q5 q6 q7 q9 q10 q11 q12 q13 q14 q15 q16; try dsimp only
     first | exact q8 | omega | simpa using q8 | simp
   · clear q1 q2 q3 q4 q5 q6 q7 q8 q10 q11 q12 q13 q14 q15 q16; try dsimp only
     first | exact q9 | omega | simpa using q9 | simp
   · clear q1 q2 q3 q4 q5 q6 q7 q8 q9 q11 q12 q13 q14 q15 q16; try dsimp only
     first | exact q10 | omega | simpa using q10 | simp
   · clear q1 q2 q3 q4 q5 q6 q7 q8 q9 q10 q12 q13 q14 q15 q16; try dsimp only
     first | exact q11 | omega | simpa using q11 | simp
   · clear q1 q2 q3 q4 q5 q6 q7 q8 q9 q10 q11 q13 q14 q15 q16; try dsimp only
     first | exact q12 | omega | simpa using q12 | simp
   · clear q1 q2 q3 q4 q5 q6 q7 q8 q9 q10 q11 q12 q14 q15 q16; try dsimp only
     first | exact q13 | omega | simpa using q13 | simp
   · clear q1 q2 q3 q4 q5 q6 q7 q8 q9 q10 q11 q12 q13 q15 q16; try dsimp only
     first | exact q14 | omega | simpa using q14 | simp
   · clear q1 q2 q3 q4 q5 q6 q7 q8 q9 q10 q11 q12 q13 q14 q16; try dsimp only
     first | exact q15 | omega | simpa using q15 | simp
   · clear q1 q2 q3 q4 q5 q6 q7 q8 q9 q10 q11 q12 q13 q14 q15; try dsimp only
     first | exact q16 | omega | simpa using q16 | simp
 · refine .send2f (by rw [← hfd.1]; rfl) (by rw [← hfd.1]; rfl) rfl (hd_feed hr (by omega) (by simp [finP, tellP, setR])) (by omega) rfl rfl
set_option maxHeartbeats 1000000 in
theorem feed_14 (pk : PoolOk W Q b J) (h : I1 W b J B γ P) (h10 : 10 ≤ (P.rs 0).pos) (e : (P.rs (W + 1)).pos = 14) (hc : canP (poolS W Q b J) P (fun j => (pqF b J 14).getD j 0) = true) : StepOk W b J B γ P (stepP (poolS W Q b J) P (W + 1) (fun j => (pqF b J 14).getD j 0)) := by
 have hb2 := pk.b2
 have hj2 := pk.j2
 have hfd := h.fd
 have hle := h.cb.nle
 rw [e] at hfd
 simp only [IFd] at hfd
 obtain ⟨q1, q2, q3, q4, q5, q6, q7, q8, q9, q10, q11, q12, q13, q14, q15, q16⟩ := h.gn
 have hcl : P.cl 0 = false := by
   cases hx : P.cl 0 with
   | false => rfl
   | true => have := q6.1 hx; omega
 have e1 : stepP (poolS W Q b J) P (W + 1) (fun j => (pqF b J 14).getD j 0) = finP { P with held := updN P.held 0 (P.held 0 ++ [(P.rs (W + 1)).rg 3]) } (W + 1) (P.rs (W + 1)) 15 ⟨(W + 1 : Nat), 5, 0, ((P.rs (W + 1)).rg 3), false⟩ := by rw [st_send rfl hcl, e]; rfl
 rw [e1]
 have hr : ∀ j, j ≠ W + 1 → (finP { P with held := updN P.held 0 (P.held 0 ++ [(P.rs (W + 1)).rg 3]) } (W + 1) (P.rs (W + 1)) 15 ⟨(W + 1 : Nat), 5, 0, ((P.rs (W + 1)).rg 3), false⟩).1.rs j = P.rs j := fun j hj => by simp [finP, tellP, setR, hj]
 refine ⟨rfl, { γ with fed := γ.fed + 1, rF := γ.rF - 1 }, ⟨h.vw.feed hle (by simp [finP, tellP, setR, setReg]) hr rfl h10, by rw [hr 0 (by omega)]; exact h.cb, (by simp only [finP, tellP, setR, setReg, if_true, IFd]; omega), ?_⟩, ?_⟩
 · have hw := cw_else (nW := γ.nW) (show W < W + 1 by omega) hle hr
   show GN W J B _ _ _ _ (cw _ γ.nW) _ _ _ _ _ _ _ _
   rw [hw, hr 0 (by omega), hr (W + 2) (by omega)]
   simp only [finP, tellP, setR, setReg, updN, if_true, if_false, List.length_append, List.length_singleton, show ¬ (0 = 1) by decide, show ¬ (2 = 1) by decide, show ¬ (0 = 2) by decide, show ¬ (1 = 2) by decide, show ¬ (1 = 0) by decide, show ¬ (2 = 0) by decide]
   rw [e] at q2 q3 q6 q9 q15
   refine ⟨?_, ?_, ?_, ?_, ?_, ?_, ?_, ?_, ?_, ?_, ?_, ?_, ?_, ?_, ?_, ?_⟩
   · clear q2 q3 q4 q5 q6 q7 q8 q9 q10 q11 q12 q13 q14 q15 q16; try dsimp only
     first | exact q1 | omega | simpa using q1 | simp
   · clear q1 q4 q5 q6 q7 q8 q9 q10 q11 q12 q13 q14 q15 q16; try dsimp only
     first | exact q2 | omega | simpa using q2 | simp
   · clear q1 q4 q5 q6 q7 q8 q9 q10 q11 q12 q13 q14 q15 q16; try dsimp only
     first | exact q3 | omega | simpa using q3 | simp
   · clear q1 q2 q3 q5 q6 q7 q8 q9 q10 q11 q12 q13 q14 q15 q16; try dsimp only
     first | exact q4 | omega | simpa using q4 | simp
   · clear q1 q2 q3 q4 q6 q7 q8 q9 q10 q11 q12 q13 q14 q15 q16; try dsimp only
     first | exact q5 | omega | simpa using q5 | simp
   · clear q1 q2 q3 q4 q5 q7 q8 q9 q10 q11 q12 q13 q14 q15 q16; try dsimp only
     first | exact q6 | omega | simpa using q6 | simp
   · clear q1 q2 q3 q4 q5 q6 q8 q9 q10 q11 q12 q13 q14 q15 q16; try dsimp only
     first | exact q7 | omega | simpa using q7 | simp
   · clear q1 q2 q3 q4 q5 q6 q7 q9 q10 q11 q12 q13 q14 q15 q16; try dsimp only
     first | exact q8 | omega | simpa using q8 | simp
   · clear q1 q2 q3 q4 q5 q6 q7 q8 q10 q11 q12 q13 q14 q15 q16; try dsimp only
     first | exact q9 | omega | simpa using q9 | simp
   · clear q1 q2 q3 q4 q5 q6 q7 q8 q9 q11 q12 q13 q14 q15 q16; try dsimp only
     first | exact q10 | omega | simpa using q10 | simp
   · clear q1 q2 q3 q4 q5 q6 q7 q8 q9 q10 q12 q13 q14 q15 q16; try dsimp only
     first | exact q11 | omega | simpa using q11 | simp
   · clear q1 q2 q3 q4 q5 q6 q7 q8 q9 q10 q11 q13 q14 q15 q16; try dsimp only
     first | exact q12 | omega | simpa using q12 | simp
   · clear q1 q2 q3 q4 q5 q6 q7 q8 q9 q10 q11 q12 q14 q15 q16; try dsimp only
     first | exact q13 | omega | simpa using q13 | simp
   · clear q1 q2 q3 q4 q5 q6 q7 q8 q9 q10 q11 q12 q13 q15 q16; try dsimp only
     first | exact q14 | omega | simpa using q14 | simp
   · clear q1 q2 q3 q4 q5 q6 q7 q8 q9 q10 q11 q12 q13 q14 q16; try dsimp only
     first | exact q15 | omega | simpa using q15 | simp
   · clear q1 q2 q3 q4 q5 q6 q7 q8 q9 q10 q11 q12 q13 q14 q15; try dsimp only
     first | exact q16 | omega | simpa using q16 | simp
 · refine .send0 ((P.rs (W + 1)).rg 3) rfl rfl rfl (by simp [hdP, e]) (by simp [hdP, e]) ?_ rfl rfl
   rw [hd_feed2 hr]
   simp [hdP, finP, tellP, setR]
set_option maxHeartbeats 1000000 in
theorem feed_17 (pk : PoolOk W Q b J) (h : I1 W b J B γ P) (h10 : 10 ≤ (P.rs 0).pos) (e : (P.rs (W + 1)).pos = 17) (hc : canP (poolS W Q b J) P (fun j => (pqF b J 17).getD j 0) = true) : StepOk W b J B γ P (stepP (poolS W Q b J) P (W + 1) (fun j => (pqF b J 17).getD j 0)) := by
 have hb2 := pk.b2
 have hj2 := pk.j2
 have hfd := h.fd
 have hle := h.cb.nle
 rw [e] at hfd
 simp only [IFd] at hfd
 obtain ⟨q1, q2, q3, q4, q5, q6, q7, q8, q9, q10, q11, q12, q13, q14, q15, q16⟩ := h.gn
 have hcl : P.cl 0 = false := by
   cases hx : P.cl 0 with
   | false => rfl
   | true => have := q6.1 hx; omega
 have e1 : stepP (poolS W Q b J) P (W + 1) (fun j => (pqF b J 17).getD j 0) = finP { P with cl := updN P.cl 0 true } (W + 1) (P.rs (W + 1)) 18 ⟨(W + 1 : Nat), 7, 0, 0, false⟩ := by rw [st_close rfl hcl, e]; rfl
 rw [e1]
 have hr : ∀ j, j ≠ W + 1 → (finP { P with cl := updN P.cl 0 true } (W + 1) (P.rs (W + 1)) 18 ⟨(W + 1 : Nat), 7, 0, 0, false⟩).1.rs j = P.rs j := fun j hj => by simp [finP, tellP, setR, hj]
 refine ⟨rfl, { γ with rF := γ.rF - 1 }, ⟨h.vw.feed hle (by simp [finP, tellP, setR, setReg]) hr rfl h10, by rw [hr 0 (by omega)]; exact h.cb, (by simp only [finP, tellP, setR, setReg, if_true, IFd]; omega), ?_⟩, ?_⟩
 · have hw := cw_else (nW := γ.nW) (show W < W + 1 by omega) hle hr
   show GN W J B _ _ _ _ (cw _ γ.nW) _ _ _ _ _ _ _ _
   rw [hw, hr 0 (by omega), hr (W + 2) (by omega)]
   simp only [finP, tellP, setR, setReg, updN, if_true, if_false, List.length_append, List.length_singleton, show ¬ (0 = 1) by decide, show ¬ (2 = 1) by decide, show ¬ (0 = 2) by decide, show ¬ (1 = 2) by decide, show ¬ (1 = 0) by decide, show ¬ (2 = 0) by decide]
   rw [e] at q2 q3 q6 q9 q15
   refine ⟨?_, ?_, ?_, ?_, ?_, ?_, ?_, ?_, ?_, ?_, ?_, ?_, ?_, ?_, ?_, ?_⟩
   · clear q2 q3 q4 q5 q6 q7 q8 q9 q10 q11 q12 q13 q14 q15 q16; try dsimp only
     first | exact q1 | omega | simpa using q1 | simp
   · clear q1 q4 q5 q6 q7 q8 q9 q10 q11 q12 q13 q14 q15 q16; try dsimp only
     first | exact q2 | omega | simpa using q2 | simp
   · clear q1 q4 q5 q6 q7 q8 q9 q10 q11 q12 q13 q14 q15 q16; try dsimp only
     first | exact q3 | omega | simpa using q3 | simp
   · clear q1 q2 q3 q5 q6 q7 q8 q9 q10 q11 q12 q13 q14 q15 q16; try dsimp only
     first | exact q4 | omega | simpa using q4 | simp
   · clear q1 q2 q3 q4 q6 q7 q8 q9 q10 q11 q12 q13 q14 q15 q16; try dsimp only
     first | exact q5 | omega | simpa using q5 | simp
   · clear q1 q2 q3 q4 q5 q7 q8 q9 q10 q11 q12 q13 q14 q15 q16; try dsimp only
     first | exact q6 | omega | simp | simpa using q6
   · clear q1 q2 q3 q4 q5 q6 q8 q9 q10 q11 q12 q13 q14 q15 q16; try dsimp only
     first | exact q7 | omega | simpa using q7 | simp
   · clear q1 q2 q3 q4 q5 q6 q7 q9 q10 q11 q12 q13 q14 q15 q16; try dsimp only
     first | exact q8 | omega | simpa using q8 | simp
   · clear q1 q2 q3 q4 q5 q6 q7 q8 q10 q11 q12 q13 q14 q15 q16; try dsimp only
     first | exact q9 | omega | simpa using q9 | simp
   · clear q1 q2 q3 q4 q5 q6 q7 q8 q9 q11 q12 q13 q14 q15 q16; try dsimp only
     first | exact q10 | omega | simpa using q10 | simp
   · clear q1 q2 q3 q4 q5 q6 q7 q8 q9 q10 q12 q13 q14 q15 q16; try dsimp only
     first | exact q11 | omega | simpa using q11 | simp
   · clear q1 q2 q3 q4 q5 q6 q7 q8 q9 q10 q11 q13 q14 q15 q16; try dsimp only
     first | exact q12 | omega | simpa using q12 | simp
   · clear q1 q2 q3 q4 q5 q6 q7 q8 q9 q10 q11 q12 q14 q15 q16; try dsimp only
     first | exact q13 | omega | simpa using q13 | simp
   · clear q1 q2 q3 q4 q5 q6 q7 q8 q9 q10 q11 q12 q13 q15 q16; try dsimp only
     first | exact q14 | omega | simpa using q14 | simp
   · clear q1 q2 q3 q4 q5 q6 q7 q8 q9 q10 q11 q12 q13 q14 q16; try dsimp only
     first | exact q15 | omega | simpa using q15 | simp
   · clear q1 q2 q3 q4 q5 q6 q7 q8 q9 q10 q11 q12 q13 q14 q15; try dsimp only
     first | exact q16 | omega | simpa using q16 | simp
 · exact .silent _ rfl (by simp) (by simp) (by simp) (by simp) (fun h => by simp at h) rfl rfl (hd_feed hr (by omega) (by simp [finP, tellP, setR])) rfl rfl
set_option maxHeartbeats 1000000 in
theorem feed_12 (pk : PoolOk W Q b J) (h : I1 W b J B γ P) (h10 : 10 ≤ (P.rs 0).pos) (e : (P.rs (W + 1)).pos = 12) (hc : canP (poolS W Q b J) P (fun j => (pqF b J 12).getD j 0) = true) : StepOk W b J B γ P (stepP (poolS W Q b J) P (W + 1) (fun j => (pqF b J 12).getD j 0)) := by
 have hb2 := pk.b2
 have hj2 := pk.j2
 have hfd := h.fd
 have hle := h.cb.nle
 rw [e] at hfd
 simp only [IFd] at hfd
 obtain ⟨q1, q2, q3, q4, q5, q6, q7, q8, q9, q10, q11, q12, q13, q14, q15, q16⟩ := h.gn
 obtain ⟨x, l, hh⟩ : ∃ x l, P.held 2 = x :: l := by
   cases hx : P.held 2 with
   | nil =>
     have hcc : (P.cl 2 || decide (0 < ((P.held 2).length : Int))) = true := hc
     rw [q8, hx] at hcc
     exact absurd hcc (by decide)
   | cons x l => exact ⟨x, l, rfl⟩
 rw [hh, List.length_cons] at q2 q3
 have e1 : stepP (poolS W Q b J) P (W + 1) (fun j => (pqF b J 12).getD j 0) = finP { P with held := updN P.held 2 l } (W + 1) (setReg (P.rs (W + 1)) 3 x) 13 ⟨(W + 1 : Nat), 6, 2, x, false⟩ := by rw [st_take rfl hh, e]; rfl
 rw [e1]
 have hr : ∀ j, j ≠ W + 1 → (finP { P with held := updN P.held 2 l } (W + 1) (setReg (P.rs (W + 1)) 3 x) 13 ⟨(W + 1 : Nat), 6, 2, x, false⟩).1.rs j = P.rs j := fun j hj => by simp [finP, tellP, setR, hj]
 refine ⟨rfl, { γ with rF := γ.rF - 1 }, ⟨h.vw.feed hle (by simp [finP, tellP, setR, setReg]) hr rfl h10, by rw [hr 0 (by omega)]; exact h.cb, (by simp only [finP, tellP, setR, setReg, if_true, IFd]; omega), ?_⟩, ?_⟩
 · have hw := cw_else (nW := γ.nW) (show W < W + 1 by omega) hle hr
   show GN W J B _ _ _ _ (cw _ γ.nW) _ _ _ _ _ _ _ _
   rw [hw, hr 0 (by omega), hr (W + 2) (by omega)]
   simp only [finP, tellP, setR, setReg, updN, if_true, if_false, List.length_append, List.length_singleton, show ¬ (0 = 1) by decide, show ¬ (2 = 1) by decide, show ¬ (0 = 2) by decide, show ¬ (1 = 2) by decide, show ¬ (1 = 0) by decide, show ¬ (2 = 0) by decide]
   rw [e] at q2 q3 q6 q9 q15
   refine ⟨?_, ?_, ?_, ?_, ?_, ?_, ?_, ?_, ?_, ?_, ?_, ?_, ?_, ?_, ?_, ?_⟩
   · clear q2 q3 q4 q5 q6 q7 q8 q9 q10 q11 q12 q13 q14 q15 q16; try dsimp only
     first | exact q1 | omega | simpa using q1 | simp
   · clear q1 q4 q5 q6 q7 q8 q9 q10 q11 q12 q13 q14 q15 q16; try dsimp only
     first | exact q2 | omega | simpa using q2 | simp
   · clear q1 q4 q5 q6 q7 q8 q9 q10 q11 q12 q13 q14 q15 q16; try dsimp only
     first | exact q3 | omega | simpa using q3 | simp
   · clear q1 q2 q3 q5 q6 q7 q8 q9 q10 q11 q12 q13 q14 q15 q16; try dsimp only
     first | exact q4 | omega | simpa using q4 | simp
   · clear q1 q2 q3 q4 q6 q7 q8 q9 q10 q11 q12 q13 q14 q15 q16; try dsimp only
     first | exact q5 | omega | simpa using q5 | simp
   · clear q1 q2 q3 q4 q5 q7 q8 q9 q10 q11 q12 q13 q14 q15 q16; try dsimp only
     first | exact q6 | omega | simpa using q6 | simp
   · clear q1 q2 q3 q4 q5 q6 q8 q9 q10 q11 q12 q13 q14 q15 q16; try dsimp only
     first | exact q7 | omega | simpa using q7 | simp
   · clear q1 q2 q3 q4 q5 q6 q7 q9 q10 q11 q12 q13 q14 q15 q16; try dsimp only
     first | exact q8 | omega | simpa using q8 | simp
   · clear q1 q2 q3 q4 q5 q6 q7 q8 q10 q11 q12 q13 q14 q15 q16; try dsimp only
     first | exact q9 | omega | simpa using q9 | simp
   · clear q1 q2 q3 q4 q5 q6 q7 q8 q9 q11 q12 q13 q14 q15 q16; try dsimp only
     first | exact q10 | omega | simpa using q10 | simp
   · clear q1 q2 q3 q4 q5 q6 q7 q8 q9 q10 q12 q13 q14 q15 q16; try dsimp only
     first | exact q11 | omega | simpa using q11 | simp
   · clear q1 q2 q3 q4 q5 q6 q7 q8 q9 q10 q11 q13 q14 q15 q16; try dsimp only
     first | exact q12 | omega | simpa using q12 | simp
   · clear q1 q2 q3 q4 q5 q6 q7 q8 q9 q10 q11 q12 q14 q15 q16; try dsimp only
     first | exact q13 | omega | simpa using q13 | simp
   · clear q1 q2 q3 q4 q5 q6 q7 q8 q9 q10 q11 q12 q13 q15 q16; try dsimp only
     first | exact q14 | omega | simpa using q14 | simp
   · clear q1 q2 q3 q4 q5 q6 q7 q8 q9 q10 q11 q12 q13 q14 q16; try dsimp only
     first | exact q15 | omega | simpa using q15 | simp
   · clear q1 q2 q3 q4 q5 q6 q7 q8 q9 q10 q11 q12 q13 q14 q15; try dsimp only
     first | exact q16 | omega | simpa using q16 | simp
 · refine .take2 x l rfl hh rfl rfl (by simp [hdP, e]) (by simp [hdP, e]) ?_ rfl rfl
   rw [hd_feed2 hr]
   simp [hdP, finP, tellP, setR, setReg, e]
theorem step_feed (pk : PoolOk W Q b J) (h : I1 W b J B γ P) (h10 : 10 ≤ (P.rs 0).pos) (hf : instP (poolS W Q b J) (P.rs (W + 1)) = some f) (hc : canP (poolS W Q b J) P f = true) : StepOk W b J B γ P (stepP (poolS W Q b J) P (W + 1) f) := by
 obtain ⟨hp, rfl⟩ := inst_of hf
 rw [h.vw.f h10] at hp hc ⊢
 have hp' : (P.rs (W + 1)).pos < 19 := hp
 have hn : ∀ pc, (P.rs (W + 1)).pos = pc → (poolS W Q b J).q 2 (P.rs (W + 1)).pos = fun j => (pqF b J pc).getD j 0 := fun pc e => by rw [e]; rfl
 have hcase : (P.rs (W + 1)).pos = 0 ∨ (P.rs (W + 1)).pos = 1 ∨ (P.rs (W + 1)).pos = 2 ∨ (P.rs (W + 1)).pos = 3 ∨ (P.rs (W + 1)).pos = 4 ∨ (P.rs (W + 1)).pos = 5 ∨ (P.rs (W + 1)).pos = 6 ∨ (P.rs (W + 1)).pos = 7 ∨ (P.rs (W + 1)).pos = 8 ∨ (P.rs (W + 1)).pos = 9 ∨ (P.rs (W + 1)).pos = 10 ∨ (P.rs (W + 1)).pos = 11 ∨ (P.rs (W + 1)).pos = 12 ∨ (P.rs (W + 1)).pos = 13 ∨ (P.rs (W + 1)).pos = 14 ∨ (P.rs (W + 1)).pos = 15 ∨ (P.rs (W + 1)).pos = 16 ∨ (P.rs (W + 1)).pos = 17 ∨ (P.rs (W + 1)).pos = 18 := by omega
 rcases hcase with e | e | e | e | e | e | e | e | e | e | e | e | e | e | e | e | e | e | e <;> rw [hn _ e] at hc ⊢
 · exact feed_0 pk h h10 e hc
 · exact feed_1 pk h h10 e hc
 · exact feed_2 pk h h10 e hc
 · exact feed_3 pk h h10 e hc
 · exact feed_4 pk h h10 e hc
 · exact feed_5 pk h h10 e hc
 · exact feed_6 pk h h10 e hc
 · exact feed_7 pk h h10 e hc
 · exact feed_8 pk h h10 e hc
 · exact feed_9 pk h h10 e hc
 · exact feed_10 pk h h10 e hc
 · exact feed_11 pk h h10 e hc
 · exact feed_12 pk h h10 e hc
 · exact feed_13 pk h h10 e hc
 · exact feed_14 pk h h10 e hc
 · exact feed_15 pk h h10 e hc
 · exact feed_16 pk h h10 e hc
 · exact feed_17 pk h h10 e hc
 · exact feed_18 pk h h10 e hc
end
end Go.Proofs.Ytakmcpadkanggaa
