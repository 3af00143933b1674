/-
  Part 2 of what this claim rests on.
-/
import Derived.Carry
import Derived.Handy
import Derived.Lib.SlicesCompact
import Derived.Test.YtakmcpadkanggaaPl1
namespace Go.Proofs.Ytakmcpadkanggaa
open Go.RowKit
/-- One that runs. -/
structure Rn where
  prog : Nat
  pos : Nat
  rg : Nat → Int
/-- All there is while it runs. -/
structure PW where
  n : Nat
  rs : Nat → Rn
  held : Nat → List Int
  cl : Nat → Bool
  lk : Int → Bool
  gr : Int → Int
  ce : Int → Int
  ev : List Ev
def instP (S : Sys) (r : Rn) : Option (Nat → Int) := if r.pos < S.lp r.prog then some (S.q r.prog r.pos) else none
def canP (S : Sys) (P : PW) (f : Nat → Int) : Bool :=
  if f 0 = 5 then P.cl (f 1).toNat || decide (((P.held (f 1).toNat).length : Int) < S.rm (f 1).toNat)
  else if f 0 = 6 then P.cl (f 1).toNat || decide (0 < ((P.held (f 1).toNat).length : Int))
  else if f 0 = 8 then !P.lk (f 1)
  else if f 0 = 11 then decide (P.gr (f 1) = 0)
  else true
/-- Those below k that can go on, rising. -/
def readyN (S : Sys) (P : PW) : Nat → List Nat
  | 0 => []
  | k + 1 => readyN S P k ++ (match instP S (P.rs k) with | some f => if canP S P f = true then [k] else [] | none => [])
def endedN (S : Sys) (P : PW) : Nat → Bool
  | 0 => true
  | k + 1 => endedN S P k && (instP S (P.rs k)).isNone
def setReg (r : Rn) (i : Nat) (v : Int) : Rn := { r with rg := fun j => if j = i then v else r.rg j }
def setR (P : PW) (k : Nat) (r : Rn) : PW := { P with rs := fun j => if j = k then r else P.rs j }
def tellP (P : PW) (e : Ev) : PW := { P with ev := P.ev ++ [e] }
/-- A runner goes on at 'on', and the event is told. -/
def finP (P : PW) (k : Nat) (r : Rn) (on : Nat) (e : Ev) : PW × Int := (tellP (setR P k { r with pos := on }) e, 0)
def updN {α : Type} (f : Nat → α) (i : Nat) (x : α) : Nat → α := fun j => if j = i then x else f j
/-- One step of runner k, whose instruction is f: the world behind it, the fault (0: none). -/
def stepP (S : Sys) (P : PW) (k : Nat) (f : Nat → Int) : PW × Int :=
  let r := P.rs k
  let a := (f 1).toNat
  let b := (f 2).toNat
  let on := r.pos + 1
  if f 0 = 1 then finP P k (setReg r a (f 2)) on ⟨k, 1, 0, 0, false⟩
  else if f 0 = 2 then finP P k (setReg r a (IntKind.i64.wrap (r.rg a + r.rg b))) on ⟨k, 2, 0, 0, false⟩
  else if f 0 = 3 then finP P k r (if r.rg b ≤ r.rg a then on else (f 3).toNat) ⟨k, 3, 0, 0, false⟩
  else if f 0 = 4 then finP P k r (f 3).toNat ⟨k, 4, 0, 0, false⟩
  else if f 0 = 16 then finP P k r (S.lp r.prog) ⟨k, 16, 0, 0, false⟩
  else if f 0 = 12 then finP P k (setReg r b (P.ce (r.rg a % S.ce))) on ⟨k, 12, r.rg a % S.ce, P.ce (r.rg a % S.ce), false⟩
  else if f 0 = 13 then finP { P with ce := updI P.ce (r.rg a % S.ce) (r.rg b) } k r on ⟨k, 13, r.rg a % S.ce, r.rg b, false⟩
  else if f 0 = 14 then
    (if 512 ≤ P.n then (tellP P ⟨k, 14, f 1, 0, false⟩, 135)
    else finP { P with n := P.n + 1, rs := updN P.rs P.n ⟨a, 0, r.rg⟩ } k r on ⟨k, 14, f 1, P.n, false⟩)
  else if f 0 = 15 then finP P k r on ⟨k, 15, f 1, r.rg b, false⟩
  else if f 0 = 5 then
    (if P.cl a then (tellP P ⟨k, 5, f 1, r.rg b, false⟩, 131)
    else finP { P with held := updN P.held a (P.held a ++ [r.rg b]) } k r on ⟨k, 5, f 1, r.rg b, false⟩)
  else if f 0 = 6 then
    (match P.held a with
    | [] => finP P k r (f 3).toNat ⟨k, 6, f 1, 0, true⟩
    | x :: l => finP { P with held := updN P.held a l } k (setReg r b x) on ⟨k, 6, f 1, x, false⟩)
  else if f 0 = 7 then
    (if P.cl a then (tellP P ⟨k, 7, f 1, 0, false⟩, 132)
    else finP { P with cl := updN P.cl a true } k r on ⟨k, 7, f 1, 0, false⟩)
  else if f 0 = 8 then finP { P with lk := updI P.lk (f 1) true } k r on ⟨k, 8, f 1, 0, false⟩
  else if f 0 = 9 then
    (if P.lk (f 1) then finP { P with lk := updI P.lk (f 1) false } k r on ⟨k, 9, f 1, 0, false⟩
    else (tellP P ⟨k, 9, f 1, 0, false⟩, 133))
  else if f 0 = 10 then
    (if IntKind.i64.wrap (P.gr (f 1) + f 2) < 0 then (tellP P ⟨k, 10, f 1, IntKind.i64.wrap (P.gr (f 1) + f 2), false⟩, 134)
    else finP { P with gr := updI P.gr (f 1) (IntKind.i64.wrap (P.gr (f 1) + f 2)) } k r on ⟨k, 10, f 1, IntKind.i64.wrap (P.gr (f 1) + f 2), false⟩)
  else finP P k r on ⟨k, f 0, f 1, 0, false⟩
def begunP : PW := ⟨1, fun _ => ⟨0, 0, fun _ => 0⟩, fun _ => [], fun _ => false, fun _ => false, fun _ => 0, fun _ => 0, []⟩
/-- Which of n ready ones the pick of step t means. -/
def pickP (picks : List Int) (t n : Nat) : Nat := match picks[t]? with | some x => (x % (n : Int)).toNat | none => 0
/-- How a run ended (1 done, 2 stuck, 3 fault, 4 steps), the fault, the world. -/
structure RunP where
  fin : Int
  fault : Int
  P : PW
def runP (S : Sys) (picks : List Int) : Nat → Nat → PW → RunP
  | 0, _, P => ⟨4, 0, P⟩
  | fuel + 1, t, P =>
    if endedN S P P.n then ⟨1, 0, P⟩
    else if 40000 ≤ t then ⟨4, 0, P⟩
    else if readyN S P P.n = [] then ⟨2, 0, P⟩
    else
      let k := (readyN S P P.n).getD (pickP picks t (readyN S P P.n).length) 0
      match instP S (P.rs k) with
      | none => ⟨4, 0, P⟩
      | some f => if (stepP S P k f).2 = 0 then runP S picks fuel (t + 1) (stepP S P k f).1 else ⟨3, (stepP S P k f).2, (stepP S P k f).1⟩
def playP (S : Sys) (picks : List Int) : RunP := runP S picks 40001 0 begunP
def Tells (P : PW) (x : PW × Int) : Prop := ∃ e, x.1.ev = P.ev ++ [e]
theorem tells_ite {P : PW} {c : Prop} [Decidable c] {x y : PW × Int} (h1 : Tells P x) (h2 : Tells P y) : Tells P (if c then x else y) := by split <;> assumption
/-- Each step tells one event. -/
theorem stepP_ev (S : Sys) (P : PW) (k : Nat) (f : Nat → Int) : ∃ e, (stepP S P k f).1.ev = P.ev ++ [e] := by
  show Tells P (stepP S P k f)
  unfold stepP
  simp only []
  repeat' (refine tells_ite ?_ ?_)
  all_goals first
    | exact ⟨_, rfl⟩
    | (cases P.held (f 1).toNat <;> exact ⟨_, rfl⟩)
theorem pickP_lt (picks : List Int) (t n : Nat) (hn : 0 < n) : pickP picks t n < n := by
  unfold pickP
  split
  · rename_i x _
    have h1 := Int.emod_nonneg x (b := (n : Int)) (by omega)
    have h2 := Int.emod_lt_of_pos x (b := (n : Int)) (by omega)
    omega
  · exact hn
theorem readyN_mem (S : Sys) (P : PW) : ∀ m k, k ∈ readyN S P m → k < m ∧ ∃ f, instP S (P.rs k) = some f ∧ canP S P f = true
  | 0, k, h => by simp [readyN] at h
  | m + 1, k, h => by
    simp only [readyN, List.mem_append] at h
    rcases h with h | h
    · have := readyN_mem S P m k h
      exact ⟨by omega, this.2⟩
    · split at h
      · rename_i f hf
        split at h
        · rename_i hc
          obtain rfl : k = m := by simpa using h
          exact ⟨by omega, f, hf, hc⟩
        · simp at h
      · simp at h
theorem picked (S : Sys) (P : PW) (picks : List Int) (t : Nat) (h : readyN S P P.n ≠ []) : (readyN S P P.n).getD (pickP picks t (readyN S P P.n).length) 0 < P.n ∧ ∃ f, instP S (P.rs ((readyN S P P.n).getD (pickP picks t (readyN S P P.n).length) 0)) = some f ∧ canP S P f = true := by
  have hn : 0 < (readyN S P P.n).length := List.length_pos_iff.2 h
  have hl := pickP_lt picks t _ hn
  refine readyN_mem S P P.n _ ?_
  rw [List.getD_eq_getElem?_getD, List.getElem?_eq_getElem hl]
  exact List.getElem_mem hl
theorem readyN_length (S : Sys) (P : PW) : ∀ m, (readyN S P m).length ≤ m
  | 0 => by simp [readyN]
  | m + 1 => by
    have := readyN_length S P m
    simp only [readyN, List.length_append]
    split
    · split <;> simp <;> omega
    · simp; omega
end Go.Proofs.Ytakmcpadkanggaa
namespace Go.Proofs.Ytakmcpadkanggaa
open Go.RowKit
/-- Every runner runs a program that is. -/
def RInv (S : Sys) (P : PW) : Prop := ∀ k, k < P.n → (P.rs k).prog < S.np
def RInvX (S : Sys) (x : PW × Int) : Prop := RInv S x.1
theorem rinv_ite {S : Sys} {c : Prop} [Decidable c] {x y : PW × Int} (h1 : c → RInvX S x) (h2 : ¬ c → RInvX S y) : RInvX S (if c then x else y) := by
  by_cases h : c
  · rw [if_pos h]; exact h1 h
  · rw [if_neg h]; exact h2 h
theorem RInv.fin {S : Sys} {P : PW} (h : RInv S P) {k : Nat} {r : Rn} {on : Nat} {e : Ev} (hr : k < P.n → r.prog < S.np) : RInvX S (finP P k r on e) := by
  intro j hj
  have hj' : j < P.n := hj
  show ((if j = k then { r with pos := on } else P.rs j) : Rn).prog < S.np
  by_cases hjk : j = k
  · subst hjk; rw [if_pos rfl]; exact hr hj'
  · rw [if_neg hjk]; exact h j hj'
/-- What an instruction that may be has in its fields. -/
theorem right_of {S : Sys} (hv : validB S = true) {r : Rn} (hr : r.prog < S.np) {f : Nat → Int} (hf : instP S r = some f) : rightS S r.prog f = true := by
  unfold instP at hf
  split at hf
  · rename_i hp
    injection hf with hf
    subst hf
    exact (((validB_iff S).1 hv).2.2 r.prog hr).2 r.pos hp
  · cases hf
theorem right_lock {S : Sys} {p : Nat} {f : Nat → Int} (h : rightS S p f = true) (ho : f 0 = 8 ∨ f 0 = 9) : 0 ≤ f 1 ∧ f 1 < S.lk := by
  unfold rightS at h
  rcases ho with ho | ho <;> rw [ho] at h <;> simp [kd, kdL, mayS, bnd, opOk] at h <;> omega
theorem right_group {S : Sys} {p : Nat} {f : Nat → Int} (h : rightS S p f = true) (ho : f 0 = 10 ∨ f 0 = 11) : 0 ≤ f 1 ∧ f 1 < S.gr := by
  unfold rightS at h
  rcases ho with ho | ho <;> rw [ho] at h <;> simp [kd, kdL, mayS, bnd, opOk] at h <;> omega
theorem right_start {S : Sys} {p : Nat} {f : Nat → Int} (h : rightS S p f = true) (ho : f 0 = 14) : 0 ≤ f 1 ∧ f 1 < S.np := by
  unfold rightS at h
  rw [ho] at h; simp [kd, kdL, mayS, bnd, opOk] at h; omega
theorem right_room {S : Sys} {p : Nat} {f : Nat → Int} (h : rightS S p f = true) (ho : f 0 = 5 ∨ f 0 = 6 ∨ f 0 = 7) : 0 ≤ f 1 ∧ f 1 < S.nr := by
  unfold rightS at h
  rcases ho with ho | ho | ho <;> rw [ho] at h <;> simp [kd, kdL, mayS, bnd, opOk] at h <;> omega
theorem stepP_rinv (S : Sys) (P : PW) (k : Nat) (f : Nat → Int) (h : RInv S P) (hk : k < P.n) (hr : rightS S (P.rs k).prog f = true) : RInv S (stepP S P k f).1 := by
  show RInvX S (stepP S P k f)
  have hp := h k hk
  unfold stepP
  simp only []
  repeat' (refine rinv_ite (fun _ => ?_) (fun _ => ?_))
  all_goals first
    | (refine RInv.fin ?_ (fun _ => hp); exact h)
    | exact h
    | (cases P.held (f 1).toNat <;> (refine RInv.fin ?_ (fun _ => hp); exact h))
    | skip
  have h14 : f 0 = 14 := by assumption
  have hs := right_start hr h14
  refine RInv.fin (P := { P with n := P.n + 1, rs := updN P.rs P.n ⟨(f 1).toNat, 0, (P.rs k).rg⟩ }) (fun j hj => ?_) (fun _ => hp)
  have hj' : j < P.n + 1 := hj
  show (updN P.rs P.n ⟨(f 1).toNat, 0, (P.rs k).rg⟩ j).prog < S.np
  unfold updN
  by_cases hjn : j = P.n
  · rw [if_pos hjn]; show (f 1).toNat < S.np; omega
  · rw [if_neg hjn]; exact h j (by omega)
end Go.Proofs.Ytakmcpadkanggaa
namespace Go.Proofs.Ytakmcpadkanggaa
open Go.RowKit Go.Maps Go.Deep
/-- v is a slice of these numbers, in a block of its own (from block base on), maybe behind others that were taken. -/
def HRow (base : Nat) (W : World) (v : Value) (xs : List Int) : Prop :=
  (v = .slice none 0 0 ∧ xs = []) ∨ ∃ g off cap cur, v = .slice (some ⟨g, off, none⟩) xs.length cap ∧ base ≤ g ∧ Blk W g 3 cur ∧ xs.length ≤ cap ∧ cap ≤ maxLen ∧ off + cap ≤ cur.size ∧ ∀ j, j < xs.length → cur[off + j]? = some (.int .i64 (xs.getD j 0))
theorem HRow.nil (base : Nat) (W : World) : HRow base W (.slice none 0 0) [] := .inl ⟨rfl, rfl⟩
theorem HRow.own {base : Nat} {W : World} {v : Value} {xs : List Int} (h : HRow base W v xs) {g : Nat} (hg : v.ownBlock = some g) : base ≤ g ∧ ∃ cur, Blk W g 3 cur := by
  rcases h with ⟨rfl, _⟩ | ⟨g', off, cap, cur, rfl, hb, hB, _⟩
  · cases hg
  · simp [Value.ownBlock] at hg
    subst hg
    exact ⟨hb, cur, hB⟩
theorem HRow.keeps {base : Nat} {W u : World} {v : Value} {xs : List Int} {S : List Nat} (h : HRow base W v xs) (k : Keeps W u S) (hS : ∀ g, v.ownBlock = some g → g ∉ S) : HRow base u v xs := by
  rcases h with h | ⟨g, off, cap, cur, rfl, hb, hB, rest⟩
  · exact .inl h
  · exact .inr ⟨g, off, cap, cur, rfl, hb, hB.keeps k (hS g rfl), rest⟩
theorem HRow.cells {base : Nat} {W : World} {v : Value} {xs : List Int} (h : HRow base W v xs) : ∃ A c, v = .slice A xs.length c ∧ xs.length ≤ c ∧ c ≤ maxLen ∧ (0 < xs.length → ∃ ad, A = some ad ∧ ∀ j, j < xs.length → W.cell? (ad.add j) = some (.int .i64 (xs.getD j 0))) := by
  rcases h with ⟨rfl, rfl⟩ | ⟨g, off, cap, cur, rfl, hb, hB, h1, h2, h3, h4⟩
  · exact ⟨none, 0, rfl, Nat.le_refl _, by simp [maxLen], fun h => by simp at h⟩
  · exact ⟨_, cap, rfl, h1, h2, fun _ => ⟨_, rfl, fun j hj => by rw [Addr.add_mid, hB.cell]; exact h4 j hj⟩⟩
/-- Behind 's[1:]'. -/
theorem HRow.pop {base : Nat} {W : World} {x : Int} {xs : List Int} {A : Option Addr} {n c : Nat} (h : HRow base W (.slice A n c) (x :: xs)) : HRow base W (.slice (if c = 1 then A else A.map (·.add 1)) (n - 1) (c - 1)) xs := by
  rcases h with ⟨h, h'⟩ | ⟨g, off, cap, cur, h, hb, hB, h1, h2, h3, h4⟩
  · cases h'
  · injection h with e1 e2 e3
    subst e1 e2 e3
    simp only [List.length_cons] at h1 h4 ⊢
    right
    by_cases hc : c = 1
    · rw [if_pos hc]
      have hx : xs = [] := List.eq_nil_of_length_eq_zero (by omega)
      subst hx
      exact ⟨g, off, c - 1, cur, by simp, hb, hB, by simp, by omega, by omega, fun j hj => by simp at hj⟩
    · rw [if_neg hc]
      refine ⟨g, off + 1, c - 1, cur, by simp [Addr.add_mid], hb, hB, by omega, by omega, by omega, fun j hj => ?_⟩
      have := h4 (j + 1) (by omega)
      rw [show off + 1 + j = off + (j + 1) by omega, this]
      simp
section
variable {w : World}
/-- The row behind an append: the old block or a new one. -/
theorem append_fresh {P : Program} (base t ty e : Nat) (i : TypeInfo) (z : Value) (size bytes : Nat) (ht : P.underlying t = some (.slice e)) (hi : P.info? e = some i) (hz : i.zero = some z) (hsize : i.size = size) (hby : i.bytes = bytes)
    (v : Value) (n : Nat) (xs : List Value) (hown : w.ownsRow base e size v n xs) (a : Addr) (m c : Nat) (news : List Value) (hl : news.length = m * size) (hnews : ∀ j u, news[j]? = some u → w.cell? (a.add j) = some u) (h1 : ∀ u ∈ news, u.oneCell' = true)
    (h63 : n + m ≤ maxLen) (hbytes : (n + m) * bytes ≤ 140737488355328) (hm : 0 < m) {v' : Value} {w' : World} (hr : (Builtin.append_ #[t, t] ty #[v, .slice (some a) m c]).run P w = .ok v' w') : v'.ownBlock = v.ownBlock ∨ v'.ownBlock = some w.heap.size := by
  subst hsize
  subst hby
  obtain ⟨hxl, ⟨rfl, rfl⟩ | ⟨g, cap, cur, rfl, hbg, hg, hle, hcm, hcs, htake⟩⟩ := hown
  · have h := run_append_nil (P := P) w t ty e i z ht hi hz a m c news hl hnews hm (by simp only [maxLen] at h63; omega) (by have hb := hbytes; simp only [Nat.zero_add] at hb; omega)
    rw [hr] at h
    cases h
    exact .inr rfl
  · by_cases hroom : n + m ≤ cap
    · have hfit : n * i.size + news.length ≤ cur.size := by rw [hl, hcs, ← Nat.add_mul]; exact Nat.mul_le_mul_right _ hroom
      have h := run_append_room (P := P) w t ty e i ht hi g n cap cur hg a m c news hl hnews h1 hroom hfit
      rw [hr] at h
      cases h
      exact .inl rfl
    · have hown' : w.ownsRow base e i.size (.slice (some ⟨g, 0, none⟩) n cap) n xs := ⟨hxl, .inr ⟨g, cap, cur, rfl, hbg, hg, hle, hcm, hcs, htake⟩⟩
      have holds : ∀ j u, xs[j]? = some u → w.cell? ((⟨g, 0, none⟩ : Addr).add j) = some u := hown'.cells (g := g) rfl
      have h := run_append_grow (P := P) w t ty e i z ht hi hz ⟨g, 0, none⟩ n cap xs hxl holds a m c news hl hnews (by omega) (by simp only [maxLen] at h63; omega) (growslice_fits (by omega) hbytes)
      rw [hr] at h
      cases h
      exact .inr rfl
/-- 'append(s, y)'. -/
theorem run_push (base : Nat) (ty : TypeId) (v : Value) (xs : List Int) (h : HRow base w v xs) (ad : Addr) (c : Nat) (y : Int) (hy : w.cell? ad = some (.int .i64 y)) (hb : base ≤ w.heap.size) (hn : xs.length ≤ 1000000) :
    ∃ v' w', (Builtin.append_ #[25, 25] ty #[v, .slice (some ad) 1 c]).run Try.prog w = .ok v' w' ∧ HRow base w' v' (xs ++ [y]) ∧ w.grownBy w' v.ownBlock ∧ (v'.ownBlock = v.ownBlock ∨ v'.ownBlock = some w.heap.size) := by
  obtain ⟨i, hi, hz, hsz, hby⟩ := info3
  have hnews : ∀ j u, [Value.int .i64 y][j]? = some u → w.cell? (ad.add j) = some u := fun j u hu => by
    match j with
    | 0 => simp at hu; subst hu; exact hy
    | j + 1 => simp at hu
  have h1 : ∀ u ∈ [Value.int .i64 y], u.oneCell' = true := fun u hu => by rw [List.mem_singleton] at hu; subst hu; rfl
  rcases h with ⟨rfl, rfl⟩ | ⟨g, off, cap, cur, rfl, hbg, hB, hnc, hcm, hfit, hc⟩
  · obtain ⟨v', w', hr, ho, hg, _⟩ := run_append_own (P := Try.prog) w base 25 ty 3 i (.int .i64 0) 1 8 Try.underlying25 hi hz hsz hby rfl (by decide) (.slice none 0 0) 0 [] (World.ownsRow_nil _ _ _ _) ad 1 c [.int .i64 y] rfl hnews h1 (by simp [maxLen]) (by omega) hb
    refine ⟨v', w', hr, ?_, hg, append_fresh base 25 ty 3 i (.int .i64 0) 1 8 Try.underlying25 hi hz hsz hby (.slice none 0 0) 0 [] (World.ownsRow_nil _ _ _ _) ad 1 c [.int .i64 y] rfl hnews h1 (by simp [maxLen]) (by omega) (by omega) hr⟩
    obtain ⟨_, ⟨_, h0⟩ | ⟨g, cap, cur, rfl, hbg, hB, hle, hm, hs, ht⟩⟩ := ho
    · cases h0
    · refine .inr ⟨g, 0, cap, cur, rfl, hbg, hB, hle, hm, by omega, fun j hj => ?_⟩
      have hj0 : j = 0 := by simpa using hj
      subst hj0
      have := congrArg (fun l => l[0]?) ht
      simpa [List.getElem?_take] using this
  · by_cases hroom : xs.length + 1 ≤ cap
    · have hf := run_firstCells_some (P := Try.prog) w 1 1 ad 1 c [.int .i64 y] rfl hnews
      have hst := run_storeCells_at Try.prog g (off + xs.length) 3 [.int .i64 y] 0 cur w hB (by simp; omega) h1
      simp only [Nat.add_zero] at hst
      have hr : (Builtin.append_ #[25, 25] ty #[.slice (some ⟨g, off, none⟩) xs.length cap, .slice (some ad) 1 c]).run Try.prog w = .ok (.slice (some ⟨g, off, none⟩) (xs.length + 1) cap) (w.setRow g (cur.toList.take (off + xs.length) ++ [Value.int .i64 y] ++ cur.toList.drop (off + xs.length + [Value.int IntKind.i64 y].length)).toArray) := by
        simp [Builtin.append_, run_underlying Try.underlying25, sizeOf, typeInfo, hi, hsz, Builtin.lenOf, hroom, hf, Addr.add_mid, hst]
      refine ⟨_, _, hr, .inr ⟨g, off, cap, _, by simp, hbg, setRow_heap w g cur _ 3 _ hB, by simpa using hroom, hcm, ?_, fun j hj => ?_⟩, ⟨rfl, rfl, rfl, by simp, fun k _ hk => setRow_other w g k _ (fun e => hk (by simp [Value.ownBlock, e]))⟩, .inl rfl⟩
      · simp; omega
      · simp only [List.length_append, List.length_singleton] at hj
        have hsz2 : off + xs.length ≤ cur.toList.length := by simp; omega
        rw [List.getElem?_toArray, List.append_assoc]
        by_cases hj' : j < xs.length
        · rw [List.getElem?_append_left (by rw [List.length_take]; omega), List.getElem?_take, if_pos (by omega), Array.getElem?_toList, hc j hj']
          rw [List.getD_eq_getElem?_getD, List.getD_eq_getElem?_getD, List.getElem?_append_left hj']
        · obtain rfl : j = xs.length := by omega
          rw [List.getElem?_append_right (by rw [List.length_take]; omega), List.length_take, Nat.min_eq_left hsz2]
          simp
    · have holds : ∀ j u, (xs.map fun x => Value.int .i64 x)[j]? = some u → w.cell? ((⟨g, off, none⟩ : Addr).add j) = some u := fun j u hu => by
        rw [List.getElem?_map] at hu
        rcases Nat.lt_or_ge j xs.length with hj | hj
        · rw [Addr.add_mid, hB.cell, hc j hj]
          rw [List.getElem?_eq_getElem hj] at hu
          rw [← hu, List.getD_eq_getElem?_getD, List.getElem?_eq_getElem hj]
          rfl
        · rw [List.getElem?_eq_none hj] at hu
          cases hu
      have hr := run_append_grow (P := Try.prog) w 25 ty 3 i (.int .i64 0) Try.underlying25 hi hz ⟨g, off, none⟩ xs.length cap (xs.map fun x => .int .i64 x) (by rw [hsz]; simp) holds ad 1 c [.int .i64 y] (by rw [hsz]; rfl) hnews (by omega) (by omega) (growslice_fits (by omega) (by rw [hby]; omega))
      have hge := grownCap_ge w (xs.length + 1) cap 3
      have hcm2 : grownCap w (xs.length + 1) cap 3 ≤ maxLen := grownCap_le_maxLen w (xs.length + 1) cap 3 (by simp only [maxLen]; omega)
      refine ⟨_, _, hr, .inr ⟨w.heap.size, 0, _, _, by simp, hb, heap_alloc_new w.drew _, by simpa using hge, hcm2, ?_, fun j hj => ?_⟩, ⟨rfl, rfl, rfl, by simp, fun k hk _ => heap_alloc_old w.drew _ hk⟩, .inr rfl⟩
      · have z1 : (Value.int .i64 0).cells.size = 1 := rfl
        simp only [Array.size_append, List.size_toArray, size_zeroCells, z1, List.length_map, List.length_singleton]
        omega
      · simp only [List.length_append, List.length_singleton] at hj
        rw [Nat.zero_add, Array.getElem?_append_left (by simp; omega)]
        by_cases hj' : j < xs.length
        · rw [Array.getElem?_append_left (by simpa using hj'), List.getElem?_toArray, List.getElem?_map, List.getD_eq_getElem?_getD, List.getElem?_append_left hj', List.getElem?_eq_getElem hj']
          rfl
        · obtain rfl : j = xs.length := by omega
          rw [Array.getElem?_append_right (by simp)]
          simp
end
end Go.Proofs.Ytakmcpadkanggaa
namespace Go.Proofs.Ytakmcpadkanggaa
open Go.RowKit Go.Maps Go.Deep
def rnC (r : Rn) : Array Value := #[.int .i64 r.prog, .int .i64 r.pos, .int .i64 (r.rg 0), .int .i64 (r.rg 1), .int .i64 (r.rg 2), .int .i64 (r.rg 3), .int .i64 (r.rg 4), .int .i64 (r.rg 5), .int .i64 (r.rg 6), .int .i64 (r.rg 7)]
theorem rnC_reg (r : Rn) (a : Nat) (h : a < 8) : (rnC r)[2 + a]? = some (.int .i64 (r.rg a)) := by
  match a, h with
  | 0, _ => rfl
  | 1, _ => rfl
  | 2, _ => rfl
  | 3, _ => rfl
  | 4, _ => rfl
  | 5, _ => rfl
  | 6, _ => rfl
  | 7, _ => rfl
theorem rnC_cell (r : Rn) : ∀ v ∈ (rnC r).toList, v.oneCell' = true := by
  intro v hv
  simp [rnC] at hv
  rcases hv with rfl | rfl | rfl | rfl | rfl | rfl | rfl | rfl | rfl | rfl <;> rfl
/-- A row of runners. -/
def WhoC (cur : Array Value) (n : Nat) (rs : Nat → Rn) : Prop := ∀ k, k < n → ∀ f, f < 10 → cur[k * 10 + f]? = (rnC (rs k))[f]?
theorem WhoC.prog {cur : Array Value} {n : Nat} {rs : Nat → Rn} (h : WhoC cur n rs) {k : Nat} (hk : k < n) : cur[k * 10]? = some (.int .i64 (rs k).prog) := h k hk 0 (by omega)
theorem WhoC.pos {cur : Array Value} {n : Nat} {rs : Nat → Rn} (h : WhoC cur n rs) {k : Nat} (hk : k < n) : cur[k * 10 + 1]? = some (.int .i64 (rs k).pos) := h k hk 1 (by omega)
theorem WhoC.reg {cur : Array Value} {n : Nat} {rs : Nat → Rn} (h : WhoC cur n rs) {k a : Nat} (hk : k < n) (ha : a < 8) : cur[k * 10 + 2 + a]? = some (.int .i64 ((rs k).rg a)) := by
  rw [Nat.add_assoc, h k hk (2 + a) (by omega), rnC_reg _ _ ha]
theorem WhoC.lt {cur : Array Value} {n : Nat} {rs : Nat → Rn} (h : WhoC cur n rs) {k f : Nat} (hk : k < n) (hf : f < 10) : k * 10 + f < cur.size := by
  have h1 := h k hk f hf
  rcases Nat.lt_or_ge (k * 10 + f) cur.size with h2 | h2
  · exact h2
  · rw [Array.getElem?_eq_none h2] at h1
    have : f < (rnC (rs k)).size := by show f < 10; omega
    rw [Array.getElem?_eq_getElem this] at h1
    cases h1
theorem WhoC.set_pos {cur : Array Value} {n : Nat} {rs : Nat → Rn} (h : WhoC cur n rs) {k on : Nat} (hk : k < n) : WhoC (cur.setIfInBounds (k * 10 + 1) (.int .i64 (on : Int))) n (fun j => if j = k then { rs k with pos := on } else rs j) := by
  intro j hj f hf
  show _ = (rnC (if j = k then { rs k with pos := on } else rs j))[f]?
  rw [Array.getElem?_setIfInBounds]
  have hl := h.lt hk (f := 1) (by omega)
  by_cases e : k * 10 + 1 = j * 10 + f
  · obtain rfl : j = k := by omega
    obtain rfl : f = 1 := by omega
    rw [if_pos e, if_pos hl, if_pos rfl]
    rfl
  · rw [if_neg e, h j hj f hf]
    by_cases hjk : j = k
    · subst hjk
      rw [if_pos rfl]
      match f, hf with
      | 0, _ => rfl
      | 1, _ => omega
      | 2, _ => rfl
      | 3, _ => rfl
      | 4, _ => rfl
      | 5, _ => rfl
      | 6, _ => rfl
      | 7, _ => rfl
      | 8, _ => rfl
      | 9, _ => rfl
    · rw [if_neg hjk]
theorem WhoC.set_reg {cur : Array Value} {n : Nat} {rs : Nat → Rn} (h : WhoC cur n rs) {k a : Nat} (v : Int) (hk : k < n) (ha : a < 8) : WhoC (cur.setIfInBounds (k * 10 + 2 + a) (.int .i64 v)) n (fun j => if j = k then setReg (rs k) a v else rs j) := by
  intro j hj f hf
  show _ = (rnC (if j = k then setReg (rs k) a v else rs j))[f]?
  rw [Array.getElem?_setIfInBounds]
  have hl := h.lt hk (f := 2 + a) (by omega)
  by_cases e : k * 10 + 2 + a = j * 10 + f
  · obtain rfl : j = k := by omega
    obtain rfl : f = 2 + a := by omega
    rw [if_pos e, if_pos (by omega), if_pos rfl, rnC_reg _ _ ha]
    simp [setReg]
  · rw [if_neg e, h j hj f hf]
    by_cases hjk : j = k
    · subst hjk
      rw [if_pos rfl]
      rcases Nat.lt_or_ge f 2 with h2 | h2
      · match f, h2 with
        | 0, _ => rfl
        | 1, _ => rfl
      · obtain ⟨b, rfl⟩ : ∃ b, f = 2 + b := ⟨f - 2, by omega⟩
        rw [rnC_reg _ _ (by omega), rnC_reg _ _ (by omega)]
        simp [setReg, show ¬ b = a by omega]
    · rw [if_neg hjk]
/-- The flat cells of n runners. -/
def whoL (rs : Nat → Rn) (n : Nat) : List Value := (List.range (n * 10)).map fun i => (rnC (rs (i / 10))).getD (i % 10) undef
theorem rnC_getD (r : Rn) (j : Nat) (h : j < 10) : (rnC r)[j]? = some ((rnC r).getD j undef) := by
  have h' : j < (rnC r).size := h
  simp [h']
theorem whoL_get (rs : Nat → Rn) (n i j : Nat) (hi : i < n) (hj : j < 10) : (whoL rs n)[i * 10 + j]? = (rnC (rs i))[j]? := by
  rw [rnC_getD _ _ hj]
  have h : i * 10 + j < n * 10 := by omega
  simp [whoL, h, show (i * 10 + j) / 10 = i by omega, show (i * 10 + j) % 10 = j by omega]
theorem whoL_length (rs : Nat → Rn) (n : Nat) : (whoL rs n).length = n * 10 := by simp [whoL]
theorem whoL_snoc (rs : Nat → Rn) (n : Nat) (r : Rn) : whoL rs n ++ (rnC r).toList = whoL (updN rs n r) (n + 1) := by
  have hs : (rnC r).toList.length = 10 := rfl
  apply List.ext_getElem?
  intro i
  rcases Nat.lt_or_ge i (n * 10) with hi | hi
  · rw [List.getElem?_append_left (by rw [whoL_length]; exact hi)]
    have e : i = (i / 10) * 10 + i % 10 := by omega
    rw [e, whoL_get _ _ _ _ (by omega) (by omega), whoL_get _ _ _ _ (by omega) (by omega)]
    unfold updN
    rw [if_neg (by omega)]
  · rw [List.getElem?_append_right (by rw [whoL_length]; exact hi), whoL_length]
    rcases Nat.lt_or_ge i ((n + 1) * 10) with h2 | h2
    · obtain ⟨f, rfl⟩ : ∃ f, i = n * 10 + f := ⟨i - n * 10, by omega⟩
      rw [show n * 10 + f - n * 10 = f by omega, whoL_get _ _ _ _ (by omega) (by omega), Array.getElem?_toList]
      simp [updN]
    · rw [List.getElem?_eq_none (by rw [hs]; omega), List.getElem?_eq_none (by rw [whoL_length]; omega)]
theorem WhoC.take {cur : Array Value} {n : Nat} {rs : Nat → Rn} (h : WhoC cur n rs) (_hs : n * 10 ≤ cur.size) : cur.toList.take (n * 10) = whoL rs n := by
  apply List.ext_getElem?
  intro i
  rcases Nat.lt_or_ge i (n * 10) with hi | hi
  · have e : i = (i / 10) * 10 + i % 10 := by omega
    rw [List.getElem?_take, if_pos hi, Array.getElem?_toList]
    rw [e, whoL_get _ _ _ _ (by omega) (by omega), h _ (by omega) _ (by omega)]
  · rw [List.getElem?_eq_none (by rw [List.length_take]; omega), List.getElem?_eq_none (by rw [whoL_length]; omega)]
theorem WhoC.of_take {cur : Array Value} {n : Nat} {rs : Nat → Rn} (h : cur.toList.take (n * 10) = whoL rs n) : WhoC cur n rs := by
  intro k hk f hf
  have h1 := congrArg (fun l => l[k * 10 + f]?) h
  simp only [List.getElem?_take] at h1
  rw [if_pos (by omega), Array.getElem?_toList, whoL_get _ _ _ _ hk hf] at h1
  exact h1
/-- The channels. -/
def pipesA (n : Nat) (hv : Nat → Value) (cl : Nat → Bool) : Array Value := (Array.range (n * 2)).map fun i => if i % 2 = 0 then hv (i / 2) else .bool (cl (i / 2))
@[go_sem] theorem pipesA_size (n : Nat) (hv : Nat → Value) (cl : Nat → Bool) : (pipesA n hv cl).size = n * 2 := by simp [pipesA]
theorem pipesA_hv (n : Nat) (hv : Nat → Value) (cl : Nat → Bool) (c : Nat) (h : c < n) : (pipesA n hv cl)[c * 2]? = some (hv c) := by
  have : c * 2 < n * 2 := by omega
  simp [pipesA, this]
theorem pipesA_cl (n : Nat) (hv : Nat → Value) (cl : Nat → Bool) (c : Nat) (h : c < n) : (pipesA n hv cl)[c * 2 + 1]? = some (.bool (cl c)) := by
  have h1 : c * 2 + 1 < n * 2 := by omega
  have h2 : (c * 2 + 1) / 2 = c := by omega
  have h3 : (c * 2 + 1) % 2 = 1 := by omega
  simp [pipesA, h1, h2, h3]
theorem pipesA_other (n : Nat) (hv : Nat → Value) (cl : Nat → Bool) (i : Nat) : (pipesA n hv cl)[i]? = if i < n * 2 then some (if i % 2 = 0 then hv (i / 2) else .bool (cl (i / 2))) else none := by
  by_cases h : i < n * 2 <;> simp [pipesA, h]
theorem pipesA_setH (n : Nat) (hv : Nat → Value) (cl : Nat → Bool) (c : Nat) (v : Value) : (pipesA n hv cl).setIfInBounds (c * 2) v = pipesA n (updN hv c v) cl := by
  apply Array.ext_getElem?
  intro i
  rw [Array.getElem?_setIfInBounds, pipesA_other, pipesA_other, pipesA_size]
  by_cases e : c * 2 = i
  · subst e
    rw [if_pos rfl]
    by_cases h : c * 2 < n * 2
    · simp [updN, h]
    · simp [h]
  · rw [if_neg e]
    by_cases h : i < n * 2
    · rw [if_pos h, if_pos h]
      by_cases h2 : i % 2 = 0
      · rw [if_pos h2, if_pos h2]
        unfold updN
        rw [if_neg (by omega)]
      · rw [if_neg h2, if_neg h2]
    · rw [if_neg h, if_neg h]
theorem pipesA_setC (n : Nat) (hv : Nat → Value) (cl : Nat → Bool) (c : Nat) (b : Bool) : (pipesA n hv cl).setIfInBounds (c * 2 + 1) (.bool b) = pipesA n hv (updN cl c b) := by
  apply Array.ext_getElem?
  intro i
  rw [Array.getElem?_setIfInBounds, pipesA_other, pipesA_other, pipesA_size]
  by_cases e : c * 2 + 1 = i
  · subst e
    rw [if_pos rfl]
    by_cases h : c * 2 + 1 < n * 2
    · rw [if_pos h, if_pos h, if_neg (by omega)]
      unfold updN
      rw [if_pos (by omega)]
    · rw [if_neg h, if_neg h]
  · rw [if_neg e]
    by_cases h : i < n * 2
    · rw [if_pos h, if_pos h]
      by_cases h2 : i % 2 = 0
      · rw [if_pos h2, if_pos h2]
      · rw [if_neg h2, if_neg h2]
        unfold updN
        rw [if_neg (by omega)]
    · rw [if_neg h, if_neg h]
def lE (E : List Ev) : Nat → Ev := fun i => E.getD i default
theorem evL_snoc (E : List Ev) (e : Ev) : evL (lE E) E.length ++ (evC e).toList = evL (lE (E ++ [e])) (E ++ [e]).length := by
  have hs : (evC e).toList.length = 5 := rfl
  apply List.ext_getElem?
  intro i
  simp only [List.length_append, List.length_singleton]
  rcases Nat.lt_or_ge i (E.length * 5) with hi | hi
  · rw [List.getElem?_append_left (by rw [evL_length]; exact hi)]
    have e' : i = (i / 5) * 5 + i % 5 := by omega
    rw [e', evL_get _ _ _ _ (by omega) (by omega), evL_get _ _ _ _ (by omega) (by omega)]
    unfold lE
    rw [List.getD_eq_getElem?_getD, List.getD_eq_getElem?_getD, List.getElem?_append_left (by omega)]
  · rw [List.getElem?_append_right (by rw [evL_length]; exact hi), evL_length]
    rcases Nat.lt_or_ge i ((E.length + 1) * 5) with h2 | h2
    · obtain ⟨f, rfl⟩ : ∃ f, i = E.length * 5 + f := ⟨i - E.length * 5, by omega⟩
      rw [show E.length * 5 + f - E.length * 5 = f by omega, evL_get _ _ _ _ (by omega) (by omega), Array.getElem?_toList]
      simp [lE]
    · rw [List.getElem?_eq_none (by rw [hs]; omega), List.getElem?_eq_none (by rw [evL_length]; omega)]
/-- What lies beside the known blocks: the events, the queues. -/
structure Rw where
  evs : Value
  E : List Ev
  nr : Nat
  hv : Nat → Value
  held : Nat → List Int
structure OM (w W : World) (L : List Ent) (r : Rw) : Prop where
  own : Own w W [] L
  evr : W.ownsRow w.heap.size 37 5 r.evs r.E.length (evL (lE r.E) r.E.length)
  hr : ∀ c, c < r.nr → HRow w.heap.size W (r.hv c) (r.held c)
  apE : ∀ q ∈ L, r.evs.ownBlock ≠ some q.1
  apH : ∀ c, c < r.nr → ∀ q ∈ L, (r.hv c).ownBlock ≠ some q.1
  apHH : ∀ c c', c < r.nr → c' < r.nr → c ≠ c' → ∀ g, (r.hv c).ownBlock = some g → (r.hv c').ownBlock ≠ some g
section
variable {w W W' : World} {L : List Ent} {r : Rw}
theorem OM.evs_lt (h : OM w W L r) {g : Nat} (hg : r.evs.ownBlock = some g) : g < W.heap.size := (h.evr.lt g hg).2
theorem OM.hv_lt (h : OM w W L r) {c g : Nat} (hc : c < r.nr) (hg : (r.hv c).ownBlock = some g) : g < W.heap.size := by
  obtain ⟨_, cur, hb⟩ := (h.hr c hc).own hg
  exact hb.lt
theorem ownsRow_keeps {base e size : Nat} {v : Value} {n : Nat} {xs : List Value} {S : List Nat} (h : W.ownsRow base e size v n xs) (k : Keeps W W' S) (hS : ∀ g, v.ownBlock = some g → g ∉ S) : W'.ownsRow base e size v n xs := by
  refine ⟨h.1, ?_⟩
  rcases h.2 with hn | ⟨g, cap, cur, rfl, hb, hgg, rest⟩
  · exact .inl hn
  · refine .inr ⟨g, cap, cur, rfl, hb, ?_, rest⟩
    rw [k.block g (Array.getElem?_eq_some_iff.1 hgg).1 (hS g rfl)]
    exact hgg
/-- The world goes on: only blocks of the list are written, or made. -/
theorem OM.step (h : OM w W L r) {S : List Nat} {L' : List Ent} (O : Own w W' [] L') (k : Keeps W W' S) (hS : ∀ g ∈ S, ∃ q ∈ L, q.1 = g) (hL : ∀ q ∈ L', (∃ p ∈ L, p.1 = q.1) ∨ W.heap.size ≤ q.1) : OM w W' L' r := by
  refine ⟨O, ownsRow_keeps h.evr k fun g hg hm => ?_, fun c hc => (h.hr c hc).keeps k fun g hg hm => ?_, fun q hq e => ?_, fun c hc q hq e => ?_, h.apHH⟩
  · obtain ⟨q, hq, rfl⟩ := hS g hm
    exact h.apE q hq hg
  · obtain ⟨q, hq, rfl⟩ := hS g hm
    exact h.apH c hc q hq hg
  · rcases hL q hq with ⟨p, hp, hpq⟩ | hge
    · exact h.apE p hp (by rw [hpq]; exact e)
    · have := h.evs_lt e
      omega
  · rcases hL q hq with ⟨p, hp, hpq⟩ | hge
    · exact h.apH c hc p hp (by rw [hpq]; exact e)
    · have := h.hv_lt hc e
      omega
theorem OM.keeps (h : OM w W L r) (k : Keeps W W' []) : OM w W' L r := h.step (h.own.keeps k) k (by simp) fun q hq => .inl ⟨q, hq, rfl⟩
theorem OM.add (h : OM w W L r) {t : TypeId} {cs : Array Value} (k : Keeps W W' []) (b : Blk W' W.heap.size t cs) : OM w W' ((W.heap.size, t, cs) :: L) r :=
  h.step (h.own.add k b) k (by simp) fun q hq => by
    rcases List.mem_cons.1 hq with rfl | hq
    · exact .inr (Nat.le_refl _)
    · exact .inl ⟨q, hq, rfl⟩
theorem OM.get (h : OM w W L r) (k : Nat) {g t : Nat} {cs : Array Value} (hk : L[k]? = some (g, t, cs)) : Blk W g t cs := h.own.get k hk
theorem OM.set (h : OM w W L r) (k : Nat) {g t : Nat} {cs cs' : Array Value} (hk : L[k]? = some (g, t, cs)) (hw : Keeps W W' [g]) (b : Blk W' g t cs') : OM w W' (L.set k (g, t, cs')) r := by
  refine h.step (h.own.set k hk hw b) hw (fun x hx => ?_) fun q hq => ?_
  · obtain rfl : x = g := by simpa using hx
    exact ⟨_, List.mem_of_getElem? hk, rfl⟩
  · rcases List.mem_or_eq_of_mem_set hq with hq | rfl
    · exact .inl ⟨q, hq, rfl⟩
    · exact .inl ⟨_, List.mem_of_getElem? hk, rfl⟩
theorem OM.put (h : OM w W L r) (k : Nat) {g t : Nat} {cs cs' : Array Value} (hk : L[k]? = some (g, t, cs)) (e : cs = cs') : OM w W (L.set k (g, t, cs')) r := by
  subst e
  exact h.set k hk (Keeps.refl _ _) (h.get k hk)
theorem OM.drop_ (h : OM w W L r) (n : Nat) : OM w W (L.drop n) r := h.step (h.own.drop_ n) (Keeps.refl _ []) (by simp) fun q hq => .inl ⟨q, List.mem_of_mem_drop hq, rfl⟩
end
section
variable {P : Program} {ops : Array Oper} {rest : List Oper} {o : Oper} {a : Act} {w W : World} {Q : Exit → Act → World → Prop} {L : List Ent} {r : Rw} {T ty : TypeId} {g : Nat} {t : TypeId} {cs cs' : Array Value} {x y z : Operand}
theorem om_alloc (d : Nat) (cs : Array Value) (M : OM w W L r) (_hd : o.dst = some d) (hgd : o.guard = none) (ho : o.op = .alloc T) (hz : ∀ w, (zeroValue T).run P w = .ok (.agg cs) w)
    (h : ∀ u g, OM w u ((g, T, cs) :: L) r → wpList P ops Q rest (a.put o.dst (.pointer (some ⟨g, 0, none⟩))) u) : wpList P ops Q (o :: rest) a W :=
  wpList_alloc d cs _hd hgd ho hz fun u k b _ => h u _ (M.add k b)
theorem om_alloc1 (d : Nat) (v : Value) (M : OM w W L r) (_hd : o.dst = some d) (hgd : o.guard = none) (ho : o.op = .alloc T) (hz : ∀ w, (zeroValue T).run P w = .ok v w) (hv : v.cells = #[v])
    (h : ∀ u g, OM w u ((g, T, #[v]) :: L) r → wpList P ops Q rest (a.put o.dst (.pointer (some ⟨g, 0, none⟩))) u) : wpList P ops Q (o :: rest) a W := by
  refine wpList_plain hgd fun K hK => ?_
  have hr : (Instr.alloc T true (.tuple #[])).run P W = .ok (.pointer (some ⟨W.heap.size, 0, none⟩)) (W.alloc (.cells #[v] T)) := by
    simp [Instr.alloc, hz W, newVar, newRow, hv]
  unfold Oper.wp execOp
  simp only [ho, Sem.run_bind, hr, Result.andThen_ok, Sem.run_pure]
  exact hK _ _ (h _ _ (M.add ((Keeps.refl _ _).alloc _) (Blk.new _ _ _)))
theorem om_box (d : Nat) (cs : Array Value) (M : OM w W L r) (_hd : o.dst = some d) (hgd : o.guard = none) (ho : o.op = .box T x) (hx : a.eval x = .agg cs)
    (h : ∀ u g, OM w u ((g, T, cs) :: L) r → wpList P ops Q rest (a.put o.dst (.pointer (some ⟨g, 0, none⟩))) u) : wpList P ops Q (o :: rest) a W :=
  wpList_box d cs _hd hgd ho hx fun u k b _ => h u _ (M.add k b)
theorem om_box1 (d : Nat) (v : Value) (M : OM w W L r) (_hd : o.dst = some d) (hgd : o.guard = none) (ho : o.op = .box T x) (hx : a.eval x = v) (hv : v.cells = #[v])
    (h : ∀ u g, OM w u ((g, T, #[v]) :: L) r → wpList P ops Q rest (a.put o.dst (.pointer (some ⟨g, 0, none⟩))) u) : wpList P ops Q (o :: rest) a W := by
  refine wpList_plain hgd fun K hK => ?_
  have hr : (Instr.box T v).run P W = .ok (.pointer (some ⟨W.heap.size, 0, none⟩)) (W.alloc (.cells #[v] T)) := by
    simp [Instr.box, newVar, newRow, hv]
  unfold Oper.wp execOp
  simp only [ho, hx, Sem.run_bind, hr, Result.andThen_ok, Sem.run_pure]
  exact hK _ _ (h _ _ (M.add ((Keeps.refl _ _).alloc _) (Blk.new _ _ _)))
theorem om_load (d k : Nat) (M : OM w W L r) (_hd : o.dst = some d) (hgd : o.guard = none) (ho : o.op = .load ty x) (hx : a.eval x = .pointer (some ⟨g, 0, none⟩)) (hk : L[k]? = some (g, t, cs)) {e : TypeDesc}
    (hu : P.underlying ty = some e) (he : (match e with | .struct _ | .array _ _ => true | _ => false) = true) (hi : (P.info? ty).map (·.size) = some cs.size)
    (h : wpList P ops Q rest (a.put o.dst (.agg cs)) W) : wpList P ops Q (o :: rest) a W := own_load d k M.own _hd hgd ho hx hk hu he hi h
theorem om_store_row (k : Nat) (y z : Operand) (M : OM w W L r) (hgd : o.guard = none) (hdst : o.dst = none) (ho : o.op = .store ty y z) (hy : a.eval y = .pointer (some ⟨g, 0, none⟩)) (hz : a.eval z = .agg cs') (hk : L[k]? = some (g, t, cs))
    (hi : (P.info? ty).map (·.size) = some cs'.size) (hs : cs.size = cs'.size) (h1 : ∀ v ∈ cs'.toList, v.oneCell' = true)
    (h : ∀ u, OM w u (L.set k (g, t, cs')) r → wpList P ops Q rest a u) : wpList P ops Q (o :: rest) a W :=
  wpList_store_row y z hgd hdst ho hy hz (M.get k hk) hi hs h1 fun u kp b => h u (M.set k hk kp b)
theorem om_store (k i : Nat) (v : Value) (y z : Operand) (M : OM w W L r) (hgd : o.guard = none) (hdst : o.dst = none) (ho : o.op = .store ty y z) (hy : a.eval y = .pointer (some ⟨g, i, none⟩)) (hz : a.eval z = v) (hk : L[k]? = some (g, t, cs))
    (hi : i < cs.size) (hx : v.cells = #[v]) (h1 : v.oneCell' = true) (hs : (P.info? ty).map (·.size) = some 1) (he : cs.setIfInBounds i v = cs')
    (h : ∀ u, OM w u (L.set k (g, t, cs')) r → wpList P ops Q rest a u) : wpList P ops Q (o :: rest) a W :=
  wpList_store_blk g i t cs v hgd hdst ho hy hz (M.get k hk) hi hx h1 hs fun u kp b => h u (M.set k hk kp (by rw [← he]; exact b))
end
theorem grown_keeps {w w' : World} {v : Value} (g : w.grownBy w' v.ownBlock) : Keeps w w' (v.ownBlock.toList) := ⟨g.os, g.tape, g.output, g.size, fun b hb' hn => g.block b hb' (by intro e; exact hn (by rw [← e]; simp))⟩
section
variable {w W W' : World} {L : List Ent} {r : Rw}
/-- One of the rows beside has grown. -/
theorem OM.own_grown (M : OM w W L r) {v : Value} (g : W.grownBy W' v.ownBlock) (hb : ∀ b, v.ownBlock = some b → w.heap.size ≤ b) (hap : ∀ q ∈ L, v.ownBlock ≠ some q.1) : Own w W' [] L := by
  have k := grown_keeps g
  refine ⟨M.own.keep.trans k fun b hb' hlt => ?_, fun q hq => (M.own.blk q hq).keeps k fun hm => ?_, M.own.new, M.own.nd⟩
  · have := hb b (by simpa using hb')
    omega
  · exact hap q hq (by simpa using hm)
theorem OM.tell (M : OM w W L r) {v' : Value} {e : Ev} (g : W.grownBy W' r.evs.ownBlock) (h : W'.ownsRow w.heap.size 37 5 v' (r.E.length + 1) (evL (lE r.E) r.E.length ++ (evC e).toList)) (hf : v'.ownBlock = r.evs.ownBlock ∨ v'.ownBlock = some W.heap.size) : OM w W' L { r with evs := v', E := r.E ++ [e] } := by
  have O := M.own_grown g (fun b hb => (M.evr.lt b hb).1) M.apE
  refine ⟨O, ?_, fun c hc => (M.hr c hc).keeps (grown_keeps g) fun b hb hm => ?_, fun q hq he => ?_, M.apH, M.apHH⟩
  · rw [evL_snoc] at h
    simpa using h
  · have hm' : r.evs.ownBlock = some b := by simpa using hm
    obtain ⟨_, cur, h1⟩ := (M.hr c hc).own hb
    rcases M.evr.2 with ⟨e0, _⟩ | ⟨g', cap, cur', e0, _, h2, _⟩
    · rw [e0] at hm'; cases hm'
    · rw [e0] at hm'
      simp [Value.ownBlock] at hm'
      subst hm'
      rw [Blk, h2] at h1
      cases h1
  · rcases hf with hf | hf
    · exact M.apE q hq (by rw [← hf]; exact he)
    · have h1 : some W.heap.size = some q.1 := by rw [← hf]; exact he
      have h2 := (M.own.blk q hq).lt
      simp only [Option.some.injEq] at h1
      omega
theorem updN_same {α : Type} (f : Nat → α) (i : Nat) (x : α) : updN f i x i = x := by simp [updN]
theorem updN_other {α : Type} (f : Nat → α) (i j : Nat) (x : α) (h : j ≠ i) : updN f i x j = f j := by simp [updN, h]
theorem OM.push (M : OM w W L r) {c : Nat} {v' : Value} {l : List Int} (hc : c < r.nr) (g : W.grownBy W' (r.hv c).ownBlock) (h : HRow w.heap.size W' v' l) (hf : v'.ownBlock = (r.hv c).ownBlock ∨ v'.ownBlock = some W.heap.size) : OM w W' L { r with hv := updN r.hv c v', held := updN r.held c l } := by
  have O := M.own_grown g (fun b hb => ((M.hr c hc).own hb).1) (M.apH c hc)
  have new : ∀ c', c' < r.nr → c' ≠ c → ∀ b, v'.ownBlock = some b → (r.hv c').ownBlock ≠ some b := fun c' hc' hne b hb he => by
    rcases hf with hf | hf
    · exact M.apHH c c' hc hc' (fun e => hne e.symm) b (by rw [← hf]; exact hb) he
    · have h1 : some W.heap.size = some b := by rw [← hf]; exact hb
      have h2 := M.hv_lt hc' he
      simp only [Option.some.injEq] at h1
      omega
  refine ⟨O, ownsRow_keeps M.evr (grown_keeps g) fun b hb hm => ?_, fun c' hc' => ?_, M.apE, fun c' hc' q hq he => ?_, fun c1 c2 h1 h2 hne b hb he => ?_⟩
  · have hm' : (r.hv c).ownBlock = some b := by simpa using hm
    obtain ⟨_, cur, h1⟩ := (M.hr c hc).own hm'
    rcases M.evr.2 with ⟨e0, _⟩ | ⟨g', cap, cur', e0, _, h2, _⟩
    · rw [e0] at hb; cases hb
    · rw [e0] at hb
      simp [Value.ownBlock] at hb
      subst hb
      rw [Blk, h2] at h1
      cases h1
  · show HRow w.heap.size W' (updN r.hv c v' c') (updN r.held c l c')
    by_cases e : c' = c
    · subst e
      rw [updN_same, updN_same]
      exact h
    · rw [updN_other _ _ _ _ e, updN_other _ _ _ _ e]
      exact (M.hr c' hc').keeps (grown_keeps g) fun b hb hm => M.apHH c' c hc' hc e b hb (by simpa using hm)
  · have he' : (updN r.hv c v' c').ownBlock = some q.1 := he
    by_cases e : c' = c
    · subst e
      rw [updN_same] at he'
      rcases hf with hf | hf
      · exact M.apH c' hc q hq (by rw [← hf]; exact he')
      · have h1 : some W.heap.size = some q.1 := by rw [← hf]; exact he'
        have h2 := (M.own.blk q hq).lt
        simp only [Option.some.injEq] at h1
        omega
    · rw [updN_other _ _ _ _ e] at he'
      exact M.apH c' hc' q hq he'
  · have hb' : (updN r.hv c v' c1).ownBlock = some b := hb
    have he' : (updN r.hv c v' c2).ownBlock = some b := he
    by_cases e1 : c1 = c
    · subst e1
      rw [updN_same] at hb'
      rw [updN_other _ _ _ _ (fun e => hne e.symm)] at he'
      exact new c2 h2 (fun e => hne e.symm) b hb' he'
    · rw [updN_other _ _ _ _ e1] at hb'
      by_cases e2 : c2 = c
      · subst e2
        rw [updN_same] at he'
        exact new c1 h1 e1 b he' hb'
      · rw [updN_other _ _ _ _ e2] at he'
        exact M.apHH c1 c2 h1 h2 hne b hb' he'
theorem OM.pop (M : OM w W L r) {c : Nat} {v' : Value} {l : List Int} (hc : c < r.nr) (h : HRow w.heap.size W v' l) (hf : v'.ownBlock = (r.hv c).ownBlock) : OM w W L { r with hv := updN r.hv c v', held := updN r.held c l } :=
  M.push hc ⟨rfl, rfl, rfl, Nat.le_refl _, fun _ _ _ => rfl⟩ h (.inl hf)
/-- A known row of the list has grown. -/
theorem OM.regrow (M : OM w W L r) (k : Nat) {b b' t : Nat} {cs cs' : Array Value} (hk : L[k]? = some (b, t, cs)) (hb : w.heap.size ≤ b) (g : W.grownBy W' (some b)) (hB : Blk W' b' t cs') (hf : b' = b ∨ b' = W.heap.size) : OM w W' (L.set k (b', t, cs')) r := by
  have kp : Keeps W W' [b] := ⟨g.os, g.tape, g.output, g.size, fun x hx hn => g.block x hx (by intro e; exact hn (by simpa using e))⟩
  rcases hf with rfl | rfl
  · exact M.set k hk kp hB
  · have hlt : k < L.length := (List.getElem?_eq_some_iff.1 hk).1
    have k0 : Keeps w W' [] := M.own.keep.trans kp fun x hx hlt' => by
      obtain rfl : x = b := by simpa using hx
      omega
    have far : ∀ (i : Nat) (q : Ent), L[i]? = some q → i ≠ k → q.1 ≠ b := fun i q hi hne => M.own.apart hi hk hne
    have cases_ : ∀ q ∈ L.set k (W.heap.size, t, cs'), q = (W.heap.size, t, cs') ∨ (q ∈ L ∧ q.1 ≠ b) := fun q hq => by
      obtain ⟨i, hi⟩ := List.getElem?_of_mem hq
      rw [List.getElem?_set] at hi
      by_cases hki : k = i
      · subst hki
        rw [if_pos rfl, if_pos hlt] at hi
        cases hi
        exact .inl rfl
      · rw [if_neg hki] at hi
        exact .inr ⟨List.mem_of_getElem? hi, far i q hi (fun e => hki e.symm)⟩
    refine M.step (S := [b]) ⟨k0, fun q hq => ?_, fun q hq hlt' => ?_, ?_⟩ kp (fun x hx => ?_) fun q hq => ?_
    · rcases cases_ q hq with rfl | ⟨hq, hne⟩
      · exact hB
      · exact (M.own.blk q hq).keeps kp (by simpa using hne)
    · rcases cases_ q hq with rfl | ⟨hq, hne⟩
      · have := M.own.keep.size
        simp only at hlt'
        omega
      · exact M.own.new q hq hlt'
    · rw [List.nodup_iff_pairwise_ne, List.pairwise_iff_getElem]
      intro i j hi hj hij
      have hi' : i < L.length := by simpa using hi
      have hj' : j < L.length := by simpa using hj
      have lt : ∀ x (hx : x < L.length), L[x].1 < W.heap.size := fun x hx => (M.own.blk _ (List.getElem_mem hx)).lt
      have nd := List.pairwise_iff_getElem.1 M.own.nd i j (by simpa using hi') (by simpa using hj') hij
      simp only [List.getElem_map] at nd
      simp only [List.getElem_map, List.getElem_set]
      have l1 := lt i hi'
      have l2 := lt j hj'
      by_cases e1 : k = i
      · rw [if_pos e1, if_neg (by omega)]
        simp only
        omega
      · rw [if_neg e1]
        by_cases e2 : k = j
        · rw [if_pos e2]
          simp only
          omega
        · rw [if_neg e2]
          exact nd
    · obtain rfl : x = b := by simpa using hx
      exact ⟨_, List.mem_of_getElem? hk, rfl⟩
    · rcases cases_ q hq with rfl | ⟨hq, _⟩
      · exact .inr (Nat.le_refl _)
      · exact .inl ⟨q, hq, rfl⟩
end
end Go.Proofs.Ytakmcpadkanggaa
namespace Go.Proofs.Ytakmcpadkanggaa
open Go.RowKit
/-- What a list of events has left behind. -/
def stL (l : List Ev) : St := l.foldl nextE st0
theorem stL_snoc (l : List Ev) (e : Ev) : stL (l ++ [e]) = nextE (stL l) e := by simp [stL]
theorem stN_take (l : List Ev) : ∀ k, k ≤ l.length → stN (lE l) k = stL (l.take k)
  | 0, _ => rfl
  | k + 1, h => by
    have hk : k < l.length := by omega
    rw [List.take_succ_eq_append_getElem hk, stL_snoc, ← stN_take l k (by omega)]
    simp only [stN, lE]
    rw [List.getD_eq_getElem?_getD, List.getElem?_eq_getElem hk]
    rfl
/-- What the world and what the events have left behind are the same. -/
def Tied (st : St) (P : PW) : Prop := st.r = P.n ∧ (∀ a, st.held a = P.lk a) ∧ (∀ c : Nat, st.shut c = P.cl c) ∧ ∀ c : Nat, st.sent c - st.took c = (P.held c).length
def TStep (S : Sys) (st : St) (P : PW) (x : PW × Int) : Prop := ∃ e, x.1.ev = P.ev ++ [e] ∧ okE S st e = true ∧ (x.2 = 0 → Tied (nextE st e) x.1)
theorem tstep_ite {S : Sys} {st : St} {P : PW} {c : Prop} [Decidable c] {x y : PW × Int} (h1 : c → TStep S st P x) (h2 : ¬ c → TStep S st P y) : TStep S st P (if c then x else y) := by
  by_cases h : c
  · rw [if_pos h]; exact h1 h
  · rw [if_neg h]; exact h2 h
theorem right_op {S : Sys} {p : Nat} {f : Nat → Int} (h : rightS S p f = true) : 1 ≤ f 0 ∧ f 0 ≤ 16 := by
  unfold rightS at h
  simp only [Bool.and_eq_true] at h
  simpa [opOk] using h.1
theorem right_cells {S : Sys} {p : Nat} {f : Nat → Int} (h : rightS S p f = true) (ho : f 0 = 12 ∨ f 0 = 13) : S.ce ≠ 0 := by
  unfold rightS at h
  rcases ho with ho | ho <;> rw [ho] at h <;> simp at h <;> exact h.2.1
theorem okE_mk {S : Sys} {st : St} {P : PW} {k : Nat} {o a v : Int} {sh : Bool} (hR : Tied st P) (hk : k < P.n) (h1 : 1 ≤ o) (h2 : o ≤ 16) (hc : cnt S o < 0 ∨ (0 ≤ a ∧ a < cnt S o)) (hb : bodyE st ⟨k, o, a, v, sh⟩ = true) : okE S st ⟨k, o, a, v, sh⟩ = true := by
  have h := hR.1
  unfold okE headE
  rw [hb, Bool.and_true]
  simp only [Bool.and_eq_true, Bool.or_eq_true, decide_eq_true_eq]
  exact ⟨by omega, by omega, h1, h2, hc⟩
theorem stepP_trace (S : Sys) (st : St) (P : PW) (k : Nat) (f : Nat → Int) (hR : Tied st P) (hk : k < P.n) (hce : 0 ≤ S.ce) (hr : rightS S (P.rs k).prog f = true) (hc : canP S P f = true) : TStep S st P (stepP S P k f) := by
  obtain ⟨o1, o2⟩ := right_op hr
  have R1 := hR.1
  have R2 := hR.2.1
  have R3 := hR.2.2.1
  have R4 := hR.2.2.2
  unfold stepP
  simp only []
  refine tstep_ite (fun o => ?_) (fun n1 => ?_)
  · exact ⟨_, rfl, okE_mk hR hk (by omega) (by omega) (.inl (by simp [cnt])) (by simp [bodyE]), fun _ => ⟨R1, R2, R3, R4⟩⟩
  refine tstep_ite (fun o => ?_) (fun n2 => ?_)
  · exact ⟨_, rfl, okE_mk hR hk (by omega) (by omega) (.inl (by simp [cnt])) (by simp [bodyE]), fun _ => ⟨R1, R2, R3, R4⟩⟩
  refine tstep_ite (fun o => ?_) (fun n3 => ?_)
  · exact ⟨_, rfl, okE_mk hR hk (by omega) (by omega) (.inl (by simp [cnt])) (by simp [bodyE]), fun _ => ⟨R1, R2, R3, R4⟩⟩
  refine tstep_ite (fun o => ?_) (fun n4 => ?_)
  · exact ⟨_, rfl, okE_mk hR hk (by omega) (by omega) (.inl (by simp [cnt])) (by simp [bodyE]), fun _ => ⟨R1, R2, R3, R4⟩⟩
  refine tstep_ite (fun o => ?_) (fun n16 => ?_)
  · exact ⟨_, rfl, okE_mk hR hk (by omega) (by omega) (.inl (by simp [cnt])) (by simp [bodyE]), fun _ => ⟨R1, R2, R3, R4⟩⟩
  refine tstep_ite (fun o => ?_) (fun n12 => ?_)
  · have := right_cells hr (.inl o)
    exact ⟨_, rfl, okE_mk hR hk (by omega) (by omega) (.inr ⟨Int.emod_nonneg _ this, by show _ < S.ce; exact Int.emod_lt_of_pos _ (by omega)⟩) (by simp [bodyE]), fun _ => ⟨R1, R2, R3, R4⟩⟩
  refine tstep_ite (fun o => ?_) (fun n13 => ?_)
  · have := right_cells hr (.inr o)
    exact ⟨_, rfl, okE_mk hR hk (by omega) (by omega) (.inr ⟨Int.emod_nonneg _ this, by show _ < S.ce; exact Int.emod_lt_of_pos _ (by omega)⟩) (by simp [bodyE]), fun _ => ⟨R1, R2, R3, R4⟩⟩
  refine tstep_ite (fun o => ?_) (fun n14 => ?_)
  · have hs := right_start hr o
    refine tstep_ite (fun hn => ?_) (fun hn => ?_)
    · exact ⟨_, rfl, okE_mk hR hk (by omega) (by omega) (.inr ⟨hs.1, hs.2⟩) (by simp [bodyE]), fun h => by simp at h⟩
    · refine ⟨_, rfl, okE_mk hR hk (by omega) (by omega) (.inr ⟨hs.1, hs.2⟩) ?_, fun _ => ?_⟩
      · simp only [bodyE, if_true, Bool.or_eq_true, decide_eq_true_eq, Bool.and_eq_true]
        right; omega
      · have h0 : ¬ (P.n : Int) = 0 := by omega
        simp only [nextE, if_true, if_neg h0]
        refine ⟨?_, R2, R3, R4⟩
        show st.r + 1 = ((P.n + 1 : Nat) : Int)
        omega
  refine tstep_ite (fun o => ?_) (fun n15 => ?_)
  · exact ⟨_, rfl, okE_mk hR hk (by omega) (by omega) (.inl (by simp [cnt])) (by simp [bodyE]), fun _ => ⟨R1, R2, R3, R4⟩⟩
  refine tstep_ite (fun o => ?_) (fun n5 => ?_)
  · obtain ⟨a1, a2⟩ := right_room hr (.inl o)
    refine tstep_ite (fun hcl => ?_) (fun hcl => ?_)
    · exact ⟨_, rfl, okE_mk hR hk (by omega) (by omega) (.inr ⟨a1, a2⟩) (by simp [bodyE]), fun h => by simp at h⟩
    · refine ⟨_, rfl, okE_mk hR hk (by omega) (by omega) (.inr ⟨a1, a2⟩) (by simp [bodyE]), fun _ => ⟨R1, R2, R3, fun c => ?_⟩⟩
      show updI st.sent (f 1) (st.sent (f 1) + 1) c - st.took c = (updN P.held (f 1).toNat (P.held (f 1).toNat ++ [_]) c).length
      have h4 := R4 c
      by_cases e : c = (f 1).toNat
      · have e1 : f 1 = (c : Int) := by omega
        rw [← e, e1, updI_same, updN_same]
        simp; omega
      · rw [updI_other _ _ _ _ (by omega), updN_other _ _ _ _ e, h4]
  refine tstep_ite (fun o => ?_) (fun n6 => ?_)
  · obtain ⟨a1, a2⟩ := right_room hr (.inr (.inl o))
    have h4 := R4 (f 1).toNat
    rw [show (((f 1).toNat : Nat) : Int) = f 1 by omega] at h4
    cases hh : P.held (f 1).toNat with
    | nil =>
      refine ⟨_, rfl, okE_mk hR hk (by omega) (by omega) (.inr ⟨a1, a2⟩) ?_, fun _ => ⟨R1, R2, R3, R4⟩⟩
      have h3 := R3 (f 1).toNat
      rw [show (((f 1).toNat : Nat) : Int) = f 1 by omega] at h3
      have hcl : P.cl (f 1).toNat = true := by
        simp [canP, o, hh] at hc
        exact hc
      simp [bodyE, h3, hcl]
    | cons x l =>
      rw [hh] at h4
      simp only [List.length_cons] at h4
      refine ⟨_, rfl, okE_mk hR hk (by omega) (by omega) (.inr ⟨a1, a2⟩) ?_, fun _ => ⟨R1, R2, R3, fun c => ?_⟩⟩
      · simp [bodyE]; omega
      · show st.sent c - updI st.took (f 1) (st.took (f 1) + 1) c = (updN P.held (f 1).toNat l c).length
        by_cases e : c = (f 1).toNat
        · have e1 : f 1 = (c : Int) := by omega
          rw [← e, e1, updI_same, updN_same]
          rw [e1] at h4
          omega
        · rw [updI_other _ _ _ _ (by omega), updN_other _ _ _ _ e, R4 c]
  refine tstep_ite (fun o => ?_) (fun n7 => ?_)
  · obtain ⟨a1, a2⟩ := right_room hr (.inr (.inr o))
    refine tstep_ite (fun hcl => ?_) (fun hcl => ?_)
    · exact ⟨_, rfl, okE_mk hR hk (by omega) (by omega) (.inr ⟨a1, a2⟩) (by simp [bodyE]), fun h => by simp at h⟩
    · refine ⟨_, rfl, okE_mk hR hk (by omega) (by omega) (.inr ⟨a1, a2⟩) (by simp [bodyE]), fun _ => ⟨R1, R2, fun c => ?_, R4⟩⟩
      show updI st.shut (f 1) true c = updN P.cl (f 1).toNat true c
      by_cases e : c = (f 1).toNat
      · have e1 : f 1 = (c : Int) := by omega
        rw [← e, e1, updI_same, updN_same]
      · rw [updI_other _ _ _ _ (by omega), updN_other _ _ _ _ e, R3 c]
  refine tstep_ite (fun o => ?_) (fun n8 => ?_)
  · obtain ⟨a1, a2⟩ := right_lock hr (.inl o)
    have hl : P.lk (f 1) = false := by simpa [canP, o] using hc
    refine ⟨_, rfl, okE_mk hR hk (by omega) (by omega) (.inr ⟨a1, a2⟩) (by simp [bodyE, R2, hl]), fun _ => ⟨R1, fun a => ?_, R3, R4⟩⟩
    show updI st.held (f 1) true a = updI P.lk (f 1) true a
    unfold updI
    rw [R2 a]
  refine tstep_ite (fun o => ?_) (fun n9 => ?_)
  · obtain ⟨a1, a2⟩ := right_lock hr (.inr o)
    refine tstep_ite (fun hl => ?_) (fun hl => ?_)
    · refine ⟨_, rfl, okE_mk hR hk (by omega) (by omega) (.inr ⟨a1, a2⟩) (by simp [bodyE]), fun _ => ⟨R1, fun a => ?_, R3, R4⟩⟩
      show updI st.held (f 1) false a = updI P.lk (f 1) false a
      unfold updI
      rw [R2 a]
    · exact ⟨_, rfl, okE_mk hR hk (by omega) (by omega) (.inr ⟨a1, a2⟩) (by simp [bodyE]), fun h => by simp at h⟩
  refine tstep_ite (fun o => ?_) (fun n10 => ?_)
  · obtain ⟨a1, a2⟩ := right_group hr (.inl o)
    refine tstep_ite (fun hl => ?_) (fun hl => ?_)
    · exact ⟨_, rfl, okE_mk hR hk (by omega) (by omega) (.inr ⟨a1, a2⟩) (by simp [bodyE]), fun h => by simp at h⟩
    · exact ⟨_, rfl, okE_mk hR hk (by omega) (by omega) (.inr ⟨a1, a2⟩) (by simp [bodyE]), fun _ => ⟨R1, R2, R3, R4⟩⟩
  · have o : f 0 = 11 := by omega
    obtain ⟨a1, a2⟩ := right_group hr (.inr o)
    rw [o]
    exact ⟨_, rfl, okE_mk hR hk (by omega) (by omega) (.inr ⟨a1, a2⟩) (by simp [bodyE]), fun _ => ⟨R1, R2, R3, R4⟩⟩
def FStep (P : PW) (x : PW × Int) : Prop := x.2 ≠ 0 → ∃ e, x.1.ev = P.ev ++ [e] ∧ x.1.n = P.n ∧ ∀ st, (nextE st e).r = st.r
theorem fstep_ite {P : PW} {c : Prop} [Decidable c] {x y : PW × Int} (h1 : FStep P x) (h2 : FStep P y) : FStep P (if c then x else y) := by split <;> assumption
theorem fstep_fin {P Q : PW} {k : Nat} {r : Rn} {on : Nat} {e : Ev} : FStep P (finP Q k r on e) := fun h => absurd rfl h
/-- A step with a fault tells an event, and starts nobody. -/
theorem stepP_faultn (S : Sys) (P : PW) (k : Nat) (f : Nat → Int) (h : (stepP S P k f).2 ≠ 0) : ∃ e, (stepP S P k f).1.ev = P.ev ++ [e] ∧ (stepP S P k f).1.n = P.n ∧ ∀ st, (nextE st e).r = st.r := by
  have key : FStep P (stepP S P k f) := by
    unfold stepP
    simp only []
    repeat' (refine fstep_ite ?_ ?_)
    all_goals first
      | exact fstep_fin
      | exact fun _ => ⟨_, rfl, rfl, fun st => by simp [nextE]⟩
      | (cases P.held (f 1).toNat <;> exact fstep_fin)
  exact key h
/-- Each event may be behind those ahead of it. -/
def TOk (S : Sys) (l : List Ev) : Prop := ∀ i e, l[i]? = some e → okE S (stL (l.take i)) e = true
theorem TOk.snoc {S : Sys} {l : List Ev} {e : Ev} (h : TOk S l) (he : okE S (stL l) e = true) : TOk S (l ++ [e]) := by
  intro i x hx
  rcases Nat.lt_or_ge i l.length with hi | hi
  · rw [List.getElem?_append_left hi] at hx
    rw [List.take_append_of_le_length (by omega)]
    exact h i x hx
  · rw [List.getElem?_append_right hi] at hx
    have : i = l.length := by
      rcases Nat.lt_or_ge (i - l.length) 1 with h1 | h1
      · omega
      · rw [List.getElem?_eq_none (by simpa using h1)] at hx; cases hx
    subst this
    simp at hx
    subst hx
    simpa using he
theorem runP_trace (S : Sys) (hv : validB S = true) (picks : List Int) : ∀ fuel t P, P.ev.length = t → t ≤ 40000 → RInv S P → TOk S P.ev → Tied (stL P.ev) P →
    TOk S (runP S picks fuel t P).P.ev ∧ (runP S picks fuel t P).P.ev.length ≤ 40000 ∧ ((runP S picks fuel t P).fault ≠ 0 ∨ Tied (stL (runP S picks fuel t P).P.ev) (runP S picks fuel t P).P) ∧ (stL (runP S picks fuel t P).P.ev).r = (runP S picks fuel t P).P.n
  | 0, t, P, ht, h1, hr, hk, hs => ⟨hk, by show P.ev.length ≤ 40000; omega, .inr hs, hs.1⟩
  | fuel + 1, t, P, ht, h1, hr, hk, hs => by
    have hce : 0 ≤ S.ce := by
      have := ((headB_iff S).1 ((validB_iff S).1 hv).1).2.2.2.2.2
      simp [shB] at this
      omega
    have hend : TOk S P.ev ∧ P.ev.length ≤ 40000 ∧ ((0 : Int) ≠ 0 ∨ Tied (stL P.ev) P) ∧ (stL P.ev).r = P.n := ⟨hk, by omega, .inr hs, hs.1⟩
    unfold runP
    by_cases c1 : endedN S P P.n = true
    · simp only [c1, if_true]; exact hend
    by_cases c2 : 40000 ≤ t
    · simp only [c1, c2, if_true, if_false, Bool.false_eq_true]; exact hend
    by_cases c3 : readyN S P P.n = []
    · simp only [c1, c2, c3, if_true, if_false, Bool.false_eq_true]; exact hend
    simp only [c1, c2, c3, if_false, Bool.false_eq_true]
    obtain ⟨q1, f, q2, q3⟩ := picked S P picks t c3
    generalize (readyN S P P.n).getD (pickP picks t (readyN S P P.n).length) 0 = k at *
    simp only [q2]
    have hrt := right_of hv (hr k q1) q2
    obtain ⟨e, e1, e2, e3⟩ := stepP_trace S (stL P.ev) P k f hs q1 hce hrt q3
    have hk2 : TOk S (stepP S P k f).1.ev := by rw [e1]; exact hk.snoc e2
    split
    · rename_i hz
      exact runP_trace S hv picks fuel (t + 1) _ (by rw [e1]; simp [ht]) (by omega) (stepP_rinv S P k f hr q1 hrt) hk2 (by rw [e1, stL_snoc]; exact e3 hz)
    · rename_i hz
      refine ⟨hk2, by show (stepP S P k f).1.ev.length ≤ 40000; rw [e1]; simp; omega, .inl hz, ?_⟩
      show (stL (stepP S P k f).1.ev).r = (stepP S P k f).1.n
      obtain ⟨e', e1', e4⟩ := stepP_faultn S P k f hz
      rw [e1'] at e1
      have : e' = e := by simpa using e1
      subst this
      rw [e1', stL_snoc, e4.2 (stL P.ev), hs.1, e4.1]
end Go.Proofs.Ytakmcpadkanggaa
namespace Go.Proofs.Ytakmcpadkanggaa
open Go.RowKit Go.Maps
def layV (S : Sys) (A : Option Addr) (c : Nat) (R : Option Addr) (d : Nat) (r : Int) (bh bs bt bu : Nat) : Array Value := #[.slice A S.np c, .slice R S.nr d, .int .i64 S.gr, .int .i64 S.lk, .int .i64 S.ce, .int .i64 r, .map (some bh), .map (some bs), .map (some bt), .map (some bu)]
/-- The struct and its four maps. -/
structure LayAt (W : World) (S : Sys) (A : Option Addr) (c : Nat) (R : Option Addr) (d y bh bs bt bu n : Nat) (st : St) : Prop where
  y : Blk W y 156 (layV S A c R d st.r bh bs bt bu)
  h : MapB W bh n st.held
  s : MapI W bs n st.sent
  t : MapI W bt n st.took
  u : MapB W bu n st.shut
  ne : bh ≠ bs ∧ bh ≠ bt ∧ bh ≠ bu ∧ bs ≠ bt ∧ bs ≠ bu ∧ bt ≠ bu
section
variable {w u W : World} {S : Sys} {A : Option Addr} {c : Nat} {R : Option Addr} {d y bh bs bt bu n m : Nat} {st : St}
theorem MapI.mono {b : Nat} {f : Int → Int} (h : MapI w b n f) (k : n ≤ m) : MapI w b m f := by obtain ⟨D, h1, h2⟩ := h; exact ⟨D, h1.mono k, h2⟩
theorem MapB.mono {b : Nat} {f : Int → Bool} (h : MapB w b n f) (k : n ≤ m) : MapB w b m f := by obtain ⟨D, h1, h2⟩ := h; exact ⟨D, h1.mono k, h2⟩
theorem LayAt.kept (l : LayAt w S A c R d y bh bs bt bu n st) (k : Keeps w u []) : LayAt u S A c R d y bh bs bt bu n st :=
  ⟨l.y.keeps k (by simp), l.h.keeps k (by simp), l.s.keeps k (by simp), l.t.keeps k (by simp), l.u.keeps k (by simp), l.ne⟩
theorem LayAt.mono (l : LayAt w S A c R d y bh bs bt bu n st) (k : n ≤ m) : LayAt w S A c R d y bh bs bt bu m st := ⟨l.y, l.h.mono k, l.s.mono k, l.t.mono k, l.u.mono k, l.ne⟩
theorem LayAt.sysAt (l : LayAt w S A c R d y bh bs bt bu n st) (j : Nat) (hj : j < (sysV S A c R d).size) : w.cell? ((⟨y, 0, none⟩ : Addr).add j) = (sysV S A c R d)[j]? := by
  rw [add_zero_, l.y.cell]
  have hj' : j < 5 := hj
  match j, hj' with
  | 0, _ => rfl
  | 1, _ => rfl
  | 2, _ => rfl
  | 3, _ => rfl
  | 4, _ => rfl
theorem LayAt.yne (l : LayAt w S A c R d y bh bs bt bu n st) : y ≠ bh ∧ y ≠ bs ∧ y ≠ bt ∧ y ≠ bu := ⟨l.h.not_blk l.y, l.s.not_blk l.y, l.t.not_blk l.y, l.u.not_blk l.y⟩
theorem LayAt.setY (l : LayAt w S A c R d y bh bs bt bu n st) {r : Int} (k : Keeps w u [y]) (b : Blk u y 156 (layV S A c R d r bh bs bt bu)) : LayAt u S A c R d y bh bs bt bu n { st with r := r } := by
  obtain ⟨h1, h2, h3, h4⟩ := l.yne
  exact ⟨b, l.h.keeps k (by simpa using h1.symm), l.s.keeps k (by simpa using h2.symm), l.t.keeps k (by simpa using h3.symm), l.u.keeps k (by simpa using h4.symm), l.ne⟩
theorem LayAt.setH (l : LayAt w S A c R d y bh bs bt bu n st) {f : Int → Bool} (k : Keeps w u [bh]) (b : MapB u bh (n + 1) f) : LayAt u S A c R d y bh bs bt bu (n + 1) { st with held := f } := by
  obtain ⟨h1, h2, h3, h4⟩ := l.yne
  obtain ⟨n1, n2, n3, n4, n5, n6⟩ := l.ne
  exact ⟨l.y.keeps k (by simpa using h1), b, (l.s.keeps k (by simpa using n1.symm)).mono (by omega), (l.t.keeps k (by simpa using n2.symm)).mono (by omega), (l.u.keeps k (by simpa using n3.symm)).mono (by omega), l.ne⟩
theorem LayAt.setS (l : LayAt w S A c R d y bh bs bt bu n st) {f : Int → Int} (k : Keeps w u [bs]) (b : MapI u bs (n + 1) f) : LayAt u S A c R d y bh bs bt bu (n + 1) { st with sent := f } := by
  obtain ⟨h1, h2, h3, h4⟩ := l.yne
  obtain ⟨n1, n2, n3, n4, n5, n6⟩ := l.ne
  exact ⟨l.y.keeps k (by simpa using h2), (l.h.keeps k (by simpa using n1)).mono (by omega), b, (l.t.keeps k (by simpa using n4.symm)).mono (by omega), (l.u.keeps k (by simpa using n5.symm)).mono (by omega), l.ne⟩
theorem LayAt.setT (l : LayAt w S A c R d y bh bs bt bu n st) {f : Int → Int} (k : Keeps w u [bt]) (b : MapI u bt (n + 1) f) : LayAt u S A c R d y bh bs bt bu (n + 1) { st with took := f } := by
  obtain ⟨h1, h2, h3, h4⟩ := l.yne
  obtain ⟨n1, n2, n3, n4, n5, n6⟩ := l.ne
  exact ⟨l.y.keeps k (by simpa using h3), (l.h.keeps k (by simpa using n2)).mono (by omega), (l.s.keeps k (by simpa using n4)).mono (by omega), b, (l.u.keeps k (by simpa using n6.symm)).mono (by omega), l.ne⟩
theorem LayAt.setU (l : LayAt w S A c R d y bh bs bt bu n st) {f : Int → Bool} (k : Keeps w u [bu]) (b : MapB u bu (n + 1) f) : LayAt u S A c R d y bh bs bt bu (n + 1) { st with shut := f } := by
  obtain ⟨h1, h2, h3, h4⟩ := l.yne
  obtain ⟨n1, n2, n3, n4, n5, n6⟩ := l.ne
  exact ⟨l.y.keeps k (by simpa using h4), (l.h.keeps k (by simpa using n3)).mono (by omega), (l.s.keeps k (by simpa using n5)).mono (by omega), (l.t.keeps k (by simpa using n6)).mono (by omega), b, l.ne⟩
set_option maxRecDepth 10000 in
theorem look_eqI {b : Nat} {f : Int → Int} (m : MapI w b n f) (T : TypeId) (ht : Try.prog.underlying T = some (.map 3 3)) (k : Int) (hk : (Lit.int .i64 k).wf = true) : (Instr.lookup T (.map (some b)) (.int .i64 k) false).run Try.prog w = .ok (.int .i64 (f k)) w := by
  obtain ⟨D, h1, h2⟩ := m
  obtain ⟨x, hr, hat, _⟩ := h1.lookup_int key3 ht Try.underlying3 (zero3 w) (keyOf_int_mk Try.underlying3 hk)
  rw [h2] at hat
  injection hat with e
  injection e with _ e
  rw [hr, e]
set_option maxRecDepth 10000 in
theorem look_eqB {b : Nat} {f : Int → Bool} (m : MapB w b n f) (T : TypeId) (ht : Try.prog.underlying T = some (.map 3 4)) (k : Int) (hk : (Lit.int .i64 k).wf = true) : (Instr.lookup T (.map (some b)) (.int .i64 k) false).run Try.prog w = .ok (.bool (f k)) w := by
  obtain ⟨D, h1, h2⟩ := m
  obtain ⟨v, ps, hrun, hR⟩ := h1.lookup (e := 4) key3 ht (zero4 w) (plainElem_bool Try.underlying4 false) (keyOf_int_mk Try.underlying3 hk)
  rw [h2] at hR
  have hv : v = .bool (f k) := by
    unfold plainElem at hR
    rw [Try.underlying4] at hR
    cases v <;> simp at hR
    rw [hR.1]
  rw [hrun, hv]
end
/-- What next comes to. -/
def NextPost (S : Sys) (A : Option Addr) (c : Nat) (R : Option Addr) (d y bh bs bt bu n : Nat) (st : St) (e : Ev) (w : World) (x : Ending) (w' : World) : Prop :=
  x = .returned (.bool (okE S st e)) ∧ Keeps w w' [y, bh, bs, bt, bu] ∧ (okE S st e = true → LayAt w' S A c R d y bh bs bt bu (n + 1) (nextE st e))
theorem Keeps.wide {w u : World} {L L' : List Nat} (k : Keeps w u L) (h : ∀ b ∈ L, b ∈ L') : Keeps w u L' := ⟨k.os, k.tape, k.output, k.size, fun b hb hn => k.block b hb fun hm => hn (h b hm)⟩
section
variable {w : World} {S : Sys} {A : Option Addr} {c : Nat} {R : Option Addr} {d y bh bs bt bu n : Nat} {st : St}
set_option maxRecDepth 100000 in
set_option maxHeartbeats 1000000 in
theorem next_bad0 (e : Ev) (l : LayAt w S A c R d y bh bs bt bu n st)  (g0 : e.who < 0) : Calls Try.prog 92 #[.pointer (some ⟨y, 0, none⟩), .agg (evC e)] w (NextPost S A c R d y bh bs bt bu n st e w) := by
  have O := Own.start w []
  have HL := Lib.hid l
  clear l
  have q0 : decide (e.who < 0) = true := decide_eq_true (by omega)
  have HF := Lib.hid (show okE S st e = false by simp [okE, headE]; omega)
  unfold evC

  go_enter Try.func92, Try.ntmps92
  go_wp2_with (first
    | go_big_skip
    | (refine own_box 3 (#[Value.int .i64 e.who, .int .i64 e.op, .int .i64 e.a, .int .i64 e.v, .bool e.sh]) O rfl rfl rfl rfl ?_; clear O; intro W a3 O; simp only [Act.put, List.setIfInBounds_toArray, List.set_cons_zero, List.set_cons_succ]))
  have c3 := Later.cell (O.get 0 rfl)
  have cy : ∀ p : Later W, p.1.cell? ⟨y, 5, none⟩ = some (.int .i64 st.r) := fun p => (HL.out.kept (O.keep.trans p.2 (by simp))).y.cell 5
  refine wp_quiet_later (by kernel_rfl) (by kernel_rfl) ?_
  repeat (first
    | go_big_quiet_skip
    | go_big_quiet_step (fail))
  refine wpQuiet_nil ?_
  intro _ hw
  obtain ⟨p', rfl⟩ := hw
  replace O := O.keeps p'.2
  clear c3 cy
  generalize p'.1 = W at O ⊢
  go_wp2
  go_ret
  exact ⟨by rw [HF.out]; rfl, O.keep.wide (by simp), fun h => by rw [HF.out] at h; cases h⟩
set_option maxRecDepth 100000 in
set_option maxHeartbeats 1000000 in
theorem next_bad1 (e : Ev) (l : LayAt w S A c R d y bh bs bt bu n st) (g0 : ¬ e.who < 0) (g1 : st.r ≤ e.who) : Calls Try.prog 92 #[.pointer (some ⟨y, 0, none⟩), .agg (evC e)] w (NextPost S A c R d y bh bs bt bu n st e w) := by
  have O := Own.start w []
  have HL := Lib.hid l
  clear l
  have q0 : decide (e.who < 0) = false := decide_eq_false (by omega)
  have q1 : decide (st.r ≤ e.who) = true := decide_eq_true (by omega)
  have HF := Lib.hid (show okE S st e = false by simp [okE, headE]; omega)
  unfold evC

  go_enter Try.func92, Try.ntmps92
  go_wp2_with (first
    | go_big_skip
    | (refine own_box 3 (#[Value.int .i64 e.who, .int .i64 e.op, .int .i64 e.a, .int .i64 e.v, .bool e.sh]) O rfl rfl rfl rfl ?_; clear O; intro W a3 O; simp only [Act.put, List.setIfInBounds_toArray, List.set_cons_zero, List.set_cons_succ]))
  have c3 := Later.cell (O.get 0 rfl)
  have cy : ∀ p : Later W, p.1.cell? ⟨y, 5, none⟩ = some (.int .i64 st.r) := fun p => (HL.out.kept (O.keep.trans p.2 (by simp))).y.cell 5
  refine wp_quiet_later (by kernel_rfl) (by kernel_rfl) ?_
  repeat (first
    | go_big_quiet_skip
    | go_big_quiet_step (fail))
  refine wpQuiet_nil ?_
  intro _ hw
  obtain ⟨p', rfl⟩ := hw
  replace O := O.keeps p'.2
  clear c3 cy
  generalize p'.1 = W at O ⊢
  go_wp2
  go_ret
  exact ⟨by rw [HF.out]; rfl, O.keep.wide (by simp), fun h => by rw [HF.out] at h; cases h⟩
set_option maxRecDepth 100000 in
set_option maxHeartbeats 1000000 in
theorem next_bad2 (e : Ev) (l : LayAt w S A c R d y bh bs bt bu n st) (g0 : ¬ e.who < 0) (g1 : ¬ st.r ≤ e.who) (g2 : e.op < 1) : Calls Try.prog 92 #[.pointer (some ⟨y, 0, none⟩), .agg (evC e)] w (NextPost S A c R d y bh bs bt bu n st e w) := by
  have O := Own.start w []
  have HL := Lib.hid l
  clear l
  have q0 : decide (e.who < 0) = false := decide_eq_false (by omega)
  have q1 : decide (st.r ≤ e.who) = false := decide_eq_false (by omega)
  have q2 : decide (e.op < 1) = true := decide_eq_true (by omega)
  have HF := Lib.hid (show okE S st e = false by simp [okE, headE]; omega)
  unfold evC

  go_enter Try.func92, Try.ntmps92
  go_wp2_with (first
    | go_big_skip
    | (refine own_box 3 (#[Value.int .i64 e.who, .int .i64 e.op, .int .i64 e.a, .int .i64 e.v, .bool e.sh]) O rfl rfl rfl rfl ?_; clear O; intro W a3 O; simp only [Act.put, List.setIfInBounds_toArray, List.set_cons_zero, List.set_cons_succ]))
  have c3 := Later.cell (O.get 0 rfl)
  have cy : ∀ p : Later W, p.1.cell? ⟨y, 5, none⟩ = some (.int .i64 st.r) := fun p => (HL.out.kept (O.keep.trans p.2 (by simp))).y.cell 5
  refine wp_quiet_later (by kernel_rfl) (by kernel_rfl) ?_
  repeat (first
    | go_big_quiet_skip
    | go_big_quiet_step (fail))
  refine wpQuiet_nil ?_
  intro _ hw
  obtain ⟨p', rfl⟩ := hw
  replace O := O.keeps p'.2
  clear c3 cy
  generalize p'.1 = W at O ⊢
  go_wp2
  go_ret
  exact ⟨by rw [HF.out]; rfl, O.keep.wide (by simp), fun h => by rw [HF.out] at h; cases h⟩
set_option maxRecDepth 100000 in
set_option maxHeartbeats 1000000 in
theorem next_bad3 (e : Ev) (l : LayAt w S A c R d y bh bs bt bu n st) (g0 : ¬ e.who < 0) (g1 : ¬ st.r ≤ e.who) (g2 : ¬ e.op < 1) (g3 : 16 < e.op) : Calls Try.prog 92 #[.pointer (some ⟨y, 0, none⟩), .agg (evC e)] w (NextPost S A c R d y bh bs bt bu n st e w) := by
  have O := Own.start w []
  have HL := Lib.hid l
  clear l
  have q0 : decide (e.who < 0) = false := decide_eq_false (by omega)
  have q1 : decide (st.r ≤ e.who) = false := decide_eq_false (by omega)
  have q2 : decide (e.op < 1) = false := decide_eq_false (by omega)
  have q3 : decide (16 < e.op) = true := decide_eq_true (by omega)
  have HF := Lib.hid (show okE S st e = false by simp [okE, headE]; omega)
  unfold evC

  go_enter Try.func92, Try.ntmps92
  go_wp2_with (first
    | go_big_skip
    | (refine own_box 3 (#[Value.int .i64 e.who, .int .i64 e.op, .int .i64 e.a, .int .i64 e.v, .bool e.sh]) O rfl rfl rfl rfl ?_; clear O; intro W a3 O; simp only [Act.put, List.setIfInBounds_toArray, List.set_cons_zero, List.set_cons_succ]))
  have c3 := Later.cell (O.get 0 rfl)
  have cy : ∀ p : Later W, p.1.cell? ⟨y, 5, none⟩ = some (.int .i64 st.r) := fun p => (HL.out.kept (O.keep.trans p.2 (by simp))).y.cell 5
  refine wp_quiet_later (by kernel_rfl) (by kernel_rfl) ?_
  repeat (first
    | go_big_quiet_skip
    | go_big_quiet_step (fail))
  refine wpQuiet_nil ?_
  intro _ hw
  obtain ⟨p', rfl⟩ := hw
  replace O := O.keeps p'.2
  clear c3 cy
  generalize p'.1 = W at O ⊢
  go_wp2
  go_ret
  exact ⟨by rw [HF.out]; rfl, O.keep.wide (by simp), fun h => by rw [HF.out] at h; cases h⟩
set_option maxRecDepth 100000 in
set_option maxHeartbeats 1000000 in
theorem next_bada0 (e : Ev) (l : LayAt w S A c R d y bh bs bt bu n st) (g0 : ¬ e.who < 0) (g1 : ¬ st.r ≤ e.who) (g2 : ¬ e.op < 1) (g3 : ¬ 16 < e.op) (g4 : 0 ≤ cnt S e.op) (g5 : e.a < 0) : Calls Try.prog 92 #[.pointer (some ⟨y, 0, none⟩), .agg (evC e)] w (NextPost S A c R d y bh bs bt bu n st e w) := by
  have O := Own.start w []
  have HL := Lib.hid l
  clear l
  have q0 : decide (e.who < 0) = false := decide_eq_false (by omega)
  have q1 : decide (st.r ≤ e.who) = false := decide_eq_false (by omega)
  have q2 : decide (e.op < 1) = false := decide_eq_false (by omega)
  have q3 : decide (16 < e.op) = false := decide_eq_false (by omega)
  have HF := Lib.hid (show okE S st e = false by simp [okE, headE]; omega)
  unfold evC

  go_enter Try.func92, Try.ntmps92
  go_wp2_with (first
    | go_big_skip
    | (refine own_box 3 (#[Value.int .i64 e.who, .int .i64 e.op, .int .i64 e.a, .int .i64 e.v, .bool e.sh]) O rfl rfl rfl rfl ?_; clear O; intro W a3 O; simp only [Act.put, List.setIfInBounds_toArray, List.set_cons_zero, List.set_cons_succ]))
  have c3 := Later.cell (O.get 0 rfl)
  have cy : ∀ p : Later W, p.1.cell? ⟨y, 5, none⟩ = some (.int .i64 st.r) := fun p => (HL.out.kept (O.keep.trans p.2 (by simp))).y.cell 5
  refine wp_quiet_later (by kernel_rfl) (by kernel_rfl) ?_
  repeat (first
    | go_big_quiet_skip
    | go_big_quiet_step (fail))
  refine wpQuiet_nil ?_
  intro _ hw
  obtain ⟨p', rfl⟩ := hw
  replace O := O.keeps p'.2
  clear c3 cy
  generalize p'.1 = W at O ⊢
  go_wp2
  have c3 := Later.cell (O.get 0 rfl)
  have cy : ∀ p : Later W, p.1.cell? ⟨y, 5, none⟩ = some (.int .i64 st.r) := fun p => (HL.out.kept (O.keep.trans p.2 (by simp))).y.cell 5
  generalize hcn : cnt S e.op = cn at *
  have HCN : ∀ u, Hid (Calls Try.prog 109 #[.agg (sysV S A c R d), .int .i64 e.op] u fun e w' => e = .returned (.int .i64 cn) ∧ Keeps u w' []) := fun u => Lib.hid (by rw [← hcn]; exact sharedT_any S A c R d u e.op)
  have HCn := Lib.hid hcn
  clear hcn
  refine wp_quiet_later (by kernel_rfl) (by kernel_rfl) ?_
  repeat (first
    | go_big_quiet_skip
    | (refine wpQuiet_load_at (cs := sysV S A c R d) 31 rfl rfl rfl rfl (fun u hu => by obtain ⟨p', rfl⟩ := hu; exact (HL.out.kept (O.keep.trans p'.2 (by simp))).sysAt) Try.underlying27 rfl (by kernel_rfl) ?_; simp only [Act.put, List.setIfInBounds_toArray, List.set_cons_zero, List.set_cons_succ])
    | go_big_quiet_step ((go_at_call 109; exact later_of (HCN _).out)))
  refine wpQuiet_nil ?_
  intro _ hw
  obtain ⟨p', rfl⟩ := hw
  replace O := O.keeps p'.2
  clear c3 cy
  generalize p'.1 = W at O ⊢
  have c3 := (O.get 0 rfl).cell
  go_wp2
  go_ret
  exact ⟨by rw [HF.out]; rfl, O.keep.wide (by simp), fun h => by rw [HF.out] at h; cases h⟩
set_option maxRecDepth 100000 in
set_option maxHeartbeats 1000000 in
theorem next_bada1 (e : Ev) (l : LayAt w S A c R d y bh bs bt bu n st) (g0 : ¬ e.who < 0) (g1 : ¬ st.r ≤ e.who) (g2 : ¬ e.op < 1) (g3 : ¬ 16 < e.op) (g4 : 0 ≤ cnt S e.op) (g5 : ¬ e.a < 0) (g6 : cnt S e.op ≤ e.a) : Calls Try.prog 92 #[.pointer (some ⟨y, 0, none⟩), .agg (evC e)] w (NextPost S A c R d y bh bs bt bu n st e w) := by
  have O := Own.start w []
  have HL := Lib.hid l
  clear l
  have q0 : decide (e.who < 0) = false := decide_eq_false (by omega)
  have q1 : decide (st.r ≤ e.who) = false := decide_eq_false (by omega)
  have q2 : decide (e.op < 1) = false := decide_eq_false (by omega)
  have q3 : decide (16 < e.op) = false := decide_eq_false (by omega)
  have HF := Lib.hid (show okE S st e = false by simp [okE, headE]; omega)
  unfold evC

  go_enter Try.func92, Try.ntmps92
  go_wp2_with (first
    | go_big_skip
    | (refine own_box 3 (#[Value.int .i64 e.who, .int .i64 e.op, .int .i64 e.a, .int .i64 e.v, .bool e.sh]) O rfl rfl rfl rfl ?_; clear O; intro W a3 O; simp only [Act.put, List.setIfInBounds_toArray, List.set_cons_zero, List.set_cons_succ]))
  have c3 := Later.cell (O.get 0 rfl)
  have cy : ∀ p : Later W, p.1.cell? ⟨y, 5, none⟩ = some (.int .i64 st.r) := fun p => (HL.out.kept (O.keep.trans p.2 (by simp))).y.cell 5
  refine wp_quiet_later (by kernel_rfl) (by kernel_rfl) ?_
  repeat (first
    | go_big_quiet_skip
    | go_big_quiet_step (fail))
  refine wpQuiet_nil ?_
  intro _ hw
  obtain ⟨p', rfl⟩ := hw
  replace O := O.keeps p'.2
  clear c3 cy
  generalize p'.1 = W at O ⊢
  go_wp2
  have c3 := Later.cell (O.get 0 rfl)
  have cy : ∀ p : Later W, p.1.cell? ⟨y, 5, none⟩ = some (.int .i64 st.r) := fun p => (HL.out.kept (O.keep.trans p.2 (by simp))).y.cell 5
  generalize hcn : cnt S e.op = cn at *
  have HCN : ∀ u, Hid (Calls Try.prog 109 #[.agg (sysV S A c R d), .int .i64 e.op] u fun e w' => e = .returned (.int .i64 cn) ∧ Keeps u w' []) := fun u => Lib.hid (by rw [← hcn]; exact sharedT_any S A c R d u e.op)
  have HCn := Lib.hid hcn
  clear hcn
  refine wp_quiet_later (by kernel_rfl) (by kernel_rfl) ?_
  repeat (first
    | go_big_quiet_skip
    | (refine wpQuiet_load_at (cs := sysV S A c R d) 31 rfl rfl rfl rfl (fun u hu => by obtain ⟨p', rfl⟩ := hu; exact (HL.out.kept (O.keep.trans p'.2 (by simp))).sysAt) Try.underlying27 rfl (by kernel_rfl) ?_; simp only [Act.put, List.setIfInBounds_toArray, List.set_cons_zero, List.set_cons_succ])
    | go_big_quiet_step ((go_at_call 109; exact later_of (HCN _).out)))
  refine wpQuiet_nil ?_
  intro _ hw
  obtain ⟨p', rfl⟩ := hw
  replace O := O.keeps p'.2
  clear c3 cy
  generalize p'.1 = W at O ⊢
  have c3 := (O.get 0 rfl).cell
  go_wp2
  go_ret
  exact ⟨by rw [HF.out]; rfl, O.keep.wide (by simp), fun h => by rw [HF.out] at h; cases h⟩
set_option maxRecDepth 100000 in
set_option maxHeartbeats 1000000 in
theorem next_14a (e : Ev) (l : LayAt w S A c R d y bh bs bt bu n st) (he : e.op = 14) (g0 : ¬ e.who < 0) (g1 : ¬ st.r ≤ e.who) (g4 : 0 ≤ cnt S 14) (g5 : ¬ e.a < 0) (g6 : ¬ cnt S 14 ≤ e.a) (_hwf : (Lit.int .i64 e.a).wf = true) (_hn : n < 100000) (_hb : ∀ j, 0 ≤ st.sent j ∧ st.sent j ≤ 100000 ∧ 0 ≤ st.took j ∧ st.took j ≤ 100000) (_hr : 0 ≤ st.r ∧ st.r ≤ 100000) (hv : e.v = 0) : Calls Try.prog 92 #[.pointer (some ⟨y, 0, none⟩), .agg (evC e)] w (NextPost S A c R d y bh bs bt bu n st e w) := by
  have O := Own.start w []
  have HL := Lib.hid l
  clear l
  have q0 : decide (e.who < 0) = false := decide_eq_false (by omega)
  have q1 : decide (st.r ≤ e.who) = false := decide_eq_false (by omega)
  have HF := Lib.hid (show okE S st e = bodyE st e by simp [okE, headE, he]; omega)
  have HB := Lib.hid (show bodyE st e = true by simp [bodyE, he, hv])
  have HN := Lib.hid (show nextE st e = st by simp [nextE, he, hv])
  unfold evC
  rw [he, hv]
  go_enter Try.func92, Try.ntmps92
  go_wp2_with (first
    | go_big_skip
    | (refine own_box 3 (#[Value.int .i64 e.who, .int .i64 14, .int .i64 e.a, .int .i64 0, .bool e.sh]) O rfl rfl rfl rfl ?_; clear O; intro W a3 O; simp only [Act.put, List.setIfInBounds_toArray, List.set_cons_zero, List.set_cons_succ]))
  have c3 := Later.cell (O.get 0 rfl)
  have cy : ∀ p : Later W, p.1.cell? ⟨y, 5, none⟩ = some (.int .i64 st.r) := fun p => (HL.out.kept (O.keep.trans p.2 (by simp))).y.cell 5
  refine wp_quiet_later (by kernel_rfl) (by kernel_rfl) ?_
  repeat (first
    | go_big_quiet_skip
    | go_big_quiet_step (fail))
  refine wpQuiet_nil ?_
  intro _ hw
  obtain ⟨p', rfl⟩ := hw
  replace O := O.keeps p'.2
  clear c3 cy
  generalize p'.1 = W at O ⊢
  go_wp2
  have c3 := Later.cell (O.get 0 rfl)
  have cy : ∀ p : Later W, p.1.cell? ⟨y, 5, none⟩ = some (.int .i64 st.r) := fun p => (HL.out.kept (O.keep.trans p.2 (by simp))).y.cell 5
  generalize hcn : cnt S 14 = cn at *
  have HCN : ∀ u, Hid (Calls Try.prog 109 #[.agg (sysV S A c R d), .int .i64 14] u fun e w' => e = .returned (.int .i64 cn) ∧ Keeps u w' []) := fun u => Lib.hid (by rw [← hcn]; exact sharedT_any S A c R d u 14)
  have HCn := Lib.hid hcn
  clear hcn
  refine wp_quiet_later (by kernel_rfl) (by kernel_rfl) ?_
  repeat (first
    | go_big_quiet_skip
    | (refine wpQuiet_load_at (cs := sysV S A c R d) 31 rfl rfl rfl rfl (fun u hu => by obtain ⟨p', rfl⟩ := hu; exact (HL.out.kept (O.keep.trans p'.2 (by simp))).sysAt) Try.underlying27 rfl (by kernel_rfl) ?_; simp only [Act.put, List.setIfInBounds_toArray, List.set_cons_zero, List.set_cons_succ])
    | go_big_quiet_step ((go_at_call 109; exact later_of (HCN _).out)))
  refine wpQuiet_nil ?_
  intro _ hw
  obtain ⟨p', rfl⟩ := hw
  replace O := O.keeps p'.2
  clear c3 cy
  generalize p'.1 = W at O ⊢
  have c3 := (O.get 0 rfl).cell
  go_wp2
  go_ret
  exact ⟨by rw [HF.out, HB.out]; rfl, O.keep.wide (by simp), fun h => (by rw [HN.out]; exact (HL.out.kept O.keep).mono (by omega))⟩
set_option maxRecDepth 100000 in
set_option maxHeartbeats 1000000 in
theorem next_14b (e : Ev) (l : LayAt w S A c R d y bh bs bt bu n st) (he : e.op = 14) (g0 : ¬ e.who < 0) (g1 : ¬ st.r ≤ e.who) (g4 : 0 ≤ cnt S 14) (g5 : ¬ e.a < 0) (g6 : ¬ cnt S 14 ≤ e.a) (_hwf : (Lit.int .i64 e.a).wf = true) (_hn : n < 100000) (_hb : ∀ j, 0 ≤ st.sent j ∧ st.sent j ≤ 100000 ∧ 0 ≤ st.took j ∧ st.took j ≤ 100000) (_hr : 0 ≤ st.r ∧ st.r ≤ 100000) (hv : ¬ e.v = 0) (hv2 : ¬ e.v = st.r) : Calls Try.prog 92 #[.pointer (some ⟨y, 0, none⟩), .agg (evC e)] w (NextPost S A c R d y bh bs bt bu n st e w) := by
  have O := Own.start w []
  have HL := Lib.hid l
  clear l
  have q0 : decide (e.who < 0) = false := decide_eq_false (by omega)
  have q1 : decide (st.r ≤ e.who) = false := decide_eq_false (by omega)
  have HF := Lib.hid (show okE S st e = bodyE st e by simp [okE, headE, he]; omega)
  have HB := Lib.hid (show bodyE st e = false by simp [bodyE, he, hv, hv2])
  have z : (e.v != st.r) = true := by simpa using hv2
  unfold evC
  rw [he]
  go_enter Try.func92, Try.ntmps92
  go_wp2_with (first
    | go_big_skip
    | (refine own_box 3 (#[Value.int .i64 e.who, .int .i64 14, .int .i64 e.a, .int .i64 e.v, .bool e.sh]) O rfl rfl rfl rfl ?_; clear O; intro W a3 O; simp only [Act.put, List.setIfInBounds_toArray, List.set_cons_zero, List.set_cons_succ]))
  have c3 := Later.cell (O.get 0 rfl)
  have cy : ∀ p : Later W, p.1.cell? ⟨y, 5, none⟩ = some (.int .i64 st.r) := fun p => (HL.out.kept (O.keep.trans p.2 (by simp))).y.cell 5
  refine wp_quiet_later (by kernel_rfl) (by kernel_rfl) ?_
  repeat (first
    | go_big_quiet_skip
    | go_big_quiet_step (fail))
  refine wpQuiet_nil ?_
  intro _ hw
  obtain ⟨p', rfl⟩ := hw
  replace O := O.keeps p'.2
  clear c3 cy
  generalize p'.1 = W at O ⊢
  go_wp2
  have c3 := Later.cell (O.get 0 rfl)
  have cy : ∀ p : Later W, p.1.cell? ⟨y, 5, none⟩ = some (.int .i64 st.r) := fun p => (HL.out.kept (O.keep.trans p.2 (by simp))).y.cell 5
  generalize hcn : cnt S 14 = cn at *
  have HCN : ∀ u, Hid (Calls Try.prog 109 #[.agg (sysV S A c R d), .int .i64 14] u fun e w' => e = .returned (.int .i64 cn) ∧ Keeps u w' []) := fun u => Lib.hid (by rw [← hcn]; exact sharedT_any S A c R d u 14)
  have HCn := Lib.hid hcn
  clear hcn
  refine wp_quiet_later (by kernel_rfl) (by kernel_rfl) ?_
  repeat (first
    | go_big_quiet_skip
    | (refine wpQuiet_load_at (cs := sysV S A c R d) 31 rfl rfl rfl rfl (fun u hu => by obtain ⟨p', rfl⟩ := hu; exact (HL.out.kept (O.keep.trans p'.2 (by simp))).sysAt) Try.underlying27 rfl (by kernel_rfl) ?_; simp only [Act.put, List.setIfInBounds_toArray, List.set_cons_zero, List.set_cons_succ])
    | go_big_quiet_step ((go_at_call 109; exact later_of (HCN _).out)))
  refine wpQuiet_nil ?_
  intro _ hw
  obtain ⟨p', rfl⟩ := hw
  replace O := O.keeps p'.2
  clear c3 cy
  generalize p'.1 = W at O ⊢
  have c3 := (O.get 0 rfl).cell
  go_wp2
  clear c3
  have c3 := Later.cell (O.get 0 rfl)
  have cy : ∀ p : Later W, p.1.cell? ⟨y, 5, none⟩ = some (.int .i64 st.r) := fun p => (HL.out.kept (O.keep.trans p.2 (by simp))).y.cell 5
  refine wp_quiet_later (by kernel_rfl) (by kernel_rfl) ?_
  repeat (first
    | go_big_quiet_skip
    | go_big_quiet_step (fail))
  refine wpQuiet_nil ?_
  intro _ hw
  obtain ⟨p', rfl⟩ := hw
  replace O := O.keeps p'.2
  clear c3 cy
  generalize p'.1 = W at O ⊢
  go_wp2
  go_ret
  exact ⟨by rw [HF.out, HB.out]; rfl, O.keep.wide (by simp), fun h => (by rw [HF.out, HB.out] at h; cases h)⟩
set_option maxRecDepth 100000 in
set_option maxHeartbeats 1000000 in
theorem next_14c (e : Ev) (l : LayAt w S A c R d y bh bs bt bu n st) (he : e.op = 14) (g0 : ¬ e.who < 0) (g1 : ¬ st.r ≤ e.who) (g4 : 0 ≤ cnt S 14) (g5 : ¬ e.a < 0) (g6 : ¬ cnt S 14 ≤ e.a) (_hwf : (Lit.int .i64 e.a).wf = true) (_hn : n < 100000) (_hb : ∀ j, 0 ≤ st.sent j ∧ st.sent j ≤ 100000 ∧ 0 ≤ st.took j ∧ st.took j ≤ 100000) (hr : 0 ≤ st.r ∧ st.r ≤ 100000) (hv : ¬ e.v = 0) (hv2 : e.v = st.r) (hv3 : 512 ≤ st.r) : Calls Try.prog 92 #[.pointer (some ⟨y, 0, none⟩), .agg (evC e)] w (NextPost S A c R d y bh bs bt bu n st e w) := by
  have O := Own.start w []
  have HL := Lib.hid l
  clear l
  have q0 : decide (e.who < 0) = false := decide_eq_false (by omega)
  have q1 : decide (st.r ≤ e.who) = false := decide_eq_false (by omega)
  have HF := Lib.hid (show okE S st e = bodyE st e by simp [okE, headE, he]; omega)
  have HB := Lib.hid (show bodyE st e = false by simp [bodyE, he, hv]; omega)
  have q9 : decide (512 ≤ st.r) = true := decide_eq_true hv3
  have z0 : ¬ st.r = 0 := by omega
  unfold evC
  rw [he, hv2]
  go_enter Try.func92, Try.ntmps92
  go_wp2_with (first
    | go_big_skip
    | (refine own_box 3 (#[Value.int .i64 e.who, .int .i64 14, .int .i64 e.a, .int .i64 st.r, .bool e.sh]) O rfl rfl rfl rfl ?_; clear O; intro W a3 O; simp only [Act.put, List.setIfInBounds_toArray, List.set_cons_zero, List.set_cons_succ]))
  have c3 := Later.cell (O.get 0 rfl)
  have cy : ∀ p : Later W, p.1.cell? ⟨y, 5, none⟩ = some (.int .i64 st.r) := fun p => (HL.out.kept (O.keep.trans p.2 (by simp))).y.cell 5
  refine wp_quiet_later (by kernel_rfl) (by kernel_rfl) ?_
  repeat (first
    | go_big_quiet_skip
    | go_big_quiet_step (fail))
  refine wpQuiet_nil ?_
  intro _ hw
  obtain ⟨p', rfl⟩ := hw
  replace O := O.keeps p'.2
  clear c3 cy
  generalize p'.1 = W at O ⊢
  go_wp2
  have c3 := Later.cell (O.get 0 rfl)
  have cy : ∀ p : Later W, p.1.cell? ⟨y, 5, none⟩ = some (.int .i64 st.r) := fun p => (HL.out.kept (O.keep.trans p.2 (by simp))).y.cell 5
  generalize hcn : cnt S 14 = cn at *
  have HCN : ∀ u, Hid (Calls Try.prog 109 #[.agg (sysV S A c R d), .int .i64 14] u fun e w' => e = .returned (.int .i64 cn) ∧ Keeps u w' []) := fun u => Lib.hid (by rw [← hcn]; exact sharedT_any S A c R d u 14)
  have HCn := Lib.hid hcn
  clear hcn
  refine wp_quiet_later (by kernel_rfl) (by kernel_rfl) ?_
  repeat (first
    | go_big_quiet_skip
    | (refine wpQuiet_load_at (cs := sysV S A c R d) 31 rfl rfl rfl rfl (fun u hu => by obtain ⟨p', rfl⟩ := hu; exact (HL.out.kept (O.keep.trans p'.2 (by simp))).sysAt) Try.underlying27 rfl (by kernel_rfl) ?_; simp only [Act.put, List.setIfInBounds_toArray, List.set_cons_zero, List.set_cons_succ])
    | go_big_quiet_step ((go_at_call 109; exact later_of (HCN _).out)))
  refine wpQuiet_nil ?_
  intro _ hw
  obtain ⟨p', rfl⟩ := hw
  replace O := O.keeps p'.2
  clear c3 cy
  generalize p'.1 = W at O ⊢
  have c3 := (O.get 0 rfl).cell
  go_wp2
  clear c3
  have c3 := Later.cell (O.get 0 rfl)
  have cy : ∀ p : Later W, p.1.cell? ⟨y, 5, none⟩ = some (.int .i64 st.r) := fun p => (HL.out.kept (O.keep.trans p.2 (by simp))).y.cell 5
  refine wp_quiet_later (by kernel_rfl) (by kernel_rfl) ?_
  repeat (first
    | go_big_quiet_skip
    | go_big_quiet_step (fail))
  refine wpQuiet_nil ?_
  intro _ hw
  obtain ⟨p', rfl⟩ := hw
  replace O := O.keeps p'.2
  clear c3 cy
  generalize p'.1 = W at O ⊢
  go_wp2
  go_ret
  exact ⟨by rw [HF.out, HB.out]; rfl, O.keep.wide (by simp), fun h => (by rw [HF.out, HB.out] at h; cases h)⟩
set_option maxRecDepth 100000 in
set_option maxHeartbeats 1000000 in
theorem next_14d (e : Ev) (l : LayAt w S A c R d y bh bs bt bu n st) (he : e.op = 14) (g0 : ¬ e.who < 0) (g1 : ¬ st.r ≤ e.who) (g4 : 0 ≤ cnt S 14) (g5 : ¬ e.a < 0) (g6 : ¬ cnt S 14 ≤ e.a) (_hwf : (Lit.int .i64 e.a).wf = true) (_hn : n < 100000) (_hb : ∀ j, 0 ≤ st.sent j ∧ st.sent j ≤ 100000 ∧ 0 ≤ st.took j ∧ st.took j ≤ 100000) (hr : 0 ≤ st.r ∧ st.r ≤ 100000) (hv : ¬ e.v = 0) (hv2 : e.v = st.r) (hv3 : ¬ 512 ≤ st.r) : Calls Try.prog 92 #[.pointer (some ⟨y, 0, none⟩), .agg (evC e)] w (NextPost S A c R d y bh bs bt bu n st e w) := by
  have O := Own.start w []
  have HL := Lib.hid l
  clear l
  have q0 : decide (e.who < 0) = false := decide_eq_false (by omega)
  have q1 : decide (st.r ≤ e.who) = false := decide_eq_false (by omega)
  have HF := Lib.hid (show okE S st e = bodyE st e by simp [okE, headE, he]; omega)
  have HB := Lib.hid (show bodyE st e = true by simp [bodyE, he, hv]; omega)
  have HN := Lib.hid (show nextE st e = { st with r := st.r + 1 } by simp [nextE, he, hv])
  have q9 : decide (512 ≤ st.r) = false := decide_eq_false hv3
  have z0 : ¬ st.r = 0 := by omega
  have r1 : IntKind.i64.wrap (st.r + 1) = st.r + 1 := IntWalk.i64_in _ (by omega)
  unfold evC
  rw [he, hv2]
  go_enter Try.func92, Try.ntmps92
  go_wp2_with (first
    | go_big_skip
    | (refine own_box 3 (#[Value.int .i64 e.who, .int .i64 14, .int .i64 e.a, .int .i64 st.r, .bool e.sh]) O rfl rfl rfl rfl ?_; clear O; intro W a3 O; simp only [Act.put, List.setIfInBounds_toArray, List.set_cons_zero, List.set_cons_succ]))
  have c3 := Later.cell (O.get 0 rfl)
  have cy : ∀ p : Later W, p.1.cell? ⟨y, 5, none⟩ = some (.int .i64 st.r) := fun p => (HL.out.kept (O.keep.trans p.2 (by simp))).y.cell 5
  refine wp_quiet_later (by kernel_rfl) (by kernel_rfl) ?_
  repeat (first
    | go_big_quiet_skip
    | go_big_quiet_step (fail))
  refine wpQuiet_nil ?_
  intro _ hw
  obtain ⟨p', rfl⟩ := hw
  replace O := O.keeps p'.2
  clear c3 cy
  generalize p'.1 = W at O ⊢
  go_wp2
  have c3 := Later.cell (O.get 0 rfl)
  have cy : ∀ p : Later W, p.1.cell? ⟨y, 5, none⟩ = some (.int .i64 st.r) := fun p => (HL.out.kept (O.keep.trans p.2 (by simp))).y.cell 5
  generalize hcn : cnt S 14 = cn at *
  have HCN : ∀ u, Hid (Calls Try.prog 109 #[.agg (sysV S A c R d), .int .i64 14] u fun e w' => e = .returned (.int .i64 cn) ∧ Keeps u w' []) := fun u => Lib.hid (by rw [← hcn]; exact sharedT_any S A c R d u 14)
  have HCn := Lib.hid hcn
  clear hcn
  refine wp_quiet_later (by kernel_rfl) (by kernel_rfl) ?_
  repeat (first
    | go_big_quiet_skip
    | (refine wpQuiet_load_at (cs := sysV S A c R d) 31 rfl rfl rfl rfl (fun u hu => by obtain ⟨p', rfl⟩ := hu; exact (HL.out.kept (O.keep.trans p'.2 (by simp))).sysAt) Try.underlying27 rfl (by kernel_rfl) ?_; simp only [Act.put, List.setIfInBounds_toArray, List.set_cons_zero, List.set_cons_succ])
    | go_big_quiet_step ((go_at_call 109; exact later_of (HCN _).out)))
  refine wpQuiet_nil ?_
  intro _ hw
  obtain ⟨p', rfl⟩ := hw
  replace O := O.keeps p'.2
  clear c3 cy
  generalize p'.1 = W at O ⊢
  have c3 := (O.get 0 rfl).cell
  go_wp2
  clear c3
  have c3 := Later.cell (O.get 0 rfl)
  have cy : ∀ p : Later W, p.1.cell? ⟨y, 5, none⟩ = some (.int .i64 st.r) := fun p => (HL.out.kept (O.keep.trans p.2 (by simp))).y.cell 5
  refine wp_quiet_later (by kernel_rfl) (by kernel_rfl) ?_
  repeat (first
    | go_big_quiet_skip
    | go_big_quiet_step (fail))
  refine wpQuiet_nil ?_
  intro _ hw
  obtain ⟨p', rfl⟩ := hw
  replace O := O.keeps p'.2
  clear c3 cy
  generalize p'.1 = W at O ⊢
  have cy : W.cell? ⟨y, 5, none⟩ = some (.int .i64 st.r) := (HL.out.kept O.keep).y.cell 5
  go_wp2_with (first
    | (refine wpList_store_blk y 5 156 _ (.int .i64 (st.r + 1)) rfl rfl rfl rfl rfl (HL.out.kept O.keep).y (by show 5 < 10; omega) rfl rfl (by kernel_rfl) ?_; intro u K M))
  have L2 := Lib.hid ((HL.out.kept O.keep).setY K M)
  have K2 := Lib.hid ((O.keep.wide (L' := [y, bh, bs, bt, bu]) (by simp)).trans (K.wide (L' := [y, bh, bs, bt, bu]) (by simp)) (fun b hb _ => hb))
  clear M cy
  go_wp2
  go_ret
  exact ⟨by rw [HF.out, HB.out]; rfl, K2.out, fun h => (by rw [HN.out]; exact L2.out.mono (by omega))⟩
set_option maxRecDepth 100000 in
set_option maxHeartbeats 1000000 in
theorem next_5 (e : Ev) (l : LayAt w S A c R d y bh bs bt bu n st) (he : e.op = 5) (g0 : ¬ e.who < 0) (g1 : ¬ st.r ≤ e.who) (g4 : 0 ≤ cnt S 5) (g5 : ¬ e.a < 0) (g6 : ¬ cnt S 5 ≤ e.a) (hwf : (Lit.int .i64 e.a).wf = true) (hn : n < 100000) (hb : ∀ j, 0 ≤ st.sent j ∧ st.sent j ≤ 100000 ∧ 0 ≤ st.took j ∧ st.took j ≤ 100000) (_hr : 0 ≤ st.r ∧ st.r ≤ 100000)  : Calls Try.prog 92 #[.pointer (some ⟨y, 0, none⟩), .agg (evC e)] w (NextPost S A c R d y bh bs bt bu n st e w) := by
  have O := Own.start w []
  have HL := Lib.hid l
  clear l
  have q0 : decide (e.who < 0) = false := decide_eq_false (by omega)
  have q1 : decide (st.r ≤ e.who) = false := decide_eq_false (by omega)
  have HF := Lib.hid (show okE S st e = bodyE st e by simp [okE, headE, he]; omega)
  have HB := Lib.hid (show bodyE st e = true by simp [bodyE, he])
  have HN := Lib.hid (show nextE st e = { st with sent := updI st.sent e.a (st.sent e.a + 1) } by simp [nextE, he])
  have r1 : IntKind.i64.wrap (st.sent e.a + 1) = st.sent e.a + 1 := IntWalk.i64_in _ (by have := hb e.a; omega)
  unfold evC
  rw [he]
  go_enter Try.func92, Try.ntmps92
  go_wp2_with (first
    | go_big_skip
    | (refine own_box 3 (#[Value.int .i64 e.who, .int .i64 5, .int .i64 e.a, .int .i64 e.v, .bool e.sh]) O rfl rfl rfl rfl ?_; clear O; intro W a3 O; simp only [Act.put, List.setIfInBounds_toArray, List.set_cons_zero, List.set_cons_succ]))
  have c3 := Later.cell (O.get 0 rfl)
  have cy : ∀ p : Later W, p.1.cell? ⟨y, 5, none⟩ = some (.int .i64 st.r) := fun p => (HL.out.kept (O.keep.trans p.2 (by simp))).y.cell 5
  refine wp_quiet_later (by kernel_rfl) (by kernel_rfl) ?_
  repeat (first
    | go_big_quiet_skip
    | go_big_quiet_step (fail))
  refine wpQuiet_nil ?_
  intro _ hw
  obtain ⟨p', rfl⟩ := hw
  replace O := O.keeps p'.2
  clear c3 cy
  generalize p'.1 = W at O ⊢
  go_wp2
  have c3 := Later.cell (O.get 0 rfl)
  have cy : ∀ p : Later W, p.1.cell? ⟨y, 5, none⟩ = some (.int .i64 st.r) := fun p => (HL.out.kept (O.keep.trans p.2 (by simp))).y.cell 5
  generalize hcn : cnt S 5 = cn at *
  have HCN : ∀ u, Hid (Calls Try.prog 109 #[.agg (sysV S A c R d), .int .i64 5] u fun e w' => e = .returned (.int .i64 cn) ∧ Keeps u w' []) := fun u => Lib.hid (by rw [← hcn]; exact sharedT_any S A c R d u 5)
  have HCn := Lib.hid hcn
  clear hcn
  refine wp_quiet_later (by kernel_rfl) (by kernel_rfl) ?_
  repeat (first
    | go_big_quiet_skip
    | (refine wpQuiet_load_at (cs := sysV S A c R d) 31 rfl rfl rfl rfl (fun u hu => by obtain ⟨p', rfl⟩ := hu; exact (HL.out.kept (O.keep.trans p'.2 (by simp))).sysAt) Try.underlying27 rfl (by kernel_rfl) ?_; simp only [Act.put, List.setIfInBounds_toArray, List.set_cons_zero, List.set_cons_succ])
    | go_big_quiet_step ((go_at_call 109; exact later_of (HCN _).out)))
  refine wpQuiet_nil ?_
  intro _ hw
  obtain ⟨p', rfl⟩ := hw
  replace O := O.keeps p'.2
  clear c3 cy
  generalize p'.1 = W at O ⊢
  have c3 := (O.get 0 rfl).cell
  go_wp2
  clear c3
  have c3 := Later.cell (O.get 0 rfl)
  have cy : ∀ p : Later W, p.1.cell? ⟨y, 7, none⟩ = some (.map (some bs)) := fun p => (HL.out.kept (O.keep.trans p.2 (by simp))).y.cell 7
  have lk : ∀ p : Later W, (Instr.lookup 117 (.map (some bs)) (.int .i64 e.a) false).run Try.prog p.1 = .ok (.int .i64 (st.sent e.a)) p.1 := fun p => look_eqI (HL.out.kept (O.keep.trans p.2 (by simp))).s 117 Try.underlying117 e.a hwf
  refine wp_quiet_tail_later 8 (by kernel_rfl) (by kernel_rfl) ?_
  simp only [List.take, List.drop]
  repeat (first
    | go_big_quiet_skip
    | go_big_quiet_step (fail))
  refine wpQuiet_nil ?_
  intro _ hw
  obtain ⟨p', rfl⟩ := hw
  replace O := O.keeps p'.2
  clear c3 cy lk
  generalize p'.1 = W at O ⊢
  refine map_storeI (HL.out.kept O.keep).s 117 Try.underlying117 rfl rfl rfl rfl hwf rfl (WalkArith.wf_i64 (by have := hb e.a; omega)) (by unfold maxLen; omega) ?_
  intro u K M
  have L2 := Lib.hid ((HL.out.kept O.keep).setS K M)
  have K2 := Lib.hid ((O.keep.wide (L' := [y, bh, bs, bt, bu]) (by simp)).trans (K.wide (L' := [y, bh, bs, bt, bu]) (by simp)) (fun b hb _ => hb))
  clear M
  go_wp2
  go_ret
  exact ⟨by rw [HF.out, HB.out]; rfl, K2.out, fun h => (by rw [HN.out]; exact L2.out)⟩
set_option maxRecDepth 100000 in
set_option maxHeartbeats 1000000 in
theorem next_7 (e : Ev) (l : LayAt w S A c R d y bh bs bt bu n st) (he : e.op = 7) (g0 : ¬ e.who < 0) (g1 : ¬ st.r ≤ e.who) (g4 : 0 ≤ cnt S 7) (g5 : ¬ e.a < 0) (g6 : ¬ cnt S 7 ≤ e.a) (hwf : (Lit.int .i64 e.a).wf = true) (hn : n < 100000) (_hb : ∀ j, 0 ≤ st.sent j ∧ st.sent j ≤ 100000 ∧ 0 ≤ st.took j ∧ st.took j ≤ 100000) (_hr : 0 ≤ st.r ∧ st.r ≤ 100000)  : Calls Try.prog 92 #[.pointer (some ⟨y, 0, none⟩), .agg (evC e)] w (NextPost S A c R d y bh bs bt bu n st e w) := by
  have O := Own.start w []
  have HL := Lib.hid l
  clear l
  have q0 : decide (e.who < 0) = false := decide_eq_false (by omega)
  have q1 : decide (st.r ≤ e.who) = false := decide_eq_false (by omega)
  have HF := Lib.hid (show okE S st e = bodyE st e by simp [okE, headE, he]; omega)
  have HB := Lib.hid (show bodyE st e = true by simp [bodyE, he])
  have HN := Lib.hid (show nextE st e = { st with shut := updI st.shut e.a true } by simp [nextE, he])
  unfold evC
  rw [he]
  go_enter Try.func92, Try.ntmps92
  go_wp2_with (first
    | go_big_skip
    | (refine own_box 3 (#[Value.int .i64 e.who, .int .i64 7, .int .i64 e.a, .int .i64 e.v, .bool e.sh]) O rfl rfl rfl rfl ?_; clear O; intro W a3 O; simp only [Act.put, List.setIfInBounds_toArray, List.set_cons_zero, List.set_cons_succ]))
  have c3 := Later.cell (O.get 0 rfl)
  have cy : ∀ p : Later W, p.1.cell? ⟨y, 5, none⟩ = some (.int .i64 st.r) := fun p => (HL.out.kept (O.keep.trans p.2 (by simp))).y.cell 5
  refine wp_quiet_later (by kernel_rfl) (by kernel_rfl) ?_
  repeat (first
    | go_big_quiet_skip
    | go_big_quiet_step (fail))
  refine wpQuiet_nil ?_
  intro _ hw
  obtain ⟨p', rfl⟩ := hw
  replace O := O.keeps p'.2
  clear c3 cy
  generalize p'.1 = W at O ⊢
  go_wp2
  have c3 := Later.cell (O.get 0 rfl)
  have cy : ∀ p : Later W, p.1.cell? ⟨y, 5, none⟩ = some (.int .i64 st.r) := fun p => (HL.out.kept (O.keep.trans p.2 (by simp))).y.cell 5
  generalize hcn : cnt S 7 = cn at *
  have HCN : ∀ u, Hid (Calls Try.prog 109 #[.agg (sysV S A c R d), .int .i64 7] u fun e w' => e = .returned (.int .i64 cn) ∧ Keeps u w' []) := fun u => Lib.hid (by rw [← hcn]; exact sharedT_any S A c R d u 7)
  have HCn := Lib.hid hcn
  clear hcn
  refine wp_quiet_later (by kernel_rfl) (by kernel_rfl) ?_
  repeat (first
    | go_big_quiet_skip
    | (refine wpQuiet_load_at (cs := sysV S A c R d) 31 rfl rfl rfl rfl (fun u hu => by obtain ⟨p', rfl⟩ := hu; exact (HL.out.kept (O.keep.trans p'.2 (by simp))).sysAt) Try.underlying27 rfl (by kernel_rfl) ?_; simp only [Act.put, List.setIfInBounds_toArray, List.set_cons_zero, List.set_cons_succ])
    | go_big_quiet_step ((go_at_call 109; exact later_of (HCN _).out)))
  refine wpQuiet_nil ?_
  intro _ hw
  obtain ⟨p', rfl⟩ := hw
  replace O := O.keeps p'.2
  clear c3 cy
  generalize p'.1 = W at O ⊢
  have c3 := (O.get 0 rfl).cell
  go_wp2
  clear c3
  have c3 := Later.cell (O.get 0 rfl)
  have cy : ∀ p : Later W, p.1.cell? ⟨y, 9, none⟩ = some (.map (some bu)) := fun p => (HL.out.kept (O.keep.trans p.2 (by simp))).y.cell 9
  refine wp_quiet_tail_later 6 (by kernel_rfl) (by kernel_rfl) ?_
  simp only [List.take, List.drop]
  repeat (first
    | go_big_quiet_skip
    | go_big_quiet_step (fail))
  refine wpQuiet_nil ?_
  intro _ hw
  obtain ⟨p', rfl⟩ := hw
  replace O := O.keeps p'.2
  clear c3 cy
  generalize p'.1 = W at O ⊢
  refine map_storeB (HL.out.kept O.keep).u 154 Try.underlying154 rfl rfl rfl rfl hwf rfl (by unfold maxLen; omega) ?_
  intro u K M
  have L2 := Lib.hid ((HL.out.kept O.keep).setU K M)
  have K2 := Lib.hid ((O.keep.wide (L' := [y, bh, bs, bt, bu]) (by simp)).trans (K.wide (L' := [y, bh, bs, bt, bu]) (by simp)) (fun b hb _ => hb))
  clear M
  go_wp2
  go_ret
  exact ⟨by rw [HF.out, HB.out]; rfl, K2.out, fun h => (by rw [HN.out]; exact L2.out)⟩
set_option maxRecDepth 100000 in
set_option maxHeartbeats 1000000 in
theorem next_9 (e : Ev) (l : LayAt w S A c R d y bh bs bt bu n st) (he : e.op = 9) (g0 : ¬ e.who < 0) (g1 : ¬ st.r ≤ e.who) (g4 : 0 ≤ cnt S 9) (g5 : ¬ e.a < 0) (g6 : ¬ cnt S 9 ≤ e.a) (hwf : (Lit.int .i64 e.a).wf = true) (hn : n < 100000) (_hb : ∀ j, 0 ≤ st.sent j ∧ st.sent j ≤ 100000 ∧ 0 ≤ st.took j ∧ st.took j ≤ 100000) (_hr : 0 ≤ st.r ∧ st.r ≤ 100000)  : Calls Try.prog 92 #[.pointer (some ⟨y, 0, none⟩), .agg (evC e)] w (NextPost S A c R d y bh bs bt bu n st e w) := by
  have O := Own.start w []
  have HL := Lib.hid l
  clear l
  have q0 : decide (e.who < 0) = false := decide_eq_false (by omega)
  have q1 : decide (st.r ≤ e.who) = false := decide_eq_false (by omega)
  have HF := Lib.hid (show okE S st e = bodyE st e by simp [okE, headE, he]; omega)
  have HB := Lib.hid (show bodyE st e = true by simp [bodyE, he])
  have HN := Lib.hid (show nextE st e = { st with held := updI st.held e.a false } by simp [nextE, he])
  unfold evC
  rw [he]
  go_enter Try.func92, Try.ntmps92
  go_wp2_with (first
    | go_big_skip
    | (refine own_box 3 (#[Value.int .i64 e.who, .int .i64 9, .int .i64 e.a, .int .i64 e.v, .bool e.sh]) O rfl rfl rfl rfl ?_; clear O; intro W a3 O; simp only [Act.put, List.setIfInBounds_toArray, List.set_cons_zero, List.set_cons_succ]))
  have c3 := Later.cell (O.get 0 rfl)
  have cy : ∀ p : Later W, p.1.cell? ⟨y, 5, none⟩ = some (.int .i64 st.r) := fun p => (HL.out.kept (O.keep.trans p.2 (by simp))).y.cell 5
  refine wp_quiet_later (by kernel_rfl) (by kernel_rfl) ?_
  repeat (first
    | go_big_quiet_skip
    | go_big_quiet_step (fail))
  refine wpQuiet_nil ?_
  intro _ hw
  obtain ⟨p', rfl⟩ := hw
  replace O := O.keeps p'.2
  clear c3 cy
  generalize p'.1 = W at O ⊢
  go_wp2
  have c3 := Later.cell (O.get 0 rfl)
  have cy : ∀ p : Later W, p.1.cell? ⟨y, 5, none⟩ = some (.int .i64 st.r) := fun p => (HL.out.kept (O.keep.trans p.2 (by simp))).y.cell 5
  generalize hcn : cnt S 9 = cn at *
  have HCN : ∀ u, Hid (Calls Try.prog 109 #[.agg (sysV S A c R d), .int .i64 9] u fun e w' => e = .returned (.int .i64 cn) ∧ Keeps u w' []) := fun u => Lib.hid (by rw [← hcn]; exact sharedT_any S A c R d u 9)
  have HCn := Lib.hid hcn
  clear hcn
  refine wp_quiet_later (by kernel_rfl) (by kernel_rfl) ?_
  repeat (first
    | go_big_quiet_skip
    | (refine wpQuiet_load_at (cs := sysV S A c R d) 31 rfl rfl rfl rfl (fun u hu => by obtain ⟨p', rfl⟩ := hu; exact (HL.out.kept (O.keep.trans p'.2 (by simp))).sysAt) Try.underlying27 rfl (by kernel_rfl) ?_; simp only [Act.put, List.setIfInBounds_toArray, List.set_cons_zero, List.set_cons_succ])
    | go_big_quiet_step ((go_at_call 109; exact later_of (HCN _).out)))
  refine wpQuiet_nil ?_
  intro _ hw
  obtain ⟨p', rfl⟩ := hw
  replace O := O.keeps p'.2
  clear c3 cy
  generalize p'.1 = W at O ⊢
  have c3 := (O.get 0 rfl).cell
  go_wp2
  clear c3
  have c3 := Later.cell (O.get 0 rfl)
  have cy : ∀ p : Later W, p.1.cell? ⟨y, 6, none⟩ = some (.map (some bh)) := fun p => (HL.out.kept (O.keep.trans p.2 (by simp))).y.cell 6
  refine wp_quiet_tail_later 6 (by kernel_rfl) (by kernel_rfl) ?_
  simp only [List.take, List.drop]
  repeat (first
    | go_big_quiet_skip
    | go_big_quiet_step (fail))
  refine wpQuiet_nil ?_
  intro _ hw
  obtain ⟨p', rfl⟩ := hw
  replace O := O.keeps p'.2
  clear c3 cy
  generalize p'.1 = W at O ⊢
  refine map_storeB (HL.out.kept O.keep).h 154 Try.underlying154 rfl rfl rfl rfl hwf rfl (by unfold maxLen; omega) ?_
  intro u K M
  have L2 := Lib.hid ((HL.out.kept O.keep).setH K M)
  have K2 := Lib.hid ((O.keep.wide (L' := [y, bh, bs, bt, bu]) (by simp)).trans (K.wide (L' := [y, bh, bs, bt, bu]) (by simp)) (fun b hb _ => hb))
  clear M
  go_wp2
  go_ret
  exact ⟨by rw [HF.out, HB.out]; rfl, K2.out, fun h => (by rw [HN.out]; exact L2.out)⟩
set_option maxRecDepth 100000 in
set_option maxHeartbeats 1000000 in
theorem next_8a (e : Ev) (l : LayAt w S A c R d y bh bs bt bu n st) (he : e.op = 8) (g0 : ¬ e.who < 0) (g1 : ¬ st.r ≤ e.who) (g4 : 0 ≤ cnt S 8) (g5 : ¬ e.a < 0) (g6 : ¬ cnt S 8 ≤ e.a) (hwf : (Lit.int .i64 e.a).wf = true) (_hn : n < 100000) (_hb : ∀ j, 0 ≤ st.sent j ∧ st.sent j ≤ 100000 ∧ 0 ≤ st.took j ∧ st.took j ≤ 100000) (_hr : 0 ≤ st.r ∧ st.r ≤ 100000) (hv : st.held e.a = true) : Calls Try.prog 92 #[.pointer (some ⟨y, 0, none⟩), .agg (evC e)] w (NextPost S A c R d y bh bs bt bu n st e w) := by
  have O := Own.start w []
  have HL := Lib.hid l
  clear l
  have q0 : decide (e.who < 0) = false := decide_eq_false (by omega)
  have q1 : decide (st.r ≤ e.who) = false := decide_eq_false (by omega)
  have HF := Lib.hid (show okE S st e = bodyE st e by simp [okE, headE, he]; omega)
  have HB := Lib.hid (show bodyE st e = false by simp [bodyE, he, hv])
  have HV := Lib.hid hv
  clear hv
  unfold evC
  rw [he]
  go_enter Try.func92, Try.ntmps92
  go_wp2_with (first
    | go_big_skip
    | (refine own_box 3 (#[Value.int .i64 e.who, .int .i64 8, .int .i64 e.a, .int .i64 e.v, .bool e.sh]) O rfl rfl rfl rfl ?_; clear O; intro W a3 O; simp only [Act.put, List.setIfInBounds_toArray, List.set_cons_zero, List.set_cons_succ]))
  have c3 := Later.cell (O.get 0 rfl)
  have cy : ∀ p : Later W, p.1.cell? ⟨y, 5, none⟩ = some (.int .i64 st.r) := fun p => (HL.out.kept (O.keep.trans p.2 (by simp))).y.cell 5
  refine wp_quiet_later (by kernel_rfl) (by kernel_rfl) ?_
  repeat (first
    | go_big_quiet_skip
    | go_big_quiet_step (fail))
  refine wpQuiet_nil ?_
  intro _ hw
  obtain ⟨p', rfl⟩ := hw
  replace O := O.keeps p'.2
  clear c3 cy
  generalize p'.1 = W at O ⊢
  go_wp2
  have c3 := Later.cell (O.get 0 rfl)
  have cy : ∀ p : Later W, p.1.cell? ⟨y, 5, none⟩ = some (.int .i64 st.r) := fun p => (HL.out.kept (O.keep.trans p.2 (by simp))).y.cell 5
  generalize hcn : cnt S 8 = cn at *
  have HCN : ∀ u, Hid (Calls Try.prog 109 #[.agg (sysV S A c R d), .int .i64 8] u fun e w' => e = .returned (.int .i64 cn) ∧ Keeps u w' []) := fun u => Lib.hid (by rw [← hcn]; exact sharedT_any S A c R d u 8)
  have HCn := Lib.hid hcn
  clear hcn
  refine wp_quiet_later (by kernel_rfl) (by kernel_rfl) ?_
  repeat (first
    | go_big_quiet_skip
    | (refine wpQuiet_load_at (cs := sysV S A c R d) 31 rfl rfl rfl rfl (fun u hu => by obtain ⟨p', rfl⟩ := hu; exact (HL.out.kept (O.keep.trans p'.2 (by simp))).sysAt) Try.underlying27 rfl (by kernel_rfl) ?_; simp only [Act.put, List.setIfInBounds_toArray, List.set_cons_zero, List.set_cons_succ])
    | go_big_quiet_step ((go_at_call 109; exact later_of (HCN _).out)))
  refine wpQuiet_nil ?_
  intro _ hw
  obtain ⟨p', rfl⟩ := hw
  replace O := O.keeps p'.2
  clear c3 cy
  generalize p'.1 = W at O ⊢
  have c3 := (O.get 0 rfl).cell
  go_wp2
  clear c3
  have c3 := Later.cell (O.get 0 rfl)
  have cy : ∀ p : Later W, p.1.cell? ⟨y, 6, none⟩ = some (.map (some bh)) := fun p => (HL.out.kept (O.keep.trans p.2 (by simp))).y.cell 6
  have lk : ∀ p : Later W, (Instr.lookup 154 (.map (some bh)) (.int .i64 e.a) false).run Try.prog p.1 = .ok (.bool true) p.1 := fun p => by have := look_eqB (HL.out.kept (O.keep.trans p.2 (by simp))).h 154 Try.underlying154 e.a hwf; rwa [HV.out] at this
  refine wp_quiet_later (by kernel_rfl) (by kernel_rfl) ?_
  repeat (first
    | go_big_quiet_skip
    | go_big_quiet_step (fail))
  refine wpQuiet_nil ?_
  intro _ hw
  obtain ⟨p', rfl⟩ := hw
  replace O := O.keeps p'.2
  clear c3 cy lk
  generalize p'.1 = W at O ⊢
  go_wp2
  go_ret
  exact ⟨by rw [HF.out, HB.out]; rfl, O.keep.wide (by simp), fun h => (by rw [HF.out, HB.out] at h; cases h)⟩
set_option maxRecDepth 100000 in
set_option maxHeartbeats 1000000 in
theorem next_8b (e : Ev) (l : LayAt w S A c R d y bh bs bt bu n st) (he : e.op = 8) (g0 : ¬ e.who < 0) (g1 : ¬ st.r ≤ e.who) (g4 : 0 ≤ cnt S 8) (g5 : ¬ e.a < 0) (g6 : ¬ cnt S 8 ≤ e.a) (hwf : (Lit.int .i64 e.a).wf = true) (hn : n < 100000) (_hb : ∀ j, 0 ≤ st.sent j ∧ st.sent j ≤ 100000 ∧ 0 ≤ st.took j ∧ st.took j ≤ 100000) (_hr : 0 ≤ st.r ∧ st.r ≤ 100000) (hv : st.held e.a = false) : Calls Try.prog 92 #[.pointer (some ⟨y, 0, none⟩), .agg (evC e)] w (NextPost S A c R d y bh bs bt bu n st e w) := by
  have O := Own.start w []
  have HL := Lib.hid l
  clear l
  have q0 : decide (e.who < 0) = false := decide_eq_false (by omega)
  have q1 : decide (st.r ≤ e.who) = false := decide_eq_false (by omega)
  have HF := Lib.hid (show okE S st e = bodyE st e by simp [okE, headE, he]; omega)
  have HB := Lib.hid (show bodyE st e = true by simp [bodyE, he, hv])
  have HN := Lib.hid (show nextE st e = { st with held := updI st.held e.a true } by simp [nextE, he])
  have HV := Lib.hid hv
  clear hv
  unfold evC
  rw [he]
  go_enter Try.func92, Try.ntmps92
  go_wp2_with (first
    | go_big_skip
    | (refine own_box 3 (#[Value.int .i64 e.who, .int .i64 8, .int .i64 e.a, .int .i64 e.v, .bool e.sh]) O rfl rfl rfl rfl ?_; clear O; intro W a3 O; simp only [Act.put, List.setIfInBounds_toArray, List.set_cons_zero, List.set_cons_succ]))
  have c3 := Later.cell (O.get 0 rfl)
  have cy : ∀ p : Later W, p.1.cell? ⟨y, 5, none⟩ = some (.int .i64 st.r) := fun p => (HL.out.kept (O.keep.trans p.2 (by simp))).y.cell 5
  refine wp_quiet_later (by kernel_rfl) (by kernel_rfl) ?_
  repeat (first
    | go_big_quiet_skip
    | go_big_quiet_step (fail))
  refine wpQuiet_nil ?_
  intro _ hw
  obtain ⟨p', rfl⟩ := hw
  replace O := O.keeps p'.2
  clear c3 cy
  generalize p'.1 = W at O ⊢
  go_wp2
  have c3 := Later.cell (O.get 0 rfl)
  have cy : ∀ p : Later W, p.1.cell? ⟨y, 5, none⟩ = some (.int .i64 st.r) := fun p => (HL.out.kept (O.keep.trans p.2 (by simp))).y.cell 5
  generalize hcn : cnt S 8 = cn at *
  have HCN : ∀ u, Hid (Calls Try.prog 109 #[.agg (sysV S A c R d), .int .i64 8] u fun e w' => e = .returned (.int .i64 cn) ∧ Keeps u w' []) := fun u => Lib.hid (by rw [← hcn]; exact sharedT_any S A c R d u 8)
  have HCn := Lib.hid hcn
  clear hcn
  refine wp_quiet_later (by kernel_rfl) (by kernel_rfl) ?_
  repeat (first
    | go_big_quiet_skip
    | (refine wpQuiet_load_at (cs := sysV S A c R d) 31 rfl rfl rfl rfl (fun u hu => by obtain ⟨p', rfl⟩ := hu; exact (HL.out.kept (O.keep.trans p'.2 (by simp))).sysAt) Try.underlying27 rfl (by kernel_rfl) ?_; simp only [Act.put, List.setIfInBounds_toArray, List.set_cons_zero, List.set_cons_succ])
    | go_big_quiet_step ((go_at_call 109; exact later_of (HCN _).out)))
  refine wpQuiet_nil ?_
  intro _ hw
  obtain ⟨p', rfl⟩ := hw
  replace O := O.keeps p'.2
  clear c3 cy
  generalize p'.1 = W at O ⊢
  have c3 := (O.get 0 rfl).cell
  go_wp2
  clear c3
  have c3 := Later.cell (O.get 0 rfl)
  have cy : ∀ p : Later W, p.1.cell? ⟨y, 6, none⟩ = some (.map (some bh)) := fun p => (HL.out.kept (O.keep.trans p.2 (by simp))).y.cell 6
  have lk : ∀ p : Later W, (Instr.lookup 154 (.map (some bh)) (.int .i64 e.a) false).run Try.prog p.1 = .ok (.bool false) p.1 := fun p => by have := look_eqB (HL.out.kept (O.keep.trans p.2 (by simp))).h 154 Try.underlying154 e.a hwf; rwa [HV.out] at this
  refine wp_quiet_later (by kernel_rfl) (by kernel_rfl) ?_
  repeat (first
    | go_big_quiet_skip
    | go_big_quiet_step (fail))
  refine wpQuiet_nil ?_
  intro _ hw
  obtain ⟨p', rfl⟩ := hw
  replace O := O.keeps p'.2
  clear c3 cy lk
  generalize p'.1 = W at O ⊢
  have c3 := (O.get 0 rfl).cell
  go_wp2
  clear c3
  have c3 := Later.cell (O.get 0 rfl)
  have cy : ∀ p : Later W, p.1.cell? ⟨y, 6, none⟩ = some (.map (some bh)) := fun p => (HL.out.kept (O.keep.trans p.2 (by simp))).y.cell 6
  refine wp_quiet_tail_later 6 (by kernel_rfl) (by kernel_rfl) ?_
  simp only [List.take, List.drop]
  repeat (first
    | go_big_quiet_skip
    | go_big_quiet_step (fail))
  refine wpQuiet_nil ?_
  intro _ hw
  obtain ⟨p', rfl⟩ := hw
  replace O := O.keeps p'.2
  clear c3 cy
  generalize p'.1 = W at O ⊢
  refine map_storeB (HL.out.kept O.keep).h 154 Try.underlying154 rfl rfl rfl rfl hwf rfl (by unfold maxLen; omega) ?_
  intro u K M
  have L2 := Lib.hid ((HL.out.kept O.keep).setH K M)
  have K2 := Lib.hid ((O.keep.wide (L' := [y, bh, bs, bt, bu]) (by simp)).trans (K.wide (L' := [y, bh, bs, bt, bu]) (by simp)) (fun b hb _ => hb))
  clear M
  go_wp2
  go_ret
  exact ⟨by rw [HF.out, HB.out]; rfl, K2.out, fun h => (by rw [HN.out]; exact L2.out)⟩
set_option maxRecDepth 100000 in
set_option maxHeartbeats 1000000 in
theorem next_6s (e : Ev) (l : LayAt w S A c R d y bh bs bt bu n st) (he : e.op = 6) (g0 : ¬ e.who < 0) (g1 : ¬ st.r ≤ e.who) (g4 : 0 ≤ cnt S 6) (g5 : ¬ e.a < 0) (g6 : ¬ cnt S 6 ≤ e.a) (hwf : (Lit.int .i64 e.a).wf = true) (_hn : n < 100000) (_hb : ∀ j, 0 ≤ st.sent j ∧ st.sent j ≤ 100000 ∧ 0 ≤ st.took j ∧ st.took j ≤ 100000) (_hr : 0 ≤ st.r ∧ st.r ≤ 100000) (hs : e.sh = true) : Calls Try.prog 92 #[.pointer (some ⟨y, 0, none⟩), .agg (evC e)] w (NextPost S A c R d y bh bs bt bu n st e w) := by
  have O := Own.start w []
  have HL := Lib.hid l
  clear l
  have q0 : decide (e.who < 0) = false := decide_eq_false (by omega)
  have q1 : decide (st.r ≤ e.who) = false := decide_eq_false (by omega)
  have HF := Lib.hid (show okE S st e = bodyE st e by simp [okE, headE, he]; omega)
  have HB := Lib.hid (show bodyE st e = st.shut e.a by simp [bodyE, he, hs])
  have HN := Lib.hid (show nextE st e = st by simp [nextE, he, hs])
  unfold evC
  rw [he, hs]
  go_enter Try.func92, Try.ntmps92
  go_wp2_with (first
    | go_big_skip
    | (refine own_box 3 (#[Value.int .i64 e.who, .int .i64 6, .int .i64 e.a, .int .i64 e.v, .bool true]) O rfl rfl rfl rfl ?_; clear O; intro W a3 O; simp only [Act.put, List.setIfInBounds_toArray, List.set_cons_zero, List.set_cons_succ]))
  have c3 := Later.cell (O.get 0 rfl)
  have cy : ∀ p : Later W, p.1.cell? ⟨y, 5, none⟩ = some (.int .i64 st.r) := fun p => (HL.out.kept (O.keep.trans p.2 (by simp))).y.cell 5
  refine wp_quiet_later (by kernel_rfl) (by kernel_rfl) ?_
  repeat (first
    | go_big_quiet_skip
    | go_big_quiet_step (fail))
  refine wpQuiet_nil ?_
  intro _ hw
  obtain ⟨p', rfl⟩ := hw
  replace O := O.keeps p'.2
  clear c3 cy
  generalize p'.1 = W at O ⊢
  go_wp2
  have c3 := Later.cell (O.get 0 rfl)
  have cy : ∀ p : Later W, p.1.cell? ⟨y, 5, none⟩ = some (.int .i64 st.r) := fun p => (HL.out.kept (O.keep.trans p.2 (by simp))).y.cell 5
  generalize hcn : cnt S 6 = cn at *
  have HCN : ∀ u, Hid (Calls Try.prog 109 #[.agg (sysV S A c R d), .int .i64 6] u fun e w' => e = .returned (.int .i64 cn) ∧ Keeps u w' []) := fun u => Lib.hid (by rw [← hcn]; exact sharedT_any S A c R d u 6)
  have HCn := Lib.hid hcn
  clear hcn
  refine wp_quiet_later (by kernel_rfl) (by kernel_rfl) ?_
  repeat (first
    | go_big_quiet_skip
    | (refine wpQuiet_load_at (cs := sysV S A c R d) 31 rfl rfl rfl rfl (fun u hu => by obtain ⟨p', rfl⟩ := hu; exact (HL.out.kept (O.keep.trans p'.2 (by simp))).sysAt) Try.underlying27 rfl (by kernel_rfl) ?_; simp only [Act.put, List.setIfInBounds_toArray, List.set_cons_zero, List.set_cons_succ])
    | go_big_quiet_step ((go_at_call 109; exact later_of (HCN _).out)))
  refine wpQuiet_nil ?_
  intro _ hw
  obtain ⟨p', rfl⟩ := hw
  replace O := O.keeps p'.2
  clear c3 cy
  generalize p'.1 = W at O ⊢
  have c3 := (O.get 0 rfl).cell
  go_wp2
  clear c3
  have c3 := Later.cell (O.get 0 rfl)
  have cy : ∀ p : Later W, p.1.cell? ⟨y, 9, none⟩ = some (.map (some bu)) := fun p => (HL.out.kept (O.keep.trans p.2 (by simp))).y.cell 9
  have lk : ∀ p : Later W, (Instr.lookup 154 (.map (some bu)) (.int .i64 e.a) false).run Try.prog p.1 = .ok (.bool (st.shut e.a)) p.1 := fun p => by have := look_eqB (HL.out.kept (O.keep.trans p.2 (by simp))).u 154 Try.underlying154 e.a hwf; exact this
  refine wp_quiet_later (by kernel_rfl) (by kernel_rfl) ?_
  repeat (first
    | go_big_quiet_skip
    | go_big_quiet_step (fail))
  refine wpQuiet_nil ?_
  intro _ hw
  obtain ⟨p', rfl⟩ := hw
  replace O := O.keeps p'.2
  clear c3 cy lk
  generalize p'.1 = W at O ⊢
  go_wp2
  go_ret
  exact ⟨by rw [HF.out, HB.out]; rfl, O.keep.wide (by simp), fun h => (by rw [HN.out]; exact (HL.out.kept O.keep).mono (by omega))⟩
set_option maxRecDepth 100000 in
set_option maxHeartbeats 1000000 in
theorem next_6t (e : Ev) (l : LayAt w S A c R d y bh bs bt bu n st) (he : e.op = 6) (g0 : ¬ e.who < 0) (g1 : ¬ st.r ≤ e.who) (g4 : 0 ≤ cnt S 6) (g5 : ¬ e.a < 0) (g6 : ¬ cnt S 6 ≤ e.a) (hwf : (Lit.int .i64 e.a).wf = true) (hn : n < 100000) (hb : ∀ j, 0 ≤ st.sent j ∧ st.sent j ≤ 100000 ∧ 0 ≤ st.took j ∧ st.took j ≤ 100000) (_hr : 0 ≤ st.r ∧ st.r ≤ 100000) (hs : e.sh = false) : Calls Try.prog 92 #[.pointer (some ⟨y, 0, none⟩), .agg (evC e)] w (NextPost S A c R d y bh bs bt bu n st e w) := by
  have O := Own.start w []
  have HL := Lib.hid l
  clear l
  have q0 : decide (e.who < 0) = false := decide_eq_false (by omega)
  have q1 : decide (st.r ≤ e.who) = false := decide_eq_false (by omega)
  have HF := Lib.hid (show okE S st e = bodyE st e by simp [okE, headE, he]; omega)
  have HB := Lib.hid (show bodyE st e = decide (st.took e.a + 1 ≤ st.sent e.a) by simp [bodyE, he, hs])
  have HN := Lib.hid (show nextE st e = { st with took := updI st.took e.a (st.took e.a + 1) } by simp [nextE, he, hs])
  have r1 : IntKind.i64.wrap (st.took e.a + 1) = st.took e.a + 1 := IntWalk.i64_in _ (by have := hb e.a; omega)
  unfold evC
  rw [he, hs]
  go_enter Try.func92, Try.ntmps92
  go_wp2_with (first
    | go_big_skip
    | (refine own_box 3 (#[Value.int .i64 e.who, .int .i64 6, .int .i64 e.a, .int .i64 e.v, .bool false]) O rfl rfl rfl rfl ?_; clear O; intro W a3 O; simp only [Act.put, List.setIfInBounds_toArray, List.set_cons_zero, List.set_cons_succ]))
  have c3 := Later.cell (O.get 0 rfl)
  have cy : ∀ p : Later W, p.1.cell? ⟨y, 5, none⟩ = some (.int .i64 st.r) := fun p => (HL.out.kept (O.keep.trans p.2 (by simp))).y.cell 5
  refine wp_quiet_later (by kernel_rfl) (by kernel_rfl) ?_
  repeat (first
    | go_big_quiet_skip
    | go_big_quiet_step (fail))
  refine wpQuiet_nil ?_
  intro _ hw
  obtain ⟨p', rfl⟩ := hw
  replace O := O.keeps p'.2
  clear c3 cy
  generalize p'.1 = W at O ⊢
  go_wp2
  have c3 := Later.cell (O.get 0 rfl)
  have cy : ∀ p : Later W, p.1.cell? ⟨y, 5, none⟩ = some (.int .i64 st.r) := fun p => (HL.out.kept (O.keep.trans p.2 (by simp))).y.cell 5
  generalize hcn : cnt S 6 = cn at *
  have HCN : ∀ u, Hid (Calls Try.prog 109 #[.agg (sysV S A c R d), .int .i64 6] u fun e w' => e = .returned (.int .i64 cn) ∧ Keeps u w' []) := fun u => Lib.hid (by rw [← hcn]; exact sharedT_any S A c R d u 6)
  have HCn := Lib.hid hcn
  clear hcn
  refine wp_quiet_later (by kernel_rfl) (by kernel_rfl) ?_
  repeat (first
    | go_big_quiet_skip
    | (refine wpQuiet_load_at (cs := sysV S A c R d) 31 rfl rfl rfl rfl (fun u hu => by obtain ⟨p', rfl⟩ := hu; exact (HL.out.kept (O.keep.trans p'.2 (by simp))).sysAt) Try.underlying27 rfl (by kernel_rfl) ?_; simp only [Act.put, List.setIfInBounds_toArray, List.set_cons_zero, List.set_cons_succ])
    | go_big_quiet_step ((go_at_call 109; exact later_of (HCN _).out)))
  refine wpQuiet_nil ?_
  intro _ hw
  obtain ⟨p', rfl⟩ := hw
  replace O := O.keeps p'.2
  clear c3 cy
  generalize p'.1 = W at O ⊢
  have c3 := (O.get 0 rfl).cell
  go_wp2
  clear c3
  have c3 := Later.cell (O.get 0 rfl)
  have cy : ∀ p : Later W, p.1.cell? ⟨y, 8, none⟩ = some (.map (some bt)) := fun p => (HL.out.kept (O.keep.trans p.2 (by simp))).y.cell 8
  have lk : ∀ p : Later W, (Instr.lookup 117 (.map (some bt)) (.int .i64 e.a) false).run Try.prog p.1 = .ok (.int .i64 (st.took e.a)) p.1 := fun p => look_eqI (HL.out.kept (O.keep.trans p.2 (by simp))).t 117 Try.underlying117 e.a hwf
  refine wp_quiet_tail_later 8 (by kernel_rfl) (by kernel_rfl) ?_
  simp only [List.take, List.drop]
  repeat (first
    | go_big_quiet_skip
    | go_big_quiet_step (fail))
  refine wpQuiet_nil ?_
  intro _ hw
  obtain ⟨p', rfl⟩ := hw
  replace O := O.keeps p'.2
  clear c3 cy lk
  generalize p'.1 = W at O ⊢
  refine map_storeI (HL.out.kept O.keep).t 117 Try.underlying117 rfl rfl rfl rfl hwf rfl (WalkArith.wf_i64 (by have := hb e.a; omega)) (by unfold maxLen; omega) ?_
  intro u K M
  simp only [Act.put]
  have B3 := (O.get 0 rfl).keeps K (by simpa using (HL.out.kept O.keep).t.not_blk (O.get 0 rfl))
  have L2 := Lib.hid ((HL.out.kept O.keep).setT K M)
  have K2 := Lib.hid ((O.keep.wide (L' := [y, bh, bs, bt, bu]) (by simp)).trans (K.wide (L' := [y, bh, bs, bt, bu]) (by simp)) (fun b hb _ => hb))
  clear M
  go_wp2
  have c3 := Later.cell B3
  have cy1 : ∀ p : Later u, p.1.cell? ⟨y, 8, none⟩ = some (.map (some bt)) := fun p => (L2.out.kept p.2).y.cell 8
  have cy2 : ∀ p : Later u, p.1.cell? ⟨y, 7, none⟩ = some (.map (some bs)) := fun p => (L2.out.kept p.2).y.cell 7
  have lk1 : ∀ p : Later u, (Instr.lookup 117 (.map (some bt)) (.int .i64 e.a) false).run Try.prog p.1 = .ok (.int .i64 (st.took e.a + 1)) p.1 := fun p => by simpa using look_eqI (L2.out.kept p.2).t 117 Try.underlying117 e.a hwf
  have lk2 : ∀ p : Later u, (Instr.lookup 117 (.map (some bs)) (.int .i64 e.a) false).run Try.prog p.1 = .ok (.int .i64 (st.sent e.a)) p.1 := fun p => look_eqI (L2.out.kept p.2).s 117 Try.underlying117 e.a hwf
  refine wp_quiet_later (by kernel_rfl) (by kernel_rfl) ?_
  repeat (first
    | go_big_quiet_skip
    | go_big_quiet_step (fail))
  refine wpQuiet_nil ?_
  intro _ hw
  obtain ⟨p', rfl⟩ := hw
  have K3 := Lib.hid (K2.out.trans p'.2 (by simp))
  have L3 := Lib.hid (L2.out.kept p'.2)
  clear c3 cy1 cy2 lk1 lk2 L2 K2
  generalize p'.1 = W3 at K3 L3 ⊢
  go_wp2
  go_ret
  exact ⟨by rw [HF.out, HB.out]; rfl, K3.out, fun _ => by rw [HN.out]; exact L3.out⟩
set_option maxRecDepth 100000 in
set_option maxHeartbeats 1000000 in
theorem next_o0 (e : Ev) (l : LayAt w S A c R d y bh bs bt bu n st) (g0 : ¬ e.who < 0) (g1 : ¬ st.r ≤ e.who) (g2 : ¬ e.op < 1) (g3 : ¬ 16 < e.op) (g4 : cnt S e.op < 0) (_hwf : (Lit.int .i64 e.a).wf = true) (_hn : n < 100000) (_hb : ∀ j, 0 ≤ st.sent j ∧ st.sent j ≤ 100000 ∧ 0 ≤ st.took j ∧ st.took j ≤ 100000) (_hr : 0 ≤ st.r ∧ st.r ≤ 100000) (h5 : ¬ e.op = 5) (h6 : ¬ e.op = 6) (h7 : ¬ e.op = 7) (h8 : ¬ e.op = 8) (h9 : ¬ e.op = 9) (h14 : ¬ e.op = 14) : Calls Try.prog 92 #[.pointer (some ⟨y, 0, none⟩), .agg (evC e)] w (NextPost S A c R d y bh bs bt bu n st e w) := by
  have O := Own.start w []
  have HL := Lib.hid l
  clear l
  have q0 : decide (e.who < 0) = false := decide_eq_false (by omega)
  have q1 : decide (st.r ≤ e.who) = false := decide_eq_false (by omega)
  have q2 : decide (e.op < 1) = false := decide_eq_false (by omega)
  have q3 : decide (16 < e.op) = false := decide_eq_false (by omega)
  have HF := Lib.hid (show okE S st e = bodyE st e by simp [okE, headE]; omega)
  have HB := Lib.hid (show bodyE st e = true by simp [bodyE, h6, h8, h14])
  have HN := Lib.hid (show nextE st e = st by simp [nextE, h5, h6, h7, h8, h9, h14])
  unfold evC

  go_enter Try.func92, Try.ntmps92
  go_wp2_with (first
    | go_big_skip
    | (refine own_box 3 (#[Value.int .i64 e.who, .int .i64 e.op, .int .i64 e.a, .int .i64 e.v, .bool e.sh]) O rfl rfl rfl rfl ?_; clear O; intro W a3 O; simp only [Act.put, List.setIfInBounds_toArray, List.set_cons_zero, List.set_cons_succ]))
  have c3 := Later.cell (O.get 0 rfl)
  have cy : ∀ p : Later W, p.1.cell? ⟨y, 5, none⟩ = some (.int .i64 st.r) := fun p => (HL.out.kept (O.keep.trans p.2 (by simp))).y.cell 5
  refine wp_quiet_later (by kernel_rfl) (by kernel_rfl) ?_
  repeat (first
    | go_big_quiet_skip
    | go_big_quiet_step (fail))
  refine wpQuiet_nil ?_
  intro _ hw
  obtain ⟨p', rfl⟩ := hw
  replace O := O.keeps p'.2
  clear c3 cy
  generalize p'.1 = W at O ⊢
  go_wp2
  have c3 := Later.cell (O.get 0 rfl)
  have cy : ∀ p : Later W, p.1.cell? ⟨y, 5, none⟩ = some (.int .i64 st.r) := fun p => (HL.out.kept (O.keep.trans p.2 (by simp))).y.cell 5
  generalize hcn : cnt S e.op = cn at *
  have HCN : ∀ u, Hid (Calls Try.prog 109 #[.agg (sysV S A c R d), .int .i64 e.op] u fun e w' => e = .returned (.int .i64 cn) ∧ Keeps u w' []) := fun u => Lib.hid (by rw [← hcn]; exact sharedT_any S A c R d u e.op)
  have HCn := Lib.hid hcn
  clear hcn
  refine wp_quiet_later (by kernel_rfl) (by kernel_rfl) ?_
  repeat (first
    | go_big_quiet_skip
    | (refine wpQuiet_load_at (cs := sysV S A c R d) 31 rfl rfl rfl rfl (fun u hu => by obtain ⟨p', rfl⟩ := hu; exact (HL.out.kept (O.keep.trans p'.2 (by simp))).sysAt) Try.underlying27 rfl (by kernel_rfl) ?_; simp only [Act.put, List.setIfInBounds_toArray, List.set_cons_zero, List.set_cons_succ])
    | go_big_quiet_step ((go_at_call 109; exact later_of (HCN _).out)))
  refine wpQuiet_nil ?_
  intro _ hw
  obtain ⟨p', rfl⟩ := hw
  replace O := O.keeps p'.2
  clear c3 cy
  generalize p'.1 = W at O ⊢
  have c3 := (O.get 0 rfl).cell
  go_wp2
  go_ret
  exact ⟨by rw [HF.out, HB.out]; rfl, O.keep.wide (by simp), fun h => (by rw [HN.out]; exact (HL.out.kept O.keep).mono (by omega))⟩
set_option maxRecDepth 100000 in
set_option maxHeartbeats 1000000 in
theorem next_o1 (e : Ev) (l : LayAt w S A c R d y bh bs bt bu n st) (g0 : ¬ e.who < 0) (g1 : ¬ st.r ≤ e.who) (g2 : ¬ e.op < 1) (g3 : ¬ 16 < e.op) (g4 : 0 ≤ cnt S e.op) (g5 : ¬ e.a < 0) (g6 : ¬ cnt S e.op ≤ e.a) (_hwf : (Lit.int .i64 e.a).wf = true) (_hn : n < 100000) (_hb : ∀ j, 0 ≤ st.sent j ∧ st.sent j ≤ 100000 ∧ 0 ≤ st.took j ∧ st.took j ≤ 100000) (_hr : 0 ≤ st.r ∧ st.r ≤ 100000) (h5 : ¬ e.op = 5) (h6 : ¬ e.op = 6) (h7 : ¬ e.op = 7) (h8 : ¬ e.op = 8) (h9 : ¬ e.op = 9) (h14 : ¬ e.op = 14) : Calls Try.prog 92 #[.pointer (some ⟨y, 0, none⟩), .agg (evC e)] w (NextPost S A c R d y bh bs bt bu n st e w) := by
  have O := Own.start w []
  have HL := Lib.hid l
  clear l
  have q0 : decide (e.who < 0) = false := decide_eq_false (by omega)
  have q1 : decide (st.r ≤ e.who) = false := decide_eq_false (by omega)
  have q2 : decide (e.op < 1) = false := decide_eq_false (by omega)
  have q3 : decide (16 < e.op) = false := decide_eq_false (by omega)
  have HF := Lib.hid (show okE S st e = bodyE st e by simp [okE, headE]; omega)
  have HB := Lib.hid (show bodyE st e = true by simp [bodyE, h6, h8, h14])
  have HN := Lib.hid (show nextE st e = st by simp [nextE, h5, h6, h7, h8, h9, h14])
  unfold evC

  go_enter Try.func92, Try.ntmps92
  go_wp2_with (first
    | go_big_skip
    | (refine own_box 3 (#[Value.int .i64 e.who, .int .i64 e.op, .int .i64 e.a, .int .i64 e.v, .bool e.sh]) O rfl rfl rfl rfl ?_; clear O; intro W a3 O; simp only [Act.put, List.setIfInBounds_toArray, List.set_cons_zero, List.set_cons_succ]))
  have c3 := Later.cell (O.get 0 rfl)
  have cy : ∀ p : Later W, p.1.cell? ⟨y, 5, none⟩ = some (.int .i64 st.r) := fun p => (HL.out.kept (O.keep.trans p.2 (by simp))).y.cell 5
  refine wp_quiet_later (by kernel_rfl) (by kernel_rfl) ?_
  repeat (first
    | go_big_quiet_skip
    | go_big_quiet_step (fail))
  refine wpQuiet_nil ?_
  intro _ hw
  obtain ⟨p', rfl⟩ := hw
  replace O := O.keeps p'.2
  clear c3 cy
  generalize p'.1 = W at O ⊢
  go_wp2
  have c3 := Later.cell (O.get 0 rfl)
  have cy : ∀ p : Later W, p.1.cell? ⟨y, 5, none⟩ = some (.int .i64 st.r) := fun p => (HL.out.kept (O.keep.trans p.2 (by simp))).y.cell 5
  generalize hcn : cnt S e.op = cn at *
  have HCN : ∀ u, Hid (Calls Try.prog 109 #[.agg (sysV S A c R d), .int .i64 e.op] u fun e w' => e = .returned (.int .i64 cn) ∧ Keeps u w' []) := fun u => Lib.hid (by rw [← hcn]; exact sharedT_any S A c R d u e.op)
  have HCn := Lib.hid hcn
  clear hcn
  refine wp_quiet_later (by kernel_rfl) (by kernel_rfl) ?_
  repeat (first
    | go_big_quiet_skip
    | (refine wpQuiet_load_at (cs := sysV S A c R d) 31 rfl rfl rfl rfl (fun u hu => by obtain ⟨p', rfl⟩ := hu; exact (HL.out.kept (O.keep.trans p'.2 (by simp))).sysAt) Try.underlying27 rfl (by kernel_rfl) ?_; simp only [Act.put, List.setIfInBounds_toArray, List.set_cons_zero, List.set_cons_succ])
    | go_big_quiet_step ((go_at_call 109; exact later_of (HCN _).out)))
  refine wpQuiet_nil ?_
  intro _ hw
  obtain ⟨p', rfl⟩ := hw
  replace O := O.keeps p'.2
  clear c3 cy
  generalize p'.1 = W at O ⊢
  have c3 := (O.get 0 rfl).cell
  go_wp2
  go_ret
  exact ⟨by rw [HF.out, HB.out]; rfl, O.keep.wide (by simp), fun h => (by rw [HN.out]; exact (HL.out.kept O.keep).mono (by omega))⟩
/-- (*lay).next of trace. -/
theorem next_any (hh : headB S = true) (e : Ev) (l : LayAt w S A c R d y bh bs bt bu n st) (hwf : (Lit.int .i64 e.a).wf = true) (hn : n < 100000) (hb : ∀ j, 0 ≤ st.sent j ∧ st.sent j ≤ 100000 ∧ 0 ≤ st.took j ∧ st.took j ≤ 100000) (hr : 0 ≤ st.r ∧ st.r ≤ 100000) :
    Calls Try.prog 92 #[.pointer (some ⟨y, 0, none⟩), .agg (evC e)] w (NextPost S A c R d y bh bs bt bu n st e w) := by
  obtain ⟨h0, h1, h2, h3, h4, h5⟩ := (headB_iff S).1 hh
  rw [shB_iff] at h3 h4 h5
  by_cases g0 : e.who < 0
  · exact next_bad0 e l g0
  by_cases g1 : st.r ≤ e.who
  · exact next_bad1 e l g0 g1
  by_cases g2 : e.op < 1
  · exact next_bad2 e l g0 g1 g2
  by_cases g3 : 16 < e.op
  · exact next_bad3 e l g0 g1 g2 g3
  by_cases g4 : cnt S e.op < 0
  · exact next_o0 e l g0 g1 g2 g3 g4 hwf hn hb hr (fun h => by rw [h] at g4; simp [cnt] at g4; omega) (fun h => by rw [h] at g4; simp [cnt] at g4; omega) (fun h => by rw [h] at g4; simp [cnt] at g4; omega) (fun h => by rw [h] at g4; simp [cnt] at g4; omega) (fun h => by rw [h] at g4; simp [cnt] at g4; omega) (fun h => by rw [h] at g4; simp [cnt] at g4; omega)
  by_cases g5 : e.a < 0
  · exact next_bada0 e l g0 g1 g2 g3 (by omega) g5
  by_cases g6 : cnt S e.op ≤ e.a
  · exact next_bada1 e l g0 g1 g2 g3 (by omega) g5 g6
  by_cases o5 : e.op = 5
  · rw [o5] at g4 g6; exact next_5 e l o5 g0 g1 (by omega) g5 g6 hwf hn hb hr
  by_cases o6 : e.op = 6
  · rw [o6] at g4 g6
    cases hs : e.sh with
    | true => exact next_6s e l o6 g0 g1 (by omega) g5 g6 hwf hn hb hr hs
    | false => exact next_6t e l o6 g0 g1 (by omega) g5 g6 hwf hn hb hr hs
  by_cases o7 : e.op = 7
  · rw [o7] at g4 g6; exact next_7 e l o7 g0 g1 (by omega) g5 g6 hwf hn hb hr
  by_cases o8 : e.op = 8
  · rw [o8] at g4 g6
    cases hs : st.held e.a with
    | true => exact next_8a e l o8 g0 g1 (by omega) g5 g6 hwf hn hb hr hs
    | false => exact next_8b e l o8 g0 g1 (by omega) g5 g6 hwf hn hb hr hs
  by_cases o9 : e.op = 9
  · rw [o9] at g4 g6; exact next_9 e l o9 g0 g1 (by omega) g5 g6 hwf hn hb hr
  by_cases o14 : e.op = 14
  · rw [o14] at g4 g6
    by_cases v0 : e.v = 0
    · exact next_14a e l o14 g0 g1 (by omega) g5 g6 hwf hn hb hr v0
    by_cases v1 : e.v = st.r
    · by_cases v2 : 512 ≤ st.r
      · exact next_14c e l o14 g0 g1 (by omega) g5 g6 hwf hn hb hr v0 v1 v2
      · exact next_14d e l o14 g0 g1 (by omega) g5 g6 hwf hn hb hr v0 v1 v2
    · exact next_14b e l o14 g0 g1 (by omega) g5 g6 hwf hn hb hr v0 v1
  exact next_o1 e l g0 g1 g2 g3 (by omega) g5 g6 hwf hn hb hr o5 o6 o7 o8 o9 o14
end
end Go.Proofs.Ytakmcpadkanggaa
namespace Go.Proofs.Ytakmcpadkanggaa
open Go.RowKit Go.Maps
section
variable {ops : Array Oper} {rest : List Oper} {o : Oper} {a : Act} {w W : World} {Q : Exit → Act → World → Prop} {S : List Nat} {L : List Ent} {T : TypeId}
theorem own_makeMap (d : Nat) (O : Own w W S L) (_hd : o.dst = some d) (hgd : o.guard = none) (ho : o.op = .makeMap T none)
    (h : ∀ u b, Own w u S L → Keeps W u [] → MapB u b 0 (fun _ => false) → MapI u b 0 (fun _ => 0) → W.heap.size ≤ b → wpList Try.prog ops Q rest (a.put o.dst (.map (some b))) u) : wpList Try.prog ops Q (o :: rest) a W := by
  refine wpList_plain hgd fun K hK => ?_
  have k := (Keeps.refl W []).alloc (.map #[] 0)
  unfold Oper.wp execOp
  simp only [ho, Sem.run_bind, Sem.run_pure]
  exact hK _ _ (h _ _ (O.keeps k) k (MapB.made W) (MapI.made W) (Nat.le_refl _))
end
theorem layV_cell (S : Sys) (A : Option Addr) (c : Nat) (R : Option Addr) (d : Nat) (r : Int) (bh bs bt bu : Nat) : ∀ v ∈ (layV S A c R d r bh bs bt bu).toList, v.oneCell' = true := by
  intro v hv
  simp only [layV, List.mem_cons, List.not_mem_nil, or_false] at hv
  rcases hv with rfl | rfl | rfl | rfl | rfl | rfl | rfl | rfl | rfl | rfl <;> rfl
/-- The first event that may not be. -/
def firstBad (S : Sys) (E : Nat → Ev) (n : Nat) : Option Nat := (List.range n).find? fun j => !okE S (stN E j) (E j)
theorem firstBad_none {S : Sys} {E : Nat → Ev} {n : Nat} (h : ∀ j, j < n → okE S (stN E j) (E j) = true) : firstBad S E n = none := by
  unfold firstBad
  rw [List.find?_eq_none]
  intro x hx
  simp [h x (List.mem_range.1 hx)]
theorem firstBad_some {S : Sys} {E : Nat → Ev} {n k : Nat} (h : ∀ j, j < k → okE S (stN E j) (E j) = true) (hk : k < n) (hb : okE S (stN E k) (E k) = false) : firstBad S E n = some k := by
  unfold firstBad
  rw [List.find?_range_eq_some]
  exact ⟨by simp [hb], List.mem_range.2 hk, fun j hj => by simp [h j hj]⟩
/-- What through tells: how many runners, the first wrong event, the error. -/
def thr (S : Sys) (E : Nat → Ev) (n : Nat) : Int × Int × Int :=
  if validB S then (if 40000 < n then (0, 0, 2) else match firstBad S E n with | some i => (0, (i : Int), 140) | none => ((stN E n).r, 0, 0)) else (0, 0, 130)
def thrV (x : Int × Int × Int) : Value := .tuple #[.int .i64 x.1, .int .i64 x.2.1, .int .i64 x.2.2]
section
variable {w : World} {S : Sys} {A : Option Addr} {c : Nat} {R : Option Addr} {d n : Nat} {E : Nat → Ev} {B : Option Addr} {cb : Nat}
set_option maxRecDepth 100000 in
theorem through_sys (hS : SysIn w S A c R d) (h : validB S = false) : Calls Try.prog 60 #[.agg (sysV S A c R d), .slice B n cb] w fun e w' => e = .returned (thrV (thr S E n)) ∧ Keeps w w' [] := by
  have O := Own.start w []
  have HV : ∀ u, Keeps w u [] → Hid (Calls Try.prog 21 #[.agg (sysV S A c R d)] u fun e w' => e = .returned (.int .i64 130) ∧ Keeps u w' []) := fun u k => Lib.hid (by have := valid_any (hS.kept k); rwa [validE_no h] at this)
  have HF := Lib.hid (show thr S E n = (0, 0, 130) by simp [thr, h])
  clear h hS
  go_enter Try.func60, Try.ntmps60
  go_wp2_with (first
    | go_big_skip
    | (refine own_box 2 (sysV S A c R d) O rfl rfl rfl rfl ?_; clear O; intro W a2 O; simp only [Act.put, List.setIfInBounds_toArray, List.set_cons_zero, List.set_cons_succ])
    | (refine own_load 11 0 O rfl rfl rfl rfl rfl Try.underlying27 rfl (by kernel_rfl) ?_; simp only [Act.put, List.setIfInBounds_toArray, List.set_cons_zero, List.set_cons_succ])
    | (go_at_call 21; refine ((HV _ O.keep).out).mono ?_; rintro e W ⟨rfl, K⟩; replace O := O.keeps K; clear K))
  go_returns
  exact ⟨by rw [HF.out]; rfl, O.keep⟩
set_option maxRecDepth 100000 in
theorem through_long (hS : SysIn w S A c R d) (h : validB S = true) (hn : 40000 < n) : Calls Try.prog 60 #[.agg (sysV S A c R d), .slice B n cb] w fun e w' => e = .returned (thrV (thr S E n)) ∧ Keeps w w' [] := by
  have O := Own.start w []
  have HV : ∀ u, Keeps w u [] → Hid (Calls Try.prog 21 #[.agg (sysV S A c R d)] u fun e w' => e = .returned (.int .i64 0) ∧ Keeps u w' []) := fun u k => Lib.hid (by have := valid_any (hS.kept k); rwa [validE_yes h] at this)
  have HF := Lib.hid (show thr S E n = (0, 0, 2) by simp [thr, h, hn])
  have g0 : 40000 < (n : Int) := by omega
  clear h hS
  go_enter Try.func60, Try.ntmps60
  go_wp2_with (first
    | go_big_skip
    | (refine own_box 2 (sysV S A c R d) O rfl rfl rfl rfl ?_; clear O; intro W a2 O; simp only [Act.put, List.setIfInBounds_toArray, List.set_cons_zero, List.set_cons_succ])
    | (refine own_load 11 0 O rfl rfl rfl rfl rfl Try.underlying27 rfl (by kernel_rfl) ?_; simp only [Act.put, List.setIfInBounds_toArray, List.set_cons_zero, List.set_cons_succ])
    | (go_at_call 21; refine ((HV _ O.keep).out).mono ?_; rintro e W ⟨rfl, K⟩; replace O := O.keeps K; clear K))
  go_returns
  exact ⟨by rw [HF.out]; rfl, O.keep⟩
def LAYZ : Array Value := #[.slice none 0 0, .slice none 0 0, .int .i64 0, .int .i64 0, .int .i64 0, .int .i64 0, .map none, .map none, .map none, .map none]
set_option maxRecDepth 100000 in
set_option maxHeartbeats 1000000 in
theorem through_main (hS : SysIn w S A c R d) (h : validB S = true) (hn : n ≤ 40000) (hE : EvsAt w B n E) (hwf : ∀ i, i < n → (Lit.int .i64 (E i).a).wf = true) : Calls Try.prog 60 #[.agg (sysV S A c R d), .slice B n cb] w fun e w' => e = .returned (thrV (thr S E n)) ∧ Keeps w w' [] := by
  have O := Own.start w []
  have HV : ∀ u, Keeps w u [] → Hid (Calls Try.prog 21 #[.agg (sysV S A c R d)] u fun e w' => e = .returned (.int .i64 0) ∧ Keeps u w' []) := fun u k => Lib.hid (by have := valid_any (hS.kept k); rwa [validE_yes h] at this)
  have HF := Lib.hid (show thr S E n = match firstBad S E n with | some i => (0, (i : Int), 140) | none => ((stN E n).r, 0, 0) by simp [thr, h]; omega)
  have HH := Lib.hid ((validB_iff S).1 h).1
  have g0 : ¬ 40000 < (n : Int) := by omega
  have HE := Lib.hid hE
  have HWF := Lib.hid hwf
  clear h hS hE hwf
  go_enter Try.func60, Try.ntmps60
  go_wp2_with (first
    | go_big_skip
    | (refine own_box 2 (sysV S A c R d) O rfl rfl rfl rfl ?_; clear O; intro W a2 O; simp only [Act.put, List.setIfInBounds_toArray, List.set_cons_zero, List.set_cons_succ])
    | (refine own_load 11 0 O rfl rfl rfl rfl rfl Try.underlying27 rfl (by kernel_rfl) ?_; simp only [Act.put, List.setIfInBounds_toArray, List.set_cons_zero, List.set_cons_succ])
    | (go_at_call 21; refine ((HV _ O.keep).out).mono ?_; rintro e W ⟨rfl, K⟩; replace O := O.keeps K; clear K)
    | (refine own_load 19 0 O rfl rfl rfl rfl rfl Try.underlying27 rfl (by kernel_rfl) ?_; simp only [Act.put, List.setIfInBounds_toArray, List.set_cons_zero, List.set_cons_succ])
    | (refine at_dst 20 rfl ?_; have HW := O.keep.size; refine own_makeMap 20 O rfl rfl rfl ?_; clear O; intro W bh O Kx Mb Mi hb; have Mh := Mb; clear Mb Mi; have z_bh : w.heap.size ≤ bh := Nat.le_trans HW hb; clear HW Kx hb; simp only [Act.put, List.setIfInBounds_toArray, List.set_cons_zero, List.set_cons_succ])
    | (refine at_dst 21 rfl ?_; have HW := O.keep.size; refine own_makeMap 21 O rfl rfl rfl ?_; clear O; intro W bs O Kx Mb Mi hb; have n_bh_bs : bh ≠ bs := (by have := Mh.lt; omega); replace Mh := Mh.keeps Kx (by simp); have Ms := Mi; clear Mb Mi; have z_bs : w.heap.size ≤ bs := Nat.le_trans HW hb; clear HW Kx hb; simp only [Act.put, List.setIfInBounds_toArray, List.set_cons_zero, List.set_cons_succ])
    | (refine at_dst 22 rfl ?_; have HW := O.keep.size; refine own_makeMap 22 O rfl rfl rfl ?_; clear O; intro W bt O Kx Mb Mi hb; have n_bh_bt : bh ≠ bt := (by have := Mh.lt; omega); replace Mh := Mh.keeps Kx (by simp); have n_bs_bt : bs ≠ bt := (by have := Ms.lt; omega); replace Ms := Ms.keeps Kx (by simp); have Mt := Mi; clear Mb Mi; have z_bt : w.heap.size ≤ bt := Nat.le_trans HW hb; clear HW Kx hb; simp only [Act.put, List.setIfInBounds_toArray, List.set_cons_zero, List.set_cons_succ])
    | (refine at_dst 23 rfl ?_; have HW := O.keep.size; refine own_makeMap 23 O rfl rfl rfl ?_; clear O; intro W bu O Kx Mb Mi hb; have n_bh_bu : bh ≠ bu := (by have := Mh.lt; omega); replace Mh := Mh.keeps Kx (by simp); have n_bs_bu : bs ≠ bu := (by have := Ms.lt; omega); replace Ms := Ms.keeps Kx (by simp); have n_bt_bu : bt ≠ bu := (by have := Mt.lt; omega); replace Mt := Mt.keeps Kx (by simp); have Mu := Mb; clear Mb Mi; have z_bu : w.heap.size ≤ bu := Nat.le_trans HW hb; clear HW Kx hb; simp only [Act.put, List.setIfInBounds_toArray, List.set_cons_zero, List.set_cons_succ])
    | (refine wpList_const 24 (.agg (layV S A c R d 1 bh bs bt bu)) rfl rfl (fun _ => by kernel_rfl) ?_; simp only [Act.put, List.setIfInBounds_toArray, List.set_cons_zero, List.set_cons_succ])
    | (refine at_dst 8 rfl ?_; have HW := O.keep.size; refine own_allocK 8 LAYZ O rfl rfl rfl (fun _ => by kernel_rfl) ?_; clear O; intro W y O Kx hb; replace Mh := Mh.keeps Kx (by simp); replace Ms := Ms.keeps Kx (by simp); replace Mt := Mt.keeps Kx (by simp); replace Mu := Mu.keeps Kx (by simp); have z_y : w.heap.size ≤ y := Nat.le_trans HW hb; clear HW Kx hb; simp only [Act.put, List.setIfInBounds_toArray, List.set_cons_zero, List.set_cons_succ])
    | (have O1 := O; refine own_store_rowK 0 (.tmp 8) (.tmp 24) (cs' := layV S A c R d 1 bh bs bt bu) O rfl rfl rfl rfl rfl rfl (by kernel_rfl) rfl (layV_cell _ _ _ _ _ _ _ _ _ _) ?_; clear O; intro W O Kx; simp only [List.set_cons_zero] at O; replace Mh := Mh.keeps Kx (by simpa using (Mh.not_blk (O1.get 0 rfl)).symm); replace Ms := Ms.keeps Kx (by simpa using (Ms.not_blk (O1.get 0 rfl)).symm); replace Mt := Mt.keeps Kx (by simpa using (Mt.not_blk (O1.get 0 rfl)).symm); replace Mu := Mu.keeps Kx (by simpa using (Mu.not_blk (O1.get 0 rfl)).symm); clear Kx O1))
  have L0 : LayAt W S A c R d y bh bs bt bu 0 (stN E 0) := ⟨O.get 0 rfl, Mh, Ms, Mt, Mu, n_bh_bs, n_bh_bt, n_bh_bu, n_bs_bt, n_bs_bu, n_bt_bu⟩
  have K0 := O.keep
  have HZ := Lib.hid (show ∀ b ∈ [y, bh, bs, bt, bu], w.heap.size ≤ b by simp only [List.mem_cons, List.not_mem_nil, or_false]; rintro b (rfl | rfl | rfl | rfl | rfl) <;> assumption)
  clear O Mh Ms Mt Mu z_y z_bh z_bs z_bt z_bu n_bh_bs n_bh_bt n_bh_bu n_bs_bt n_bs_bu n_bt_bu
  go_loopw [27] (fun i wr => ∃ k : Nat, k ≤ n ∧ i = .int .i64 k ∧ Keeps w wr [] ∧ LayAt wr S A c R d y bh bs bt bu k (stN E k) ∧ ∀ j, j < k → okE S (stN E j) (E j) = true) (fun i _ => n - (intOf i).toNat)
  case atStart => exact ⟨0, by omega, rfl, K0, L0, fun j hj => by omega⟩
  case round =>
    obtain ⟨k, hk, rfl, K1, L1, hm⟩ := hrel
    have HM := Lib.hid hm
    have HL := Lib.hid L1
    have HK := Lib.hid K1
    clear hm L1 K1 L0 K0
    by_cases hlt : k < n
    · have g1 : ((k : Int)) < n := by omega
      have g2 : (0 : Int) ≤ k := by omega
      obtain ⟨ad, rfl, hc⟩ := EvsAt.row (u := w) HE.out hlt
      have HC := Lib.hid hc
      clear hc
      have O := Own.start wr []
      have HN := Lib.hid (fun u (ku : Keeps wr u []) => next_any HH.out (E k) (HL.out.kept ku) (HWF.out k hlt) (by omega) (fun j => by have := (stN_le E k).2.2 j; omega) (by have := stN_le E k; omega))
      cases hb : okE S (stN E k) (E k) with
      | false =>
        have HX : ∀ u, Keeps wr u [] → Hid (Calls Try.prog 92 #[.pointer (some ⟨y, 0, none⟩), .agg (evC (E k))] u fun x w' => x = .returned (.bool false) ∧ Keeps u w' [y, bh, bs, bt, bu]) := fun u ku => Lib.hid ((HN.out u ku).mono fun x w' ⟨h1, h2, h3⟩ => ⟨by rw [h1, hb], h2⟩)
        have HT := Lib.hid (firstBad_some HM.out hlt hb)
        clear hb
        go_wp2_with (first
          | go_big_skip
          | (refine wpList_load_at (cs := evC (E k)) 31 rfl rfl rfl rfl (HC.out [] _ (HK.out.trans O.keep (by simp)) (by simp)) Try.underlying37 rfl (by kernel_rfl) ?_; simp only [Act.put, List.setIfInBounds_toArray, List.set_cons_zero, List.set_cons_succ])
          | (refine own_alloc 10 (evC ⟨0, 0, 0, 0, false⟩) O rfl rfl rfl (fun _ => by kernel_rfl) ?_; clear O; intro W a10 O; simp only [Act.put, List.setIfInBounds_toArray, List.set_cons_zero, List.set_cons_succ])
          | (refine own_store_row 0 (.tmp 10) (.tmp 31) O rfl rfl rfl rfl rfl rfl (by kernel_rfl) (by rfl) (evC_cell _) ?_; clear O; intro W O; simp only [List.set_cons_zero] at O)
          | (refine own_load 32 0 O rfl rfl rfl rfl rfl Try.underlying37 rfl (by kernel_rfl) ?_; simp only [Act.put, List.setIfInBounds_toArray, List.set_cons_zero, List.set_cons_succ])
          | (go_at_call 92; refine ((HX _ O.keep).out).mono ?_; rintro e W ⟨rfl, KN⟩; have KW := Lib.hid (HK.out.trans ((O.keep.wide (L' := [y, bh, bs, bt, bu]) (by simp)).trans KN (fun b hb _ => hb)) (fun b hb hlt => absurd hlt (by have := HZ.out b hb; omega))); clear KN))
        go_returns
        exact ⟨by rw [HF.out, HT.out]; rfl, KW.out⟩
      | true =>
        have HX : ∀ u, Keeps wr u [] → Hid (Calls Try.prog 92 #[.pointer (some ⟨y, 0, none⟩), .agg (evC (E k))] u fun x w' => x = .returned (.bool true) ∧ Keeps u w' [y, bh, bs, bt, bu] ∧ LayAt w' S A c R d y bh bs bt bu (k + 1) (stN E (k + 1))) := fun u ku => Lib.hid ((HN.out u ku).mono fun x w' ⟨h1, h2, h3⟩ => ⟨by rw [h1, hb], h2, h3 hb⟩)
        have HM2 := Lib.hid (show ∀ j, j < k + 1 → okE S (stN E j) (E j) = true from fun j hj => if h : j = k then (by rw [h]; exact hb) else HM.out j (by omega))
        clear hb
        go_wp2_with (first
          | go_big_skip
          | (refine wpList_load_at (cs := evC (E k)) 31 rfl rfl rfl rfl (HC.out [] _ (HK.out.trans O.keep (by simp)) (by simp)) Try.underlying37 rfl (by kernel_rfl) ?_; simp only [Act.put, List.setIfInBounds_toArray, List.set_cons_zero, List.set_cons_succ])
          | (refine own_alloc 10 (evC ⟨0, 0, 0, 0, false⟩) O rfl rfl rfl (fun _ => by kernel_rfl) ?_; clear O; intro W a10 O; simp only [Act.put, List.setIfInBounds_toArray, List.set_cons_zero, List.set_cons_succ])
          | (refine own_store_row 0 (.tmp 10) (.tmp 31) O rfl rfl rfl rfl rfl rfl (by kernel_rfl) (by rfl) (evC_cell _) ?_; clear O; intro W O; simp only [List.set_cons_zero] at O)
          | (refine own_load 32 0 O rfl rfl rfl rfl rfl Try.underlying37 rfl (by kernel_rfl) ?_; simp only [Act.put, List.setIfInBounds_toArray, List.set_cons_zero, List.set_cons_succ])
          | (go_at_call 92; refine ((HX _ O.keep).out).mono ?_; rintro e W ⟨rfl, KN, LN⟩; have KW := Lib.hid (HK.out.trans ((O.keep.wide (L' := [y, bh, bs, bt, bu]) (by simp)).trans KN (fun b hb _ => hb)) (fun b hb hlt => absurd hlt (by have := HZ.out b hb; omega))); clear KN))
        go_roundw
        case rel => exact ⟨k + 1, by omega, by go_num, KW.out, LN, HM2.out⟩
        case measure => (simp [intOf] <;> omega)
    · obtain rfl : k = n := by omega
      have HT := Lib.hid (firstBad_none HM.out)
      have cy : wr.cell? ⟨y, 5, none⟩ = some (.int .i64 (stN E k).r) := HL.out.y.cell 5
      go_wp2
      go_returns
      exact ⟨by rw [HF.out, HT.out]; rfl, HK.out⟩
theorem through_any (hS : SysIn w S A c R d) (hE : EvsAt w B n E) (hwf : ∀ i, i < n → (Lit.int .i64 (E i).a).wf = true) : Calls Try.prog 60 #[.agg (sysV S A c R d), .slice B n cb] w fun e w' => e = .returned (thrV (thr S E n)) ∧ Keeps w w' [] := by
  cases h : validB S with
  | false => exact through_sys hS h
  | true =>
    by_cases hn : 40000 < n
    · exact through_long hS h hn
    · exact through_main hS h (by omega) hE hwf
end
end Go.Proofs.Ytakmcpadkanggaa
