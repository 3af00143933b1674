/-
 Part 8 of what this claim rests on.
-/
import Derived.Test.YtakmcpadkanggaaSf7
namespace Go.Proofs.Ytakmcpadkanggaa
open Go.RowKit
def acB (E : Nat → Ev) (i : Nat) : Bool := decide ((E i).op = 12) || decide ((E i).op = 13)
def isAcc (E : Nat → Ev) (a : Int) (i : Nat) : Bool := acB E i && decide ((E i).a = a)
def rcB (E : Nat → Ev) (rm : Int → Int) (i j : Nat) : Bool := (acB E i && acB E j) && ((decide ((E i).op = 13) || decide ((E j).op = 13)) && (decide ((E i).a = (E j).a) && (!decide ((E i).who = (E j).who) && !decide (clk E rm i (E i).who ≤ clk E rm j (E i).who))))
def prR (i j : Nat) : Int × Int := ((i : Int), (j : Int))
def raceJ (E : Nat → Ev) (rm : Int → Int) (j q : Nat) : List (Int × Int) := ((List.range q).filter fun i => rcB E rm i j).map fun i => prR i j
def raceA (E : Nat → Ev) (rm : Int → Int) : Nat → List (Int × Int)
 | 0 => []
 | j + 1 => raceA E rm j ++ raceJ E rm j j
section
variable {E : Nat → Ev} {rm : Int → Int} {i j n m : Nat}
theorem take_snoc {α : Type} (X : List α) (x : α) (m : Nat) : (X ++ [x]).take m = if X.length < m then X.take m ++ [x] else X.take m := by
 by_cases h : X.length < m
 · rw [if_pos h, List.take_of_length_le (by simp; omega), List.take_of_length_le (by omega)]
 · rw [if_neg h, List.take_append_of_le_length (by omega)]
theorem take_len_lt {α : Type} (X : List α) (m : Nat) : (X.take m).length < m ↔ X.length < m := by
 rw [List.length_take]
 omega
theorem take_pre {α : Type} {X Y : List α} (h : X <+: Y) {m : Nat} (hm : m ≤ X.length) : Y.take m = X.take m := by
 obtain ⟨t, rfl⟩ := h
 exact List.take_append_of_le_length hm
theorem raceJ_succ (j q : Nat) : raceJ E rm j (q + 1) = raceJ E rm j q ++ if rcB E rm q j = true then [prR q j] else [] := by
 unfold raceJ
 rw [List.range_succ, List.filter_append, List.map_append]
 congr 1
 cases h : rcB E rm q j <;> simp [h]
theorem raceJ_pre (j : Nat) : ∀ q k, q ≤ k → raceJ E rm j q <+: raceJ E rm j k
 | q, 0, h => by obtain rfl : q = 0 := by omega
                 exact List.prefix_rfl
 | q, k + 1, h => by
   by_cases e : q = k + 1
   · subst e; exact List.prefix_rfl
   · exact (raceJ_pre j q k (by omega)).trans (by rw [raceJ_succ]; exact List.prefix_append _ _)
theorem raceA_pre : ∀ j n, j ≤ n → raceA E rm j <+: raceA E rm n
 | j, 0, h => by obtain rfl : j = 0 := by omega
                 exact List.prefix_rfl
 | j, n + 1, h => by
   by_cases e : j = n + 1
   · subst e; exact List.prefix_rfl
   · exact (raceA_pre j n (by omega)).trans (List.prefix_append _ _)
theorem race_mem {x : Int × Int} : ∀ n, x ∈ raceA E rm n → ∃ i j : Nat, x = prR i j ∧ i < j ∧ j < n ∧ rcB E rm i j = true
 | 0, h => by simp [raceA] at h
 | n + 1, h => by
   rcases List.mem_append.1 h with h | h
   · obtain ⟨i, j, e, h1, h2, h3⟩ := race_mem n h
     exact ⟨i, j, e, h1, by omega, h3⟩
   · obtain ⟨i, hi, rfl⟩ := List.mem_map.1 h
     obtain ⟨h1, h2⟩ := List.mem_filter.1 hi
     exact ⟨i, n, rfl, List.mem_range.1 h1, by omega, h2⟩
theorem rc_iff : rcB E rm i j = true ↔ (acB E i = true ∧ acB E j = true) ∧ ((E i).op = 13 ∨ (E j).op = 13) ∧ (E i).a = (E j).a ∧ (E i).who ≠ (E j).who ∧ ¬ clk E rm i (E i).who ≤ clk E rm j (E i).who := by
 unfold rcB
 simp
theorem race_none (h : ∀ i j, i < j → j < n → acB E i = true → acB E j = true → (E i).a = (E j).a → clk E rm i (E i).who ≤ clk E rm j (E i).who) : raceA E rm n = [] := by
 cases e : raceA E rm n with
 | nil => rfl
 | cons x l =>
   obtain ⟨i, j, _, h1, h2, h3⟩ := race_mem (E := E) (rm := rm) (x := x) n (by rw [e]; simp)
   obtain ⟨⟨a1, a2⟩, _, a3, _, a4⟩ := rc_iff.1 h3
   exact absurd (h i j h1 h2 a1 a2 a3) a4
theorem raceJ_acc (hj : acB E j = true) : raceJ E rm j j = ((pickL (isAcc E (E j).a) j).filter fun i => rcB E rm i j).map fun i => prR i j := by
 unfold raceJ pickL
 rw [List.filter_filter]
 congr 1
 refine List.filter_congr fun i _ => ?_
 cases h : rcB E rm i j with
 | false => simp
 | true =>
   obtain ⟨⟨a1, _⟩, _, a3, _⟩ := rc_iff.1 h
   simp [isAcc, a1, a3]
theorem raceJ_not (hj : acB E j = false) : raceJ E rm j j = [] := by
 unfold raceJ
 rw [List.map_eq_nil_iff, List.filter_eq_nil_iff]
 intro i _ h
 obtain ⟨⟨_, a2⟩, _⟩ := rc_iff.1 h
 rw [hj] at a2; cases a2
def rcQ (E : Nat → Ev) (rm : Int → Int) (j q : Nat) : List (Int × Int) := (((pickL (isAcc E (E j).a) j).take q).filter fun i => rcB E rm i j).map fun i => prR i j
theorem rcQ_zero (j : Nat) : rcQ E rm j 0 = [] := rfl
theorem rcQ_succ {q : Nat} (hq : q < (pickL (isAcc E (E j).a) j).length) : rcQ E rm j (q + 1) = rcQ E rm j q ++ if rcB E rm ((pickL (isAcc E (E j).a) j).getD q 0) j = true then [prR ((pickL (isAcc E (E j).a) j).getD q 0) j] else [] := by
 unfold rcQ
 rw [List.take_succ_eq_append_getElem hq, List.filter_append, List.map_append, List.getD_eq_getElem?_getD, List.getElem?_eq_getElem hq]
 congr 1
 simp only [Option.getD_some]
 cases h : rcB E rm (pickL (isAcc E (E j).a) j)[q] j <;> simp [h]
theorem rcQ_all (hj : acB E j = true) : rcQ E rm j (pickL (isAcc E (E j).a) j).length = raceJ E rm j j := by
 unfold rcQ
 rw [List.take_length, raceJ_acc hj]
end
def racesR (S : Sys) (E : Nat → Ev) (rm : Int → Int) (n : Nat) (most : Int) : List (Int × Int) × Int :=
 if (thr S E n).2.2 = 0 then (if most < 0 ∨ 4096 < most then ([], 1) else ((raceA E rm n).take most.toNat, 0)) else ([], (thr S E n).2.2)
open Go.RowKit
section
variable {W Q b J : Nat}
set_option maxHeartbeats 2000000 in
theorem pool_valid (pk : PoolOk W Q b J) (hQ : Q ≤ 1024) : validB (poolS W Q b J) = true := by
 have hw := pk.w1
 have hw2 := pk.w2
 have hq := pk.q1
 have hb := pk.b1
 have hb2 := pk.b2
 have hj := pk.j2
 rw [validB_iff, headB_iff]
 refine ⟨⟨show 1 ≤ 4 by decide, show 4 ≤ 64 by decide, show 3 ≤ 64 by decide, rfl, rfl, ?_⟩, fun i hi => ?_, fun p hp => ?_⟩
 · show shB (b : Int) = true
   rw [shB_iff]; omega
 · have hi' : i < 3 := hi
   show roomB (if i = 2 then (b : Int) else (Q : Int)) = true
   unfold roomB
   simp only [Bool.and_eq_true, decide_eq_true_eq]
   split <;> omega
 · have hp' : p = 0 ∨ p = 1 ∨ p = 2 ∨ p = 3 := by have h : p < 4 := hp; omega
   rcases hp' with rfl | rfl | rfl | rfl
   · refine ⟨show 15 ≤ 256 by decide, fun i hi => ?_⟩
     have h : i = 0 ∨ i = 1 ∨ i = 2 ∨ i = 3 ∨ i = 4 ∨ i = 5 ∨ i = 6 ∨ i = 7 ∨ i = 8 ∨ i = 9 ∨ i = 10 ∨ i = 11 ∨ i = 12 ∨ i = 13 ∨ i = 14 := by have h : i < 15 := hi; omega
     rcases h with rfl | rfl | rfl | rfl | rfl | rfl | rfl | rfl | rfl | rfl | rfl | rfl | rfl | rfl | rfl <;> first | rfl | (simp [rightS, poolS, pqI, pqC, pqW, pqF, pqK, opOk, kd, kdL, mayS, bnd] <;> omega)
   · refine ⟨show 8 ≤ 256 by decide, fun i hi => ?_⟩
     have h : i = 0 ∨ i = 1 ∨ i = 2 ∨ i = 3 ∨ i = 4 ∨ i = 5 ∨ i = 6 ∨ i = 7 := by have h : i < 8 := hi; omega
     rcases h with rfl | rfl | rfl | rfl | rfl | rfl | rfl | rfl <;> first | rfl | (simp [rightS, poolS, pqI, pqC, pqW, pqF, pqK, opOk, kd, kdL, mayS, bnd] <;> omega)
   · refine ⟨show 19 ≤ 256 by decide, fun i hi => ?_⟩
     have h : i = 0 ∨ i = 1 ∨ i = 2 ∨ i = 3 ∨ i = 4 ∨ i = 5 ∨ i = 6 ∨ i = 7 ∨ i = 8 ∨ i = 9 ∨ i = 10 ∨ i = 11 ∨ i = 12 ∨ i = 13 ∨ i = 14 ∨ i = 15 ∨ i = 16 ∨ i = 17 ∨ i = 18 := by have h : i < 19 := hi; omega
     rcases h with rfl | rfl | rfl | rfl | rfl | rfl | rfl | rfl | rfl | rfl | rfl | rfl | rfl | rfl | rfl | rfl | rfl | rfl | rfl <;> first | rfl | (simp [rightS, poolS, pqI, pqC, pqW, pqF, pqK, opOk, kd, kdL, mayS, bnd] <;> omega)
   · refine ⟨show 3 ≤ 256 by decide, fun i hi => ?_⟩
     have h : i = 0 ∨ i = 1 ∨ i = 2 := by have h : i < 3 := hi; omega
     rcases h with rfl | rfl | rfl <;> first | rfl | (simp [rightS, poolS, pqI, pqC, pqW, pqF, pqK, opOk, kd, kdL, mayS, bnd] <;> omega)
theorem pool_wf : QWf (poolS W Q b J) := fun p hp i hi => by
 have hp' : p = 0 ∨ p = 1 ∨ p = 2 ∨ p = 3 := by have h : p < 4 := hp; omega
 rcases hp' with rfl | rfl | rfl | rfl
 · have h : i = 0 ∨ i = 1 ∨ i = 2 ∨ i = 3 ∨ i = 4 ∨ i = 5 ∨ i = 6 ∨ i = 7 ∨ i = 8 ∨ i = 9 ∨ i = 10 ∨ i = 11 ∨ i = 12 ∨ i = 13 ∨ i = 14 := by have h : i < 15 := hi; omega
   rcases h with rfl | rfl | rfl | rfl | rfl | rfl | rfl | rfl | rfl | rfl | rfl | rfl | rfl | rfl | rfl <;> rfl
 · have h : i = 0 ∨ i = 1 ∨ i = 2 ∨ i = 3 ∨ i = 4 ∨ i = 5 ∨ i = 6 ∨ i = 7 := by have h : i < 8 := hi; omega
   rcases h with rfl | rfl | rfl | rfl | rfl | rfl | rfl | rfl <;> rfl
 · have h : i = 0 ∨ i = 1 ∨ i = 2 ∨ i = 3 ∨ i = 4 ∨ i = 5 ∨ i = 6 ∨ i = 7 ∨ i = 8 ∨ i = 9 ∨ i = 10 ∨ i = 11 ∨ i = 12 ∨ i = 13 ∨ i = 14 ∨ i = 15 ∨ i = 16 ∨ i = 17 ∨ i = 18 := by have h : i < 19 := hi; omega
   rcases h with rfl | rfl | rfl | rfl | rfl | rfl | rfl | rfl | rfl | rfl | rfl | rfl | rfl | rfl | rfl | rfl | rfl | rfl | rfl <;> rfl
 · have h : i = 0 ∨ i = 1 ∨ i = 2 := by have h : i < 3 := hi; omega
   rcases h with rfl | rfl | rfl <;> rfl
theorem pool_races (pk : PoolOk W Q b J) (hv : validB (poolS W Q b J) = true) (picks : List Int) : racesR (poolS W Q b J) (lE (playP (poolS W Q b J) picks).P.ev) (rmS (poolS W Q b J)) (playP (poolS W Q b J) picks).P.ev.length 4096 = ([], 0) := by
 have ht := play_thr hv picks
 obtain ⟨t1, _, _⟩ := play_run hv picks
 have hok := tok_all t1
 have hn : raceA (lE (playP (poolS W Q b J) picks).P.ev) (rmS (poolS W Q b J)) (playP (poolS W Q b J) picks).P.ev.length = [] := race_none fun i j hij hj hi1 hj1 ha => by
   have h1 : Acc (lE (playP (poolS W Q b J) picks).P.ev) i (lE (playP (poolS W Q b J) picks).P.ev i).a := ⟨by simpa [acB] using hi1, rfl⟩
   have h2 : Acc (lE (playP (poolS W Q b J) picks).P.ev) j (lE (playP (poolS W Q b J) picks).P.ev i).a := ⟨by simpa [acB] using hj1, ha.symm⟩
   exact ((bh_clk hok (by omega) hj).1 (pool_order pk hv (rmS (poolS W Q b J)) picks i j _ hij hj h1 h2)).2
 unfold racesR
 rw [ht, if_pos rfl, if_neg (by decide), hn]
 rfl
end
open Go.RowKit
theorem cnt_upd (b : Nat → Bool) (j : Nat) (hb : b j = false) : ∀ m, j < m → ((List.range m).filter fun i => !b i).length = ((List.range m).filter fun i => !(updN b j true) i).length + 1
 | 0, h => by omega
 | m + 1, h => by
   rw [List.range_succ, List.filter_append, List.filter_append, List.length_append, List.length_append]
   by_cases e : j = m
   · subst e
     have h1 : (List.range j).filter (fun i => !(updN b j true) i) = (List.range j).filter fun i => !b i := List.filter_congr fun i hi => by
       rw [List.mem_range] at hi
       rw [updN_other _ _ _ _ (by omega)]
     rw [h1]
     simp [updN_same, hb]
   · rw [cnt_upd b j hb m (by omega)]
     have h2 : updN b j true m = b m := updN_other _ _ _ _ (fun h => e h.symm)
     simp only [List.filter_cons, List.filter_nil, h2]
     omega
section
variable {P : Program} {ops : Array Oper} {Q : Exit → Act → World → Prop} {S : World → Prop} {n : Nat}
theorem ah_makes {l : List Oper} (m : Nat) (I : Nat → Nat) (LB : (Nat → Bool) → Array Bool) (AS : (Nat → Option Nat) → Act) (K : (Nat → Option Nat) → World → Prop) (hI : ∀ j, j < m → I j < n)
   (hrd : ∀ b, ((List.range m).filter fun j => !b j) ≠ [] → Region.ready .any ops (LB b) = ((List.range m).filter fun j => !b j).map I) (hset : ∀ b j, j < m → (LB b).setIfInBounds (I j) true = LB (updN b j true)) (hS : ∀ gs w, K gs w → S w)
   (hstep : ∀ j, j < m → ∃ o, ops[I j]? = some o ∧ ∀ gs u (K' : Exit → Act → World → Prop), K gs u → gs j = none → (∀ u' g, K (updN gs j (some g)) u' → wpList P ops K' [] (AS (updN gs j (some g))) u') → wpList P ops K' [o] (AS gs) u)
   (fin : ∀ gs u, (∀ j, j < m → (gs j).isSome = true) → K gs u → AH P ops Q S n l 0 (LB fun j => (gs j).isSome) (AS gs) u) :
   ∀ c gs u, ((List.range m).filter fun j => !(gs j).isSome).length = c → K gs u → AH P ops Q S n l c (LB fun j => (gs j).isSome) (AS gs) u
 | 0, gs, u, hc, hK => fin gs u (fun j hj => by
     have h0 := List.eq_nil_of_length_eq_zero hc
     have h1 := List.filter_eq_nil_iff.1 h0 j (List.mem_range.2 hj)
     cases hg : gs j with
     | some _ => rfl
     | none => simp [hg] at h1) hK
 | c + 1, gs, u, hc, hK => by
   intro hs hcb hn hsel inv
   have hr := hrd (fun j => (gs j).isSome) (fun h => by have hc' : ((List.range m).filter fun j => !(gs j).isSome).length = c + 1 := hc; rw [h] at hc'; simp at hc')
   refine ⟨fun h0 => ?_, fun i hi => ?_⟩
   · rw [hr] at h0
     have := congrArg List.length h0
     rw [List.length_map, hc] at this
     simp at this
   · have hi' := hi
     rw [hr] at hi'
     obtain ⟨j, hj, rfl⟩ := List.mem_map.1 hi'
     obtain ⟨hj1, hj2⟩ := List.mem_filter.1 hj
     have hjm := List.mem_range.1 hj1
     have hnone : gs j = none := by simpa using hj2
     refine ⟨hI j hjm, ?_⟩
     obtain ⟨o, ho, hst⟩ := hstep j hjm
     have inv' := inv.set hi (hI j hjm)
     rw [hset _ j hjm] at inv' ⊢
     have e : ∀ g, (updN (fun j => (gs j).isSome) j true) = fun k => (updN gs j (some g) k).isSome := fun g => by
       funext k
       by_cases h : k = j
       · subst h; rw [updN_same, updN_same]; rfl
       · rw [updN_other _ _ _ _ h, updN_other _ _ _ _ h]
     have h := hst gs u (BackA P ops Q S n l c (LB (updN (fun j => (gs j).isSome) j true))) hK hnone fun u' g hK' => by
       refine backA_intro (hS _ _ hK') ?_
       rw [e g]
       refine ah_makes m I LB AS K hI hrd hset hS hstep fin c _ _ ?_ hK'
       have := cnt_upd (fun j => (gs j).isSome) j (by simp [hnone]) m hjm
       have e2 : (fun i => !(updN (fun j => (gs j).isSome) j true) i) = fun i => !(updN gs j (some g) i).isSome := by rw [e g]
       rw [e2] at this
       omega
     unfold wpList at h
     unfold wpOp
     simp only [ho]
     split
     · rename_i hw
       rw [if_pos hw] at h
       exact h.imp (fun h => wp_backA (Oper.wp_mono (fun a w hk => ⟨hk.1, hk.2 hs hcb hn hsel inv'⟩) h)) id
     · rename_i hw
       rw [if_neg hw] at h
       exact ⟨h.1, h.2 hs hcb hn hsel inv'⟩
theorem wpList_make {rest : List Oper} {o : Oper} {a : Act} {W : World} {x : Operand} (d T e N n size bytes : Nat) (z : Value) (_hd : o.dst = some d) (hgd : o.guard = none) (ho : o.op = .makeSlice T x x) (hx : a.eval x = .int .i64 (n : Int)) (ht : P.underlying T = some (.slice e))
   (hi : (P.info? e).map (fun i => (i.zero, i.size, i.bytes)) = some (some z, size, bytes)) (hb : bytes ≤ 1000) (hn : n ≤ 1000000) (hN : n * size = N)
   (h : ∀ u, Keeps W u [] → u.heap.size = W.heap.size + 1 → Blk u W.heap.size e (madeCells z.cells N) → wpList P ops Q rest (a.put o.dst (.slice (some ⟨W.heap.size, 0, none⟩) n n)) u) : wpList P ops Q (o :: rest) a W := by
 subst hN
 refine wpList_plain hgd fun K hK => ?_
 obtain ⟨i, hi, he⟩ := Option.map_eq_some_iff.1 hi
 simp only [Prod.mk.injEq] at he
 obtain ⟨hz, hsz, hby⟩ := he
 have hmul : bytes * n ≤ 1000 * 1000000 := Nat.mul_le_mul hb hn
 have hr := run_make (P := P) W T e i z ht hi hz .i64 .i64 (n : Int) (n : Int) (by omega) (Int.le_refl _) (by rw [hby, ← Int.natCast_mul]; omega) (by omega)
 rw [Int.toNat_natCast, hsz] at hr
 unfold Oper.wp execOp
 simp only [ho, hx, Sem.run_bind, hr, Result.andThen_ok, Sem.run_pure]
 exact hK _ _ (h _ ((Keeps.refl _ _).alloc _) (by show (W.heap.push _).size = _; exact Array.size_push _) (Blk.new _ _ _))
end
open Go.RowKit Go.Maps Go.Deep
structure Ly where
 ps : Nat
 wp : Nat
 bp : Nat
 bl : Nat
 bg : Nat
 bc : Nat
 lk : Nat
 gr : Nat
 ce : Nat
def wpC (y : Ly) (nr gw n cw : Nat) (evs : Value) : Array Value := #[.pointer (some ⟨y.ps, 0, none⟩), .slice (some ⟨gw, 0, none⟩) n cw, .slice (some ⟨y.bp, 0, none⟩) nr nr, .slice (some ⟨y.bl, 0, none⟩) y.lk y.lk, .slice (some ⟨y.bg, 0, none⟩) y.gr y.gr, .slice (some ⟨y.bc, 0, none⟩) y.ce y.ce, evs]
def instC (f : Nat → Int) : Array Value := #[.int .i64 (f 0), .int .i64 (f 1), .int .i64 (f 2), .int .i64 (f 3)]
def instV : Option (Nat → Int) → Array Value
 | none => instC fun _ => 0
 | some f => instC f
theorem instC_get (f : Nat → Int) (j : Nat) (h : j < 4) : (instC f)[j]? = some (.int .i64 (f j)) := by
 match j, h with
 | 0, _ => rfl
 | 1, _ => rfl
 | 2, _ => rfl
 | 3, _ => rfl
theorem mod_twice (v : Int) (c : Nat) (h : 0 < c) (h' : c ≤ 64) : (wrap64 (v.tmod c + c)).tmod c = v % (c : Int) := by
 have h0 : (0 : Int) < c := by omega
 have h1 := Int.tmod_lt_of_pos v h0
 have h2 := Int.lt_tmod_of_pos v h0
 have e : wrap64 (v.tmod c + c) = v.tmod c + c := IntWalk.wrap64_in _ (by omega)
 rw [e, Int.tmod_eq_emod_of_nonneg (by omega), Int.add_emod_right]
 have h3 := Int.mul_tdiv_add_tmod v c
 conv => rhs; rw [← h3, Int.add_comm, Int.add_mul_emod_self_left]
theorem instC_cell (f : Nat → Int) : ∀ v ∈ (instC f).toList, v.oneCell' = true := by
 intro v hv
 simp [instC] at hv
 rcases hv with rfl | rfl | rfl | rfl <;> rfl
section
variable {w W : World} {S : Sys} {A : Option Addr} {c : Nat} {R : Option Addr} {d : Nat} {y : Ly} {gw n cw : Nat} {cur : Array Value} {evs : Value} {rs : Nat → Rn}
set_option maxRecDepth 100000 in
set_option maxHeartbeats 1000000 in
theorem wnext_any (hw : Blk W y.wp 110 (wpC y S.nr gw n cw evs)) (hg : Blk W gw 174 cur) (hs : Blk W y.ps 27 (sysV S A c R d)) (hS : SysIn W S A c R d) (hC : WhoC cur n rs) {k : Nat} (hk : k < n) (hp : (rs k).prog < S.np) :
   Calls Try.prog 103 #[.pointer (some ⟨y.wp, 0, none⟩), .pointer (some ⟨gw, k * 10, none⟩)] W fun e W' => e = .returned (.tuple #[.agg (instV (instP S (rs k))), .bool (instP S (rs k)).isSome]) ∧ Keeps W W' [] := by
 have O := Own.start W []
 obtain ⟨ad, rfl, hb, hpr⟩ := hS.progs (by omega)
 obtain ⟨B, cB, h1, h2, h3, hI⟩ := hpr _ hp
 have hq : (S.lp (rs k).prog : Int) ≤ 9223372036854775807 := by simp only [maxLen] at h3; omega
 have HW := Lib.hid hw
 have HG := Lib.hid hg
 have HS := Lib.hid hs
 have HC := Lib.hid hC
 have HK := Lib.hid hk
 have H1 := Lib.hid h1
 have HB := Lib.hid hb
 have HI := Lib.hid hI
 have g1 : ((rs k).prog : Int) < S.np := by omega
 have g2 : (0 : Int) ≤ (rs k).prog := by omega
 have HR := Lib.hid (show instP S (rs k) = if (rs k).pos < S.lp (rs k).prog then some (S.q (rs k).prog (rs k).pos) else none from rfl)
 clear hw hg hs hS hC hk h1 hb hI hpr h2 h3 hp
 generalize hr : instP S (rs k) = r at HR ⊢
 clear hr
 by_cases hlt : (rs k).pos < S.lp (rs k).prog
 · have HF := Lib.hid (show r = some (S.q (rs k).prog (rs k).pos) by rw [HR.out, if_pos hlt])
   obtain ⟨bd, rfl, hbb, hi⟩ := HI.out (by omega)
   have HJ := Lib.hid (hi (rs k).pos)
   have HBB := Lib.hid hbb
   have g3 : ((rs k).pos : Int) < S.lp (rs k).prog := by omega
   have g4 : (0 : Int) ≤ (rs k).pos := by omega
   have g5 : ¬ (S.lp (rs k).prog : Int) ≤ (rs k).pos := by omega
   clear hi hbb hlt
   go_enter Try.func103, Try.ntmps103
   go_wp2_with (first
     | go_big_skip
     | (refine own_alloc 4 (instC fun _ => 0) O rfl rfl rfl (fun _ => by kernel_rfl) ?_; clear O; intro V a4 O; simp only [Act.put, kA, kZ, kS]))
   have K0 := O.keep
   have cw : ∀ (p : Later V) i, p.1.cell? ⟨y.wp, i, none⟩ = #[Value.pointer (some ⟨y.ps, 0, none⟩), .slice (some ⟨gw, 0, none⟩) n cw, .slice (some ⟨y.bp, 0, none⟩) S.nr S.nr, .slice (some ⟨y.bl, 0, none⟩) y.lk y.lk, .slice (some ⟨y.bg, 0, none⟩) y.gr y.gr, .slice (some ⟨y.bc, 0, none⟩) y.ce y.ce, evs][i]? := Later.cell (HW.out.keeps K0 (by simp))
   have cs : ∀ (p : Later V) i, p.1.cell? ⟨y.ps, i, none⟩ = #[Value.slice (some ad) S.np c, .slice R S.nr d, .int .i64 S.gr, .int .i64 S.lk, .int .i64 S.ce][i]? := Later.cell (HS.out.keeps K0 (by simp))
   have c1 : ∀ p : Later V, p.1.cell? ⟨gw, k * 10, none⟩ = some (.int .i64 (rs k).prog) := fun p => (Later.cell (HG.out.keeps K0 (by simp)) p _).trans (HC.out.prog HK.out)
   have c3 : ∀ p : Later V, p.1.cell? (ad.add (rs k).prog) = some (.slice (some bd) (S.lp (rs k).prog) cB) := fun p => ((K0.trans p.2 (by simp)).cellAt (by rw [add_block]; exact HB.out) (by simp)).trans H1.out
   refine wp_quiet_later (by kernel_rfl) (by kernel_rfl) ?_
   repeat (first | go_big_quiet_skip | go_big_quiet_step (fail))
   refine kq fun p' => ?_
   replace O := O.keeps p'.2
   clear cw cs c1 c3 K0
   generalize p'.1 = V at O ⊢
   have K0 := O.keep
   have c2 : V.cell? ⟨gw, k * 10 + 1, none⟩ = some (.int .i64 (rs k).pos) := ((HG.out.keeps K0 (by simp)).cell _).trans (HC.out.pos HK.out)
   have HL := Lib.hid (show ∀ j, j < 4 → V.cell? (bd.add ((rs k).pos * 4 + j)) = some (.int .i64 (S.q (rs k).prog (rs k).pos j)) from fun j hj => (K0.cellAt (by rw [add_block]; exact HBB.out) (by simp)).trans (HJ.out j (by omega) hj))
   clear K0
   go_wp2_with (first
     | go_big_skip
     | (refine wpList_load_at 34 (cs := instC (S.q (rs k).prog (rs k).pos)) rfl rfl rfl rfl ?_ Try.underlying99 rfl (by kernel_rfl) ?_; exact (fun j hj => by rw [Addr.add_add]; exact (HL.out j hj).trans (instC_get _ _ hj).symm); simp only [Act.put, kA, kZ, kS])
     | (refine own_store_row 0 (.tmp 4) (.tmp 34) O rfl rfl rfl rfl rfl rfl (by kernel_rfl) (by rfl) (instC_cell _) ?_; clear O; intro V O; simp only [kZ] at O))
   clear c2
   rw [HF.out]
   refine bodyPost_ret (v := .tuple #[.agg (instC (S.q (rs k).prog (rs k).pos)), .bool true]) (results_cell_tmp rfl _ _ a4 99 _ _ rfl (O.get 0 rfl) Try.underlying99 rfl (by kernel_rfl) _ rfl) rfl ⟨rfl, O.keep⟩
 · have HF := Lib.hid (show r = none by rw [HR.out, if_neg hlt])
   have g3 : (S.lp (rs k).prog : Int) ≤ (rs k).pos := by omega
   clear hlt
   go_enter Try.func103, Try.ntmps103
   go_wp2_with (first
     | go_big_skip
     | (refine own_alloc 4 (instC fun _ => 0) O rfl rfl rfl (fun _ => by kernel_rfl) ?_; clear O; intro V a4 O; simp only [Act.put, kA, kZ, kS]))
   have K0 := O.keep
   have cw : ∀ (p : Later V) i, p.1.cell? ⟨y.wp, i, none⟩ = #[Value.pointer (some ⟨y.ps, 0, none⟩), .slice (some ⟨gw, 0, none⟩) n cw, .slice (some ⟨y.bp, 0, none⟩) S.nr S.nr, .slice (some ⟨y.bl, 0, none⟩) y.lk y.lk, .slice (some ⟨y.bg, 0, none⟩) y.gr y.gr, .slice (some ⟨y.bc, 0, none⟩) y.ce y.ce, evs][i]? := Later.cell (HW.out.keeps K0 (by simp))
   have cs : ∀ (p : Later V) i, p.1.cell? ⟨y.ps, i, none⟩ = #[Value.slice (some ad) S.np c, .slice R S.nr d, .int .i64 S.gr, .int .i64 S.lk, .int .i64 S.ce][i]? := Later.cell (HS.out.keeps K0 (by simp))
   have c1 : ∀ p : Later V, p.1.cell? ⟨gw, k * 10, none⟩ = some (.int .i64 (rs k).prog) := fun p => (Later.cell (HG.out.keeps K0 (by simp)) p _).trans (HC.out.prog HK.out)
   have c3 : ∀ p : Later V, p.1.cell? (ad.add (rs k).prog) = some (.slice B (S.lp (rs k).prog) cB) := fun p => ((K0.trans p.2 (by simp)).cellAt (by rw [add_block]; exact HB.out) (by simp)).trans H1.out
   refine wp_quiet_later (by kernel_rfl) (by kernel_rfl) ?_
   repeat (first | go_big_quiet_skip | go_big_quiet_step (fail))
   refine kq fun p' => ?_
   replace O := O.keeps p'.2
   clear cw cs c1 c3 K0
   generalize p'.1 = V at O ⊢
   have K0 := O.keep
   have c2 : V.cell? ⟨gw, k * 10 + 1, none⟩ = some (.int .i64 (rs k).pos) := ((HG.out.keeps K0 (by simp)).cell _).trans (HC.out.pos HK.out)
   clear K0
   go_wp2_with (first
     | go_big_skip
     | (refine wpList_const 27 (.agg (instC fun _ => 0)) rfl rfl (fun _ => by kernel_rfl) ?_; simp only [Act.put, kA, kZ, kS])
     | (refine own_store_row 0 (.tmp 4) (.tmp 27) O rfl rfl rfl rfl rfl rfl (by kernel_rfl) (by rfl) (instC_cell _) ?_; clear O; intro V O; simp only [kZ] at O))
   clear c2
   rw [HF.out]
   refine bodyPost_ret (v := .tuple #[.agg (instC fun _ => 0), .bool false]) (results_cell_tmp rfl _ _ a4 99 _ _ rfl (O.get 0 rfl) Try.underlying99 rfl (by kernel_rfl) _ rfl) rfl ⟨rfl, O.keep⟩
set_option maxRecDepth 100000 in
theorem wcell_any (hw : Blk W y.wp 110 (wpC y S.nr gw n cw evs)) (v : Int) (hce : 0 < y.ce) (hc : y.ce ≤ 64) : Calls Try.prog 107 #[.pointer (some ⟨y.wp, 0, none⟩), .int .i64 v] W fun e W' => e = .returned (.int .i64 (v % (y.ce : Int))) ∧ Keeps W W' [] := by
 have cw : ∀ (p : Later W) i, p.1.cell? ⟨y.wp, i, none⟩ = #[Value.pointer (some ⟨y.ps, 0, none⟩), .slice (some ⟨gw, 0, none⟩) n cw, .slice (some ⟨y.bp, 0, none⟩) S.nr S.nr, .slice (some ⟨y.bl, 0, none⟩) y.lk y.lk, .slice (some ⟨y.bg, 0, none⟩) y.gr y.gr, .slice (some ⟨y.bc, 0, none⟩) y.ce y.ce, evs][i]? := Later.cell hw
 have hm := mod_twice v y.ce hce hc
 have O := Own.start W []
 clear hw
 go_enter Try.func107, Try.ntmps107
 go_wp2_with (first
   | go_big_skip)
 refine wp_quiet_later (by kernel_rfl) (by kernel_rfl) ?_
 repeat (first | go_big_quiet_skip | go_big_quiet_step (fail))
 refine kq fun p' => ?_
 replace O := O.keeps p'.2
 clear cw
 generalize p'.1 = V at O ⊢
 go_wp2
 go_ret
 exact ⟨rfl, O.keep⟩
end
open Go.RowKit Go.Maps Go.Deep
section
variable {w W : World} {S : Sys} {A : Option Addr} {c : Nat} {R : Option Addr} {d : Nat} {y : Ly} {gw n cw base : Nat} {cur : Array Value} {evs : Value} {rs : Nat → Rn} {hv : Nat → Value} {cl : Nat → Bool} {lk : Int → Bool} {gr : Int → Int}
set_option maxRecDepth 100000 in
theorem wcan_5c (hw : Blk W y.wp 110 (wpC y S.nr gw n cw evs)) (hb : Blk W y.bp 186 (pipesA S.nr hv cl)) {aN : Nat} (ha : aN < S.nr) (hcl : cl aN = true) (f2 f3 : Int) : Calls Try.prog 104 #[.pointer (some ⟨y.wp, 0, none⟩), .agg #[.int .i64 5, .int .i64 (aN : Int), .int .i64 f2, .int .i64 f3]] W fun e W' => e = .returned (.bool (true)) ∧ Keeps W W' [] := by
 have O := Own.start W []
 have HW := Lib.hid hw
 have HB := Lib.hid hb
 have g1 : (aN : Int) < S.nr := by omega
 have g2 : (0 : Int) ≤ aN := by omega
 clear hw hb
 go_enter Try.func104, Try.ntmps104
 go_wp2_with (first
   | go_big_skip
   | (refine own_box 3 #[Value.int .i64 5, .int .i64 (aN : Int), .int .i64 f2, .int .i64 f3] O rfl rfl rfl rfl ?_; clear O; intro V a3 O; simp only [Act.put, kA, kZ, kS]; have c0 : V.cell? ⟨a3, 0, none⟩ = some (.int .i64 5) := (O.get 0 rfl).cell 0))
 have K0 := O.keep
 have cw : ∀ (p : Later V) i, p.1.cell? ⟨y.wp, i, none⟩ = #[Value.pointer (some ⟨y.ps, 0, none⟩), .slice (some ⟨gw, 0, none⟩) n cw, .slice (some ⟨y.bp, 0, none⟩) S.nr S.nr, .slice (some ⟨y.bl, 0, none⟩) y.lk y.lk, .slice (some ⟨y.bg, 0, none⟩) y.gr y.gr, .slice (some ⟨y.bc, 0, none⟩) y.ce y.ce, evs][i]? := Later.cell (HW.out.keeps K0 (by simp))
 have ci : ∀ (p : Later V) i, p.1.cell? ⟨a3, i, none⟩ = #[Value.int .i64 5, .int .i64 (aN : Int), .int .i64 f2, .int .i64 f3][i]? := Later.cell (O.get 0 rfl)
 have cp : ∀ p : Later V, p.1.cell? ⟨y.bp, aN * 2 + 1, none⟩ = some (.bool true) := fun p => (Later.cell (HB.out.keeps K0 (by simp)) p _).trans ((pipesA_cl _ _ _ _ ha).trans (by rw [hcl]))
 have ak := add_zero_ y.bp (aN * 2)
 refine wp_quiet_later (by kernel_rfl) (by kernel_rfl) ?_
 repeat (first | go_big_quiet_skip | go_big_quiet_step (fail))
 refine kq fun p' => ?_
 replace O := O.keeps p'.2
 clear c0 cw ci K0 cp ak
 generalize p'.1 = V at O ⊢
 go_wp2
 go_ret
 exact ⟨rfl, O.keep⟩
set_option maxRecDepth 100000 in
theorem wcan_6c (hw : Blk W y.wp 110 (wpC y S.nr gw n cw evs)) (hb : Blk W y.bp 186 (pipesA S.nr hv cl)) {aN : Nat} (ha : aN < S.nr) (hcl : cl aN = true) (f2 f3 : Int) : Calls Try.prog 104 #[.pointer (some ⟨y.wp, 0, none⟩), .agg #[.int .i64 6, .int .i64 (aN : Int), .int .i64 f2, .int .i64 f3]] W fun e W' => e = .returned (.bool (true)) ∧ Keeps W W' [] := by
 have O := Own.start W []
 have HW := Lib.hid hw
 have HB := Lib.hid hb
 have g1 : (aN : Int) < S.nr := by omega
 have g2 : (0 : Int) ≤ aN := by omega
 clear hw hb
 go_enter Try.func104, Try.ntmps104
 go_wp2_with (first
   | go_big_skip
   | (refine own_box 3 #[Value.int .i64 6, .int .i64 (aN : Int), .int .i64 f2, .int .i64 f3] O rfl rfl rfl rfl ?_; clear O; intro V a3 O; simp only [Act.put, kA, kZ, kS]; have c0 : V.cell? ⟨a3, 0, none⟩ = some (.int .i64 6) := (O.get 0 rfl).cell 0))
 have K0 := O.keep
 have cw : ∀ (p : Later V) i, p.1.cell? ⟨y.wp, i, none⟩ = #[Value.pointer (some ⟨y.ps, 0, none⟩), .slice (some ⟨gw, 0, none⟩) n cw, .slice (some ⟨y.bp, 0, none⟩) S.nr S.nr, .slice (some ⟨y.bl, 0, none⟩) y.lk y.lk, .slice (some ⟨y.bg, 0, none⟩) y.gr y.gr, .slice (some ⟨y.bc, 0, none⟩) y.ce y.ce, evs][i]? := Later.cell (HW.out.keeps K0 (by simp))
 have ci : ∀ (p : Later V) i, p.1.cell? ⟨a3, i, none⟩ = #[Value.int .i64 6, .int .i64 (aN : Int), .int .i64 f2, .int .i64 f3][i]? := Later.cell (O.get 0 rfl)
 have cp : ∀ p : Later V, p.1.cell? ⟨y.bp, aN * 2 + 1, none⟩ = some (.bool true) := fun p => (Later.cell (HB.out.keeps K0 (by simp)) p _).trans ((pipesA_cl _ _ _ _ ha).trans (by rw [hcl]))
 have ak := add_zero_ y.bp (aN * 2)
 refine wp_quiet_later (by kernel_rfl) (by kernel_rfl) ?_
 repeat (first | go_big_quiet_skip | go_big_quiet_step (fail))
 refine kq fun p' => ?_
 replace O := O.keeps p'.2
 clear c0 cw ci K0 cp ak
 generalize p'.1 = V at O ⊢
 go_wp2
 go_ret
 exact ⟨rfl, O.keep⟩
set_option maxRecDepth 100000 in
theorem wcan_6o (hw : Blk W y.wp 110 (wpC y S.nr gw n cw evs)) (hb : Blk W y.bp 186 (pipesA S.nr hv cl)) {aN : Nat} (ha : aN < S.nr) (hcl : cl aN = false) {L c0' : Nat} {A0 : Option Addr} (hh : hv aN = .slice A0 L c0') (f2 f3 : Int) : Calls Try.prog 104 #[.pointer (some ⟨y.wp, 0, none⟩), .agg #[.int .i64 6, .int .i64 (aN : Int), .int .i64 f2, .int .i64 f3]] W fun e W' => e = .returned (.bool (decide (0 < L))) ∧ Keeps W W' [] := by
 have O := Own.start W []
 have HW := Lib.hid hw
 have HB := Lib.hid hb
 have g1 : (aN : Int) < S.nr := by omega
 have g2 : (0 : Int) ≤ aN := by omega
 clear hw hb
 go_enter Try.func104, Try.ntmps104
 go_wp2_with (first
   | go_big_skip
   | (refine own_box 3 #[Value.int .i64 6, .int .i64 (aN : Int), .int .i64 f2, .int .i64 f3] O rfl rfl rfl rfl ?_; clear O; intro V a3 O; simp only [Act.put, kA, kZ, kS]; have c0 : V.cell? ⟨a3, 0, none⟩ = some (.int .i64 6) := (O.get 0 rfl).cell 0))
 have K0 := O.keep
 have cw : ∀ (p : Later V) i, p.1.cell? ⟨y.wp, i, none⟩ = #[Value.pointer (some ⟨y.ps, 0, none⟩), .slice (some ⟨gw, 0, none⟩) n cw, .slice (some ⟨y.bp, 0, none⟩) S.nr S.nr, .slice (some ⟨y.bl, 0, none⟩) y.lk y.lk, .slice (some ⟨y.bg, 0, none⟩) y.gr y.gr, .slice (some ⟨y.bc, 0, none⟩) y.ce y.ce, evs][i]? := Later.cell (HW.out.keeps K0 (by simp))
 have ci : ∀ (p : Later V) i, p.1.cell? ⟨a3, i, none⟩ = #[Value.int .i64 6, .int .i64 (aN : Int), .int .i64 f2, .int .i64 f3][i]? := Later.cell (O.get 0 rfl)
 have cp : ∀ p : Later V, p.1.cell? ⟨y.bp, aN * 2 + 1, none⟩ = some (.bool false) := fun p => (Later.cell (HB.out.keeps K0 (by simp)) p _).trans ((pipesA_cl _ _ _ _ ha).trans (by rw [hcl]))
 have ak := add_zero_ y.bp (aN * 2)
 have ch : ∀ p : Later V, p.1.cell? ⟨y.bp, aN * 2, none⟩ = some (.slice A0 L c0') := fun p => (Later.cell (HB.out.keeps K0 (by simp)) p _).trans ((pipesA_hv _ _ _ _ ha).trans (by rw [hh]))
 refine wp_quiet_later (by kernel_rfl) (by kernel_rfl) ?_
 repeat (first | go_big_quiet_skip | go_big_quiet_step (fail))
 refine kq fun p' => ?_
 replace O := O.keeps p'.2
 clear c0 cw ci K0 cp ak ch
 generalize p'.1 = V at O ⊢
 go_wp2
 go_ret
 exact ⟨rfl, O.keep⟩
set_option maxRecDepth 100000 in
theorem wcan_5o (hw : Blk W y.wp 110 (wpC y S.nr gw n cw evs)) (hb : Blk W y.bp 186 (pipesA S.nr hv cl)) (hs : Blk W y.ps 27 (sysV S A c R d)) (hS : SysIn W S A c R d) {aN : Nat} (ha : aN < S.nr) (hcl : cl aN = false) {L c0' : Nat} {A0 : Option Addr} (hh : hv aN = .slice A0 L c0') (f2 f3 : Int) : Calls Try.prog 104 #[.pointer (some ⟨y.wp, 0, none⟩), .agg #[.int .i64 5, .int .i64 (aN : Int), .int .i64 f2, .int .i64 f3]] W fun e W' => e = .returned (.bool (decide ((L : Int) < S.rm aN))) ∧ Keeps W W' [] := by
 have O := Own.start W []
 have HW := Lib.hid hw
 have HB := Lib.hid hb
 have g1 : (aN : Int) < S.nr := by omega
 have g2 : (0 : Int) ≤ aN := by omega
 obtain ⟨rd, rfl, hrb, hrc⟩ := hS.rooms (by omega)
 have HRB := Lib.hid hrb
 have HR := Lib.hid hrc
 have HS := Lib.hid hs
 clear hw hb hs hS hrb hrc
 go_enter Try.func104, Try.ntmps104
 go_wp2_with (first
   | go_big_skip
   | (refine own_box 3 #[Value.int .i64 5, .int .i64 (aN : Int), .int .i64 f2, .int .i64 f3] O rfl rfl rfl rfl ?_; clear O; intro V a3 O; simp only [Act.put, kA, kZ, kS]; have c0 : V.cell? ⟨a3, 0, none⟩ = some (.int .i64 5) := (O.get 0 rfl).cell 0))
 have K0 := O.keep
 have cw : ∀ (p : Later V) i, p.1.cell? ⟨y.wp, i, none⟩ = #[Value.pointer (some ⟨y.ps, 0, none⟩), .slice (some ⟨gw, 0, none⟩) n cw, .slice (some ⟨y.bp, 0, none⟩) S.nr S.nr, .slice (some ⟨y.bl, 0, none⟩) y.lk y.lk, .slice (some ⟨y.bg, 0, none⟩) y.gr y.gr, .slice (some ⟨y.bc, 0, none⟩) y.ce y.ce, evs][i]? := Later.cell (HW.out.keeps K0 (by simp))
 have ci : ∀ (p : Later V) i, p.1.cell? ⟨a3, i, none⟩ = #[Value.int .i64 5, .int .i64 (aN : Int), .int .i64 f2, .int .i64 f3][i]? := Later.cell (O.get 0 rfl)
 have cp : ∀ p : Later V, p.1.cell? ⟨y.bp, aN * 2 + 1, none⟩ = some (.bool false) := fun p => (Later.cell (HB.out.keeps K0 (by simp)) p _).trans ((pipesA_cl _ _ _ _ ha).trans (by rw [hcl]))
 have ak := add_zero_ y.bp (aN * 2)
 have ch : ∀ p : Later V, p.1.cell? ⟨y.bp, aN * 2, none⟩ = some (.slice A0 L c0') := fun p => (Later.cell (HB.out.keeps K0 (by simp)) p _).trans ((pipesA_hv _ _ _ _ ha).trans (by rw [hh]))
 have cs : ∀ (p : Later V) i, p.1.cell? ⟨y.ps, i, none⟩ = #[Value.slice A S.np c, .slice (some rd) S.nr d, .int .i64 S.gr, .int .i64 S.lk, .int .i64 S.ce][i]? := Later.cell (HS.out.keeps K0 (by simp))
 have cr : ∀ p : Later V, p.1.cell? (rd.add aN) = some (.int .i64 (S.rm aN)) := fun p => ((K0.trans p.2 (by simp)).cellAt (by rw [add_block]; exact HRB.out) (by simp)).trans (HR.out aN ha)
 refine wp_quiet_later (by kernel_rfl) (by kernel_rfl) ?_
 repeat (first | go_big_quiet_skip | go_big_quiet_step (fail))
 refine kq fun p' => ?_
 replace O := O.keeps p'.2
 clear c0 cw ci K0 cp ak ch cs cr
 generalize p'.1 = V at O ⊢
 go_wp2
 go_ret
 exact ⟨rfl, O.keep⟩
set_option maxRecDepth 100000 in
theorem wcan_8 (hw : Blk W y.wp 110 (wpC y S.nr gw n cw evs)) (hl : Blk W y.bl 4 (arrB y.lk lk)) {aN : Nat} (ha : aN < y.lk) (f2 f3 : Int) : Calls Try.prog 104 #[.pointer (some ⟨y.wp, 0, none⟩), .agg #[.int .i64 8, .int .i64 (aN : Int), .int .i64 f2, .int .i64 f3]] W fun e W' => e = .returned (.bool (!lk aN)) ∧ Keeps W W' [] := by
 have O := Own.start W []
 have HW := Lib.hid hw
 have HL := Lib.hid hl
 have g1 : (aN : Int) < y.lk := by omega
 have g2 : (0 : Int) ≤ aN := by omega
 clear hw hl
 go_enter Try.func104, Try.ntmps104
 go_wp2_with (first
   | go_big_skip
   | (refine own_box 3 #[Value.int .i64 8, .int .i64 (aN : Int), .int .i64 f2, .int .i64 f3] O rfl rfl rfl rfl ?_; clear O; intro V a3 O; simp only [Act.put, kA, kZ, kS]; have c0 : V.cell? ⟨a3, 0, none⟩ = some (.int .i64 8) := (O.get 0 rfl).cell 0))
 have K0 := O.keep
 have cw : ∀ (p : Later V) i, p.1.cell? ⟨y.wp, i, none⟩ = #[Value.pointer (some ⟨y.ps, 0, none⟩), .slice (some ⟨gw, 0, none⟩) n cw, .slice (some ⟨y.bp, 0, none⟩) S.nr S.nr, .slice (some ⟨y.bl, 0, none⟩) y.lk y.lk, .slice (some ⟨y.bg, 0, none⟩) y.gr y.gr, .slice (some ⟨y.bc, 0, none⟩) y.ce y.ce, evs][i]? := Later.cell (HW.out.keeps K0 (by simp))
 have ci : ∀ (p : Later V) i, p.1.cell? ⟨a3, i, none⟩ = #[Value.int .i64 8, .int .i64 (aN : Int), .int .i64 f2, .int .i64 f3][i]? := Later.cell (O.get 0 rfl)
 have cl : ∀ p : Later V, p.1.cell? ⟨y.bl, aN, none⟩ = some (.bool (lk aN)) := fun p => (Later.cell (HL.out.keeps K0 (by simp)) p _).trans (arrB_get _ _ _ ha)
 have ak := add_zero_ y.bl aN
 refine wp_quiet_later (by kernel_rfl) (by kernel_rfl) ?_
 repeat (first | go_big_quiet_skip | go_big_quiet_step (fail))
 refine kq fun p' => ?_
 replace O := O.keeps p'.2
 clear c0 cw ci K0 cl ak
 generalize p'.1 = V at O ⊢
 go_wp2
 go_ret
 exact ⟨rfl, O.keep⟩
set_option maxRecDepth 100000 in
theorem wcan_11 (hw : Blk W y.wp 110 (wpC y S.nr gw n cw evs)) (hl : Blk W y.bg 3 (arrI y.gr gr)) {aN : Nat} (ha : aN < y.gr) (f2 f3 : Int) : Calls Try.prog 104 #[.pointer (some ⟨y.wp, 0, none⟩), .agg #[.int .i64 11, .int .i64 (aN : Int), .int .i64 f2, .int .i64 f3]] W fun e W' => e = .returned (.bool (decide (gr aN = 0))) ∧ Keeps W W' [] := by
 have O := Own.start W []
 have HW := Lib.hid hw
 have HL := Lib.hid hl
 have g1 : (aN : Int) < y.gr := by omega
 have g2 : (0 : Int) ≤ aN := by omega
 clear hw hl
 go_enter Try.func104, Try.ntmps104
 go_wp2_with (first
   | go_big_skip
   | (refine own_box 3 #[Value.int .i64 11, .int .i64 (aN : Int), .int .i64 f2, .int .i64 f3] O rfl rfl rfl rfl ?_; clear O; intro V a3 O; simp only [Act.put, kA, kZ, kS]; have c0 : V.cell? ⟨a3, 0, none⟩ = some (.int .i64 11) := (O.get 0 rfl).cell 0))
 have K0 := O.keep
 have cw : ∀ (p : Later V) i, p.1.cell? ⟨y.wp, i, none⟩ = #[Value.pointer (some ⟨y.ps, 0, none⟩), .slice (some ⟨gw, 0, none⟩) n cw, .slice (some ⟨y.bp, 0, none⟩) S.nr S.nr, .slice (some ⟨y.bl, 0, none⟩) y.lk y.lk, .slice (some ⟨y.bg, 0, none⟩) y.gr y.gr, .slice (some ⟨y.bc, 0, none⟩) y.ce y.ce, evs][i]? := Later.cell (HW.out.keeps K0 (by simp))
 have ci : ∀ (p : Later V) i, p.1.cell? ⟨a3, i, none⟩ = #[Value.int .i64 11, .int .i64 (aN : Int), .int .i64 f2, .int .i64 f3][i]? := Later.cell (O.get 0 rfl)
 have cl : ∀ p : Later V, p.1.cell? ⟨y.bg, aN, none⟩ = some (.int .i64 (gr aN)) := fun p => (Later.cell (HL.out.keeps K0 (by simp)) p _).trans (arrI_get _ _ _ ha)
 have ak := add_zero_ y.bg aN
 refine wp_quiet_later (by kernel_rfl) (by kernel_rfl) ?_
 repeat (first | go_big_quiet_skip | go_big_quiet_step (fail))
 refine kq fun p' => ?_
 replace O := O.keeps p'.2
 clear c0 cw ci K0 cl ak
 generalize p'.1 = V at O ⊢
 go_wp2
 go_ret
 exact ⟨rfl, O.keep⟩
set_option maxRecDepth 100000 in
theorem wcan_else (f : Nat → Int) (h5 : ¬ f 0 = 5) (h6 : ¬ f 0 = 6) (h8 : ¬ f 0 = 8) (h11 : ¬ f 0 = 11) : Calls Try.prog 104 #[.pointer (some ⟨y.wp, 0, none⟩), .agg #[.int .i64 (f 0), .int .i64 (f 1), .int .i64 (f 2), .int .i64 (f 3)]] W fun e W' => e = .returned (.bool true) ∧ Keeps W W' [] := by
 have O := Own.start W []
 have e5 : (f 0 == 5) = false := by simpa using h5
 have e6 : (f 0 == 6) = false := by simpa using h6
 have e8 : (f 0 == 8) = false := by simpa using h8
 have e11 : (f 0 == 11) = false := by simpa using h11
 clear h5 h6 h8 h11
 go_enter Try.func104, Try.ntmps104
 go_wp2_with (first
   | go_big_skip
   | (refine own_box 3 #[Value.int .i64 (f 0), .int .i64 (f 1), .int .i64 (f 2), .int .i64 (f 3)] O rfl rfl rfl rfl ?_; clear O; intro V a3 O; simp only [Act.put, kA, kZ, kS]; have c0 : V.cell? ⟨a3, 0, none⟩ = some (.int .i64 (f 0)) := (O.get 0 rfl).cell 0))
 go_ret
 exact ⟨rfl, O.keep⟩
theorem wcan_any {P : PW} (hw : Blk W y.wp 110 (wpC y S.nr gw n cw evs)) (hb : Blk W y.bp 186 (pipesA S.nr hv P.cl)) (hl : Blk W y.bl 4 (arrB y.lk P.lk)) (hg : Blk W y.bg 3 (arrI y.gr P.gr)) (hs : Blk W y.ps 27 (sysV S A c R d)) (hS : SysIn W S A c R d)
   (hh : ∀ c, c < S.nr → HRow base W (hv c) (P.held c)) (hlk : S.lk = (y.lk : Int)) (hgr : S.gr = (y.gr : Int)) (f : Nat → Int) {p : Nat} (hr : rightS S p f = true) : Calls Try.prog 104 #[.pointer (some ⟨y.wp, 0, none⟩), .agg (instC f)] W fun e W' => e = .returned (.bool (canP S P f)) ∧ Keeps W W' [] := by
 unfold instC
 have key : ∀ aN : Nat, f 1 = aN → (f 1).toNat = aN := fun aN h => by omega
 by_cases o5 : f 0 = 5
 · have h1 := right_room hr (.inl o5)
   obtain ⟨aN, e⟩ : ∃ aN : Nat, f 1 = (aN : Int) := ⟨(f 1).toNat, by omega⟩
   have hc : canP S P f = (P.cl aN || decide (((P.held aN).length : Int) < S.rm aN)) := by unfold canP; rw [if_pos o5, key _ e]
   rw [hc, o5, e]
   cases h : P.cl aN with
   | true => exact wcan_5c hw hb (by omega) h _ _
   | false =>
     obtain ⟨A0, c0, h0, _⟩ := (hh aN (by omega)).cells
     exact wcan_5o hw hb hs hS (by omega) h h0 _ _
 by_cases o6 : f 0 = 6
 · have h1 := right_room hr (.inr (.inl o6))
   obtain ⟨aN, e⟩ : ∃ aN : Nat, f 1 = (aN : Int) := ⟨(f 1).toNat, by omega⟩
   have hc : canP S P f = (P.cl aN || decide (0 < (P.held aN).length)) := by unfold canP; rw [if_neg o5, if_pos o6, key _ e, show decide (0 < ((P.held aN).length : Int)) = decide (0 < (P.held aN).length) by simp]
   rw [hc, o6, e]
   cases h : P.cl aN with
   | true => exact wcan_6c hw hb (by omega) h _ _
   | false =>
     obtain ⟨A0, c0, h0, _⟩ := (hh aN (by omega)).cells
     exact wcan_6o hw hb (by omega) h h0 _ _
 by_cases o8 : f 0 = 8
 · have h1 := right_lock hr (.inl o8)
   obtain ⟨aN, e⟩ : ∃ aN : Nat, f 1 = (aN : Int) := ⟨(f 1).toNat, by omega⟩
   have hc : canP S P f = !P.lk aN := by unfold canP; rw [if_neg o5, if_neg o6, if_pos o8, e]
   rw [hc, o8, e]
   exact wcan_8 hw hl (by omega) _ _
 by_cases o11 : f 0 = 11
 · have h1 := right_group hr (.inr o11)
   obtain ⟨aN, e⟩ : ∃ aN : Nat, f 1 = (aN : Int) := ⟨(f 1).toNat, by omega⟩
   have hc : canP S P f = decide (P.gr aN = 0) := by unfold canP; rw [if_neg o5, if_neg o6, if_neg o8, if_pos o11, e]
   rw [hc, o11, e]
   exact wcan_11 hw hg (by omega) _ _
 have hc : canP S P f = true := by unfold canP; rw [if_neg o5, if_neg o6, if_neg o8, if_neg o11]
 rw [hc]
 exact wcan_else f o5 o6 o8 o11
end
open Go.RowKit Go.Maps Go.Deep
theorem info174 : ∃ i, Try.prog.info? 174 = some i ∧ i.zero = some (.agg (rnC ⟨0, 0, fun _ => 0⟩)) ∧ i.size = 10 ∧ i.bytes = 80 := by
 have h : (Try.prog.info? 174).map (fun i => (i.zero, i.size, i.bytes)) = some (some (.agg (rnC ⟨0, 0, fun _ => 0⟩)), 10, 80) := by kernel_rfl
 obtain ⟨i, hi, he⟩ := Option.map_eq_some_iff.1 h
 simp only [Prod.mk.injEq] at he
 exact ⟨i, hi, he.1, he.2.1, he.2.2⟩
section
variable {ops : Array Oper} {rest : List Oper} {o : Oper} {a : Act} {w W : World} {Q : Exit → Act → World → Prop} {L : List Ent} {r : Rw} {x0 s z : Operand}
theorem om_lit_ev (d : Nat) (e : Ev) (M : OM w W L r) (_hd : o.dst = some d) (hgd : o.guard = none) (ho : o.op = .buildSlice 31 1 #[(0, x0)]) (h0 : a.eval x0 = .agg (evC e))
   (h : ∀ u g, OM w u ((g, 37, evC e) :: L) r → wpList Try.prog ops Q rest (a.put o.dst (.slice (some ⟨g, 0, none⟩) 1 1)) u) : wpList Try.prog ops Q (o :: rest) a W := by
 obtain ⟨i, hi, hz, hs, hb⟩ := info37
 have k := (Keeps.refl W []).alloc (.cells (evC e) 37)
 refine wpList_buildSlice hgd 31 37 1 _ ho (evC e) i (.agg (evC ⟨0, 0, 0, 0, false⟩)) Try.underlying31 hi hz (by rw [hs]; decide) (by rw [hs]; decide) ?_ (h _ _ (M.add k (Blk.new _ _ _)))
 rw [hs]
 have e1 : ((#[(0, x0)] : Array (Nat × Operand)).map (fun (i, x) => (i, a.eval x))).toList = [(0, .agg (evC e))] := by simp [h0]
 rw [e1]
 have rr : Array.range 5 = #[0, 1, 2, 3, 4] := by decide
 simp [Instr.fill, rr, Value.cells, evC]
theorem om_lit_rn (d : Nat) (e : Rn) (M : OM w W L r) (_hd : o.dst = some d) (hgd : o.guard = none) (ho : o.op = .buildSlice 107 1 #[(0, x0)]) (h0 : a.eval x0 = .agg (rnC e))
   (h : ∀ u g, OM w u ((g, 174, rnC e) :: L) r → wpList Try.prog ops Q rest (a.put o.dst (.slice (some ⟨g, 0, none⟩) 1 1)) u) : wpList Try.prog ops Q (o :: rest) a W := by
 obtain ⟨i, hi, hz, hs, hb⟩ := info174
 have k := (Keeps.refl W []).alloc (.cells (rnC e) 174)
 refine wpList_buildSlice hgd 107 174 1 _ ho (rnC e) i (.agg (rnC ⟨0, 0, fun _ => 0⟩)) Try.underlying107 hi hz (by rw [hs]; decide) (by rw [hs]; decide) ?_ (h _ _ (M.add k (Blk.new _ _ _)))
 rw [hs]
 have e1 : ((#[(0, x0)] : Array (Nat × Operand)).map (fun (i, x) => (i, a.eval x))).toList = [(0, .agg (rnC e))] := by simp [h0]
 rw [e1]
 have rr : Array.range 10 = #[0, 1, 2, 3, 4, 5, 6, 7, 8, 9] := by decide
 simp [Instr.fill, rr, Value.cells, rnC]
theorem om_lit_int (d : Nat) (n0 : Int) (M : OM w W L r) (_hd : o.dst = some d) (hgd : o.guard = none) (ho : o.op = .buildSlice 25 1 #[(0, x0)]) (h0 : a.eval x0 = .int .i64 n0)
   (h : ∀ u g, OM w u ((g, 3, #[.int .i64 n0]) :: L) r → wpList Try.prog ops Q rest (a.put o.dst (.slice (some ⟨g, 0, none⟩) 1 1)) u) : wpList Try.prog ops Q (o :: rest) a W := by
 obtain ⟨i, hi, hz, hs, hb⟩ := info3
 have k := (Keeps.refl W []).alloc (.cells #[Value.int .i64 n0] 3)
 refine wpList_buildSlice hgd 25 3 1 _ ho #[.int .i64 n0] i (.int .i64 0) Try.underlying25 hi hz (by rw [hs]; decide) (by rw [hs]; decide) ?_ (h _ _ (M.add k (Blk.new _ _ _)))
 rw [hs]
 have e : ((#[(0, x0)] : Array (Nat × Operand)).map (fun (i, x) => (i, a.eval x))).toList = [(0, .int .i64 n0)] := by simp [h0]
 rw [e]
 have rr : Array.range 1 = #[0] := by decide
 simp [Instr.fill, rr, Value.cells]
theorem blk_news {W : World} {g t : Nat} {cs : Array Value} (h : Blk W g t cs) : ∀ j u, cs.toList[j]? = some u → W.cell? ((⟨g, 0, none⟩ : Addr).add j) = some u := fun j u hu => by
 rw [add_zero_, h.cell, ← Array.getElem?_toList]
 exact hu
theorem om_ev (e : Ev) (gl : Nat) (s z : Operand) (M : OM w W ((gl, 37, evC e) :: L) r) (hgd : o.guard = none) (ho : o.op = .call { callee := .builtin .append, args := #[s, z], argTypes := #[31, 31] })
   (hs : a.eval s = r.evs) (hz' : a.eval z = .slice (some ⟨gl, 0, none⟩) 1 1) (hn : r.E.length ≤ 100000)
   (h : ∀ A' c' u, OM w u L { r with evs := .slice A' (r.E.length + 1) c', E := r.E ++ [e] } → wpList Try.prog ops Q rest (a.put o.dst (.slice A' (r.E.length + 1) c')) u) : wpList Try.prog ops Q (o :: rest) a W := by
 obtain ⟨i, hi, hz, hsz, hby⟩ := info37
 have hb : w.heap.size ≤ W.heap.size := M.own.keep.size
 have hl : (evC e).toList.length = 1 * 5 := rfl
 obtain ⟨v', u, hr, h2, h3, _⟩ := run_append_own (P := Try.prog) W w.heap.size 31 o.type 37 i (.agg (evC ⟨0, 0, 0, 0, false⟩)) 5 40 Try.underlying31 hi hz hsz hby rfl (by decide) r.evs r.E.length _ M.evr ⟨gl, 0, none⟩ 1 1 (evC e).toList hl (blk_news (M.get 0 rfl)) (evC_cell e) (by simp only [maxLen]; omega) (by omega) hb
 have hf := append_fresh (w := W) (P := Try.prog) w.heap.size 31 o.type 37 i (.agg (evC ⟨0, 0, 0, 0, false⟩)) 5 40 Try.underlying31 hi hz hsz hby r.evs r.E.length _ M.evr ⟨gl, 0, none⟩ 1 1 (evC e).toList hl (blk_news (M.get 0 rfl)) (evC_cell e) (by simp only [maxLen]; omega) (by omega) (by omega) hr
 refine wpList_plain hgd fun K hK => ?_
 unfold Oper.wp execOp
 simp only [ho, resolve, invoke, builtin, Sem.run_bind, Sem.run_pure, Result.andThen_ok, List.map_toArray, List.map_cons, List.map_nil, hs, hz', hr]
 obtain ⟨A', c', rfl⟩ : ∃ A' c', v' = .slice A' (r.E.length + 1) c' := by
   rcases h2.2 with ⟨_, h0⟩ | ⟨g, cap, cur, h0, _⟩
   · omega
   · exact ⟨_, _, h0⟩
 exact hK _ _ (h _ _ _ ((M.tell h3 h2 hf).drop_ 1))
theorem om_push (y : Int) (gl c : Nat) (s z : Operand) (M : OM w W ((gl, 3, #[.int .i64 y]) :: L) r) (hgd : o.guard = none) (ho : o.op = .call { callee := .builtin .append, args := #[s, z], argTypes := #[25, 25] })
   (hc : c < r.nr) (hs : a.eval s = r.hv c) (hz' : a.eval z = .slice (some ⟨gl, 0, none⟩) 1 1) (hn : (r.held c).length ≤ 1000000)
   (h : ∀ A' m' c' u, OM w u L { r with hv := updN r.hv c (.slice A' m' c'), held := updN r.held c (r.held c ++ [y]) } → wpList Try.prog ops Q rest (a.put o.dst (.slice A' m' c')) u) : wpList Try.prog ops Q (o :: rest) a W := by
 have hb : w.heap.size ≤ W.heap.size := M.own.keep.size
 obtain ⟨v', u, hr, h2, h3, hf⟩ := run_push (w := W) w.heap.size o.type (r.hv c) (r.held c) (M.hr c hc) ⟨gl, 0, none⟩ 1 y ((M.get 0 rfl).cell 0) hb hn
 refine wpList_plain hgd fun K hK => ?_
 unfold Oper.wp execOp
 simp only [ho, resolve, invoke, builtin, Sem.run_bind, Sem.run_pure, Result.andThen_ok, List.map_toArray, List.map_cons, List.map_nil, hs, hz', hr]
 obtain ⟨A', m', c', rfl⟩ : ∃ A' m' c', v' = .slice A' m' c' := by
   rcases h2 with ⟨h0, _⟩ | ⟨g, off, cap, cur, h0, _⟩
   · exact ⟨_, _, _, h0⟩
   · exact ⟨_, _, _, h0⟩
 exact hK _ _ (h _ _ _ _ ((M.push hc h3 h2 hf).drop_ 1))
end
section
variable {w W : World} {L : List Ent} {r : Rw} {y : Ly} {nr gw n cw : Nat}
set_option maxRecDepth 100000 in
theorem tell_any (M : OM w W L r) {i j k pw pe : Nat} (e : Ev) (hi : L[i]? = some (pw, 104, #[.pointer (some ⟨y.wp, 0, none⟩)])) (hj : L[j]? = some (pe, 37, evC e)) (hk : L[k]? = some (y.wp, 110, wpC y nr gw n cw r.evs)) (hn : r.E.length ≤ 100000) :
   Calls Try.prog 105 #[.pointer (some ⟨pw, 0, none⟩), .pointer (some ⟨pe, 0, none⟩)] W fun ev W' => ev = .returned (.tuple #[]) ∧ ∃ v', OM w W' (L.set k (y.wp, 110, wpC y nr gw n cw v')) { r with evs := v', E := r.E ++ [e] } := by
 go_enter Try.func105, Try.ntmps105
 have HQ := Lib.hid (show ∀ u, Own w u [] L → u.cell? ⟨pw, 0, none⟩ = some (.pointer (some ⟨y.wp, 0, none⟩)) ∧ u.cell? ⟨y.wp, 6, none⟩ = some r.evs from fun u O => ⟨((O.get i hi).cell 0).trans rfl, ((O.get k hk).cell 6).trans rfl⟩)
 refine wp_headH (S := fun u => Own w u [] L) 8 (by kernel_rfl) (by kernel_rfl) ?_
 replace M := M.keeps (Keeps.refl _ _).drew
 refine ah_take (f := 2) (L' := #[true, true, true, true, true, true, false, false, false, false, false]) (by first | exact M.own | exact M.own.drop_ 1) [0, 1, 2, 3, 4, 5] [_, _, _, _, _, _] _ _ rfl (by decide) (by kernel_rfl) ?_
 simp only [List.getElem_toArray, List.getElem_cons_zero, List.getElem_cons_succ]
 repeat (first
   | (refine take_load 7 rfl (by rfl) rfl rfl (fun _ h => Own.get h j hj) Try.underlying37 rfl (by kernel_rfl) ?_; simp only [Act.put, kA, kZ, kS])
   | (refine take_pure (v := ?_) (by rfl) ?_ ?_; rotate_left; (· (intro w hSw; have q := HQ.out _ hSw; have q1 := q.1; have q2 := q.2; clear hSw q; go_simp; try with_reducible rfl)); simp only [Act.put, kA, kZ, kS]))
 refine takeA_done ?_
 refine ah_sole 6 #[true, true, true, true, true, true, true, false, false, false, false] rfl (by decide) (by kernel_rfl) ?_
 try simp only [List.getElem_toArray, List.getElem_cons_zero, List.getElem_cons_succ]
 go_wp2_with (refine om_lit_ev 8 e M rfl rfl rfl rfl ?_; clear M; intro V gl M; simp only [Act.put, kA, kZ, kS])
 (first | refine backA_intro2 (by first | exact M.own | exact M.own.drop_ 1) ?_ | refine backA_intro (by first | exact M.own | exact M.own.drop_ 1) ?_)
 refine ah_sole 7 #[true, true, true, true, true, true, true, true, false, false, false] rfl (by decide) (by kernel_rfl) ?_
 try simp only [List.getElem_toArray, List.getElem_cons_zero, List.getElem_cons_succ]
 go_wp2_with (at_builtin; refine om_ev e gl (.tmp 6) (.tmp 8) M rfl rfl rfl rfl hn ?_; clear M; intro A' c' V M; simp only [Act.put, kA, kZ, kS])
 (first | refine backA_intro2 (by first | exact M.own | exact M.own.drop_ 1) ?_ | refine backA_intro (by first | exact M.own | exact M.own.drop_ 1) ?_)
 refine ah_tail (by kernel_rfl) ?_
 simp only [List.drop]
 go_wp2_with (first
   | go_big_skip
   | (refine at_store (.tmp 11) (.tmp 9) rfl ?_; refine om_store k 6 (.slice A' (r.E.length + 1) c') (.tmp 11) (.tmp 9) M rfl rfl rfl rfl rfl hk (by show 6 < 7; omega) rfl rfl (by kernel_rfl) rfl ?_; clear M; intro V M))
 refine np_intro ?_
 go_wp2
 go_end0
 exact ⟨rfl, _, M⟩
theorem fail_any (M : OM w W L r) {i j k m pw pe pt : Nat} (e : Ev) (hi : L[i]? = some (pw, 104, #[.pointer (some ⟨y.wp, 0, none⟩)])) (hj : L[j]? = some (pe, 37, evC e)) (hk : L[k]? = some (y.wp, 110, wpC y nr gw n cw r.evs))
   (hm : L[m]? = some (pt, 1, #[.func (.func 105) #[] #[.pointer (some ⟨pw, 0, none⟩), .pointer (some ⟨pe, 0, none⟩)]])) (hn : r.E.length ≤ 100000) (x : Int) :
   Calls Try.prog 106 #[.int .i64 x, .pointer (some ⟨pt, 0, none⟩)] W fun ev W' => ev = .panicked [{ v := .iface 22 (.int .i64 x), recovered := false }] ∧ ∃ v', OM w W' (L.set k (y.wp, 110, wpC y nr gw n cw v')) { r with evs := v', E := r.E ++ [e] } := by
 have HT := Lib.hid (tell_any M e hi hj hk hn)
 go_enter Try.func106, Try.ntmps106
 have c0 : W.cell? ⟨pt, 0, none⟩ = some (.func (.func 105) #[] #[.pointer (some ⟨pw, 0, none⟩), .pointer (some ⟨pe, 0, none⟩)]) := ((M.get m hm).cell 0).trans rfl
 go_wp2_with (first
   | go_big_skip
   | (go_at_call 105; refine HT.out.mono ?_; rintro ev V ⟨rfl, v', M⟩; have HM := Lib.hid M; clear c0 M))
 exact ⟨rfl, rfl, _, HM.out⟩
end
open Go.RowKit Go.Maps Go.Deep
theorem HRow.head {base : Nat} {W : World} {g off n c : Nat} {x : Int} {l : List Int} (h : HRow base W (.slice (some ⟨g, off, none⟩) n c) (x :: l)) : W.cell? ⟨g, off, none⟩ = some (.int .i64 x) := by
 rcases h with ⟨h, h'⟩ | ⟨g', off', cap, cur, h, hb, hB, h1, h2, h3, h4⟩
 · cases h'
 · injection h with e1 e2 e3
   injection e1 with e1
   injection e1 with e1 e4
   subst e1 e4
   rw [hB.cell]
   exact h4 0 (by simp)
theorem HRow.pop_sh_6a {base : Nat} {W : World} {g off c : Nat} {x : Int} {l : List Int} (hc : c = 1) (h : HRow base W (.slice (some ⟨g, off, none⟩) (l.length + 1) c) (x :: l)) : HRow base W (.slice (some ⟨g, off, none⟩) l.length 0) l := by
 have := HRow.pop h
 rw [if_pos hc] at this
 subst hc
 exact this
theorem HRow.pop_sh_6b {base : Nat} {W : World} {g off c : Nat} {x : Int} {l : List Int} (hc : 1 < c) (h : HRow base W (.slice (some ⟨g, off, none⟩) (l.length + 1) c) (x :: l)) : HRow base W (.slice (some ⟨g, off + 1, none⟩) l.length (c - 1)) l := by
 have := HRow.pop h
 rw [if_neg (by omega)] at this
 simpa [Addr.add_mid] using this
section
variable {w W : World} {L Lr : List Ent} {y : Ly} {nr gw n cw k pw pe pt pi aN : Nat} {cur : Array Value} {evs : Value} {E : List Ev} {hv : Nat → Value} {held : Nat → List Int} {cl : Nat → Bool} {lk : Int → Bool} {gr : Int → Int} {ci : Array Value} {f2 f3 v0 on on2 : Int} {bN nn : Nat} {rs : Nat → Rn}
set_option maxRecDepth 100000 in
set_option maxHeartbeats 1000000 in
theorem sh_8  (M : OM w W ((pt, 1, #[Value.func (.func 105) #[] #[.pointer (some ⟨pw, 0, none⟩), .pointer (some ⟨pe, 0, none⟩)]]) :: (pe, 37, evC ⟨k, 8, aN, 0, false⟩) :: (pi, 99, ci) :: (pw, 104, #[.pointer (some ⟨y.wp, 0, none⟩)]) :: (y.wp, 110, wpC y nr gw n cw evs) :: (gw, 174, cur) :: (y.bp, 186, pipesA nr hv cl) :: (y.bl, 4, arrB y.lk lk) :: (y.bg, 3, arrI y.gr gr) :: Lr) ⟨evs, E, nr, hv, held⟩) (ha : aN < y.lk) : Calls Try.prog 108 #[.pointer (some ⟨y.wp, 0, none⟩), .pointer (some ⟨gw, k * 10, none⟩), .agg #[Value.int .i64 8, .int .i64 (aN : Int), .int .i64 (f2 : Int), .int .i64 (f3 : Int)], .pointer (some ⟨pe, 0, none⟩), .int .i64 on, .func (.func 106) #[] #[.pointer (some ⟨pt, 0, none⟩)]] W fun ev W' => ev = (.returned (.int .i64 on)) ∧ OM w W' ((pt, 1, #[Value.func (.func 105) #[] #[.pointer (some ⟨pw, 0, none⟩), .pointer (some ⟨pe, 0, none⟩)]]) :: (pe, 37, evC ⟨k, 8, aN, 0, false⟩) :: (pi, 99, ci) :: (pw, 104, #[.pointer (some ⟨y.wp, 0, none⟩)]) :: (y.wp, 110, wpC y nr gw n cw evs) :: (gw, 174, cur) :: (y.bp, 186, pipesA nr hv cl) :: (y.bl, 4, arrB y.lk (updI lk aN true)) :: (y.bg, 3, arrI y.gr gr) :: Lr) ⟨evs, E, nr, hv, held⟩ := by
 have g1 : (aN : Int) < y.lk := by omega
 have g2 : (0 : Int) ≤ aN := by omega
 have HA := Lib.hid ha
 clear ha
 go_enter Try.func108, Try.ntmps108
 go_wp2_with (first
   | go_big_skip
   | (refine om_box 8 #[Value.int .i64 8, .int .i64 (aN : Int), .int .i64 (f2 : Int), .int .i64 (f3 : Int)] M rfl rfl rfl rfl ?_; clear M; intro V p8 M; simp only [Act.put, kA, kZ, kS]; have c0 : V.cell? ⟨p8, 0, none⟩ = some (.int .i64 8) := (M.own.get 0 rfl).cell 0))
 have cw : ∀ (p : Later V) i, p.1.cell? ⟨y.wp, i, none⟩ = #[Value.pointer (some ⟨y.ps, 0, none⟩), .slice (some ⟨gw, 0, none⟩) n cw, .slice (some ⟨y.bp, 0, none⟩) nr nr, .slice (some ⟨y.bl, 0, none⟩) y.lk y.lk, .slice (some ⟨y.bg, 0, none⟩) y.gr y.gr, .slice (some ⟨y.bc, 0, none⟩) y.ce y.ce, evs][i]? := Later.cell (M.get 5 rfl)
 have ci : ∀ (p : Later V) i, p.1.cell? ⟨p8, i, none⟩ = #[Value.int .i64 8, .int .i64 (aN : Int), .int .i64 (f2 : Int), .int .i64 (f3 : Int)][i]? := Later.cell (M.get 0 rfl)
 have ak := add_zero_ y.bl aN
 refine wp_quiet_tail_later 7 (by kernel_rfl) (by kernel_rfl) ?_
 simp only [List.take, List.drop]
 repeat (first | go_big_quiet_skip | go_big_quiet_step (fail))
 refine kq fun p' => ?_
 replace M := M.keeps p'.2
 clear c0 cw ci ak
 generalize p'.1 = V at M ⊢
 go_wp2_with (first
   | go_big_skip
   | (refine at_store (.tmp 131) (.const (.bool true)) rfl ?_; refine om_store 8 aN (.bool true) (.tmp 131) (.const (.bool true)) M rfl rfl rfl rfl rfl rfl (by rw [arrB_size]; exact HA.out) rfl rfl (by kernel_rfl) (arrB_set _ _ _ _) ?_; clear M; intro V M; simp only [kZ, kS] at M))
 go_ret
 exact ⟨rfl, M.drop_ 1⟩
set_option maxRecDepth 100000 in
set_option maxHeartbeats 1000000 in
theorem sh_9t  (M : OM w W ((pt, 1, #[Value.func (.func 105) #[] #[.pointer (some ⟨pw, 0, none⟩), .pointer (some ⟨pe, 0, none⟩)]]) :: (pe, 37, evC ⟨k, 9, aN, 0, false⟩) :: (pi, 99, ci) :: (pw, 104, #[.pointer (some ⟨y.wp, 0, none⟩)]) :: (y.wp, 110, wpC y nr gw n cw evs) :: (gw, 174, cur) :: (y.bp, 186, pipesA nr hv cl) :: (y.bl, 4, arrB y.lk lk) :: (y.bg, 3, arrI y.gr gr) :: Lr) ⟨evs, E, nr, hv, held⟩) (ha : aN < y.lk) (hcl : lk aN = true) : Calls Try.prog 108 #[.pointer (some ⟨y.wp, 0, none⟩), .pointer (some ⟨gw, k * 10, none⟩), .agg #[Value.int .i64 9, .int .i64 (aN : Int), .int .i64 (f2 : Int), .int .i64 (f3 : Int)], .pointer (some ⟨pe, 0, none⟩), .int .i64 on, .func (.func 106) #[] #[.pointer (some ⟨pt, 0, none⟩)]] W fun ev W' => ev = (.returned (.int .i64 on)) ∧ OM w W' ((pt, 1, #[Value.func (.func 105) #[] #[.pointer (some ⟨pw, 0, none⟩), .pointer (some ⟨pe, 0, none⟩)]]) :: (pe, 37, evC ⟨k, 9, aN, 0, false⟩) :: (pi, 99, ci) :: (pw, 104, #[.pointer (some ⟨y.wp, 0, none⟩)]) :: (y.wp, 110, wpC y nr gw n cw evs) :: (gw, 174, cur) :: (y.bp, 186, pipesA nr hv cl) :: (y.bl, 4, arrB y.lk (updI lk aN false)) :: (y.bg, 3, arrI y.gr gr) :: Lr) ⟨evs, E, nr, hv, held⟩ := by
 have g1 : (aN : Int) < y.lk := by omega
 have g2 : (0 : Int) ≤ aN := by omega
 have HA := Lib.hid ha
 have HCL := Lib.hid hcl
 clear ha hcl
 go_enter Try.func108, Try.ntmps108
 go_wp2_with (first
   | go_big_skip
   | (refine om_box 8 #[Value.int .i64 9, .int .i64 (aN : Int), .int .i64 (f2 : Int), .int .i64 (f3 : Int)] M rfl rfl rfl rfl ?_; clear M; intro V p8 M; simp only [Act.put, kA, kZ, kS]; have c0 : V.cell? ⟨p8, 0, none⟩ = some (.int .i64 9) := (M.own.get 0 rfl).cell 0))
 have cw : ∀ (p : Later V) i, p.1.cell? ⟨y.wp, i, none⟩ = #[Value.pointer (some ⟨y.ps, 0, none⟩), .slice (some ⟨gw, 0, none⟩) n cw, .slice (some ⟨y.bp, 0, none⟩) nr nr, .slice (some ⟨y.bl, 0, none⟩) y.lk y.lk, .slice (some ⟨y.bg, 0, none⟩) y.gr y.gr, .slice (some ⟨y.bc, 0, none⟩) y.ce y.ce, evs][i]? := Later.cell (M.get 5 rfl)
 have ci : ∀ (p : Later V) i, p.1.cell? ⟨p8, i, none⟩ = #[Value.int .i64 9, .int .i64 (aN : Int), .int .i64 (f2 : Int), .int .i64 (f3 : Int)][i]? := Later.cell (M.get 0 rfl)
 have cp : ∀ p : Later V, p.1.cell? ⟨y.bl, aN, none⟩ = some (.bool true) := fun p => (Later.cell (M.get 8 rfl) p _).trans ((arrB_get _ _ _ HA.out).trans (by rw [HCL.out]))
 have ak := add_zero_ y.bl aN
 refine wp_quiet_later (by kernel_rfl) (by kernel_rfl) ?_
 repeat (first | go_big_quiet_skip | go_big_quiet_step (fail))
 refine kq fun p' => ?_
 replace M := M.keeps p'.2
 clear cw ci cp
 generalize p'.1 = V at M ⊢
 go_wp2_with (first | go_big_skip)
 have cw : ∀ (p : Later V) i, p.1.cell? ⟨y.wp, i, none⟩ = #[Value.pointer (some ⟨y.ps, 0, none⟩), .slice (some ⟨gw, 0, none⟩) n cw, .slice (some ⟨y.bp, 0, none⟩) nr nr, .slice (some ⟨y.bl, 0, none⟩) y.lk y.lk, .slice (some ⟨y.bg, 0, none⟩) y.gr y.gr, .slice (some ⟨y.bc, 0, none⟩) y.ce y.ce, evs][i]? := Later.cell (M.get 5 rfl)
 have ci : ∀ (p : Later V) i, p.1.cell? ⟨p8, i, none⟩ = #[Value.int .i64 9, .int .i64 (aN : Int), .int .i64 (f2 : Int), .int .i64 (f3 : Int)][i]? := Later.cell (M.get 0 rfl)
 refine wp_quiet_tail_later 7 (by kernel_rfl) (by kernel_rfl) ?_
 simp only [List.take, List.drop]
 repeat (first | go_big_quiet_skip | go_big_quiet_step (fail))
 refine kq fun p' => ?_
 replace M := M.keeps p'.2
 clear c0 cw ci ak
 generalize p'.1 = V at M ⊢
 go_wp2_with (first
   | go_big_skip
   | (refine at_store (.tmp 151) (.const (.bool false)) rfl ?_; refine om_store 8 aN (.bool false) (.tmp 151) (.const (.bool false)) M rfl rfl rfl rfl rfl rfl (by rw [arrB_size]; exact HA.out) rfl rfl (by kernel_rfl) (arrB_set _ _ _ _) ?_; clear M; intro V M; simp only [kZ, kS] at M))
 go_ret
 exact ⟨rfl, M.drop_ 1⟩
set_option maxRecDepth 100000 in
set_option maxHeartbeats 1000000 in
theorem sh_9f  (M : OM w W ((pt, 1, #[Value.func (.func 105) #[] #[.pointer (some ⟨pw, 0, none⟩), .pointer (some ⟨pe, 0, none⟩)]]) :: (pe, 37, evC ⟨k, 9, aN, 0, false⟩) :: (pi, 99, ci) :: (pw, 104, #[.pointer (some ⟨y.wp, 0, none⟩)]) :: (y.wp, 110, wpC y nr gw n cw evs) :: (gw, 174, cur) :: (y.bp, 186, pipesA nr hv cl) :: (y.bl, 4, arrB y.lk lk) :: (y.bg, 3, arrI y.gr gr) :: Lr) ⟨evs, E, nr, hv, held⟩) (hn : E.length ≤ 100000) (ha : aN < y.lk) (hcl : lk aN = false) : Calls Try.prog 108 #[.pointer (some ⟨y.wp, 0, none⟩), .pointer (some ⟨gw, k * 10, none⟩), .agg #[Value.int .i64 9, .int .i64 (aN : Int), .int .i64 (f2 : Int), .int .i64 (f3 : Int)], .pointer (some ⟨pe, 0, none⟩), .int .i64 on, .func (.func 106) #[] #[.pointer (some ⟨pt, 0, none⟩)]] W fun ev W' => ev = (.panicked [{ v := .iface 22 (.int .i64 133), recovered := false }]) ∧ ∃ v', OM w W' ((pt, 1, #[Value.func (.func 105) #[] #[.pointer (some ⟨pw, 0, none⟩), .pointer (some ⟨pe, 0, none⟩)]]) :: (pe, 37, evC ⟨k, 9, aN, 0, false⟩) :: (pi, 99, ci) :: (pw, 104, #[.pointer (some ⟨y.wp, 0, none⟩)]) :: (y.wp, 110, wpC y nr gw n cw v') :: (gw, 174, cur) :: (y.bp, 186, pipesA nr hv cl) :: (y.bl, 4, arrB y.lk lk) :: (y.bg, 3, arrI y.gr gr) :: Lr) ⟨v', E ++ [⟨k, 9, aN, 0, false⟩], nr, hv, held⟩ := by
 have g1 : (aN : Int) < y.lk := by omega
 have g2 : (0 : Int) ≤ aN := by omega
 have HA := Lib.hid ha
 have HCL := Lib.hid hcl
 clear ha hcl
 go_enter Try.func108, Try.ntmps108
 go_wp2_with (first
   | go_big_skip
   | (refine om_box 8 #[Value.int .i64 9, .int .i64 (aN : Int), .int .i64 (f2 : Int), .int .i64 (f3 : Int)] M rfl rfl rfl rfl ?_; clear M; intro V p8 M; simp only [Act.put, kA, kZ, kS]; have c0 : V.cell? ⟨p8, 0, none⟩ = some (.int .i64 9) := (M.own.get 0 rfl).cell 0))
 have cw : ∀ (p : Later V) i, p.1.cell? ⟨y.wp, i, none⟩ = #[Value.pointer (some ⟨y.ps, 0, none⟩), .slice (some ⟨gw, 0, none⟩) n cw, .slice (some ⟨y.bp, 0, none⟩) nr nr, .slice (some ⟨y.bl, 0, none⟩) y.lk y.lk, .slice (some ⟨y.bg, 0, none⟩) y.gr y.gr, .slice (some ⟨y.bc, 0, none⟩) y.ce y.ce, evs][i]? := Later.cell (M.get 5 rfl)
 have ci : ∀ (p : Later V) i, p.1.cell? ⟨p8, i, none⟩ = #[Value.int .i64 9, .int .i64 (aN : Int), .int .i64 (f2 : Int), .int .i64 (f3 : Int)][i]? := Later.cell (M.get 0 rfl)
 have cp : ∀ p : Later V, p.1.cell? ⟨y.bl, aN, none⟩ = some (.bool false) := fun p => (Later.cell (M.get 8 rfl) p _).trans ((arrB_get _ _ _ HA.out).trans (by rw [HCL.out]))
 have ak := add_zero_ y.bl aN
 refine wp_quiet_later (by kernel_rfl) (by kernel_rfl) ?_
 repeat (first | go_big_quiet_skip | go_big_quiet_step (fail))
 refine kq fun p' => ?_
 replace M := M.keeps p'.2
 clear c0 cw ci cp ak
 generalize p'.1 = V at M ⊢
 go_wp2_with (first
   | go_big_skip
   | (go_at_call 106; refine (fail_any M ⟨k, 9, aN, 0, false⟩ (i := 4) (j := 2) (k := 5) (m := 1) rfl rfl rfl rfl hn 133).mono ?_; rintro ev V ⟨rfl, v', M⟩; have HM := Lib.hid M; clear M))
 first | exact ⟨rfl, _, HM.out.drop_ 1⟩ | exact ⟨rfl, rfl, _, HM.out.drop_ 1⟩ | exact ⟨_, rfl, _, HM.out.drop_ 1⟩
set_option maxRecDepth 100000 in
set_option maxHeartbeats 1000000 in
theorem sh_7o  (M : OM w W ((pt, 1, #[Value.func (.func 105) #[] #[.pointer (some ⟨pw, 0, none⟩), .pointer (some ⟨pe, 0, none⟩)]]) :: (pe, 37, evC ⟨k, 7, aN, 0, false⟩) :: (pi, 99, ci) :: (pw, 104, #[.pointer (some ⟨y.wp, 0, none⟩)]) :: (y.wp, 110, wpC y nr gw n cw evs) :: (gw, 174, cur) :: (y.bp, 186, pipesA nr hv cl) :: (y.bl, 4, arrB y.lk lk) :: (y.bg, 3, arrI y.gr gr) :: Lr) ⟨evs, E, nr, hv, held⟩) (ha : aN < nr) (hcl : cl aN = false) : Calls Try.prog 108 #[.pointer (some ⟨y.wp, 0, none⟩), .pointer (some ⟨gw, k * 10, none⟩), .agg #[Value.int .i64 7, .int .i64 (aN : Int), .int .i64 (f2 : Int), .int .i64 (f3 : Int)], .pointer (some ⟨pe, 0, none⟩), .int .i64 on, .func (.func 106) #[] #[.pointer (some ⟨pt, 0, none⟩)]] W fun ev W' => ev = (.returned (.int .i64 on)) ∧ OM w W' ((pt, 1, #[Value.func (.func 105) #[] #[.pointer (some ⟨pw, 0, none⟩), .pointer (some ⟨pe, 0, none⟩)]]) :: (pe, 37, evC ⟨k, 7, aN, 0, false⟩) :: (pi, 99, ci) :: (pw, 104, #[.pointer (some ⟨y.wp, 0, none⟩)]) :: (y.wp, 110, wpC y nr gw n cw evs) :: (gw, 174, cur) :: (y.bp, 186, pipesA nr hv (updN cl aN true)) :: (y.bl, 4, arrB y.lk lk) :: (y.bg, 3, arrI y.gr gr) :: Lr) ⟨evs, E, nr, hv, held⟩ := by
 have g1 : (aN : Int) < nr := by omega
 have g2 : (0 : Int) ≤ aN := by omega
 have HA := Lib.hid ha
 have HCL := Lib.hid hcl
 clear ha hcl
 go_enter Try.func108, Try.ntmps108
 go_wp2_with (first
   | go_big_skip
   | (refine om_box 8 #[Value.int .i64 7, .int .i64 (aN : Int), .int .i64 (f2 : Int), .int .i64 (f3 : Int)] M rfl rfl rfl rfl ?_; clear M; intro V p8 M; simp only [Act.put, kA, kZ, kS]; have c0 : V.cell? ⟨p8, 0, none⟩ = some (.int .i64 7) := (M.own.get 0 rfl).cell 0))
 have cw : ∀ (p : Later V) i, p.1.cell? ⟨y.wp, i, none⟩ = #[Value.pointer (some ⟨y.ps, 0, none⟩), .slice (some ⟨gw, 0, none⟩) n cw, .slice (some ⟨y.bp, 0, none⟩) nr nr, .slice (some ⟨y.bl, 0, none⟩) y.lk y.lk, .slice (some ⟨y.bg, 0, none⟩) y.gr y.gr, .slice (some ⟨y.bc, 0, none⟩) y.ce y.ce, evs][i]? := Later.cell (M.get 5 rfl)
 have ci : ∀ (p : Later V) i, p.1.cell? ⟨p8, i, none⟩ = #[Value.int .i64 7, .int .i64 (aN : Int), .int .i64 (f2 : Int), .int .i64 (f3 : Int)][i]? := Later.cell (M.get 0 rfl)
 have cp : ∀ p : Later V, p.1.cell? ⟨y.bp, aN * 2 + 1, none⟩ = some (.bool false) := fun p => (Later.cell (M.get 7 rfl) p _).trans ((pipesA_cl _ _ _ _ HA.out).trans (by rw [HCL.out]))
 have ak := add_zero_ y.bp (aN * 2)
 refine wp_quiet_later (by kernel_rfl) (by kernel_rfl) ?_
 repeat (first | go_big_quiet_skip | go_big_quiet_step (fail))
 refine kq fun p' => ?_
 replace M := M.keeps p'.2
 clear cw ci cp
 generalize p'.1 = V at M ⊢
 go_wp2_with (first | go_big_skip)
 have cw : ∀ (p : Later V) i, p.1.cell? ⟨y.wp, i, none⟩ = #[Value.pointer (some ⟨y.ps, 0, none⟩), .slice (some ⟨gw, 0, none⟩) n cw, .slice (some ⟨y.bp, 0, none⟩) nr nr, .slice (some ⟨y.bl, 0, none⟩) y.lk y.lk, .slice (some ⟨y.bg, 0, none⟩) y.gr y.gr, .slice (some ⟨y.bc, 0, none⟩) y.ce y.ce, evs][i]? := Later.cell (M.get 5 rfl)
 have ci : ∀ (p : Later V) i, p.1.cell? ⟨p8, i, none⟩ = #[Value.int .i64 7, .int .i64 (aN : Int), .int .i64 (f2 : Int), .int .i64 (f3 : Int)][i]? := Later.cell (M.get 0 rfl)
 refine wp_quiet_tail_later 8 (by kernel_rfl) (by kernel_rfl) ?_
 simp only [List.take, List.drop]
 repeat (first | go_big_quiet_skip | go_big_quiet_step (fail))
 refine kq fun p' => ?_
 replace M := M.keeps p'.2
 clear c0 cw ci ak
 generalize p'.1 = V at M ⊢
 go_wp2_with (first
   | go_big_skip
   | (refine at_store (.tmp 122) (.const (.bool true)) rfl ?_; refine om_store 7 (aN * 2 + 1) (.bool true) (.tmp 122) (.const (.bool true)) M rfl rfl rfl rfl rfl rfl (by have := HA.out; rw [pipesA_size]; omega) rfl rfl (by kernel_rfl) (pipesA_setC _ _ _ _ _) ?_; clear M; intro V M; simp only [kZ, kS] at M))
 go_ret
 exact ⟨rfl, M.drop_ 1⟩
set_option maxRecDepth 100000 in
set_option maxHeartbeats 1000000 in
theorem sh_7c  (M : OM w W ((pt, 1, #[Value.func (.func 105) #[] #[.pointer (some ⟨pw, 0, none⟩), .pointer (some ⟨pe, 0, none⟩)]]) :: (pe, 37, evC ⟨k, 7, aN, 0, false⟩) :: (pi, 99, ci) :: (pw, 104, #[.pointer (some ⟨y.wp, 0, none⟩)]) :: (y.wp, 110, wpC y nr gw n cw evs) :: (gw, 174, cur) :: (y.bp, 186, pipesA nr hv cl) :: (y.bl, 4, arrB y.lk lk) :: (y.bg, 3, arrI y.gr gr) :: Lr) ⟨evs, E, nr, hv, held⟩) (hn : E.length ≤ 100000) (ha : aN < nr) (hcl : cl aN = true) : Calls Try.prog 108 #[.pointer (some ⟨y.wp, 0, none⟩), .pointer (some ⟨gw, k * 10, none⟩), .agg #[Value.int .i64 7, .int .i64 (aN : Int), .int .i64 (f2 : Int), .int .i64 (f3 : Int)], .pointer (some ⟨pe, 0, none⟩), .int .i64 on, .func (.func 106) #[] #[.pointer (some ⟨pt, 0, none⟩)]] W fun ev W' => ev = (.panicked [{ v := .iface 22 (.int .i64 132), recovered := false }]) ∧ ∃ v', OM w W' ((pt, 1, #[Value.func (.func 105) #[] #[.pointer (some ⟨pw, 0, none⟩), .pointer (some ⟨pe, 0, none⟩)]]) :: (pe, 37, evC ⟨k, 7, aN, 0, false⟩) :: (pi, 99, ci) :: (pw, 104, #[.pointer (some ⟨y.wp, 0, none⟩)]) :: (y.wp, 110, wpC y nr gw n cw v') :: (gw, 174, cur) :: (y.bp, 186, pipesA nr hv cl) :: (y.bl, 4, arrB y.lk lk) :: (y.bg, 3, arrI y.gr gr) :: Lr) ⟨v', E ++ [⟨k, 7, aN, 0, false⟩], nr, hv, held⟩ := by
 have g1 : (aN : Int) < nr := by omega
 have g2 : (0 : Int) ≤ aN := by omega
 have HA := Lib.hid ha
 have HCL := Lib.hid hcl
 clear ha hcl
 go_enter Try.func108, Try.ntmps108
 go_wp2_with (first
   | go_big_skip
   | (refine om_box 8 #[Value.int .i64 7, .int .i64 (aN : Int), .int .i64 (f2 : Int), .int .i64 (f3 : Int)] M rfl rfl rfl rfl ?_; clear M; intro V p8 M; simp only [Act.put, kA, kZ, kS]; have c0 : V.cell? ⟨p8, 0, none⟩ = some (.int .i64 7) := (M.own.get 0 rfl).cell 0))
 have cw : ∀ (p : Later V) i, p.1.cell? ⟨y.wp, i, none⟩ = #[Value.pointer (some ⟨y.ps, 0, none⟩), .slice (some ⟨gw, 0, none⟩) n cw, .slice (some ⟨y.bp, 0, none⟩) nr nr, .slice (some ⟨y.bl, 0, none⟩) y.lk y.lk, .slice (some ⟨y.bg, 0, none⟩) y.gr y.gr, .slice (some ⟨y.bc, 0, none⟩) y.ce y.ce, evs][i]? := Later.cell (M.get 5 rfl)
 have ci : ∀ (p : Later V) i, p.1.cell? ⟨p8, i, none⟩ = #[Value.int .i64 7, .int .i64 (aN : Int), .int .i64 (f2 : Int), .int .i64 (f3 : Int)][i]? := Later.cell (M.get 0 rfl)
 have cp : ∀ p : Later V, p.1.cell? ⟨y.bp, aN * 2 + 1, none⟩ = some (.bool true) := fun p => (Later.cell (M.get 7 rfl) p _).trans ((pipesA_cl _ _ _ _ HA.out).trans (by rw [HCL.out]))
 have ak := add_zero_ y.bp (aN * 2)
 refine wp_quiet_later (by kernel_rfl) (by kernel_rfl) ?_
 repeat (first | go_big_quiet_skip | go_big_quiet_step (fail))
 refine kq fun p' => ?_
 replace M := M.keeps p'.2
 clear c0 cw ci cp ak
 generalize p'.1 = V at M ⊢
 go_wp2_with (first
   | go_big_skip
   | (go_at_call 106; refine (fail_any M ⟨k, 7, aN, 0, false⟩ (i := 4) (j := 2) (k := 5) (m := 1) rfl rfl rfl rfl hn 132).mono ?_; rintro ev V ⟨rfl, v', M⟩; have HM := Lib.hid M; clear M))
 first | exact ⟨rfl, _, HM.out.drop_ 1⟩ | exact ⟨rfl, rfl, _, HM.out.drop_ 1⟩ | exact ⟨_, rfl, _, HM.out.drop_ 1⟩
set_option maxRecDepth 100000 in
set_option maxHeartbeats 1000000 in
theorem sh_10n  (M : OM w W ((pt, 1, #[Value.func (.func 105) #[] #[.pointer (some ⟨pw, 0, none⟩), .pointer (some ⟨pe, 0, none⟩)]]) :: (pe, 37, evC ⟨k, 10, aN, 0, false⟩) :: (pi, 99, ci) :: (pw, 104, #[.pointer (some ⟨y.wp, 0, none⟩)]) :: (y.wp, 110, wpC y nr gw n cw evs) :: (gw, 174, cur) :: (y.bp, 186, pipesA nr hv cl) :: (y.bl, 4, arrB y.lk lk) :: (y.bg, 3, arrI y.gr gr) :: Lr) ⟨evs, E, nr, hv, held⟩) (ha : aN < y.gr) {s : Int} (hs : IntKind.i64.wrap (gr aN + f2) = s) (hcl : ¬ s < 0) : Calls Try.prog 108 #[.pointer (some ⟨y.wp, 0, none⟩), .pointer (some ⟨gw, k * 10, none⟩), .agg #[Value.int .i64 10, .int .i64 (aN : Int), .int .i64 (f2 : Int), .int .i64 (f3 : Int)], .pointer (some ⟨pe, 0, none⟩), .int .i64 on, .func (.func 106) #[] #[.pointer (some ⟨pt, 0, none⟩)]] W fun ev W' => ev = (.returned (.int .i64 on)) ∧ OM w W' ((pt, 1, #[Value.func (.func 105) #[] #[.pointer (some ⟨pw, 0, none⟩), .pointer (some ⟨pe, 0, none⟩)]]) :: (pe, 37, evC ⟨k, 10, aN, s, false⟩) :: (pi, 99, ci) :: (pw, 104, #[.pointer (some ⟨y.wp, 0, none⟩)]) :: (y.wp, 110, wpC y nr gw n cw evs) :: (gw, 174, cur) :: (y.bp, 186, pipesA nr hv cl) :: (y.bl, 4, arrB y.lk lk) :: (y.bg, 3, arrI y.gr (updI gr aN s)) :: Lr) ⟨evs, E, nr, hv, held⟩ := by
 have g3 : ¬ s < 0 := hcl
 have g1 : (aN : Int) < y.gr := by omega
 have g2 : (0 : Int) ≤ aN := by omega
 have HA := Lib.hid ha
 have HCL := Lib.hid hcl
 clear ha hcl
 go_enter Try.func108, Try.ntmps108
 go_wp2_with (first
   | go_big_skip
   | (refine om_box 8 #[Value.int .i64 10, .int .i64 (aN : Int), .int .i64 (f2 : Int), .int .i64 (f3 : Int)] M rfl rfl rfl rfl ?_; clear M; intro V p8 M; simp only [Act.put, kA, kZ, kS]; have c0 : V.cell? ⟨p8, 0, none⟩ = some (.int .i64 10) := (M.own.get 0 rfl).cell 0))
 have cw : ∀ (p : Later V) i, p.1.cell? ⟨y.wp, i, none⟩ = #[Value.pointer (some ⟨y.ps, 0, none⟩), .slice (some ⟨gw, 0, none⟩) n cw, .slice (some ⟨y.bp, 0, none⟩) nr nr, .slice (some ⟨y.bl, 0, none⟩) y.lk y.lk, .slice (some ⟨y.bg, 0, none⟩) y.gr y.gr, .slice (some ⟨y.bc, 0, none⟩) y.ce y.ce, evs][i]? := Later.cell (M.get 5 rfl)
 have ci : ∀ (p : Later V) i, p.1.cell? ⟨p8, i, none⟩ = #[Value.int .i64 10, .int .i64 (aN : Int), .int .i64 (f2 : Int), .int .i64 (f3 : Int)][i]? := Later.cell (M.get 0 rfl)
 have cg : ∀ p : Later V, p.1.cell? ⟨y.bg, aN, none⟩ = some (.int .i64 (gr aN)) := fun p => (Later.cell (M.get 9 rfl) p _).trans (arrI_get _ _ _ HA.out)
 have ak := add_zero_ y.bg aN
 refine wp_quiet_tail_later 14 (by kernel_rfl) (by kernel_rfl) ?_
 simp only [List.take, List.drop]
 repeat (first | go_big_quiet_skip | go_big_quiet_step (fail))
 refine kq fun p' => ?_
 replace M := M.keeps p'.2
 clear cw ci cg
 generalize p'.1 = V at M ⊢
 go_wp2_with (first
   | go_big_skip
   | (refine at_store (.tmp 167) (.tmp 165) rfl ?_; refine om_store 2 3 (.int .i64 s) (.tmp 167) (.tmp 165) M rfl rfl rfl rfl rfl rfl (by show 3 < 5; omega) rfl rfl (by kernel_rfl) (cs' := evC ⟨k, 10, aN, s, false⟩) rfl ?_; clear M; intro V M; simp only [kZ, kS] at M; have ce0 : V.cell? ⟨pe, 3, none⟩ = some (.int .i64 s) := (M.get 2 rfl).cell 3))
 have cw : ∀ (p : Later V) i, p.1.cell? ⟨y.wp, i, none⟩ = #[Value.pointer (some ⟨y.ps, 0, none⟩), .slice (some ⟨gw, 0, none⟩) n cw, .slice (some ⟨y.bp, 0, none⟩) nr nr, .slice (some ⟨y.bl, 0, none⟩) y.lk y.lk, .slice (some ⟨y.bg, 0, none⟩) y.gr y.gr, .slice (some ⟨y.bc, 0, none⟩) y.ce y.ce, evs][i]? := Later.cell (M.get 5 rfl)
 have ci : ∀ (p : Later V) i, p.1.cell? ⟨p8, i, none⟩ = #[Value.int .i64 10, .int .i64 (aN : Int), .int .i64 (f2 : Int), .int .i64 (f3 : Int)][i]? := Later.cell (M.get 0 rfl)
 have ce : ∀ (p : Later V) i, p.1.cell? ⟨pe, i, none⟩ = #[Value.int .i64 (k : Int), .int .i64 10, .int .i64 (aN : Int), .int .i64 s, .bool false][i]? := Later.cell (M.get 2 rfl)
 refine wp_quiet_tail_later 11 (by kernel_rfl) (by kernel_rfl) ?_
 simp only [List.take, List.drop]
 repeat (first | go_big_quiet_skip | go_big_quiet_step (fail))
 refine kq fun p' => ?_
 replace M := M.keeps p'.2
 clear c0 cw ci ce ce0 ak
 generalize p'.1 = V at M ⊢
 go_wp2_with (first
   | go_big_skip
   | (refine at_store (.tmp 185) (.tmp 184) rfl ?_; refine om_store 9 aN (.int .i64 s) (.tmp 185) (.tmp 184) M rfl rfl rfl rfl rfl rfl (by rw [arrI_size]; exact HA.out) rfl rfl (by kernel_rfl) (arrI_set _ _ _ _) ?_; clear M; intro V M; simp only [kZ, kS] at M))
 go_ret
 exact ⟨rfl, M.drop_ 1⟩
set_option maxRecDepth 100000 in
set_option maxHeartbeats 1000000 in
theorem sh_10g  (M : OM w W ((pt, 1, #[Value.func (.func 105) #[] #[.pointer (some ⟨pw, 0, none⟩), .pointer (some ⟨pe, 0, none⟩)]]) :: (pe, 37, evC ⟨k, 10, aN, 0, false⟩) :: (pi, 99, ci) :: (pw, 104, #[.pointer (some ⟨y.wp, 0, none⟩)]) :: (y.wp, 110, wpC y nr gw n cw evs) :: (gw, 174, cur) :: (y.bp, 186, pipesA nr hv cl) :: (y.bl, 4, arrB y.lk lk) :: (y.bg, 3, arrI y.gr gr) :: Lr) ⟨evs, E, nr, hv, held⟩) (hn : E.length ≤ 100000) (ha : aN < y.gr) {s : Int} (hs : IntKind.i64.wrap (gr aN + f2) = s) (hcl : s < 0) : Calls Try.prog 108 #[.pointer (some ⟨y.wp, 0, none⟩), .pointer (some ⟨gw, k * 10, none⟩), .agg #[Value.int .i64 10, .int .i64 (aN : Int), .int .i64 (f2 : Int), .int .i64 (f3 : Int)], .pointer (some ⟨pe, 0, none⟩), .int .i64 on, .func (.func 106) #[] #[.pointer (some ⟨pt, 0, none⟩)]] W fun ev W' => ev = (.panicked [{ v := .iface 22 (.int .i64 134), recovered := false }]) ∧ ∃ v', OM w W' ((pt, 1, #[Value.func (.func 105) #[] #[.pointer (some ⟨pw, 0, none⟩), .pointer (some ⟨pe, 0, none⟩)]]) :: (pe, 37, evC ⟨k, 10, aN, s, false⟩) :: (pi, 99, ci) :: (pw, 104, #[.pointer (some ⟨y.wp, 0, none⟩)]) :: (y.wp, 110, wpC y nr gw n cw v') :: (gw, 174, cur) :: (y.bp, 186, pipesA nr hv cl) :: (y.bl, 4, arrB y.lk lk) :: (y.bg, 3, arrI y.gr gr) :: Lr) ⟨v', E ++ [⟨k, 10, aN, s, false⟩], nr, hv, held⟩ := by
 have g3 : s < 0 := hcl
 have g1 : (aN : Int) < y.gr := by omega
 have g2 : (0 : Int) ≤ aN := by omega
 have HA := Lib.hid ha
 have HCL := Lib.hid hcl
 clear ha hcl
 go_enter Try.func108, Try.ntmps108
 go_wp2_with (first
   | go_big_skip
   | (refine om_box 8 #[Value.int .i64 10, .int .i64 (aN : Int), .int .i64 (f2 : Int), .int .i64 (f3 : Int)] M rfl rfl rfl rfl ?_; clear M; intro V p8 M; simp only [Act.put, kA, kZ, kS]; have c0 : V.cell? ⟨p8, 0, none⟩ = some (.int .i64 10) := (M.own.get 0 rfl).cell 0))
 have cw : ∀ (p : Later V) i, p.1.cell? ⟨y.wp, i, none⟩ = #[Value.pointer (some ⟨y.ps, 0, none⟩), .slice (some ⟨gw, 0, none⟩) n cw, .slice (some ⟨y.bp, 0, none⟩) nr nr, .slice (some ⟨y.bl, 0, none⟩) y.lk y.lk, .slice (some ⟨y.bg, 0, none⟩) y.gr y.gr, .slice (some ⟨y.bc, 0, none⟩) y.ce y.ce, evs][i]? := Later.cell (M.get 5 rfl)
 have ci : ∀ (p : Later V) i, p.1.cell? ⟨p8, i, none⟩ = #[Value.int .i64 10, .int .i64 (aN : Int), .int .i64 (f2 : Int), .int .i64 (f3 : Int)][i]? := Later.cell (M.get 0 rfl)
 have cg : ∀ p : Later V, p.1.cell? ⟨y.bg, aN, none⟩ = some (.int .i64 (gr aN)) := fun p => (Later.cell (M.get 9 rfl) p _).trans (arrI_get _ _ _ HA.out)
 have ak := add_zero_ y.bg aN
 refine wp_quiet_tail_later 14 (by kernel_rfl) (by kernel_rfl) ?_
 simp only [List.take, List.drop]
 repeat (first | go_big_quiet_skip | go_big_quiet_step (fail))
 refine kq fun p' => ?_
 replace M := M.keeps p'.2
 clear c0 cw ci cg ak
 generalize p'.1 = V at M ⊢
 go_wp2_with (first
   | go_big_skip
   | (refine at_store (.tmp 167) (.tmp 165) rfl ?_; refine om_store 2 3 (.int .i64 s) (.tmp 167) (.tmp 165) M rfl rfl rfl rfl rfl rfl (by show 3 < 5; omega) rfl rfl (by kernel_rfl) (cs' := evC ⟨k, 10, aN, s, false⟩) rfl ?_; clear M; intro V M; simp only [kZ, kS] at M; have ce0 : V.cell? ⟨pe, 3, none⟩ = some (.int .i64 s) := (M.get 2 rfl).cell 3)
   | (go_at_call 106; refine (fail_any M ⟨k, 10, aN, s, false⟩ (i := 4) (j := 2) (k := 5) (m := 1) rfl rfl rfl rfl hn 134).mono ?_; rintro ev V ⟨rfl, v', M⟩; have HM := Lib.hid M; clear M))
 first | exact ⟨rfl, _, HM.out.drop_ 1⟩ | exact ⟨rfl, rfl, _, HM.out.drop_ 1⟩ | exact ⟨_, rfl, _, HM.out.drop_ 1⟩
set_option maxRecDepth 100000 in
set_option maxHeartbeats 1000000 in
theorem sh_11  (M : OM w W ((pt, 1, #[Value.func (.func 105) #[] #[.pointer (some ⟨pw, 0, none⟩), .pointer (some ⟨pe, 0, none⟩)]]) :: (pe, 37, evC ⟨k, 11, aN, 0, false⟩) :: (pi, 99, ci) :: (pw, 104, #[.pointer (some ⟨y.wp, 0, none⟩)]) :: (y.wp, 110, wpC y nr gw n cw evs) :: (gw, 174, cur) :: (y.bp, 186, pipesA nr hv cl) :: (y.bl, 4, arrB y.lk lk) :: (y.bg, 3, arrI y.gr gr) :: Lr) ⟨evs, E, nr, hv, held⟩)  : Calls Try.prog 108 #[.pointer (some ⟨y.wp, 0, none⟩), .pointer (some ⟨gw, k * 10, none⟩), .agg #[Value.int .i64 11, .int .i64 (aN : Int), .int .i64 (f2 : Int), .int .i64 (f3 : Int)], .pointer (some ⟨pe, 0, none⟩), .int .i64 on, .func (.func 106) #[] #[.pointer (some ⟨pt, 0, none⟩)]] W fun ev W' => ev = (.returned (.int .i64 on)) ∧ OM w W' ((pt, 1, #[Value.func (.func 105) #[] #[.pointer (some ⟨pw, 0, none⟩), .pointer (some ⟨pe, 0, none⟩)]]) :: (pe, 37, evC ⟨k, 11, aN, 0, false⟩) :: (pi, 99, ci) :: (pw, 104, #[.pointer (some ⟨y.wp, 0, none⟩)]) :: (y.wp, 110, wpC y nr gw n cw evs) :: (gw, 174, cur) :: (y.bp, 186, pipesA nr hv cl) :: (y.bl, 4, arrB y.lk lk) :: (y.bg, 3, arrI y.gr gr) :: Lr) ⟨evs, E, nr, hv, held⟩ := by
 go_enter Try.func108, Try.ntmps108
 go_wp2_with (first
   | go_big_skip
   | (refine om_box 8 #[Value.int .i64 11, .int .i64 (aN : Int), .int .i64 (f2 : Int), .int .i64 (f3 : Int)] M rfl rfl rfl rfl ?_; clear M; intro V p8 M; simp only [Act.put, kA, kZ, kS]; have c0 : V.cell? ⟨p8, 0, none⟩ = some (.int .i64 11) := (M.own.get 0 rfl).cell 0))
 go_ret
 exact ⟨rfl, M.drop_ 1⟩
set_option maxRecDepth 100000 in
set_option maxHeartbeats 1000000 in
theorem sh_5c  (M : OM w W ((pt, 1, #[Value.func (.func 105) #[] #[.pointer (some ⟨pw, 0, none⟩), .pointer (some ⟨pe, 0, none⟩)]]) :: (pe, 37, evC ⟨k, 5, aN, 0, false⟩) :: (pi, 99, ci) :: (pw, 104, #[.pointer (some ⟨y.wp, 0, none⟩)]) :: (y.wp, 110, wpC y nr gw n cw evs) :: (gw, 174, cur) :: (y.bp, 186, pipesA nr hv cl) :: (y.bl, 4, arrB y.lk lk) :: (y.bg, 3, arrI y.gr gr) :: Lr) ⟨evs, E, nr, hv, held⟩) (hn : E.length ≤ 100000) (ha : aN < nr) (hb : bN < 8) (hr : cur[k * 10 + 2 + bN]? = some (.int .i64 v0)) (hcl : cl aN = true) : Calls Try.prog 108 #[.pointer (some ⟨y.wp, 0, none⟩), .pointer (some ⟨gw, k * 10, none⟩), .agg #[Value.int .i64 5, .int .i64 (aN : Int), .int .i64 (bN : Int), .int .i64 (f3 : Int)], .pointer (some ⟨pe, 0, none⟩), .int .i64 on, .func (.func 106) #[] #[.pointer (some ⟨pt, 0, none⟩)]] W fun ev W' => ev = (.panicked [{ v := .iface 22 (.int .i64 131), recovered := false }]) ∧ ∃ v', OM w W' ((pt, 1, #[Value.func (.func 105) #[] #[.pointer (some ⟨pw, 0, none⟩), .pointer (some ⟨pe, 0, none⟩)]]) :: (pe, 37, evC ⟨k, 5, aN, v0, false⟩) :: (pi, 99, ci) :: (pw, 104, #[.pointer (some ⟨y.wp, 0, none⟩)]) :: (y.wp, 110, wpC y nr gw n cw v') :: (gw, 174, cur) :: (y.bp, 186, pipesA nr hv cl) :: (y.bl, 4, arrB y.lk lk) :: (y.bg, 3, arrI y.gr gr) :: Lr) ⟨v', E ++ [⟨k, 5, aN, v0, false⟩], nr, hv, held⟩ := by
 have g1 : (aN : Int) < nr := by omega
 have g2 : (0 : Int) ≤ aN := by omega
 have HA := Lib.hid ha
 have HCL := Lib.hid hcl
 clear ha hcl
 have g3 : (bN : Int) < 8 := by omega
 have g4 : (0 : Int) ≤ bN := by omega
 have HR := Lib.hid hr
 clear hr hb
 go_enter Try.func108, Try.ntmps108
 go_wp2_with (first
   | go_big_skip
   | (refine om_box 8 #[Value.int .i64 5, .int .i64 (aN : Int), .int .i64 (bN : Int), .int .i64 (f3 : Int)] M rfl rfl rfl rfl ?_; clear M; intro V p8 M; simp only [Act.put, kA, kZ, kS]; have c0 : V.cell? ⟨p8, 0, none⟩ = some (.int .i64 5) := (M.own.get 0 rfl).cell 0))
 have cw : ∀ (p : Later V) i, p.1.cell? ⟨y.wp, i, none⟩ = #[Value.pointer (some ⟨y.ps, 0, none⟩), .slice (some ⟨gw, 0, none⟩) n cw, .slice (some ⟨y.bp, 0, none⟩) nr nr, .slice (some ⟨y.bl, 0, none⟩) y.lk y.lk, .slice (some ⟨y.bg, 0, none⟩) y.gr y.gr, .slice (some ⟨y.bc, 0, none⟩) y.ce y.ce, evs][i]? := Later.cell (M.get 5 rfl)
 have ci : ∀ (p : Later V) i, p.1.cell? ⟨p8, i, none⟩ = #[Value.int .i64 5, .int .i64 (aN : Int), .int .i64 (bN : Int), .int .i64 (f3 : Int)][i]? := Later.cell (M.get 0 rfl)
 have ak := add_zero_ y.bp (aN * 2)
 refine wp_quiet_later (by kernel_rfl) (by kernel_rfl) ?_
 repeat (first | go_big_quiet_skip | go_big_quiet_step (fail))
 refine kq fun p' => ?_
 replace M := M.keeps p'.2
 clear cw ci
 generalize p'.1 = V at M ⊢
 go_wp2_with (first | go_big_skip)
 have ci : ∀ (p : Later V) i, p.1.cell? ⟨p8, i, none⟩ = #[Value.int .i64 5, .int .i64 (aN : Int), .int .i64 (bN : Int), .int .i64 (f3 : Int)][i]? := Later.cell (M.get 0 rfl)
 have cr : ∀ p : Later V, p.1.cell? ⟨gw, k * 10 + 2 + bN, none⟩ = some (.int .i64 v0) := fun p => (Later.cell (M.get 6 rfl) p _).trans HR.out
 refine wp_quiet_tail_later 10 (by kernel_rfl) (by kernel_rfl) ?_
 simp only [List.take, List.drop]
 repeat (first | go_big_quiet_skip | go_big_quiet_step (fail))
 refine kq fun p' => ?_
 replace M := M.keeps p'.2
 clear ci cr
 generalize p'.1 = V at M ⊢
 go_wp2_with (first
   | go_big_skip
   | (refine at_store (.tmp 35) (.tmp 33) rfl ?_; refine om_store 2 3 (.int .i64 v0) (.tmp 35) (.tmp 33) M rfl rfl rfl rfl rfl rfl (by show 3 < 5; omega) rfl rfl (by kernel_rfl) (cs' := evC ⟨k, 5, aN, v0, false⟩) rfl ?_; clear M; intro V M; simp only [kZ, kS] at M; have cp0 : V.cell? ⟨y.bp, aN * 2 + 1, none⟩ = some (.bool true) := ((M.get 7 rfl).cell _).trans ((pipesA_cl _ _ _ _ HA.out).trans (by rw [HCL.out])))
   | (go_at_call 106; refine (fail_any M ⟨k, 5, aN, v0, false⟩ (i := 4) (j := 2) (k := 5) (m := 1) rfl rfl rfl rfl hn 131).mono ?_; rintro ev V ⟨rfl, v', M⟩; have HM := Lib.hid M; clear M))
 first | exact ⟨rfl, _, HM.out.drop_ 1⟩ | exact ⟨rfl, rfl, _, HM.out.drop_ 1⟩ | exact ⟨_, rfl, _, HM.out.drop_ 1⟩
set_option maxRecDepth 100000 in
set_option maxHeartbeats 1000000 in
theorem sh_5o  (M : OM w W ((pt, 1, #[Value.func (.func 105) #[] #[.pointer (some ⟨pw, 0, none⟩), .pointer (some ⟨pe, 0, none⟩)]]) :: (pe, 37, evC ⟨k, 5, aN, 0, false⟩) :: (pi, 99, ci) :: (pw, 104, #[.pointer (some ⟨y.wp, 0, none⟩)]) :: (y.wp, 110, wpC y nr gw n cw evs) :: (gw, 174, cur) :: (y.bp, 186, pipesA nr hv cl) :: (y.bl, 4, arrB y.lk lk) :: (y.bg, 3, arrI y.gr gr) :: Lr) ⟨evs, E, nr, hv, held⟩) (hl : (held aN).length ≤ 1000000) (ha : aN < nr) (hb : bN < 8) (hr : cur[k * 10 + 2 + bN]? = some (.int .i64 v0)) (hcl : cl aN = false) : Calls Try.prog 108 #[.pointer (some ⟨y.wp, 0, none⟩), .pointer (some ⟨gw, k * 10, none⟩), .agg #[Value.int .i64 5, .int .i64 (aN : Int), .int .i64 (bN : Int), .int .i64 (f3 : Int)], .pointer (some ⟨pe, 0, none⟩), .int .i64 on, .func (.func 106) #[] #[.pointer (some ⟨pt, 0, none⟩)]] W fun ev W' => ev = (.returned (.int .i64 on)) ∧ ∃ v', OM w W' ((pt, 1, #[Value.func (.func 105) #[] #[.pointer (some ⟨pw, 0, none⟩), .pointer (some ⟨pe, 0, none⟩)]]) :: (pe, 37, evC ⟨k, 5, aN, v0, false⟩) :: (pi, 99, ci) :: (pw, 104, #[.pointer (some ⟨y.wp, 0, none⟩)]) :: (y.wp, 110, wpC y nr gw n cw evs) :: (gw, 174, cur) :: (y.bp, 186, pipesA nr (updN hv aN v') cl) :: (y.bl, 4, arrB y.lk lk) :: (y.bg, 3, arrI y.gr gr) :: Lr) ⟨evs, E, nr, updN hv aN v', updN held aN (held aN ++ [v0])⟩ := by
 have g1 : (aN : Int) < nr := by omega
 have g2 : (0 : Int) ≤ aN := by omega
 have HA := Lib.hid ha
 have HCL := Lib.hid hcl
 clear ha hcl
 have g3 : (bN : Int) < 8 := by omega
 have g4 : (0 : Int) ≤ bN := by omega
 have HR := Lib.hid hr
 have HL := Lib.hid hl
 clear hr hb hl
 go_enter Try.func108, Try.ntmps108
 go_wp2_with (first
   | go_big_skip
   | (refine om_box 8 #[Value.int .i64 5, .int .i64 (aN : Int), .int .i64 (bN : Int), .int .i64 (f3 : Int)] M rfl rfl rfl rfl ?_; clear M; intro V p8 M; simp only [Act.put, kA, kZ, kS]; have c0 : V.cell? ⟨p8, 0, none⟩ = some (.int .i64 5) := (M.own.get 0 rfl).cell 0))
 have cw : ∀ (p : Later V) i, p.1.cell? ⟨y.wp, i, none⟩ = #[Value.pointer (some ⟨y.ps, 0, none⟩), .slice (some ⟨gw, 0, none⟩) n cw, .slice (some ⟨y.bp, 0, none⟩) nr nr, .slice (some ⟨y.bl, 0, none⟩) y.lk y.lk, .slice (some ⟨y.bg, 0, none⟩) y.gr y.gr, .slice (some ⟨y.bc, 0, none⟩) y.ce y.ce, evs][i]? := Later.cell (M.get 5 rfl)
 have ci : ∀ (p : Later V) i, p.1.cell? ⟨p8, i, none⟩ = #[Value.int .i64 5, .int .i64 (aN : Int), .int .i64 (bN : Int), .int .i64 (f3 : Int)][i]? := Later.cell (M.get 0 rfl)
 have ak := add_zero_ y.bp (aN * 2)
 refine wp_quiet_later (by kernel_rfl) (by kernel_rfl) ?_
 repeat (first | go_big_quiet_skip | go_big_quiet_step (fail))
 refine kq fun p' => ?_
 replace M := M.keeps p'.2
 clear cw ci
 generalize p'.1 = V at M ⊢
 go_wp2_with (first | go_big_skip)
 have ci : ∀ (p : Later V) i, p.1.cell? ⟨p8, i, none⟩ = #[Value.int .i64 5, .int .i64 (aN : Int), .int .i64 (bN : Int), .int .i64 (f3 : Int)][i]? := Later.cell (M.get 0 rfl)
 have cr : ∀ p : Later V, p.1.cell? ⟨gw, k * 10 + 2 + bN, none⟩ = some (.int .i64 v0) := fun p => (Later.cell (M.get 6 rfl) p _).trans HR.out
 refine wp_quiet_tail_later 10 (by kernel_rfl) (by kernel_rfl) ?_
 simp only [List.take, List.drop]
 repeat (first | go_big_quiet_skip | go_big_quiet_step (fail))
 refine kq fun p' => ?_
 replace M := M.keeps p'.2
 clear ci cr
 generalize p'.1 = V at M ⊢
 go_wp2_with (first
   | go_big_skip
   | (refine at_store (.tmp 35) (.tmp 33) rfl ?_; refine om_store 2 3 (.int .i64 v0) (.tmp 35) (.tmp 33) M rfl rfl rfl rfl rfl rfl (by show 3 < 5; omega) rfl rfl (by kernel_rfl) (cs' := evC ⟨k, 5, aN, v0, false⟩) rfl ?_; clear M; intro V M; simp only [kZ, kS] at M; have cp0 : V.cell? ⟨y.bp, aN * 2 + 1, none⟩ = some (.bool false) := ((M.get 7 rfl).cell _).trans ((pipesA_cl _ _ _ _ HA.out).trans (by rw [HCL.out]))))
 have HQ := Lib.hid (show ∀ u, Own w u [] ((p8, 99, #[Value.int .i64 5, .int .i64 (aN : Int), .int .i64 (bN : Int), .int .i64 (f3 : Int)]) :: (pt, 1, #[Value.func (.func 105) #[] #[.pointer (some ⟨pw, 0, none⟩), .pointer (some ⟨pe, 0, none⟩)]]) :: (pe, 37, evC ⟨k, 5, aN, v0, false⟩) :: (pi, 99, ci) :: (pw, 104, #[.pointer (some ⟨y.wp, 0, none⟩)]) :: (y.wp, 110, wpC y nr gw n cw evs) :: (gw, 174, cur) :: (y.bp, 186, pipesA nr hv cl) :: (y.bl, 4, arrB y.lk lk) :: (y.bg, 3, arrI y.gr gr) :: Lr) → u.cell? ⟨y.bp, aN * 2, none⟩ = some (hv aN) ∧ u.cell? ⟨pe, 3, none⟩ = some (.int .i64 v0) from fun u O => ⟨((O.get 7 rfl).cell _).trans (pipesA_hv _ _ _ _ HA.out), (O.get 2 rfl).cell 3⟩)
 refine wp_headH (S := fun u => Own w u [] ((p8, 99, #[Value.int .i64 5, .int .i64 (aN : Int), .int .i64 (bN : Int), .int .i64 (f3 : Int)]) :: (pt, 1, #[Value.func (.func 105) #[] #[.pointer (some ⟨pw, 0, none⟩), .pointer (some ⟨pe, 0, none⟩)]]) :: (pe, 37, evC ⟨k, 5, aN, v0, false⟩) :: (pi, 99, ci) :: (pw, 104, #[.pointer (some ⟨y.wp, 0, none⟩)]) :: (y.wp, 110, wpC y nr gw n cw evs) :: (gw, 174, cur) :: (y.bp, 186, pipesA nr hv cl) :: (y.bl, 4, arrB y.lk lk) :: (y.bg, 3, arrI y.gr gr) :: Lr)) 11 (by kernel_rfl) (by kernel_rfl) ?_
 replace M := M.keeps (Keeps.refl _ _).drew
 clear cp0
 refine ah_take (f := 2) (L' := #[true, true, true, true, true, true, true, true, true, false, false, false, false, false]) (by first | exact M.own | exact M.own.drop_ 1) [0, 1, 2, 3, 4, 5, 6, 7, 8] [_, _, _, _, _, _, _, _, _] _ _ rfl (by decide) (by kernel_rfl) ?_
 simp only [List.getElem_toArray, List.getElem_cons_zero, List.getElem_cons_succ]
 repeat (first
   | (refine take_pure (v := ?_) (by rfl) ?_ ?_; rotate_left; (· (intro w hSw; have q := HQ.out _ hSw; have q1 := q.1; have q2 := q.2; clear hSw q; go_simp; try with_reducible rfl)); simp only [Act.put, kA, kZ, kS]))
 refine takeA_done ?_
 refine ah_sole 9 #[true, true, true, true, true, true, true, true, true, true, false, false, false, false] rfl (by decide) (by kernel_rfl) ?_
 try simp only [List.getElem_toArray, List.getElem_cons_zero, List.getElem_cons_succ]
 go_wp2_with (refine om_lit_int 51 v0 M rfl rfl rfl rfl ?_; clear M; intro V gl M; simp only [Act.put, kA, kZ, kS])
 (first | refine backA_intro2 (by first | exact M.own | exact M.own.drop_ 1) ?_ | refine backA_intro (by first | exact M.own | exact M.own.drop_ 1) ?_)
 refine ah_sole 10 #[true, true, true, true, true, true, true, true, true, true, true, false, false, false] rfl (by decide) (by kernel_rfl) ?_
 try simp only [List.getElem_toArray, List.getElem_cons_zero, List.getElem_cons_succ]
 go_wp2_with (at_builtin; refine om_push v0 gl aN (.tmp 46) (.tmp 51) M rfl rfl HA.out rfl rfl HL.out ?_; clear M; intro A' m' c' V M; simp only [Act.put, kA, kZ, kS])
 (first | refine backA_intro2 (by first | exact M.own | exact M.own.drop_ 1) ?_ | refine backA_intro (by first | exact M.own | exact M.own.drop_ 1) ?_)
 refine ah_tail (by kernel_rfl) ?_
 try simp only [List.drop]
 go_wp2_with (first
   | go_big_skip
   | (refine at_store (.tmp 54) (.tmp 52) rfl ?_; refine om_store 7 (aN * 2) (.slice A' m' c') (.tmp 54) (.tmp 52) M rfl rfl rfl rfl rfl rfl (by have := HA.out; rw [pipesA_size]; omega) rfl rfl (by kernel_rfl) (pipesA_setH _ _ _ _ _) ?_; clear M; intro V M; simp only [kZ, kS] at M))
 refine np_intro ?_
 go_wp2
 go_ret
 exact ⟨rfl, _, M.drop_ 1⟩
set_option maxRecDepth 100000 in
set_option maxHeartbeats 1000000 in
theorem sh_6n  (M : OM w W ((pt, 1, #[Value.func (.func 105) #[] #[.pointer (some ⟨pw, 0, none⟩), .pointer (some ⟨pe, 0, none⟩)]]) :: (pe, 37, evC ⟨k, 6, aN, 0, false⟩) :: (pi, 99, ci) :: (pw, 104, #[.pointer (some ⟨y.wp, 0, none⟩)]) :: (y.wp, 110, wpC y nr gw n cw evs) :: (gw, 174, cur) :: (y.bp, 186, pipesA nr hv cl) :: (y.bl, 4, arrB y.lk lk) :: (y.bg, 3, arrI y.gr gr) :: Lr) ⟨evs, E, nr, hv, held⟩) {A0 : Option Addr} {c1 : Nat} (hh : hv aN = .slice A0 0 c1) (ha : aN < nr) : Calls Try.prog 108 #[.pointer (some ⟨y.wp, 0, none⟩), .pointer (some ⟨gw, k * 10, none⟩), .agg #[Value.int .i64 6, .int .i64 (aN : Int), .int .i64 (f2 : Int), .int .i64 (on2 : Int)], .pointer (some ⟨pe, 0, none⟩), .int .i64 on, .func (.func 106) #[] #[.pointer (some ⟨pt, 0, none⟩)]] W fun ev W' => ev = (.returned (.int .i64 on2)) ∧ OM w W' ((pt, 1, #[Value.func (.func 105) #[] #[.pointer (some ⟨pw, 0, none⟩), .pointer (some ⟨pe, 0, none⟩)]]) :: (pe, 37, evC ⟨k, 6, aN, 0, true⟩) :: (pi, 99, ci) :: (pw, 104, #[.pointer (some ⟨y.wp, 0, none⟩)]) :: (y.wp, 110, wpC y nr gw n cw evs) :: (gw, 174, cur) :: (y.bp, 186, pipesA nr hv cl) :: (y.bl, 4, arrB y.lk lk) :: (y.bg, 3, arrI y.gr gr) :: Lr) ⟨evs, E, nr, hv, held⟩ := by
 have g1 : (aN : Int) < nr := by omega
 have g2 : (0 : Int) ≤ aN := by omega
 have HA := Lib.hid ha
 have HH := Lib.hid hh
 clear ha hh
 go_enter Try.func108, Try.ntmps108
 go_wp2_with (first
   | go_big_skip
   | (refine om_box 8 #[Value.int .i64 6, .int .i64 (aN : Int), .int .i64 (f2 : Int), .int .i64 (on2 : Int)] M rfl rfl rfl rfl ?_; clear M; intro V p8 M; simp only [Act.put, kA, kZ, kS]; have c0 : V.cell? ⟨p8, 0, none⟩ = some (.int .i64 6) := (M.own.get 0 rfl).cell 0))
 have cw : ∀ (p : Later V) i, p.1.cell? ⟨y.wp, i, none⟩ = #[Value.pointer (some ⟨y.ps, 0, none⟩), .slice (some ⟨gw, 0, none⟩) n cw, .slice (some ⟨y.bp, 0, none⟩) nr nr, .slice (some ⟨y.bl, 0, none⟩) y.lk y.lk, .slice (some ⟨y.bg, 0, none⟩) y.gr y.gr, .slice (some ⟨y.bc, 0, none⟩) y.ce y.ce, evs][i]? := Later.cell (M.get 5 rfl)
 have ci : ∀ (p : Later V) i, p.1.cell? ⟨p8, i, none⟩ = #[Value.int .i64 6, .int .i64 (aN : Int), .int .i64 (f2 : Int), .int .i64 (on2 : Int)][i]? := Later.cell (M.get 0 rfl)
 have ak := add_zero_ y.bp (aN * 2)
 refine wp_quiet_later (by kernel_rfl) (by kernel_rfl) ?_
 repeat (first | go_big_quiet_skip | go_big_quiet_step (fail))
 refine kq fun p' => ?_
 replace M := M.keeps p'.2
 clear cw ci
 generalize p'.1 = V at M ⊢
 have ch0 : V.cell? ⟨y.bp, aN * 2, none⟩ = some (.slice A0 0 c1) := ((M.get 7 rfl).cell _).trans ((pipesA_hv _ _ _ _ HA.out).trans (by rw [HH.out]))
 have ci0 : V.cell? ⟨p8, 3, none⟩ = some (.int .i64 on2) := (M.get 0 rfl).cell 3
 clear c0
 go_wp2_with (first
   | go_big_skip
   | (refine at_store (.tmp 72) (.const (.bool true)) rfl ?_; refine om_store 2 4 (.bool true) (.tmp 72) (.const (.bool true)) M rfl rfl rfl rfl rfl rfl (by show 4 < 5; omega) rfl rfl (by kernel_rfl) (cs' := evC ⟨k, 6, aN, 0, true⟩) rfl ?_; clear M ci0; intro V M; simp only [kZ, kS] at M; have ci0 : V.cell? ⟨p8, 3, none⟩ = some (.int .i64 on2) := (M.get 0 rfl).cell 3))
 go_ret
 exact ⟨rfl, M.drop_ 1⟩
set_option maxRecDepth 100000 in
set_option maxHeartbeats 1000000 in
theorem sh_6a  (M : OM w W ((pt, 1, #[Value.func (.func 105) #[] #[.pointer (some ⟨pw, 0, none⟩), .pointer (some ⟨pe, 0, none⟩)]]) :: (pe, 37, evC ⟨k, 6, aN, 0, false⟩) :: (pi, 99, ci) :: (pw, 104, #[.pointer (some ⟨y.wp, 0, none⟩)]) :: (y.wp, 110, wpC y nr gw n cw evs) :: (gw, 174, cur) :: (y.bp, 186, pipesA nr hv cl) :: (y.bl, 4, arrB y.lk lk) :: (y.bg, 3, arrI y.gr gr) :: Lr) ⟨evs, E, nr, hv, held⟩) {g off cc : Nat} {x : Int} {l : List Int} (hh : hv aN = .slice (some ⟨g, off, none⟩) (l.length + 1) cc) (hx : held aN = x :: l) (hc : cc = 1) (ha : aN < nr) (hb : bN < 8) (hk : k < nn) (hC : WhoC cur nn rs) : Calls Try.prog 108 #[.pointer (some ⟨y.wp, 0, none⟩), .pointer (some ⟨gw, k * 10, none⟩), .agg #[Value.int .i64 6, .int .i64 (aN : Int), .int .i64 (bN : Int), .int .i64 (f3 : Int)], .pointer (some ⟨pe, 0, none⟩), .int .i64 on, .func (.func 106) #[] #[.pointer (some ⟨pt, 0, none⟩)]] W fun ev W' => ev = (.returned (.int .i64 on)) ∧ ∃ v' cur', WhoC cur' nn (fun j => if j = k then setReg (rs k) bN x else rs j) ∧ cur'.size = cur.size ∧ OM w W' ((pt, 1, #[Value.func (.func 105) #[] #[.pointer (some ⟨pw, 0, none⟩), .pointer (some ⟨pe, 0, none⟩)]]) :: (pe, 37, evC ⟨k, 6, aN, x, false⟩) :: (pi, 99, ci) :: (pw, 104, #[.pointer (some ⟨y.wp, 0, none⟩)]) :: (y.wp, 110, wpC y nr gw n cw evs) :: (gw, 174, cur') :: (y.bp, 186, pipesA nr (updN hv aN v') cl) :: (y.bl, 4, arrB y.lk lk) :: (y.bg, 3, arrI y.gr gr) :: Lr) ⟨evs, E, nr, updN hv aN v', updN held aN l⟩ := by
 have g1 : (aN : Int) < nr := by omega
 have g2 : (0 : Int) ≤ aN := by omega
 have g3 : (bN : Int) < 8 := by omega
 have g4 : (0 : Int) ≤ bN := by omega
 have g5 : (0 : Int) < (l.length + 1 : Nat) := by omega
 have HA := Lib.hid ha
 have HH := Lib.hid hh
 have HX := Lib.hid hx
 have HK := Lib.hid hk
 have HB := Lib.hid hb
 have HC := Lib.hid hC
 clear ha hh hx hb hk hC
 go_enter Try.func108, Try.ntmps108
 go_wp2_with (first
   | go_big_skip
   | (refine om_box 8 #[Value.int .i64 6, .int .i64 (aN : Int), .int .i64 (bN : Int), .int .i64 (f3 : Int)] M rfl rfl rfl rfl ?_; clear M; intro V p8 M; simp only [Act.put, kA, kZ, kS]; have c0 : V.cell? ⟨p8, 0, none⟩ = some (.int .i64 6) := (M.own.get 0 rfl).cell 0))
 have cw : ∀ (p : Later V) i, p.1.cell? ⟨y.wp, i, none⟩ = #[Value.pointer (some ⟨y.ps, 0, none⟩), .slice (some ⟨gw, 0, none⟩) n cw, .slice (some ⟨y.bp, 0, none⟩) nr nr, .slice (some ⟨y.bl, 0, none⟩) y.lk y.lk, .slice (some ⟨y.bg, 0, none⟩) y.gr y.gr, .slice (some ⟨y.bc, 0, none⟩) y.ce y.ce, evs][i]? := Later.cell (M.get 5 rfl)
 have ci : ∀ (p : Later V) i, p.1.cell? ⟨p8, i, none⟩ = #[Value.int .i64 6, .int .i64 (aN : Int), .int .i64 (bN : Int), .int .i64 (f3 : Int)][i]? := Later.cell (M.get 0 rfl)
 have ak := add_zero_ y.bp (aN * 2)
 refine wp_quiet_later (by kernel_rfl) (by kernel_rfl) ?_
 repeat (first | go_big_quiet_skip | go_big_quiet_step (fail))
 refine kq fun p' => ?_
 replace M := M.keeps p'.2
 clear cw ci
 generalize p'.1 = V at M ⊢
 have HQ := Lib.hid (show HRow w.heap.size V (.slice (some ⟨g, off, none⟩) (l.length + 1) cc) (x :: l) from by have h : HRow w.heap.size V (hv aN) (held aN) := M.hr aN HA.out; rw [HX.out] at h; rw [HH.out] at h; exact h)
 have ch0 : V.cell? ⟨y.bp, aN * 2, none⟩ = some (.slice (some ⟨g, off, none⟩) (l.length + 1) cc) := ((M.get 7 rfl).cell _).trans ((pipesA_hv _ _ _ _ HA.out).trans (by rw [HH.out]))
 have cx : V.cell? ⟨g, off, none⟩ = some (.int .i64 x) := HRow.head HQ.out
 clear c0
 go_wp2_with (first
   | go_big_skip
   | (refine at_store (.tmp 83) (.tmp 81) rfl ?_; refine om_store 2 3 (.int .i64 x) (.tmp 83) (.tmp 81) M rfl rfl rfl rfl rfl rfl (by show 3 < 5; omega) rfl rfl (by kernel_rfl) (cs' := evC ⟨k, 6, aN, x, false⟩) rfl ?_; clear M ch0 cx HQ; intro V M; simp only [kZ, kS] at M))
 have ci : ∀ (p : Later V) i, p.1.cell? ⟨p8, i, none⟩ = #[Value.int .i64 6, .int .i64 (aN : Int), .int .i64 (bN : Int), .int .i64 (f3 : Int)][i]? := Later.cell (M.get 0 rfl)
 have ce : ∀ (p : Later V) i, p.1.cell? ⟨pe, i, none⟩ = #[Value.int .i64 (k : Int), .int .i64 6, .int .i64 (aN : Int), .int .i64 x, .bool false][i]? := Later.cell (M.get 2 rfl)
 refine wp_quiet_tail_later 10 (by kernel_rfl) (by kernel_rfl) ?_
 simp only [List.take, List.drop]
 repeat (first | go_big_quiet_skip | go_big_quiet_step (fail))
 refine kq fun p' => ?_
 replace M := M.keeps p'.2
 clear ci ce
 generalize p'.1 = V at M ⊢
 have g6 := hc
 have HC6 := Lib.hid hc
 clear hc
 go_wp2_with (first
   | go_big_skip
   | (refine at_store (.tmp 93) (.tmp 90) rfl ?_; refine om_store 6 (k * 10 + 2 + bN) (.int .i64 x) (.tmp 93) (.tmp 90) M rfl rfl rfl rfl rfl rfl (by have := HC.out.lt HK.out (f := 2 + bN) (by have := HB.out; omega); omega) rfl rfl (by kernel_rfl) rfl ?_; clear M; intro V M; simp only [kZ, kS] at M; have ch0 : V.cell? ⟨y.bp, aN * 2, none⟩ = some (.slice (some ⟨g, off, none⟩) (l.length + 1) cc) := ((M.get 7 rfl).cell _).trans ((pipesA_hv _ _ _ _ HA.out).trans (by rw [HH.out])); have HQ := Lib.hid (show HRow w.heap.size V (.slice (some ⟨g, off, none⟩) (l.length + 1) cc) (x :: l) from by have h : HRow w.heap.size V (hv aN) (held aN) := M.hr aN HA.out; rw [HX.out] at h; rw [HH.out] at h; exact h))
   | (refine at_store (.tmp 101) (.tmp 99) rfl ?_; refine om_store 7 (aN * 2) (.slice (some ⟨g, off, none⟩) l.length 0) (.tmp 101) (.tmp 99) (M.pop HA.out (HRow.pop_sh_6a HC6.out HQ.out) (by show _ = (hv aN).ownBlock; rw [HH.out]; rfl)) rfl rfl rfl rfl rfl rfl (by have := HA.out; rw [pipesA_size]; omega) rfl rfl (by kernel_rfl) (pipesA_setH _ _ _ _ _) ?_; clear M; intro V M; simp only [kZ, kS] at M))
 go_ret
 exact ⟨rfl, _, _, HC.out.set_reg _ HK.out HB.out, by simp, M.drop_ 1⟩
set_option maxRecDepth 100000 in
set_option maxHeartbeats 1000000 in
theorem sh_6b  (M : OM w W ((pt, 1, #[Value.func (.func 105) #[] #[.pointer (some ⟨pw, 0, none⟩), .pointer (some ⟨pe, 0, none⟩)]]) :: (pe, 37, evC ⟨k, 6, aN, 0, false⟩) :: (pi, 99, ci) :: (pw, 104, #[.pointer (some ⟨y.wp, 0, none⟩)]) :: (y.wp, 110, wpC y nr gw n cw evs) :: (gw, 174, cur) :: (y.bp, 186, pipesA nr hv cl) :: (y.bl, 4, arrB y.lk lk) :: (y.bg, 3, arrI y.gr gr) :: Lr) ⟨evs, E, nr, hv, held⟩) {g off cc : Nat} {x : Int} {l : List Int} (hh : hv aN = .slice (some ⟨g, off, none⟩) (l.length + 1) cc) (hx : held aN = x :: l) (hc : 1 < cc) (ha : aN < nr) (hb : bN < 8) (hk : k < nn) (hC : WhoC cur nn rs) : Calls Try.prog 108 #[.pointer (some ⟨y.wp, 0, none⟩), .pointer (some ⟨gw, k * 10, none⟩), .agg #[Value.int .i64 6, .int .i64 (aN : Int), .int .i64 (bN : Int), .int .i64 (f3 : Int)], .pointer (some ⟨pe, 0, none⟩), .int .i64 on, .func (.func 106) #[] #[.pointer (some ⟨pt, 0, none⟩)]] W fun ev W' => ev = (.returned (.int .i64 on)) ∧ ∃ v' cur', WhoC cur' nn (fun j => if j = k then setReg (rs k) bN x else rs j) ∧ cur'.size = cur.size ∧ OM w W' ((pt, 1, #[Value.func (.func 105) #[] #[.pointer (some ⟨pw, 0, none⟩), .pointer (some ⟨pe, 0, none⟩)]]) :: (pe, 37, evC ⟨k, 6, aN, x, false⟩) :: (pi, 99, ci) :: (pw, 104, #[.pointer (some ⟨y.wp, 0, none⟩)]) :: (y.wp, 110, wpC y nr gw n cw evs) :: (gw, 174, cur') :: (y.bp, 186, pipesA nr (updN hv aN v') cl) :: (y.bl, 4, arrB y.lk lk) :: (y.bg, 3, arrI y.gr gr) :: Lr) ⟨evs, E, nr, updN hv aN v', updN held aN l⟩ := by
 have g1 : (aN : Int) < nr := by omega
 have g2 : (0 : Int) ≤ aN := by omega
 have g3 : (bN : Int) < 8 := by omega
 have g4 : (0 : Int) ≤ bN := by omega
 have g5 : (0 : Int) < (l.length + 1 : Nat) := by omega
 have HA := Lib.hid ha
 have HH := Lib.hid hh
 have HX := Lib.hid hx
 have HK := Lib.hid hk
 have HB := Lib.hid hb
 have HC := Lib.hid hC
 clear ha hh hx hb hk hC
 go_enter Try.func108, Try.ntmps108
 go_wp2_with (first
   | go_big_skip
   | (refine om_box 8 #[Value.int .i64 6, .int .i64 (aN : Int), .int .i64 (bN : Int), .int .i64 (f3 : Int)] M rfl rfl rfl rfl ?_; clear M; intro V p8 M; simp only [Act.put, kA, kZ, kS]; have c0 : V.cell? ⟨p8, 0, none⟩ = some (.int .i64 6) := (M.own.get 0 rfl).cell 0))
 have cw : ∀ (p : Later V) i, p.1.cell? ⟨y.wp, i, none⟩ = #[Value.pointer (some ⟨y.ps, 0, none⟩), .slice (some ⟨gw, 0, none⟩) n cw, .slice (some ⟨y.bp, 0, none⟩) nr nr, .slice (some ⟨y.bl, 0, none⟩) y.lk y.lk, .slice (some ⟨y.bg, 0, none⟩) y.gr y.gr, .slice (some ⟨y.bc, 0, none⟩) y.ce y.ce, evs][i]? := Later.cell (M.get 5 rfl)
 have ci : ∀ (p : Later V) i, p.1.cell? ⟨p8, i, none⟩ = #[Value.int .i64 6, .int .i64 (aN : Int), .int .i64 (bN : Int), .int .i64 (f3 : Int)][i]? := Later.cell (M.get 0 rfl)
 have ak := add_zero_ y.bp (aN * 2)
 refine wp_quiet_later (by kernel_rfl) (by kernel_rfl) ?_
 repeat (first | go_big_quiet_skip | go_big_quiet_step (fail))
 refine kq fun p' => ?_
 replace M := M.keeps p'.2
 clear cw ci
 generalize p'.1 = V at M ⊢
 have HQ := Lib.hid (show HRow w.heap.size V (.slice (some ⟨g, off, none⟩) (l.length + 1) cc) (x :: l) from by have h : HRow w.heap.size V (hv aN) (held aN) := M.hr aN HA.out; rw [HX.out] at h; rw [HH.out] at h; exact h)
 have ch0 : V.cell? ⟨y.bp, aN * 2, none⟩ = some (.slice (some ⟨g, off, none⟩) (l.length + 1) cc) := ((M.get 7 rfl).cell _).trans ((pipesA_hv _ _ _ _ HA.out).trans (by rw [HH.out]))
 have cx : V.cell? ⟨g, off, none⟩ = some (.int .i64 x) := HRow.head HQ.out
 clear c0
 go_wp2_with (first
   | go_big_skip
   | (refine at_store (.tmp 83) (.tmp 81) rfl ?_; refine om_store 2 3 (.int .i64 x) (.tmp 83) (.tmp 81) M rfl rfl rfl rfl rfl rfl (by show 3 < 5; omega) rfl rfl (by kernel_rfl) (cs' := evC ⟨k, 6, aN, x, false⟩) rfl ?_; clear M ch0 cx HQ; intro V M; simp only [kZ, kS] at M))
 have ci : ∀ (p : Later V) i, p.1.cell? ⟨p8, i, none⟩ = #[Value.int .i64 6, .int .i64 (aN : Int), .int .i64 (bN : Int), .int .i64 (f3 : Int)][i]? := Later.cell (M.get 0 rfl)
 have ce : ∀ (p : Later V) i, p.1.cell? ⟨pe, i, none⟩ = #[Value.int .i64 (k : Int), .int .i64 6, .int .i64 (aN : Int), .int .i64 x, .bool false][i]? := Later.cell (M.get 2 rfl)
 refine wp_quiet_tail_later 10 (by kernel_rfl) (by kernel_rfl) ?_
 simp only [List.take, List.drop]
 repeat (first | go_big_quiet_skip | go_big_quiet_step (fail))
 refine kq fun p' => ?_
 replace M := M.keeps p'.2
 clear ci ce
 generalize p'.1 = V at M ⊢
 have g6 := hc
 have HC6 := Lib.hid hc
 clear hc
 go_wp2_with (first
   | go_big_skip
   | (refine at_store (.tmp 93) (.tmp 90) rfl ?_; refine om_store 6 (k * 10 + 2 + bN) (.int .i64 x) (.tmp 93) (.tmp 90) M rfl rfl rfl rfl rfl rfl (by have := HC.out.lt HK.out (f := 2 + bN) (by have := HB.out; omega); omega) rfl rfl (by kernel_rfl) rfl ?_; clear M; intro V M; simp only [kZ, kS] at M; have ch0 : V.cell? ⟨y.bp, aN * 2, none⟩ = some (.slice (some ⟨g, off, none⟩) (l.length + 1) cc) := ((M.get 7 rfl).cell _).trans ((pipesA_hv _ _ _ _ HA.out).trans (by rw [HH.out])); have HQ := Lib.hid (show HRow w.heap.size V (.slice (some ⟨g, off, none⟩) (l.length + 1) cc) (x :: l) from by have h : HRow w.heap.size V (hv aN) (held aN) := M.hr aN HA.out; rw [HX.out] at h; rw [HH.out] at h; exact h))
   | (refine at_store (.tmp 101) (.tmp 99) rfl ?_; refine om_store 7 (aN * 2) (.slice (some ⟨g, off + 1, none⟩) l.length (cc - 1)) (.tmp 101) (.tmp 99) (M.pop HA.out (HRow.pop_sh_6b HC6.out HQ.out) (by show _ = (hv aN).ownBlock; rw [HH.out]; rfl)) rfl rfl rfl rfl rfl rfl (by have := HA.out; rw [pipesA_size]; omega) rfl rfl (by kernel_rfl) (pipesA_setH _ _ _ _ _) ?_; clear M; intro V M; simp only [kZ, kS] at M))
 go_ret
 exact ⟨rfl, _, _, HC.out.set_reg _ HK.out HB.out, by simp, M.drop_ 1⟩
end
open Go.RowKit Go.Maps Go.Deep
def InW (w W : World) (S : Sys) (A : Option Addr) (c : Nat) (R : Option Addr) (d : Nat) (y : Ly) (Lr : List Ent) (P : PW) : Prop :=
 ∃ gw cw cur evs hv, OM w W ((y.wp, 110, wpC y S.nr gw P.n cw evs) :: (gw, 174, cur) :: (y.bp, 186, pipesA S.nr hv P.cl) :: (y.bl, 4, arrB y.lk P.lk) :: (y.bg, 3, arrI y.gr P.gr) :: (y.bc, 3, arrI y.ce P.ce) :: (y.ps, 27, sysV S A c R d) :: Lr) ⟨evs, P.ev, S.nr, hv, P.held⟩ ∧ WhoC cur P.n P.rs ∧ P.n ≤ cw ∧ cw ≤ maxLen ∧ cur.size = cw * 10
theorem WhoC.congr {cur : Array Value} {n : Nat} {rs rs' : Nat → Rn} (h : WhoC cur n rs) (e : ∀ k, k < n → rs k = rs' k) : WhoC cur n rs' := fun k hk f hf => by rw [← e k hk]; exact h k hk f hf
open Go.RowKit Go.Maps Go.Deep
theorem Own.join {w W W' : World} {L L' : List Ent} (O : Own w W [] L) (O' : Own W W' [] L') : Own w W' [] (L' ++ L) := by
 have far : ∀ q ∈ L', W.heap.size ≤ q.1 := fun q hq => by
   rcases Nat.lt_or_ge q.1 W.heap.size with h | h
   · exact absurd (O'.new q hq h) (by simp)
   · exact h
 have low : ∀ q ∈ L, q.1 < W.heap.size := fun q hq => (O.blk q hq).lt
 refine ⟨O.keep.trans O'.keep (by simp), fun q hq => ?_, fun q hq hlt => ?_, ?_⟩
 · rcases List.mem_append.1 hq with hq | hq
   · exact O'.blk q hq
   · exact (O.blk q hq).keeps O'.keep (by simp)
 · rcases List.mem_append.1 hq with hq | hq
   · have h1 := far q hq
     have h2 := O.keep.size
     omega
   · exact O.new q hq hlt
 · rw [List.map_append, List.nodup_append]
   refine ⟨O'.nd, O.nd, fun x hx y hy => ?_⟩
   obtain ⟨q, hq, rfl⟩ := List.mem_map.1 hx
   obtain ⟨p, hp, rfl⟩ := List.mem_map.1 hy
   have h1 := far q hq
   have h2 := low p hp
   omega
theorem made_R : madeCells (Value.agg (rnC ⟨0, 0, fun _ => 0⟩)).cells 10 = rnC ⟨0, 0, fun _ => 0⟩ := by kernel_rfl
theorem made_P (n : Nat) : madeCells (Value.agg #[.slice none 0 0, .bool false]).cells (n * 2) = pipesA n (fun _ => .slice none 0 0) (fun _ => false) := by
 apply Array.ext_getElem?
 intro j
 by_cases hj : j < n * 2
 · have h2 : j % 2 = 0 ∨ j % 2 = 1 := by omega
   rcases h2 with h2 | h2 <;> simp [madeCells, pipesA, hj, h2, Value.cells]
 · simp [madeCells, pipesA, hj]
theorem made_I' (n : Nat) : madeCells (Value.int .i64 0).cells (n * 1) = arrI n fun _ => 0 := by rw [Nat.mul_one]; exact made_I n
theorem made_B' (n : Nat) : madeCells (Value.bool false).cells (n * 1) = arrB n fun _ => false := by rw [Nat.mul_one]; exact made_B n
def TYf : Nat → Nat
 | 0 => 174
 | 1 => 186
 | 2 => 4
 | _ => 3
def CSf (S : Sys) (lk gr ce : Nat) : Nat → Array Value
 | 0 => rnC ⟨0, 0, fun _ => 0⟩
 | 1 => pipesA S.nr (fun _ => .slice none 0 0) (fun _ => false)
 | 2 => arrB lk fun _ => false
 | 3 => arrI gr fun _ => 0
 | _ => arrI ce fun _ => 0
def NNf (S : Sys) (lk gr ce : Nat) : Nat → Nat
 | 0 => 1
 | 1 => S.nr
 | 2 => lk
 | 3 => gr
 | _ => ce
def TMf (S : Sys) (lk gr ce : Nat) (j : Nat) (g : Option Nat) : Value := match g with | none => undef | some b => .slice (some ⟨b, 0, none⟩) (NNf S lk gr ce j) (NNf S lk gr ce j)
structure MK (w : World) (S : Sys) (lk gr ce : Nat) (gs : Nat → Option Nat) (u : World) : Prop where
 keep : Keeps w u []
 blk : ∀ j, j < 5 → ∀ g, gs j = some g → w.heap.size ≤ g ∧ Blk u g (TYf j) (CSf S lk gr ce j)
 nd : ∀ i j, i < 5 → j < 5 → i ≠ j → ∀ g, gs i = some g → gs j ≠ some g
theorem MK.add {w u v : World} {S : Sys} {lk gr ce : Nat} {gs : Nat → Option Nat} (h : MK w S lk gr ce gs u) (j : Nat) (hj : gs j = none) (k : Keeps u v []) (_hs : v.heap.size = u.heap.size + 1) (b : Blk v u.heap.size (TYf j) (CSf S lk gr ce j)) : MK w S lk gr ce (updN gs j (some u.heap.size)) v := by
 refine ⟨h.keep.trans k (by simp), fun i hi g hg => ?_, fun i i' hi hi' hne g hg hg' => ?_⟩
 · by_cases e : i = j
   · subst e
     rw [updN_same] at hg
     cases hg
     exact ⟨h.keep.size, b⟩
   · rw [updN_other _ _ _ _ e] at hg
     obtain ⟨h1, h2⟩ := h.blk i hi g hg
     exact ⟨h1, h2.keeps k (by simp)⟩
 · have old : ∀ i, i < 5 → i ≠ j → updN gs j (some u.heap.size) i = some g → g < u.heap.size := fun i hi e hg => by
     rw [updN_other _ _ _ _ e] at hg
     exact (h.blk i hi g hg).2.lt
   by_cases e : i = j
   · subst e
     rw [updN_same] at hg
     cases hg
     exact absurd (old i' hi' (fun e => hne e.symm) hg') (by omega)
   · by_cases e' : i' = j
     · subst e'
       rw [updN_same] at hg'
       cases hg'
       exact absurd (old i hi e hg) (by omega)
     · rw [updN_other _ _ _ _ e] at hg
       rw [updN_other _ _ _ _ e'] at hg'
       exact h.nd i i' hi hi' hne g hg hg'
theorem MK.owns {w u : World} {S : Sys} {lk gr ce : Nat} {gs : Nat → Option Nat} (h : MK w S lk gr ce gs u) {g0 g1 g2 g3 g4 : Nat} (e0 : gs 0 = some g0) (e1 : gs 1 = some g1) (e2 : gs 2 = some g2) (e3 : gs 3 = some g3) (e4 : gs 4 = some g4) :
   Own w u [] [(g0, 174, rnC ⟨0, 0, fun _ => 0⟩), (g1, 186, pipesA S.nr (fun _ => .slice none 0 0) (fun _ => false)), (g2, 4, arrB lk fun _ => false), (g3, 3, arrI gr fun _ => 0), (g4, 3, arrI ce fun _ => 0)] := by
 obtain ⟨a0, b0⟩ := h.blk 0 (by omega) _ e0
 obtain ⟨a1, b1⟩ := h.blk 1 (by omega) _ e1
 obtain ⟨a2, b2⟩ := h.blk 2 (by omega) _ e2
 obtain ⟨a3, b3⟩ := h.blk 3 (by omega) _ e3
 obtain ⟨a4, b4⟩ := h.blk 4 (by omega) _ e4
 have n : ∀ i j, i < 5 → j < 5 → i ≠ j → ∀ g g', gs i = some g → gs j = some g' → g ≠ g' := fun i j hi hj hne g g' hg hg' e => h.nd i j hi hj hne g hg (by rw [e]; exact hg')
 refine ⟨h.keep, fun q hq => ?_, fun q hq hlt => ?_, ?_⟩
 · simp only [List.mem_cons, List.not_mem_nil, or_false] at hq
   rcases hq with rfl | rfl | rfl | rfl | rfl
   · exact b0
   · exact b1
   · exact b2
   · exact b3
   · exact b4
 · simp only [List.mem_cons, List.not_mem_nil, or_false] at hq
   rcases hq with rfl | rfl | rfl | rfl | rfl <;> simp only at hlt <;> omega
 · have n01 := n 0 1 (by omega) (by omega) (by omega) _ _ e0 e1
   have n02 := n 0 2 (by omega) (by omega) (by omega) _ _ e0 e2
   have n03 := n 0 3 (by omega) (by omega) (by omega) _ _ e0 e3
   have n04 := n 0 4 (by omega) (by omega) (by omega) _ _ e0 e4
   have n12 := n 1 2 (by omega) (by omega) (by omega) _ _ e1 e2
   have n13 := n 1 3 (by omega) (by omega) (by omega) _ _ e1 e3
   have n14 := n 1 4 (by omega) (by omega) (by omega) _ _ e1 e4
   have n23 := n 2 3 (by omega) (by omega) (by omega) _ _ e2 e3
   have n24 := n 2 4 (by omega) (by omega) (by omega) _ _ e2 e4
   have n34 := n 3 4 (by omega) (by omega) (by omega) _ _ e3 e4
   simp [*]
section
variable {w : World} {S : Sys} {A : Option Addr} {c : Nat} {R : Option Addr} {d : Nat} {ps lk gr ce : Nat}
set_option maxRecDepth 100000 in
set_option maxHeartbeats 4000000 in
theorem begun_any (hB : Blk w ps 27 (sysV S A c R d)) (hnr : S.nr ≤ 1000) (hlk : S.lk = (lk : Int)) (hgr : S.gr = (gr : Int)) (hce : S.ce = (ce : Int)) (l1 : lk ≤ 1000) (l2 : gr ≤ 1000) (l3 : ce ≤ 1000) : Calls Try.prog 56 #[.pointer (some ⟨ps, 0, none⟩)] w fun e w' =>
   ∃ wp gw bp bl bg bc, e = .returned (.pointer (some ⟨wp, 0, none⟩)) ∧ Own w w' [] [(wp, 110, wpC ⟨ps, wp, bp, bl, bg, bc, lk, gr, ce⟩ S.nr gw 1 1 (.slice none 0 0)), (gw, 174, rnC ⟨0, 0, fun _ => 0⟩), (bp, 186, pipesA S.nr (fun _ => .slice none 0 0) (fun _ => false)), (bl, 4, arrB lk fun _ => false), (bg, 3, arrI gr fun _ => 0), (bc, 3, arrI ce fun _ => 0)] := by
 have HS := Lib.hid (fun u (k : Keeps w u []) i => ((hB.keeps k (by simp)).cell i).trans (show (sysV S A c R d)[i]? = #[Value.slice A S.np c, .slice R S.nr d, .int .i64 (gr : Int), .int .i64 (lk : Int), .int .i64 (ce : Int)][i]? by unfold sysV; rw [hlk, hgr, hce]))
 clear hB hlk hgr hce
 go_enter Try.func56, Try.ntmps56
 go_wp2
 refine wp_headH (S := fun u => ∀ i, u.cell? ⟨ps, i, none⟩ = #[Value.slice A S.np c, .slice R S.nr d, .int .i64 (gr : Int), .int .i64 (lk : Int), .int .i64 (ce : Int)][i]?) 23 (by kernel_rfl) (by kernel_rfl) ?_
 have HK := Lib.hid (show Keeps w w.drew [] from (Keeps.refl _ _).drew)
 refine ah_take (f := 5) (L' := #[true, false, true, true, true, true, true, false, true, true, true, true, false, true, true, true, true, false, true, true, true, true, false, false, false, false]) (HS.out _ HK.out) [0, 2, 3, 4, 5, 6, 8, 9, 10, 11, 13, 14, 15, 16, 18, 19, 20, 21] [_, _, _, _, _, _, _, _, _, _, _, _, _, _, _, _, _, _] _ _ rfl (by decide) (by kernel_rfl) ?_
 simp only [List.getElem_toArray, List.getElem_cons_zero, List.getElem_cons_succ]
 repeat (first
   | (refine take_pure (v := ?_) (by rfl) ?_ ?_; rotate_left; (· (intro w hSw; go_simp; try with_reducible rfl)); simp only [Act.put, kA, kZ, kS]))
 refine takeA_done ?_
 refine ah_makes 5 (fun j => match j with | 0 => 1 | 1 => 7 | 2 => 12 | 3 => 17 | _ => 22) (fun b => #[true, b 0, true, true, true, true, true, b 1, true, true, true, true, b 2, true, true, true, true, b 3, true, true, true, true, b 4, false, false, false]) (fun gs => { tmps := #[Value.pointer (some ⟨ps, 0, none⟩), undef, Value.pointer none, Value.pointer (some ⟨ps, 0, none⟩), TMf S lk gr ce 0 (gs 0), Value.pointer (some ⟨ps, 0, none⟩), Value.pointer (some ⟨ps, 0, none⟩), Value.pointer (some ⟨ps, 1, none⟩), Value.slice R S.nr d, Value.int .i64 (S.nr : Int), TMf S lk gr ce 1 (gs 1), Value.pointer (some ⟨ps, 0, none⟩), Value.pointer (some ⟨ps, 0, none⟩), Value.pointer (some ⟨ps, 3, none⟩), Value.int .i64 (lk : Int), TMf S lk gr ce 2 (gs 2), Value.pointer (some ⟨ps, 0, none⟩), Value.pointer (some ⟨ps, 0, none⟩), Value.pointer (some ⟨ps, 2, none⟩), Value.int .i64 (gr : Int), TMf S lk gr ce 3 (gs 3), Value.pointer (some ⟨ps, 0, none⟩), Value.pointer (some ⟨ps, 0, none⟩), Value.pointer (some ⟨ps, 4, none⟩), Value.int .i64 (ce : Int), TMf S lk gr ce 4 (gs 4), undef, undef], defers := [] }) (MK w S lk gr ce) (fun j hj => ?_) (fun b hb => ?_) (fun b j hj => ?_) (fun gs u h => HS.out u h.keep) (fun j hj => ?_) (fun gs u hall h => ?_) 5 (fun _ => none) _ rfl ⟨HK.out, fun j hj g h => (by cases h), fun i j _ _ _ g h => (by cases h)⟩
 · match j, hj with
   | 0, _ => decide
   | 1, _ => decide
   | 2, _ => decide
   | 3, _ => decide
   | 4, _ => decide
 · rw [show List.range 5 = [0, 1, 2, 3, 4] from rfl] at hb ⊢
   simp only [List.filter_cons, List.filter_nil] at hb ⊢
   generalize b 0 = b0 at hb ⊢
   generalize b 1 = b1 at hb ⊢
   generalize b 2 = b2 at hb ⊢
   generalize b 3 = b3 at hb ⊢
   generalize b 4 = b4 at hb ⊢
   cases b0 <;> cases b1 <;> cases b2 <;> cases b3 <;> cases b4 <;> first | (exact absurd rfl hb) | kernel_rfl
 · match j, hj with
   | 0, _ => simp [updN]
   | 1, _ => simp [updN]
   | 2, _ => simp [updN]
   | 3, _ => simp [updN]
   | 4, _ => simp [updN]
 · match j, hj with
   | 0, _ =>
     refine ⟨_, rfl, fun gs u K' HK hnone h => ?_⟩
     refine wpList_make 4 107 174 10 1 10 80 (.agg (rnC ⟨0, 0, fun _ => 0⟩)) rfl rfl rfl rfl Try.underlying107 (by kernel_rfl) (by decide) (by first | omega | decide) rfl fun v kp hsz hB => ?_
     have hA := h v u.heap.size (HK.add 0 hnone kp hsz (by rw [made_R] at hB; exact hB))
     simpa [Act.put, updN, TMf, NNf] using hA
   | 1, _ =>
     refine ⟨_, rfl, fun gs u K' HK hnone h => ?_⟩
     refine wpList_make 10 108 186 (S.nr * 2) S.nr 2 32 (.agg #[.slice none 0 0, .bool false]) rfl rfl rfl rfl Try.underlying108 (by kernel_rfl) (by decide) (by first | omega | decide) rfl fun v kp hsz hB => ?_
     have hA := h v u.heap.size (HK.add 1 hnone kp hsz (by rw [made_P S.nr] at hB; exact hB))
     simpa [Act.put, updN, TMf, NNf] using hA
   | 2, _ =>
     refine ⟨_, rfl, fun gs u K' HK hnone h => ?_⟩
     refine wpList_make 15 41 4 (lk * 1) lk 1 1 (.bool false) rfl rfl rfl rfl Try.underlying41 (by kernel_rfl) (by decide) (by first | omega | decide) rfl fun v kp hsz hB => ?_
     have hA := h v u.heap.size (HK.add 2 hnone kp hsz (by rw [made_B' lk] at hB; exact hB))
     simpa [Act.put, updN, TMf, NNf] using hA
   | 3, _ =>
     refine ⟨_, rfl, fun gs u K' HK hnone h => ?_⟩
     refine wpList_make 20 25 3 (gr * 1) gr 1 8 (.int .i64 0) rfl rfl rfl rfl Try.underlying25 (by kernel_rfl) (by decide) (by first | omega | decide) rfl fun v kp hsz hB => ?_
     have hA := h v u.heap.size (HK.add 3 hnone kp hsz (by rw [made_I' gr] at hB; exact hB))
     simpa [Act.put, updN, TMf, NNf] using hA
   | 4, _ =>
     refine ⟨_, rfl, fun gs u K' HK hnone h => ?_⟩
     refine wpList_make 25 25 3 (ce * 1) ce 1 8 (.int .i64 0) rfl rfl rfl rfl Try.underlying25 (by kernel_rfl) (by decide) (by first | omega | decide) rfl fun v kp hsz hB => ?_
     have hA := h v u.heap.size (HK.add 4 hnone kp hsz (by rw [made_I' ce] at hB; exact hB))
     simpa [Act.put, updN, TMf, NNf] using hA
 · obtain ⟨g0, e0⟩ := Option.isSome_iff_exists.1 (hall 0 (by omega))
   obtain ⟨g1, e1⟩ := Option.isSome_iff_exists.1 (hall 1 (by omega))
   obtain ⟨g2, e2⟩ := Option.isSome_iff_exists.1 (hall 2 (by omega))
   obtain ⟨g3, e3⟩ := Option.isSome_iff_exists.1 (hall 3 (by omega))
   obtain ⟨g4, e4⟩ := Option.isSome_iff_exists.1 (hall 4 (by omega))
   simp only [e0, e1, e2, e3, e4, Option.isSome_some, TMf, NNf]
   have O := h.owns e0 e1 e2 e3 e4
   refine ah_tail (by kernel_rfl) ?_
   simp only [List.drop]
   go_wp2_with (first
     | (refine wpList_const 26 (.agg (wpC ⟨ps, 0, g1, g2, g3, g4, lk, gr, ce⟩ S.nr g0 1 1 (.slice none 0 0))) rfl rfl (fun _ => by kernel_rfl) ?_; simp only [Act.put, kA, kZ, kS])
     | (refine own_box 27 _ O rfl rfl rfl rfl ?_; clear O; intro W wp O; simp only [Act.put, kA, kZ, kS])
     | go_big_skip)
   refine np_intro ?_
   go_wp2
   go_ret
   exact ⟨wp, g0, g1, g2, g3, g4, rfl, O⟩
end
open Go.RowKit Go.Maps Go.Deep
structure Sees (base : Nat) (W : World) (S : Sys) (A : Option Addr) (c : Nat) (R : Option Addr) (d : Nat) (y : Ly) (P : PW) (gw cw : Nat) (cur : Array Value) (evs : Value) (hv : Nat → Value) : Prop where
 wp : Blk W y.wp 110 (wpC y S.nr gw P.n cw evs)
 who : Blk W gw 174 cur
 bp : Blk W y.bp 186 (pipesA S.nr hv P.cl)
 bl : Blk W y.bl 4 (arrB y.lk P.lk)
 bg : Blk W y.bg 3 (arrI y.gr P.gr)
 ps : Blk W y.ps 27 (sysV S A c R d)
 sin : SysIn W S A c R d
 rel : WhoC cur P.n P.rs
 held : ∀ c, c < S.nr → HRow base W (hv c) (P.held c)
theorem Mint.apart {base : Nat} {W : World} {v : Value} {xs : List Int} (h : Mint base W v xs) {g t : Nat} {cs : Array Value} (hB : Blk W g t cs) (ht : t ≠ 3) : ∀ b, v.ownBlock = some b → b ∉ [g] := fun b hb hm => by
 obtain ⟨_, _, cur, hcur⟩ := h.own hb
 obtain rfl : b = g := by simpa using hm
 rw [Blk, hcur] at hB
 injection hB with hB
 injection hB with _ h1 _
 exact ht h1.symm
section
variable {base : Nat} {w W : World} {S : Sys} {A : Option Addr} {c : Nat} {R : Option Addr} {d : Nat} {y : Ly} {P : PW} {gw cw : Nat} {cur : Array Value} {evs : Value} {hv : Nat → Value}
theorem Sees.kept {u : World} (h : Sees base W S A c R d y P gw cw cur evs hv) (k : Keeps W u []) : Sees base u S A c R d y P gw cw cur evs hv :=
 ⟨h.wp.keeps k (by simp), h.who.keeps k (by simp), h.bp.keeps k (by simp), h.bl.keeps k (by simp), h.bg.keeps k (by simp), h.ps.keeps k (by simp), h.sin.kept k, h.rel, fun c hc => (h.held c hc).keeps k (by simp)⟩
def readyI (S : Sys) (P : PW) (m : Nat) : List Int := (readyN S P m).map fun (x : Nat) => (x : Int)
theorem readyI_length (S : Sys) (P : PW) (m : Nat) : (readyI S P m).length ≤ m := by unfold readyI; rw [List.length_map]; exact readyN_length S P m
set_option maxRecDepth 100000 in
set_option maxHeartbeats 2000000 in
theorem ready_any (h : Sees base w S A c R d y P gw cw cur evs hv) (hvd : validB S = true) (hr : RInv S P) (hlk : S.lk = (y.lk : Int)) (hgr : S.gr = (y.gr : Int)) (hn : P.n ≤ 100000) : Calls Try.prog 90 #[.pointer (some ⟨y.wp, 0, none⟩)] w fun e w' =>
   (∃ v, e = .returned (.tuple #[v, .bool (endedN S P P.n)]) ∧ Mint w.heap.size w' v (readyI S P P.n)) ∧ Keeps w w' [] := by
 have O := Own.start w []
 have HN := Lib.hid (fun u (K : Keeps w u []) k (hk : k < P.n) => wnext_any (h.kept K).wp (h.kept K).who (h.kept K).ps (h.kept K).sin h.rel hk (hr k hk))
 have HC := Lib.hid (fun u (K : Keeps w u []) k f (hk : k < P.n) (hf : instP S (P.rs k) = some f) => wcan_any (h.kept K).wp (h.kept K).bp (h.kept K).bl (h.kept K).bg (h.kept K).ps (h.kept K).sin (h.kept K).held hlk hgr f (right_of hvd (hr k hk) hf))
 have c1 : w.cell? ⟨y.wp, 1, none⟩ = some (.slice (some ⟨gw, 0, none⟩) P.n cw) := h.wp.cell 1
 have HW := Lib.hid h.wp
 clear h hvd hr hlk hgr
 have HR := Lib.hid (fun m => readyI_length S P m)
 have HRS := Lib.hid (show ∀ k, readyI S P (k + 1) = readyI S P k ++ (match instP S (P.rs k) with | some f => if canP S P f = true then [(k : Int)] else [] | none => []) from fun k => by
   unfold readyI
   simp only [readyN, List.map_append]
   congr 1
   cases instP S (P.rs k) with
   | none => rfl
   | some f => by_cases hx : canP S P f = true <;> simp [hx])
 have HES := Lib.hid (show ∀ k, endedN S P (k + 1) = (endedN S P k && (instP S (P.rs k)).isNone) from fun k => rfl)
 have HR0 := Lib.hid (show readyI S P 0 = [] from rfl)
 have HE0 := Lib.hid (show endedN S P 0 = true from rfl)
 generalize readyI S P = rd at HR HRS HR0 ⊢
 generalize endedN S P = en at HES HE0 ⊢
 generalize hPn : P.n = n at *
 clear hPn
 have g0 : n ≤ 100000 := hn
 clear hn
 go_enter Try.func90, Try.ntmps90
 go_wp2
 clear c1
 go_loopw [14, 4, 5] (fun i v b wr => ∃ k : Nat, k ≤ n ∧ i = .int .i64 k ∧ b = .bool (en k) ∧ Own w wr [] [] ∧ Mint w.heap.size wr v (rd k)) (fun i _ _ _ => n - (intOf i).toNat)
 case atStart => exact ⟨0, by omega, rfl, by rw [HE0.out], O, by rw [HR0.out]; exact Mint.nil _ _⟩
 case round =>
   obtain ⟨k, hk, rfl, rfl, O, M⟩ := hrel
   by_cases hlt : k < n
   · have g1 : ((k : Int)) < n := by omega
     have g2 : (0 : Int) ≤ k := by omega
     have c1 : wr.cell? ⟨y.wp, 1, none⟩ = some (.slice (some ⟨gw, 0, none⟩) n cw) := (HW.out.keeps O.keep (by simp)).cell 1
     have ak := add_zero_ gw (k * 10)
     cases hi : instP S (P.rs k) with
     | none =>
       have HR1 := Lib.hid (show rd (k + 1) = rd k by rw [HRS.out, hi]; simp)
       have HE1 := Lib.hid (show en (k + 1) = en k by rw [HES.out, hi]; simp)
       have HNk := Lib.hid (show ∀ u, Keeps w u [] → Calls Try.prog 103 #[.pointer (some ⟨y.wp, 0, none⟩), .pointer (some ⟨gw, k * 10, none⟩)] u fun e W' => e = .returned (.tuple #[.agg (instC fun _ => 0), .bool false]) ∧ Keeps u W' [] from fun u K => by have := HN.out u K k hlt; rwa [hi] at this)
       clear hi
       go_wp2_with (first
         | go_big_skip
         | (go_at_call 103; refine (HNk.out _ O.keep).mono ?_; rintro e W ⟨rfl, K⟩; replace O := O.keeps K; replace M := M.keeps K (by simp); clear K c1)
         | (refine own_allocK 7 (instC fun _ => 0) O rfl rfl rfl (fun _ => by kernel_rfl) ?_; clear O; intro W a7 O K1 hg; replace M := M.keeps K1 (by simp); clear K1 hg; simp only [Act.put, kA, kZ, kS])
         | (refine own_store_rowK 0 (.tmp 7) (.tmp 26) (cs' := instC fun _ => 0) O rfl rfl rfl rfl rfl rfl (by kernel_rfl) (by rfl) (instC_cell _) ?_; have HA := Lib.hid (M.apart (O.get 0 rfl) (by decide)); clear O; intro W O K1; replace M := M.keeps K1 HA.out; clear K1 HA; simp only [kZ] at O))
       go_roundw
       case rel => exact ⟨k + 1, by omega, by go_num, by rw [HE1.out], O.drop_ 1, by rw [HR1.out]; exact M⟩
       case measure => (simp [intOf] <;> omega)
     | some f =>
       have HNk := Lib.hid (show ∀ u, Keeps w u [] → Calls Try.prog 103 #[.pointer (some ⟨y.wp, 0, none⟩), .pointer (some ⟨gw, k * 10, none⟩)] u fun e W' => e = .returned (.tuple #[.agg (instC f), .bool true]) ∧ Keeps u W' [] from fun u K => by have := HN.out u K k hlt; rwa [hi] at this)
       have HE1 := Lib.hid (show en (k + 1) = false by rw [HES.out, hi]; simp)
       have HCk := Lib.hid (fun u K => HC.out u K k f hlt hi)
       have HR1 := Lib.hid (show rd (k + 1) = rd k ++ (if canP S P f = true then [(k : Int)] else []) by rw [HRS.out, hi])
       clear hi
       generalize canP S P f = b at HCk HR1
       cases b with
       | false =>
         go_wp2_with (first
         | go_big_skip
         | (go_at_call 103; refine (HNk.out _ O.keep).mono ?_; rintro e W ⟨rfl, K⟩; replace O := O.keeps K; replace M := M.keeps K (by simp); clear K c1)
         | (refine own_allocK 7 (instC fun _ => 0) O rfl rfl rfl (fun _ => by kernel_rfl) ?_; clear O; intro W a7 O K1 hg; replace M := M.keeps K1 (by simp); clear K1 hg; simp only [Act.put, kA, kZ, kS])
         | (refine own_store_rowK 0 (.tmp 7) (.tmp 26) (cs' := instC f) O rfl rfl rfl rfl rfl rfl (by kernel_rfl) (by rfl) (instC_cell _) ?_; have HA := Lib.hid (M.apart (O.get 0 rfl) (by decide)); clear O; intro W O K1; replace M := M.keeps K1 HA.out; clear K1 HA; simp only [kZ] at O)
         | (refine own_load 31 0 O rfl rfl rfl rfl rfl Try.underlying99 rfl (by kernel_rfl) ?_; simp only [Act.put, kA, kZ, kS])
         | (go_at_call 104; refine (HCk.out _ O.keep).mono ?_; rintro e W ⟨rfl, K⟩; replace O := O.keeps K; replace M := M.keeps K (by simp); clear K))
         go_roundw
         case rel => exact ⟨k + 1, by omega, by go_num, by rw [HE1.out], O.drop_ 1, by rw [HR1.out]; simpa using M⟩
         case measure => (simp [intOf] <;> omega)
       | true =>
         go_wp2_with (first
         | go_big_skip
         | (go_at_call 103; refine (HNk.out _ O.keep).mono ?_; rintro e W ⟨rfl, K⟩; replace O := O.keeps K; replace M := M.keeps K (by simp); clear K c1)
         | (refine own_allocK 7 (instC fun _ => 0) O rfl rfl rfl (fun _ => by kernel_rfl) ?_; clear O; intro W a7 O K1 hg; replace M := M.keeps K1 (by simp); clear K1 hg; simp only [Act.put, kA, kZ, kS])
         | (refine own_store_rowK 0 (.tmp 7) (.tmp 26) (cs' := instC f) O rfl rfl rfl rfl rfl rfl (by kernel_rfl) (by rfl) (instC_cell _) ?_; have HA := Lib.hid (M.apart (O.get 0 rfl) (by decide)); clear O; intro W O K1; replace M := M.keeps K1 HA.out; clear K1 HA; simp only [kZ] at O)
         | (refine own_load 31 0 O rfl rfl rfl rfl rfl Try.underlying99 rfl (by kernel_rfl) ?_; simp only [Act.put, kA, kZ, kS])
         | (go_at_call 104; refine (HCk.out _ O.keep).mono ?_; rintro e W ⟨rfl, K⟩; replace O := O.keeps K; replace M := M.keeps K (by simp); clear K)
         | (refine own_lit1 35 (k : Int) O rfl rfl rfl rfl ?_; clear O; intro W gl O K1 hg; replace M := M.keeps K1 (by simp); clear K1 hg; simp only [Act.put, kA, kZ, kS])
         | (at_builtin; (refine own_app w.heap.size _ (rd k) (k : Int) gl (.tmp 33) (.tmp 35) (O.drop_ 2) M rfl rfl rfl rfl ((O.get 0 rfl).cell 0) rfl (by simp) (by have := HR.out k; omega) ?_; clear O M; intro v1 W O M; simp only [Act.put, kA, kZ, kS])))
         go_roundw
         case rel => exact ⟨k + 1, by omega, by go_num, by rw [HE1.out], O, by rw [HR1.out]; simpa using M⟩
         case measure => (simp [intOf] <;> omega)
   · obtain rfl : k = n := by omega
     go_wp2
     go_returns
     exact ⟨⟨_, rfl, M⟩, O.keep⟩
end
end Go.Proofs.Ytakmcpadkanggaa
