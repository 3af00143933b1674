/-
  Rows of integers that a call has made; alikes; who holds a lock (quernref14.holder).
-/
import Derived.Test.YtakmcpadkanggaaT13
namespace Go.Proofs.Ytakmcpadkanggaa
open Go.RowKit Go.Maps Go.Deep

/-- v is a row of these numbers, of the call's own making (from block base on). -/
def Mint (base : Nat) (W : World) (v : Value) (xs : List Int) : Prop := W.ownsRow base 3 1 v xs.length (xs.map fun x => Value.int .i64 x)
theorem Mint.nil (base : Nat) (W : World) : Mint base W (.slice none 0 0) [] := World.ownsRow_nil W base 3 1
theorem Mint.own {base : Nat} {W : World} {v : Value} {xs : List Int} (h : Mint base W v xs) {g : Nat} (hg : v.ownBlock = some g) : base ≤ g ∧ g < W.heap.size ∧ ∃ cur, Blk W g 3 cur := by
  have hl := h.lt g hg
  refine ⟨hl.1, hl.2, ?_⟩
  rcases h.2 with ⟨rfl, _⟩ | ⟨g', cap, cur, rfl, _, hb, _⟩
  · cases hg
  · simp [Value.ownBlock] at hg
    subst hg
    exact ⟨cur, hb⟩
theorem Mint.keeps {base : Nat} {W u : World} {v : Value} {xs : List Int} {S : List Nat} (h : Mint base W v xs) (k : Keeps W u S) (hS : ∀ g, v.ownBlock = some g → g ∉ S) : Mint base u v xs := by
  refine ⟨h.1, ?_⟩
  rcases h.2 with hn | ⟨g, cap, cur, rfl, hb, hgg, rest⟩
  · exact .inl hn
  · refine .inr ⟨g, cap, cur, rfl, hb, ?_, rest⟩
    rw [k.block g (Array.getElem?_eq_some_iff.1 hgg).1 (hS g rfl)]
    exact hgg
/-- A slice of these numbers. -/
def IntL (W : World) (v : Value) (xs : List Int) : Prop := ∃ A c, v = .slice A xs.length c ∧ (0 < xs.length → ∃ ad, A = some ad ∧ ad.block < W.heap.size ∧ ∀ j, j < xs.length → W.cell? (ad.add j) = some (.int .i64 (xs.getD j 0)))
theorem Mint.list {base : Nat} {W : World} {v : Value} {xs : List Int} (h : Mint base W v xs) : IntL W v xs := by
  have hc := fun g hg j u hu => h.cells (g := g) hg j u hu
  have hl := h.lt
  rcases h.2 with ⟨rfl, h0⟩ | ⟨g, cap, cur, rfl, _⟩
  · have : xs = [] := List.eq_nil_of_length_eq_zero h0
    subst this
    exact ⟨none, 0, rfl, fun h => by simp at h⟩
  · refine ⟨_, cap, rfl, fun _ => ⟨_, rfl, (hl g rfl).2, fun j hj => hc g rfl j _ ?_⟩⟩
    simp [hj]
theorem IntL.kept {w u : World} {v : Value} {xs : List Int} (h : IntL w v xs) (k : Keeps w u []) : IntL u v xs := by
  obtain ⟨A, c, e, hx⟩ := h
  refine ⟨A, c, e, fun hn => ?_⟩
  obtain ⟨ad, e, hb, hc⟩ := hx hn
  exact ⟨ad, e, by have := k.size; omega, fun j hj => by rw [k.cellAt (by rw [add_block]; exact hb) (by simp)]; exact hc j hj⟩
theorem info3 : ∃ i, Try.prog.info? 3 = some i ∧ i.zero = some (.int .i64 0) ∧ i.size = 1 ∧ i.bytes = 8 := by
  obtain ⟨i, hi, he⟩ := Option.map_eq_some_iff.1 info3'
  simp only [Prod.mk.injEq] at he
  exact ⟨i, hi, he.1, he.2.1, he.2.2⟩
section
variable {ops : Array Oper} {rest : List Oper} {o : Oper} {a : Act} {w W : World} {Q : Exit → Act → World → Prop}
theorem app_one (base : Nat) (v : Value) (xs : List Int) (x : Int) (gl : Nat) (s z : Operand) (hM : Mint base W v xs) (hb : base ≤ W.heap.size) (hgd : o.guard = none) (ho : o.op = .call { callee := .builtin .append, args := #[s, z], argTypes := #[25, 25] })
    (hs : a.eval s = v) (hz' : a.eval z = .slice (some ⟨gl, 0, none⟩) 1 1) (hc : W.cell? ⟨gl, 0, none⟩ = some (.int .i64 x)) (hn : xs.length ≤ 1000000)
    (h : ∀ v' u, W.grownBy u v.ownBlock → Mint base u v' (xs ++ [x]) → wpList Try.prog ops Q rest (a.put o.dst v') u) : wpList Try.prog ops Q (o :: rest) a W := by
  obtain ⟨i, hi, hz, hsz, hby⟩ := info3
  refine wpList_append_own W hgd s z 25 ho base 3 i (.int .i64 0) 1 8 Try.underlying25 hi hz hsz hby rfl (by decide) v xs.length (xs.map fun x => .int .i64 x) hs hM ⟨gl, 0, none⟩ 1 1 [.int .i64 x] hz' rfl (fun j u hu => ?_) (fun u hu => by rw [List.mem_singleton] at hu; subst hu; rfl)
    (by simp only [maxLen]; omega) (by omega) hb fun v' u h1 h2 _ => ?_
  · match j with
    | 0 => simp at hu; subst hu; exact hc
    | j + 1 => simp at hu
  · exact h v' u h2 (by unfold Mint; rw [List.length_append, List.map_append]; exact h1)
end
section
variable {w : World} {n : Nat} {E : Nat → Ev} {B : Option Addr} {cb : Nat}
set_option maxRecDepth 100000 in
theorem alikes_same (v v' : Value) (xs : List Int) (hn : xs.length ≤ 1000000) (h : IntL w v xs) (h' : IntL w v' xs) : Calls Try.prog 34 #[v, v'] w fun e w' => e = .returned (.bool true) ∧ Keeps w w' [] := by
  obtain ⟨A, c, rfl, hx⟩ := h
  obtain ⟨A', c', rfl, hx'⟩ := h'
  generalize hl : xs.length = m at *
  have HX := Lib.hid hx
  have HX' := Lib.hid hx'
  clear hx hx' hl
  go_enter Try.func34, Try.ntmps34
  go_wp2
  go_loopw [5] (fun i wr => ∃ k : Nat, k ≤ m ∧ i = .int .i64 k ∧ Keeps w wr []) (fun i _ => m - (intOf i).toNat)
  case atStart => exact ⟨0, by omega, rfl, Keeps.refl _ _⟩
  case round =>
    obtain ⟨k, hk, rfl, K⟩ := hrel
    by_cases hlt : k < m
    · have g1 : ((k : Int)) < m := by omega
      have g0 : (0 : Int) ≤ k := by omega
      obtain ⟨ad, rfl, hb, hc⟩ := HX.out (by omega)
      obtain ⟨ad', rfl, hb', hc'⟩ := HX'.out (by omega)
      have c1 : ∀ p : Later wr, p.1.cell? (ad.add k) = some (.int .i64 (xs.getD k 0)) := fun p => ((K.trans p.2 (by simp)).cellAt (by rw [add_block]; exact hb) (by simp)).trans (hc k hlt)
      have c2 : ∀ p : Later wr, p.1.cell? (ad'.add k) = some (.int .i64 (xs.getD k 0)) := fun p => ((K.trans p.2 (by simp)).cellAt (by rw [add_block]; exact hb') (by simp)).trans (hc' k hlt)
      clear hc hc' hb hb'
      generalize xs.getD k 0 = x at c1 c2
      have e1 : (x != x) = false := by simp
      go_wp2
      refine wp_quiet_later (by kernel_rfl) (by kernel_rfl) ?_
      repeat (first
        | go_big_quiet_skip
        | go_big_quiet_step (fail))
      refine wpQuiet_nil ?_
      intro _ hw
      obtain ⟨p', rfl⟩ := hw
      replace K := K.trans p'.2 (by simp)
      clear c1 c2 e1
      generalize p'.1 = W at K ⊢
      go_wp2
      go_roundw
      case rel => exact ⟨k + 1, by omega, by go_num, K⟩
      case measure => (simp [intOf] <;> omega)
    · obtain rfl : k = m := by omega
      go_wp2
      go_ret
      exact ⟨rfl, K⟩

/-- Who holds lock k behind j events; -1: nobody. -/
def refW (E : Nat → Ev) (k : Int) : Nat → Int
  | 0 => -1
  | j + 1 => if (E j).op = 9 ∧ (E j).a = k then -1 else if (E j).op = 8 ∧ (E j).a = k then (E j).who else refW E k j
set_option maxRecDepth 100000 in
set_option maxHeartbeats 1000000 in
theorem refholder_any (hE : EvsAt w B n E) (hn : n ≤ 40000) (i : Nat) (hi : i ≤ n) (q : Int) : Calls Try.prog 68 #[.slice B n cb, .int .i64 (i : Int), .int .i64 q] w fun e w' => e = .returned (.int .i64 (refW E q i)) ∧ Keeps w w' [] := by
  have HE := Lib.hid hE
  clear hE
  go_enter Try.func68, Try.ntmps68
  go_wp2
  go_loopw [8, 7] (fun j x wr => ∃ k : Nat, k ≤ i ∧ j = .int .i64 k ∧ x = .int .i64 (refW E q k) ∧ Keeps w wr []) (fun j _ _ => i - (intOf j).toNat)
  case atStart => exact ⟨0, by omega, rfl, rfl, Keeps.refl _ _⟩
  case round =>
    obtain ⟨k, hk, rfl, rfl, K⟩ := hrel
    by_cases hlt : k < i
    · have g1 : ((k : Int)) < i := by omega
      have g2 : ((k : Int)) < n := by omega
      have g0 : (0 : Int) ≤ k := by omega
      obtain ⟨ad, rfl, hc⟩ := EvsAt.row (u := w) HE.out (show k < n by omega)
      have c0 : wr.cell? (ad.add (k * 5)) = some (.int .i64 (E k).who) := hc [] wr K (by simp) 0 (by show 0 < 5; omega)
      have c1 : wr.cell? ⟨(ad.add (k * 5)).block, (ad.add (k * 5)).off + 1, none⟩ = some (.int .i64 (E k).op) := hc [] wr K (by simp) 1 (by show 1 < 5; omega)
      have c2 : wr.cell? ⟨(ad.add (k * 5)).block, (ad.add (k * 5)).off + 2, none⟩ = some (.int .i64 (E k).a) := hc [] wr K (by simp) 2 (by show 2 < 5; omega)
      clear hc
      have HW := Lib.hid (show refW E q (k + 1) = if (E k).op = 9 ∧ (E k).a = q then -1 else if (E k).op = 8 ∧ (E k).a = q then (E k).who else refW E q k from rfl)
      generalize E k = e at c0 c1 c2 HW
      obtain ⟨who, op, a, v, sh⟩ := e
      simp only at c0 c1 c2
      by_cases o9 : op = 9
      · subst o9
        by_cases ha : a = q
        · rw [ha] at c2 HW
          have HN := Lib.hid (show refW E q (k + 1) = (-1) by rw [HW.out]; simp)
          go_wp2_with (first | go_big_skip)
          clear c0 c1 c2
          go_roundw
          case rel => exact ⟨k + 1, by omega, by go_num, by rw [HN.out], K⟩
          case measure => (simp [intOf] <;> omega)
        · have ea : (a == q) = false := by simpa using ha
          have HN := Lib.hid (show refW E q (k + 1) = refW E q k by rw [HW.out]; simp [ha])
          go_wp2_with (first | go_big_skip)
          clear c0 c1 c2
          go_roundw
          case rel => exact ⟨k + 1, by omega, by go_num, by rw [HN.out], K⟩
          case measure => (simp [intOf] <;> omega)
      by_cases o8 : op = 8
      · subst o8
        by_cases ha : a = q
        · rw [ha] at c2 HW
          have HN := Lib.hid (show refW E q (k + 1) = who by rw [HW.out]; simp)
          go_wp2_with (first | go_big_skip)
          clear c0 c1 c2
          go_roundw
          case rel => exact ⟨k + 1, by omega, by go_num, by rw [HN.out], K⟩
          case measure => (simp [intOf] <;> omega)
        · have ea : (a == q) = false := by simpa using ha
          have HN := Lib.hid (show refW E q (k + 1) = refW E q k by rw [HW.out]; simp [ha])
          go_wp2_with (first | go_big_skip)
          clear c0 c1 c2
          go_roundw
          case rel => exact ⟨k + 1, by omega, by go_num, by rw [HN.out], K⟩
          case measure => (simp [intOf] <;> omega)
      have e8 : (op == 8) = false := by simpa using o8
      have e9 : (op == 9) = false := by simpa using o9
      have HN := Lib.hid (show refW E q (k + 1) = refW E q k by rw [HW.out]; simp [o8, o9])
      go_wp2_with (first | go_big_skip)
      clear c0 c1 c2
      go_roundw
      case rel => exact ⟨k + 1, by omega, by go_num, by rw [HN.out], K⟩
      case measure => (simp [intOf] <;> omega)
    · obtain rfl : k = i := by omega
      go_wp2
      go_ret
      exact ⟨rfl, K⟩
end
end Go.Proofs.Ytakmcpadkanggaa
