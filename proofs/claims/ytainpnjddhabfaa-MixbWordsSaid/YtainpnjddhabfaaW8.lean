/-
  G of mixb and of the reference, at all places.
-/
import Derived.Test.YtainpnjddhabfaaW7
import Derived.Test.YtainpnjddhabfaaT1
namespace Go.Proofs.Ytainpnjddhabfaa
open Go.RowKit

theorem results_cell_tmp {P : Program} {fn : Func} {p q : Tmp} {ty : TypeId} (h : fn.results = #[.cell p ty, .tmp q]) (tmps : Array Value) (w : World) (g : Nat) (t : TypeId) (cs : Array Value) (d : TypeDesc)
    (hp : tmps.getD p undef = .pointer (some ⟨g, 0, none⟩)) (hg : Blk w g t cs)
    (hu : P.underlying ty = some d) (hd : (match d with | .struct _ | .array _ _ => true | _ => false) = true) (hi : (P.info? ty).map (·.size) = some cs.size) (v : Value) (hq : tmps.getD q undef = v) :
    (results fn tmps).run P w = .ok (.tuple #[.agg cs, v]) w := by
  have hp' : tmps[p]?.getD undef = .pointer (some ⟨g, 0, none⟩) := by simpa using hp
  subst hq
  simp [results, h, hp', asAddr, run_loadVar_row w g t ty cs (0, 0) d hg hu hd hi]

/-! ### four: are these four unlike places? -/
def fourB (a b c d : Int) : Bool := okP a && okP b && okP c && okP d && a != b && a != c && a != d && b != c && b != d && c != d
def argP (a b c d : Int) (k : Nat) : Int := if k = 0 then a else if k = 1 then b else if k = 2 then c else d

theorem okP_iff (a : Int) : okP a = true ↔ 0 ≤ a ∧ a ≤ 15 := by simp [okP]
theorem fourB_of (a b c d : Int) (h : ∀ k, k < 4 → okP (argP a b c d k) = true) (hd : ∀ j k, j < k → k < 4 → argP a b c d j ≠ argP a b c d k) : fourB a b c d = true := by
  have h0 := h 0 (by omega); have h1 := h 1 (by omega); have h2 := h 2 (by omega); have h3 := h 3 (by omega)
  have d01 := hd 0 1 (by omega) (by omega); have d02 := hd 0 2 (by omega) (by omega); have d03 := hd 0 3 (by omega) (by omega)
  have d12 := hd 1 2 (by omega) (by omega); have d13 := hd 1 3 (by omega) (by omega); have d23 := hd 2 3 (by omega) (by omega)
  simp only [argP] at *
  simp at *
  simp [fourB, *]
theorem fourB_bad (a b c d : Int) (k : Nat) (hk : k < 4) (h : okP (argP a b c d k) = false) : fourB a b c d = false := by
  match k, hk with
  | 0, _ => simp [argP] at h; simp [fourB, h]
  | 1, _ => simp [argP] at h; simp [fourB, h]
  | 2, _ => simp [argP] at h; simp [fourB, h]
  | 3, _ => simp [argP] at h; simp [fourB, h]
theorem fourB_same (a b c d : Int) (j k : Nat) (hj : j < k) (hk : k < 4) (h : argP a b c d j = argP a b c d k) : fourB a b c d = false := by
  have hjk : (j = 0 ∧ k = 1) ∨ (j = 0 ∧ k = 2) ∨ (j = 0 ∧ k = 3) ∨ (j = 1 ∧ k = 2) ∨ (j = 1 ∧ k = 3) ∨ (j = 2 ∧ k = 3) := by omega
  rcases hjk with ⟨rfl, rfl⟩ | ⟨rfl, rfl⟩ | ⟨rfl, rfl⟩ | ⟨rfl, rfl⟩ | ⟨rfl, rfl⟩ | ⟨rfl, rfl⟩ <;> (simp [argP] at h; simp [fourB, h])

/-- What the mask of the first k places says. -/
def MaskIs (a b c d : Int) (k m : Nat) : Prop := m < 65536 ∧ (∀ j, j < k → okP (argP a b c d j) = true) ∧ (∀ q : Nat, m.testBit q = true ↔ ∃ j, j < k ∧ argP a b c d j = q) ∧ ∀ i j, i < j → j < k → argP a b c d i ≠ argP a b c d j

theorem mask_zero (a b c d : Int) : MaskIs a b c d 0 0 := ⟨by omega, by simp, by simp, by omega⟩
theorem mask_succ {a b c d : Int} {k m p : Nat} (h : MaskIs a b c d k m) (hp : argP a b c d k = p) (hp' : p ≤ 15) (hb : m.testBit p = false) : MaskIs a b c d (k + 1) (m ||| 2 ^ p) := by
  obtain ⟨h1, h2, h3, h4⟩ := h
  refine ⟨?_, ?_, ?_, ?_⟩
  · exact Nat.or_lt_two_pow (n := 16) h1 (Nat.pow_lt_pow_right (by omega) (by omega))
  · intro j hj
    by_cases e : j = k
    · subst e; rw [hp]; simp [okP]; omega
    · exact h2 j (by omega)
  · intro q
    rw [Nat.testBit_or, Bool.or_eq_true, h3, Nat.testBit_two_pow]
    constructor
    · rintro (⟨j, hj, e⟩ | e)
      · exact ⟨j, by omega, e⟩
      · exact ⟨k, by omega, by rw [hp]; exact congrArg Nat.cast (by simpa using e)⟩
    · rintro ⟨j, hj, e⟩
      by_cases ej : j = k
      · subst ej; right; rw [hp] at e; simpa using Int.natCast_inj.1 e
      · exact Or.inl ⟨j, by omega, e⟩
  · intro i j hij hj e
    by_cases ej : j = k
    · subst ej
      rw [hp] at e
      have := (h3 p).2 ⟨i, hij, e⟩
      rw [hb] at this
      cases this
    · exact h4 i j hij (by omega) e
theorem mask_hit {a b c d : Int} {k m p : Nat} (h : MaskIs a b c d k m) (hk : k < 4) (hp : argP a b c d k = p) (hb : m.testBit p = true) : fourB a b c d = false := by
  obtain ⟨j, hj, e⟩ := (h.2.2.1 p).1 hb
  exact fourB_same a b c d j k hj hk (by rw [e, hp])
theorem mask_bit (m p : Nat) (hm : m < 65536) : (bits BinOp.and IntKind.i64 ((m : Int) / 2 ^ p) 1 == 1) = m.testBit p := by
  have e : ((m : Int) / 2 ^ p) = ((m >>> p : Nat) : Int) := by rw [Nat.shiftRight_eq_div_pow]; simp
  have h1 : m >>> p < 9223372036854775808 := by
    have := Nat.shiftRight_le m p
    omega
  have h2 : bits BinOp.and IntKind.i64 ((m >>> p : Nat) : Int) ((1 : Nat) : Int) = ((m >>> p &&& 1 : Nat) : Int) := by
    have hx : m >>> p &&& 1 < 2 ^ 63 := Nat.and_lt_two_pow _ (by omega)
    show IntKind.i64.wrap ((BitVec.ofInt 64 ((m >>> p : Nat) : Int) &&& BitVec.ofInt 64 ((1 : Nat) : Int)).toNat : Int) = _
    rw [BitVec.toNat_and, BitVec.ofInt_natCast, BitVec.ofInt_natCast, BitVec.toNat_ofNat, BitVec.toNat_ofNat, Nat.mod_eq_of_lt (by omega), Nat.mod_eq_of_lt (by omega), IntKind.wrap_i64]
    omega
  rw [e]
  have h2' := h2
  simp only [Int.natCast_one] at h2'
  rw [h2', Bool.eq_iff_iff, beq_iff_eq]
  unfold Nat.testBit
  have h3 : 1 &&& m >>> p = m >>> p &&& 1 := Nat.and_comm _ _
  rw [h3, bne_iff_ne]
  have h4 : m >>> p &&& 1 = (m >>> p) % 2 := Nat.and_two_pow_sub_one_eq_mod _ 1
  rw [h4]
  omega
theorem mask_or (m p : Nat) (hm : m < 65536) (hp : p ≤ 15) : bits BinOp.or IntKind.i64 (m : Int) (2 ^ p) = ((m ||| 2 ^ p : Nat) : Int) := by
  have hb : 2 ^ p < 2 ^ 16 := Nat.pow_lt_pow_right (by omega) (by omega)
  have hx : m ||| 2 ^ p < 2 ^ 63 := Nat.or_lt_two_pow (by omega) (by omega)
  have e : (2 ^ p : Int) = ((2 ^ p : Nat) : Int) := by simp
  rw [e]
  show IntKind.i64.wrap ((BitVec.ofInt 64 (m : Int) ||| BitVec.ofInt 64 ((2 ^ p : Nat) : Int)).toNat : Int) = _
  rw [BitVec.toNat_or, BitVec.ofInt_natCast, BitVec.ofInt_natCast, BitVec.toNat_ofNat, BitVec.toNat_ofNat, Nat.mod_eq_of_lt (by omega), Nat.mod_eq_of_lt (by omega), IntKind.wrap_i64]
  omega
theorem mask_pow (p : Nat) (hp : p ≤ 15) : IntKind.i64.wrap (2 ^ p : Int) = 2 ^ p := by
  have hb : 2 ^ p < 2 ^ 16 := Nat.pow_lt_pow_right (by omega) (by omega)
  have e : (2 ^ p : Int) = ((2 ^ p : Nat) : Int) := by simp
  rw [e]
  generalize 2 ^ p = x at *
  exact IntWalk.i64_in _ (by omega)

set_option maxHeartbeats 1000000 in
theorem four_any (a b c d : Int) (ha : -9223372036854775808 ≤ a ∧ a ≤ 9223372036854775807) (hb : -9223372036854775808 ≤ b ∧ b ≤ 9223372036854775807) (hc : -9223372036854775808 ≤ c ∧ c ≤ 9223372036854775807) (hd : -9223372036854775808 ≤ d ∧ d ≤ 9223372036854775807) (w : World) :
    Calls Try.prog 36 #[.int .i64 a, .int .i64 b, .int .i64 c, .int .i64 d] w fun e w' => e = .returned (.bool (fourB a b c d)) ∧ w = w' := by
  have i0 : ∀ w, (Instr.index 71 (.agg #[.int .i64 a, .int .i64 b, .int .i64 c, .int .i64 d]) (.int .i64 ((0 : Nat) : Int))).run Try.prog w = .ok (.int .i64 (argP a b c d 0)) w := fun _ => by kernel_rfl
  have i1 : ∀ w, (Instr.index 71 (.agg #[.int .i64 a, .int .i64 b, .int .i64 c, .int .i64 d]) (.int .i64 ((1 : Nat) : Int))).run Try.prog w = .ok (.int .i64 (argP a b c d 1)) w := fun _ => by kernel_rfl
  have i2 : ∀ w, (Instr.index 71 (.agg #[.int .i64 a, .int .i64 b, .int .i64 c, .int .i64 d]) (.int .i64 ((2 : Nat) : Int))).run Try.prog w = .ok (.int .i64 (argP a b c d 2)) w := fun _ => by kernel_rfl
  have i3 : ∀ w, (Instr.index 71 (.agg #[.int .i64 a, .int .i64 b, .int .i64 c, .int .i64 d]) (.int .i64 ((3 : Nat) : Int))).run Try.prog w = .ok (.int .i64 (argP a b c d 3)) w := fun _ => by kernel_rfl
  have ik : ∀ k : Nat, k < 4 → ∀ w, (Instr.index 71 (.agg #[.int .i64 a, .int .i64 b, .int .i64 c, .int .i64 d]) (.int .i64 (k : Int))).run Try.prog w = .ok (.int .i64 (argP a b c d k)) w := fun k hk => by
    match k, hk with
    | 0, _ => exact i0
    | 1, _ => exact i1
    | 2, _ => exact i2
    | 3, _ => exact i3
  clear i0 i1 i2 i3
  have IK := Lib.hid ik
  clear ik
  have ab := fun (k : Nat) (_ : k < 4) => (show -9223372036854775808 ≤ argP a b c d k ∧ argP a b c d k ≤ 9223372036854775807 by unfold argP; split <;> (try split) <;> (try split) <;> assumption)
  have AB := Lib.hid ab
  clear ab
  go_enter Try.func36, Try.ntmps36
  go_wp2
  go_loop [9, 17] (fun s i => ∃ k m : Nat, k ≤ 4 ∧ i = .int .i64 k ∧ s = .int .i64 m ∧ MaskIs a b c d k m) (fun _ i => 4 - (intOf i).toNat)
  case atStart => exact ⟨0, 0, by omega, rfl, rfl, mask_zero a b c d⟩
  case round =>
    obtain ⟨k, m, hk, rfl, rfl, hm⟩ := hrel
    have HM := Lib.hid hm
    have hm1 := hm.1
    clear hm
    by_cases hlt : k < 4
    · have ix := IK.out k hlt
      have bx := AB.out k hlt
      by_cases hok : okP (argP a b c d k) = true
      · obtain ⟨p0, p1⟩ := (okP_iff _).1 hok
        obtain ⟨p, hp⟩ : ∃ p : Nat, argP a b c d k = p := ⟨(argP a b c d k).toNat, by omega⟩
        rw [hp] at ix
        have hp' : p ≤ 15 := by omega
        have HP := Lib.hid hp
        clear hp p0 p1 bx hok
        have e1 := mask_bit m p hm1
        have e2 := mask_or m p hm1 hp'
        have e3 := mask_pow p hp'
        cases hbit : m.testBit p with
        | true =>
          rw [hbit] at e1
          have HF := Lib.hid (mask_hit HM.out hlt HP.out hbit)
          clear hbit
          go_wp2
          go_ret
          exact ⟨by rw [HF.out]; rfl, rfl⟩
        | false =>
          rw [hbit] at e1
          have HM2 := Lib.hid (mask_succ HM.out HP.out hp' hbit)
          clear hbit
          go_wp2
          go_round
          case rel => exact ⟨k + 1, m ||| 2 ^ p, by omega, by go_num, rfl, HM2.out⟩
          case measure => simp [intOf]; omega
      · have HF := Lib.hid (fourB_bad a b c d k hlt (by simpa using hok))
        have hok' : argP a b c d k < 0 ∨ 15 < argP a b c d k := by
          rw [okP_iff] at hok; omega
        clear hok
        generalize argP a b c d k = x at *
        rcases hok' with h1 | h1
        · go_wp2
          go_ret
          exact ⟨by rw [HF.out]; rfl, rfl⟩
        · have h0 : ¬ x < 0 := by omega
          go_wp2
          go_ret
          exact ⟨by rw [HF.out]; rfl, rfl⟩
    · obtain rfl : k = 4 := by omega
      have HF := Lib.hid (fourB_of a b c d HM.out.2.1 HM.out.2.2.2)
      go_wp2
      go_ret
      exact ⟨by rw [HF.out]; rfl, rfl⟩

/-! ### G of mixb -/
theorem places_nat {a b c d : Int} (h : fourB a b c d = true) : ∃ i j k l : Nat, a = i ∧ b = j ∧ c = k ∧ d = l ∧ i < 16 ∧ j < 16 ∧ k < 16 ∧ l < 16 ∧ i ≠ j ∧ i ≠ k ∧ i ≠ l ∧ j ≠ k ∧ j ≠ l ∧ k ≠ l := by
  simp only [fourB, Bool.and_eq_true, okP_iff, bne_iff_ne] at h
  obtain ⟨⟨⟨⟨⟨⟨⟨⟨⟨ha, hb⟩, hc⟩, hd⟩, h1⟩, h2⟩, h3⟩, h4⟩, h5⟩, h6⟩ := h
  exact ⟨a.toNat, b.toNat, c.toNat, d.toNat, by omega, by omega, by omega, by omega, by omega, by omega, by omega, by omega, by omega, by omega, by omega, by omega, by omega, by omega⟩

/-- What G answers. -/
def gAns (V : Nat → BitVec 64) (a b c d : Int) (x y : BitVec 64) : Value :=
  if fourB a b c d then .tuple #[.agg (words 16 (stepB V a.toNat b.toNat c.toNat d.toNat x y)), .int .i64 0] else .tuple #[.agg (words 16 fun _ => 0), .int .i64 1]

theorem g_any (V : Nat → BitVec 64) (a b c d : Int) (x y : BitVec 64) (ha : -9223372036854775808 ≤ a ∧ a ≤ 9223372036854775807) (hb : -9223372036854775808 ≤ b ∧ b ≤ 9223372036854775807) (hc : -9223372036854775808 ≤ c ∧ c ≤ 9223372036854775807) (hd : -9223372036854775808 ≤ d ∧ d ≤ 9223372036854775807) (w : World) :
    Calls Try.prog 19 #[.agg (words 16 V), .int .i64 a, .int .i64 b, .int .i64 c, .int .i64 d, U64 x, U64 y] w fun e w' => e = .returned (gAns V a b c d x y) ∧ Keeps w w' [] := by
  have O := Own.start w []
  have hf := fun w => four_any a b c d ha hb hc hd w
  cases h4 : fourB a b c d with
  | false =>
    have HA := Lib.hid (show gAns V a b c d x y = .tuple #[.agg (words 16 fun _ => 0), .int .i64 1] by unfold gAns; rw [h4]; rfl)
    rw [h4] at hf
    have HF := Lib.hid hf
    clear hf h4
    go_enter Try.func19, Try.ntmps19
    go_wp2_with (first
      | (refine own_box 7 (words 16 V) O rfl rfl rfl rfl ?_; clear O; intro W a0 O; simp only [Act.put, List.setIfInBounds_toArray, List.set_cons_zero, List.set_cons_succ])
      | (refine own_alloc 14 (words 16 fun _ => 0) O rfl rfl rfl (fun _ => by kernel_rfl) ?_; clear O; intro W a1 O; simp only [Act.put, List.setIfInBounds_toArray, List.set_cons_zero, List.set_cons_succ])
      | (go_at_call 36; refine (HF.out _).mono ?_; rintro e W ⟨rfl, rfl⟩)
      | (refine wpList_const 22 (.agg (words 16 fun _ => 0)) rfl rfl (fun _ => by kernel_rfl) ?_; simp only [Act.put, List.setIfInBounds_toArray, List.set_cons_zero, List.set_cons_succ])
      | (refine own_store_row 0 (.tmp 14) (.tmp 22) O rfl rfl rfl rfl rfl rfl (by kernel_rfl) (by simp only [words_size]) (words_cell _ _) ?_; clear O; intro W O; simp only [List.set_cons_zero, List.set_cons_succ] at O))
    refine bodyPost_ret (v := .tuple #[.agg (words 16 fun _ => 0), .int .i64 1]) (results_cell_tmp rfl _ _ a1 33 _ _ rfl (O.get 0 rfl) Try.underlying33 rfl (by kernel_rfl) _ rfl) rfl ⟨?_, O.keep⟩
    rw [HA.out]
  | true =>
    obtain ⟨i, j, k, l, rfl, rfl, rfl, rfl, hi, hj, hk, hl, n1, n2, n3, n4, n5, n6⟩ := places_nat h4
    have HA := Lib.hid (show gAns V i j k l x y = .tuple #[.agg (words 16 (stepB V i j k l x y)), .int .i64 0] by unfold gAns; rw [h4]; rfl)
    rw [h4] at hf
    have HF := Lib.hid hf
    clear hf h4 n1 n2 n3 n4 n5 n6
    go_enter Try.func19, Try.ntmps19
    go_wp2_with (first
      | (refine own_box 7 (words 16 V) O rfl rfl rfl rfl ?_; clear O; intro W a0 O; simp only [Act.put, List.setIfInBounds_toArray, List.set_cons_zero, List.set_cons_succ])
      | (refine own_alloc 14 (words 16 fun _ => 0) O rfl rfl rfl (fun _ => by kernel_rfl) ?_; clear O; intro W a1 O; simp only [Act.put, List.setIfInBounds_toArray, List.set_cons_zero, List.set_cons_succ])
      | (go_at_call 36; refine (HF.out _).mono ?_; rintro e W ⟨rfl, rfl⟩)
      | (go_at_call 37; refine (step_any i j k l x y a0 V W (O.get 1 rfl) hi hj hk hl).mono ?_; rintro e W ⟨rfl, K, B⟩; replace O := O.set 1 rfl K B; clear K B; simp only [List.set_cons_zero, List.set_cons_succ] at O)
      | (refine own_load 31 1 O rfl rfl rfl rfl rfl Try.underlying33 rfl (by kernel_rfl) ?_; simp only [Act.put, List.setIfInBounds_toArray, List.set_cons_zero, List.set_cons_succ])
      | (refine own_store_row 0 (.tmp 14) (.tmp 31) O rfl rfl rfl rfl rfl rfl (by kernel_rfl) (by simp only [words_size]) (words_cell _ _) ?_; clear O; intro W O; simp only [List.set_cons_zero, List.set_cons_succ] at O))
    refine bodyPost_ret (v := .tuple #[.agg (words 16 (stepB V i j k l x y)), .int .i64 0]) (results_cell_tmp rfl _ _ a1 33 _ _ rfl (O.get 0 rfl) Try.underlying33 rfl (by kernel_rfl) _ rfl) rfl ⟨?_, O.keep⟩
    rw [HA.out]
end Go.Proofs.Ytainpnjddhabfaa
