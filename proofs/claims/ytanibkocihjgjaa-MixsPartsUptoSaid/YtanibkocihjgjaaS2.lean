/-
  four and places: are these four unlike places? turn: the reference's rotation.
-/
import Derived.Test.YtanibkocihjgjaaS1
import Derived.Great.BuildSlice
namespace Go.Proofs.Ytanibkocihjgjaa
open Go.RowKit

def okP (a : Int) : Bool := decide (0 ≤ a) && decide (a ≤ 15)
def fourB (a b c d : Int) : Bool := okP a && okP b && okP c && okP d && a != b && a != c && a != d && b != c && b != d && c != d
def argP (a b c d : Int) (k : Nat) : Int := if k = 0 then a else if k = 1 then b else if k = 2 then c else d
theorem okP_iff (a : Int) : okP a = true ↔ 0 ≤ a ∧ a ≤ 15 := by simp [okP]
theorem fourB_of (a b c d : Int) (h : ∀ k, k < 4 → okP (argP a b c d k) = true) (hd : ∀ j k, j < k → k < 4 → argP a b c d j ≠ argP a b c d k) : fourB a b c d = true := by
  have h0 := h 0 (by omega); have h1 := h 1 (by omega); have h2 := h 2 (by omega); have h3 := h 3 (by omega)
  have d01 := hd 0 1 (by omega) (by omega); have d02 := hd 0 2 (by omega) (by omega); have d03 := hd 0 3 (by omega) (by omega)
  have d12 := hd 1 2 (by omega) (by omega); have d13 := hd 1 3 (by omega) (by omega); have d23 := hd 2 3 (by omega) (by omega)
  simp only [argP] at *
  simp at *
  simp [fourB, *]
theorem fourB_bad (a b c d : Int) (k : Nat) (hk : k < 4) (h : okP (argP a b c d k) = false) : fourB a b c d = false := by
  match k, hk with
  | 0, _ => simp [argP] at h; simp [fourB, h]
  | 1, _ => simp [argP] at h; simp [fourB, h]
  | 2, _ => simp [argP] at h; simp [fourB, h]
  | 3, _ => simp [argP] at h; simp [fourB, h]
theorem fourB_same (a b c d : Int) (j k : Nat) (hj : j < k) (hk : k < 4) (h : argP a b c d j = argP a b c d k) : fourB a b c d = false := by
  have hjk : (j = 0 ∧ k = 1) ∨ (j = 0 ∧ k = 2) ∨ (j = 0 ∧ k = 3) ∨ (j = 1 ∧ k = 2) ∨ (j = 1 ∧ k = 3) ∨ (j = 2 ∧ k = 3) := by omega
  rcases hjk with ⟨rfl, rfl⟩ | ⟨rfl, rfl⟩ | ⟨rfl, rfl⟩ | ⟨rfl, rfl⟩ | ⟨rfl, rfl⟩ | ⟨rfl, rfl⟩ <;> (simp [argP] at h; simp [fourB, h])
theorem fourB_all (a b c d : Int) (h : ∀ k, k < 4 → okP (argP a b c d k) = true) : fourB a b c d = (a != b && a != c && a != d && b != c && b != d && c != d) := by
  have h0 := h 0 (by omega); have h1 := h 1 (by omega); have h2 := h 2 (by omega); have h3 := h 3 (by omega)
  simp only [argP] at *
  simp at *
  simp [fourB, *]
theorem places_nat {a b c d : Int} (h : fourB a b c d = true) : ∃ i j k l : Nat, a = i ∧ b = j ∧ c = k ∧ d = l ∧ i < 16 ∧ j < 16 ∧ k < 16 ∧ l < 16 ∧ i ≠ j ∧ i ≠ k ∧ i ≠ l ∧ j ≠ k ∧ j ≠ l ∧ k ≠ l := by
  simp only [fourB, Bool.and_eq_true, okP_iff, bne_iff_ne] at h
  obtain ⟨⟨⟨⟨⟨⟨⟨⟨⟨ha, hb⟩, hc⟩, hd⟩, h1⟩, h2⟩, h3⟩, h4⟩, h5⟩, h6⟩ := h
  exact ⟨a.toNat, b.toNat, c.toNat, d.toNat, by omega, by omega, by omega, by omega, by omega, by omega, by omega, by omega, by omega, by omega, by omega, by omega, by omega, by omega⟩

set_option maxHeartbeats 1000000 in
theorem four_any (a b c d : Int) (w : World) :
    Calls Try.prog 47 #[.int .i64 a, .int .i64 b, .int .i64 c, .int .i64 d] w fun e w' => e = .returned (.bool (fourB a b c d)) ∧ w = w' := by
  have i0 : ∀ w, (Instr.index 82 (.agg #[.int .i64 a, .int .i64 b, .int .i64 c, .int .i64 d]) (.int .i64 ((0 : Nat) : Int))).run Try.prog w = .ok (.int .i64 (argP a b c d 0)) w := fun _ => by kernel_rfl
  have i1 : ∀ w, (Instr.index 82 (.agg #[.int .i64 a, .int .i64 b, .int .i64 c, .int .i64 d]) (.int .i64 ((1 : Nat) : Int))).run Try.prog w = .ok (.int .i64 (argP a b c d 1)) w := fun _ => by kernel_rfl
  have i2 : ∀ w, (Instr.index 82 (.agg #[.int .i64 a, .int .i64 b, .int .i64 c, .int .i64 d]) (.int .i64 ((2 : Nat) : Int))).run Try.prog w = .ok (.int .i64 (argP a b c d 2)) w := fun _ => by kernel_rfl
  have i3 : ∀ w, (Instr.index 82 (.agg #[.int .i64 a, .int .i64 b, .int .i64 c, .int .i64 d]) (.int .i64 ((3 : Nat) : Int))).run Try.prog w = .ok (.int .i64 (argP a b c d 3)) w := fun _ => by kernel_rfl
  have ik : ∀ k : Nat, k < 4 → ∀ w, (Instr.index 82 (.agg #[.int .i64 a, .int .i64 b, .int .i64 c, .int .i64 d]) (.int .i64 (k : Int))).run Try.prog w = .ok (.int .i64 (argP a b c d k)) w := fun k hk => by
    match k, hk with
    | 0, _ => exact i0
    | 1, _ => exact i1
    | 2, _ => exact i2
    | 3, _ => exact i3
  clear i0 i1 i2 i3
  have IK := Lib.hid ik
  clear ik
  go_enter Try.func47, Try.ntmps47
  go_wp2
  go_loop [16, 10] (fun i x => ∃ k : Nat, k ≤ 4 ∧ i = .int .i64 k ∧ ∀ j, j < k → okP (argP a b c d j) = true) (fun i _ => 4 - (intOf i).toNat)
  case atStart => exact ⟨0, by omega, rfl, fun j hj => by omega⟩
  case round =>
    obtain ⟨k, hk, rfl, hm⟩ := hrel
    have HM := Lib.hid hm
    clear hm
    by_cases hlt : k < 4
    · have ix := IK.out k hlt
      have g1 : ((k : Int)) < 4 := by omega
      cases hok : okP (argP a b c d k) with
      | true =>
        have HM2 := Lib.hid (show ∀ j, j < k + 1 → okP (argP a b c d j) = true from fun j hj => if h : j = k then h ▸ hok else HM.out j (by omega))
        obtain ⟨p0, p1⟩ := (okP_iff _).1 hok
        have p2 : ¬ argP a b c d k < 0 := by omega
        have p3 : ¬ 15 < argP a b c d k := by omega
        clear hok p0 p1 HM
        generalize argP a b c d k = x at *
        go_wp2
        clear ix
        go_round
        case rel => exact ⟨k + 1, by omega, by go_num, HM2.out⟩
        case measure => (simp [intOf] <;> omega)
      | false =>
        have HF := Lib.hid (fourB_bad a b c d k hlt hok)
        have hok' : argP a b c d k < 0 ∨ 15 < argP a b c d k := by
          by_cases h : argP a b c d k < 0
          · exact .inl h
          · by_cases h2 : 15 < argP a b c d k
            · exact .inr h2
            · rw [(okP_iff _).2 ⟨by omega, by omega⟩] at hok; cases hok
        clear hok HM
        generalize argP a b c d k = x at *
        rcases hok' with h1 | h1
        · go_wp2
          go_ret
          exact ⟨by rw [HF.out]; rfl, rfl⟩
        · have h0 : ¬ x < 0 := by omega
          go_wp2
          go_ret
          exact ⟨by rw [HF.out]; rfl, rfl⟩
    · obtain rfl : k = 4 := by omega
      have HF := Lib.hid (fourB_all a b c d HM.out)
      clear HM IK
      cases e0 : (a != b) with
      | false =>
        go_wp2
        go_ret
        exact ⟨by rw [HF.out]; simp only [e0]; rfl, rfl⟩
      | true =>
      cases e1 : (a != c) with
      | false =>
        go_wp2
        go_ret
        exact ⟨by rw [HF.out]; simp only [e0, e1]; rfl, rfl⟩
      | true =>
      cases e2 : (a != d) with
      | false =>
        go_wp2
        go_ret
        exact ⟨by rw [HF.out]; simp only [e0, e1, e2]; rfl, rfl⟩
      | true =>
      cases e3 : (b != c) with
      | false =>
        go_wp2
        go_ret
        exact ⟨by rw [HF.out]; simp only [e0, e1, e2, e3]; rfl, rfl⟩
      | true =>
      cases e4 : (b != d) with
      | false =>
        go_wp2
        go_ret
        exact ⟨by rw [HF.out]; simp only [e0, e1, e2, e3, e4]; rfl, rfl⟩
      | true =>
      cases e5 : (c != d) with
      | false =>
        go_wp2
        go_ret
        exact ⟨by rw [HF.out]; simp only [e0, e1, e2, e3, e4, e5]; rfl, rfl⟩
      | true =>
        go_wp2
        go_ret
        exact ⟨by rw [HF.out]; simp only [e0, e1, e2, e3, e4, e5]; rfl, rfl⟩

/-! ### The reference's -/
theorem info3 : ∃ i, Try.prog.info? 3 = some i ∧ i.zero = some (.int .i64 0) ∧ i.size = 1 ∧ i.bytes = 8 := by
  have h : (Try.prog.info? 3).map (fun i => (i.zero, i.size, i.bytes)) = some (some (.int .i64 0), 1, 8) := by kernel_rfl
  cases hq : Try.prog.info? 3 with
  | none => rw [hq] at h; cases h
  | some i =>
    rw [hq] at h
    simp only [Option.map_some, Option.some.injEq, Prod.mk.injEq] at h
    exact ⟨i, rfl, h.1, h.2.1, h.2.2⟩
theorem own_lit4 {ops : Array Oper} {rest : List Oper} {o : Oper} {a : Act} {w W : World} {Q : Exit → Act → World → Prop} {S : List Nat} {L : List Ent} {x0 x1 x2 x3 : Operand} (d : Nat) (n0 n1 n2 n3 : Int) (O : Own w W S L) (_hd : o.dst = some d) (hgd : o.guard = none) (ho : o.op = .buildSlice 83 4 #[(0, x0), (1, x1), (2, x2), (3, x3)])
    (h0 : a.eval x0 = .int .i64 n0) (h1 : a.eval x1 = .int .i64 n1) (h2 : a.eval x2 = .int .i64 n2) (h3 : a.eval x3 = .int .i64 n3)
    (h : ∀ u g, Own w u S ((g, 3, #[.int .i64 n0, .int .i64 n1, .int .i64 n2, .int .i64 n3]) :: L) → wpList Try.prog ops Q rest (a.put o.dst (.slice (some ⟨g, 0, none⟩) 4 4)) u) : wpList Try.prog ops Q (o :: rest) a W := by
  obtain ⟨i, hi, hz, hs, hb⟩ := info3
  refine wpList_buildSlice hgd 83 3 4 _ ho #[.int .i64 n0, .int .i64 n1, .int .i64 n2, .int .i64 n3] i (.int .i64 0) Try.underlying83 hi hz (by rw [hs]; decide) (by rw [hs]; decide) ?_ (h _ _ (O.add ((Keeps.refl _ _).alloc _) (Blk.new _ _ _)))
  rw [hs]
  have e : ((#[(0, x0), (1, x1), (2, x2), (3, x3)] : Array (Nat × Operand)).map (fun (i, x) => (i, a.eval x))).toList = [(0, .int .i64 n0), (1, .int .i64 n1), (2, .int .i64 n2), (3, .int .i64 n3)] := by simp [h0, h1, h2, h3]
  rw [e]
  have r : Array.range 4 = #[0, 1, 2, 3] := by decide
  simp [Instr.fill, r, Value.cells]
theorem add_zero_ (g j : Nat) : (⟨g, 0, none⟩ : Addr).add j = ⟨g, j, none⟩ := by unfold Addr.add; split <;> simp_all
theorem arg_cell (a b c d : Int) (k : Nat) (hk : k < 4) : (#[.int .i64 a, .int .i64 b, .int .i64 c, .int .i64 d] : Array Value)[k]? = some (.int .i64 (argP a b c d k)) := by
  match k, hk with
  | 0, _ => rfl
  | 1, _ => rfl
  | 2, _ => rfl
  | 3, _ => rfl

set_option maxHeartbeats 1000000 in
theorem refplaces_any (a b c d : Int) (w : World) :
    Calls Try.prog 49 #[.int .i64 a, .int .i64 b, .int .i64 c, .int .i64 d] w fun e w' => e = .returned (.bool (fourB a b c d)) ∧ Keeps w w' [] := by
  have O := Own.start w []
  have HC := Lib.hid (arg_cell a b c d)
  go_enter Try.func49, Try.ntmps49
  go_wp2_with (first
    | (refine own_lit4 16 a b c d O rfl rfl rfl rfl rfl rfl rfl ?_; clear O; intro W g O; simp only [Act.put, List.setIfInBounds_toArray, List.set_cons_zero, List.set_cons_succ]))
  go_loopw [10, 11] (fun i x wr => ∃ k : Nat, k ≤ 4 ∧ i = .int .i64 k ∧ Own w wr [] [(g, 3, #[.int .i64 a, .int .i64 b, .int .i64 c, .int .i64 d])] ∧ (∀ j, j < k → okP (argP a b c d j) = true) ∧ ∀ i j, i < j → j < k → argP a b c d i ≠ argP a b c d j) (fun i _ _ => 4 - (intOf i).toNat)
  case atStart => exact ⟨0, by omega, rfl, O, fun j hj => by omega, fun i j _ hj => by omega⟩
  case round =>
    obtain ⟨k, hk, rfl, O, hm, hd⟩ := hrel
    have HM := Lib.hid hm
    have HD := Lib.hid hd
    clear hm hd
    by_cases hlt : k < 4
    · have g1 : ((k : Int)) < 4 := by omega
      have g0 : (0 : Int) ≤ k := by omega
      have ak := add_zero_ g k
      have ck : wr.cell? ⟨g, k, none⟩ = some (.int .i64 (argP a b c d k)) := ((O.get 0 rfl).cell k).trans (HC.out k hlt)
      cases hok : okP (argP a b c d k) with
      | true =>
        have HM2 := Lib.hid (show ∀ j, j < k + 1 → okP (argP a b c d j) = true from fun j hj => if h : j = k then h ▸ hok else HM.out j (by omega))
        obtain ⟨p0, p1⟩ := (okP_iff _).1 hok
        have p2 : ¬ argP a b c d k < 0 := by omega
        have p3 : ¬ 15 < argP a b c d k := by omega
        clear hok p0 p1 HM
        generalize hx : argP a b c d k = x at p2 p3 ck
        have HX := Lib.hid hx
        clear hx
        go_wp2
        clear ck p2 p3
        go_loopw [11] (fun i wr => ∃ j : Nat, j ≤ k ∧ i = .int .i64 j ∧ Own w wr [] [(g, 3, #[.int .i64 a, .int .i64 b, .int .i64 c, .int .i64 d])] ∧ ∀ i, i < j → argP a b c d i ≠ argP a b c d k) (fun i _ => k - (intOf i).toNat)
        case atStart => exact ⟨0, by omega, rfl, O, fun i hi => by omega⟩
        case round =>
          obtain ⟨j, hj, rfl, O, hn⟩ := hrel
          have HN := Lib.hid hn
          clear hn
          by_cases hjk : j < k
          · have g2 : ((j : Int)) < k := by omega
            have g3 : (0 : Int) ≤ j := by omega
            have g4 : ((j : Int)) < 4 := by omega
            have aj := add_zero_ g j
            have ck : wr.cell? ⟨g, k, none⟩ = some (.int .i64 x) := by rw [← HX.out]; exact ((O.get 0 rfl).cell k).trans (HC.out k hlt)
            have cj : wr.cell? ⟨g, j, none⟩ = some (.int .i64 (argP a b c d j)) := ((O.get 0 rfl).cell j).trans (HC.out j (by omega))
            by_cases he : x = argP a b c d j
            · have HF := Lib.hid (fourB_same a b c d j k hjk hlt (by rw [HX.out]; exact he.symm))
              rw [← he] at cj
              clear he
              go_wp2
              go_quiet (fail)
              clear ck cj
              generalize hW : World.drewN wr _ = W2
              have O2 : Own w W2 [] [(g, 3, #[.int .i64 a, .int .i64 b, .int .i64 c, .int .i64 d])] := by rw [← hW]; exact O.drewN _
              clear hW
              go_wp2
              go_ret
              exact ⟨by rw [HF.out]; rfl, O2.keep⟩
            · have HN2 := Lib.hid (show ∀ i, i < j + 1 → argP a b c d i ≠ argP a b c d k from fun i hi => if h : i = j then (by rw [h, HX.out]; exact fun e => he e.symm) else HN.out i (by omega))
              generalize argP a b c d j = y at cj he
              have eb : (x == y) = false := by simpa using he
              clear he
              go_wp2
              go_quiet (fail)
              clear ck cj
              generalize hW : World.drewN wr _ = W2
              have O2 : Own w W2 [] [(g, 3, #[.int .i64 a, .int .i64 b, .int .i64 c, .int .i64 d])] := by rw [← hW]; exact O.drewN _
              clear hW
              go_wp2
              go_roundw
              case rel => exact ⟨j + 1, by omega, by go_num, O2, HN2.out⟩
              case measure => (simp [intOf] <;> omega)
          · obtain rfl : j = k := by omega
            go_wp2
            go_roundw
            case rel => exact ⟨j + 1, by omega, by go_num, O, HM2.out, fun i i' hi hi' => if h : i' = j then (by rw [h]; exact HN.out i (by omega)) else HD.out i i' hi (by omega)⟩
            case measure => (simp [intOf] <;> omega)
      | false =>
        have HF := Lib.hid (fourB_bad a b c d k hlt hok)
        have hok' : argP a b c d k < 0 ∨ 15 < argP a b c d k := by
          by_cases h : argP a b c d k < 0
          · exact .inl h
          · by_cases h2 : 15 < argP a b c d k
            · exact .inr h2
            · rw [(okP_iff _).2 ⟨by omega, by omega⟩] at hok; cases hok
        clear hok HM
        generalize argP a b c d k = x at *
        rcases hok' with h1 | h1
        · go_wp2
          go_ret
          exact ⟨by rw [HF.out]; rfl, O.keep⟩
        · have h0 : ¬ x < 0 := by omega
          go_wp2
          go_ret
          exact ⟨by rw [HF.out]; rfl, O.keep⟩
    · obtain rfl : k = 4 := by omega
      have HF := Lib.hid (fourB_of a b c d HM.out HD.out)
      go_wp2
      go_ret
      exact ⟨by rw [HF.out]; rfl, O.keep⟩
theorem turn_16 (x : BitVec 32) (w : World) : Calls Try.prog 50 #[U32 x, .int .i64 16] w fun e w' => e = .returned (U32 (x.rotateLeft 16)) ∧ w = w' := by
  have e1 : x.rotateLeft 16 = x >>> 16 ||| x <<< 16 := by rw [BitVec.or_comm]; rfl
  rw [e1]
  go_enter Try.func50, Try.ntmps50
  go_wp2
  go_ret
  exact ⟨rfl, rfl⟩
theorem turn_12 (x : BitVec 32) (w : World) : Calls Try.prog 50 #[U32 x, .int .i64 12] w fun e w' => e = .returned (U32 (x.rotateLeft 20)) ∧ w = w' := by
  have e1 : x.rotateLeft 20 = x >>> 12 ||| x <<< 20 := by rw [BitVec.or_comm]; rfl
  rw [e1]
  go_enter Try.func50, Try.ntmps50
  go_wp2
  go_ret
  exact ⟨rfl, rfl⟩
theorem turn_8 (x : BitVec 32) (w : World) : Calls Try.prog 50 #[U32 x, .int .i64 8] w fun e w' => e = .returned (U32 (x.rotateLeft 24)) ∧ w = w' := by
  have e1 : x.rotateLeft 24 = x >>> 8 ||| x <<< 24 := by rw [BitVec.or_comm]; rfl
  rw [e1]
  go_enter Try.func50, Try.ntmps50
  go_wp2
  go_ret
  exact ⟨rfl, rfl⟩
theorem turn_7 (x : BitVec 32) (w : World) : Calls Try.prog 50 #[U32 x, .int .i64 7] w fun e w' => e = .returned (U32 (x.rotateLeft 25)) ∧ w = w' := by
  have e1 : x.rotateLeft 25 = x >>> 7 ||| x <<< 25 := by rw [BitVec.or_comm]; rfl
  rw [e1]
  go_enter Try.func50, Try.ntmps50
  go_wp2
  go_ret
  exact ⟨rfl, rfl⟩
theorem turn_25 (x : BitVec 32) (w : World) : Calls Try.prog 50 #[U32 x, .int .i64 25] w fun e w' => e = .returned (U32 (x.rotateLeft 7)) ∧ w = w' := by
  have e1 : x.rotateLeft 7 = x >>> 25 ||| x <<< 7 := by rw [BitVec.or_comm]; rfl
  rw [e1]
  go_enter Try.func50, Try.ntmps50
  go_wp2
  go_ret
  exact ⟨rfl, rfl⟩
theorem turn_24 (x : BitVec 32) (w : World) : Calls Try.prog 50 #[U32 x, .int .i64 24] w fun e w' => e = .returned (U32 (x.rotateLeft 8)) ∧ w = w' := by
  have e1 : x.rotateLeft 8 = x >>> 24 ||| x <<< 8 := by rw [BitVec.or_comm]; rfl
  rw [e1]
  go_enter Try.func50, Try.ntmps50
  go_wp2
  go_ret
  exact ⟨rfl, rfl⟩
theorem turn_20 (x : BitVec 32) (w : World) : Calls Try.prog 50 #[U32 x, .int .i64 20] w fun e w' => e = .returned (U32 (x.rotateLeft 12)) ∧ w = w' := by
  have e1 : x.rotateLeft 12 = x >>> 20 ||| x <<< 12 := by rw [BitVec.or_comm]; rfl
  rw [e1]
  go_enter Try.func50, Try.ntmps50
  go_wp2
  go_ret
  exact ⟨rfl, rfl⟩
end Go.Proofs.Ytanibkocihjgjaa
