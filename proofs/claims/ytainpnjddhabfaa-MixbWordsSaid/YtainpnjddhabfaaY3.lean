/-
  Slices of bytes that a call makes: make, a literal, append.
-/
import Derived.Test.YtainpnjddhabfaaY2
import Derived.OwnWalk
import Derived.Great.BuildSlice
namespace Go.Proofs.Ytainpnjddhabfaa
open Go.RowKit

def bytesA (n : Nat) (f : Nat → BitVec 8) : Array Value := (Array.range n).map fun i => U8 (f i)
def upd8 (f : Nat → BitVec 8) (i : Nat) (x : BitVec 8) : Nat → BitVec 8 := fun j => if j = i then x else f j
@[go_sem] theorem bytesA_size (n : Nat) (f : Nat → BitVec 8) : (bytesA n f).size = n := by simp [bytesA]
theorem bytesA_get' (n : Nat) (f : Nat → BitVec 8) (i : Nat) : (bytesA n f)[i]? = if i < n then some (U8 (f i)) else none := by
  by_cases h : i < n <;> simp [bytesA, h]
theorem bytesA_get (n : Nat) (f : Nat → BitVec 8) (i : Nat) (h : i < n) : (bytesA n f)[i]? = some (U8 (f i)) := by rw [bytesA_get', if_pos h]
theorem bytesA_set (n : Nat) (f : Nat → BitVec 8) (i : Nat) (x : BitVec 8) : (bytesA n f).setIfInBounds i (U8 x) = bytesA n (upd8 f i x) := by
  apply Array.ext_getElem?
  intro j
  rw [Array.getElem?_setIfInBounds, bytesA_get', bytesA_get', bytesA_size]
  by_cases hj : i = j
  · subst hj; simp [upd8]
  · rw [if_neg hj]; unfold upd8; rw [if_neg (Ne.symm hj)]
theorem bytesA_congr {n : Nat} {f g : Nat → BitVec 8} (h : ∀ i, i < n → f i = g i) : bytesA n f = bytesA n g := by
  apply Array.ext_getElem?
  intro j
  rw [bytesA_get', bytesA_get']
  by_cases hj : j < n
  · rw [if_pos hj, if_pos hj, h j hj]
  · rw [if_neg hj, if_neg hj]
/-- n bytes as a list of cells. -/
def bl (n : Nat) (f : Nat → BitVec 8) : List Value := (bytesA n f).toList
theorem bl_length (n : Nat) (f : Nat → BitVec 8) : (bl n f).length = n := by simp [bl, bytesA]
theorem bl_get (n : Nat) (f : Nat → BitVec 8) (i : Nat) : (bl n f)[i]? = if i < n then some (U8 (f i)) else none := by
  unfold bl
  rw [Array.getElem?_toList, bytesA_get']
theorem bl_one (n : Nat) (f : Nat → BitVec 8) : ∀ u ∈ bl n f, u.oneCell' = true := by
  intro v hv
  simp only [bl, bytesA, Array.toList_map, List.mem_map] at hv
  obtain ⟨i, _, rfl⟩ := hv
  rfl
def cat (n : Nat) (f g : Nat → BitVec 8) : Nat → BitVec 8 := fun j => if j < n then f j else g (j - n)
theorem bl_append (n m : Nat) (f g : Nat → BitVec 8) : bl n f ++ bl m g = bl (n + m) (cat n f g) := by
  apply List.ext_getElem?
  intro j
  rw [List.getElem?_append, bl_get, bl_get, bl_get, bl_length]
  unfold cat
  by_cases h : j < n
  · rw [if_pos h, if_pos h, if_pos (by omega), if_pos h]
  · rw [if_neg h]
    by_cases h2 : j - n < m
    · rw [if_pos h2, if_pos (by omega), if_neg h]
    · rw [if_neg h2, if_neg (by omega)]

theorem info5 : ∃ i, Try.prog.info? 5 = some i ∧ i.zero = some (.int .u8 0) ∧ i.size = 1 ∧ i.bytes = 1 := by
  have h : (Try.prog.info? 5).map (fun i => (i.zero, i.size, i.bytes)) = some (some (.int .u8 0), 1, 1) := by kernel_rfl
  cases hq : Try.prog.info? 5 with
  | none => rw [hq] at h; cases h
  | some i =>
    rw [hq] at h
    simp only [Option.map_some, Option.some.injEq, Prod.mk.injEq] at h
    exact ⟨i, rfl, h.1, h.2.1, h.2.2⟩

theorem Keeps.grown {w w' : World} {row : Option Nat} (h : w.grownBy w' row) : Keeps w w' row.toList :=
  ⟨h.os, h.tape, h.output, h.size, fun b hb hn => h.block b hb (fun e => hn (by rw [← e]; simp))⟩

section
variable {ops : Array Oper} {rest : List Oper} {o : Oper} {a : Act} {w W : World} {Q : Exit → Act → World → Prop} {S : List Nat} {L : List Ent} {x y : Operand}

theorem own_make (d l c : Nat) (O : Own w W S L) (_hd : o.dst = some d) (hgd : o.guard = none) (ho : o.op = .makeSlice 49 x y) (hx : a.eval x = .int .i64 (l : Nat)) (hy : a.eval y = .int .i64 (c : Nat)) (hlc : l ≤ c) (hc : c ≤ 1000000)
    (h : ∀ u g, Own w u S ((g, 5, bytesA c fun _ => 0) :: L) → wpList Try.prog ops Q rest (a.put o.dst (.slice (some ⟨g, 0, none⟩) l c)) u) : wpList Try.prog ops Q (o :: rest) a W := by
  obtain ⟨i, hi, hz, hs, hb⟩ := info5
  refine wpList_plain hgd fun K hK => ?_
  have hr := run_make (P := Try.prog) W 49 5 i (.int .u8 0) Try.underlying49 hi hz .i64 .i64 l c (by omega) (by omega) (by rw [hb]; omega) (by omega)
  have e1 : madeCells (Value.int .u8 0).cells ((c : Int).toNat * i.size) = bytesA c fun _ => 0 := by
    rw [hs]
    simp [madeCells, Value.cells, bytesA]
    intro j hj
    rw [Nat.mod_one]
    rfl
  rw [e1] at hr
  simp only [Int.toNat_natCast] at hr
  unfold Oper.wp execOp
  simp only [ho, hx, hy, Sem.run_bind, hr, Result.andThen_ok, Sem.run_pure]
  exact hK _ _ (h _ _ (O.add ((Keeps.refl _ _).alloc _) (Blk.new _ _ _)))

/-- A literal of one byte. -/
theorem own_lit1 (d : Nat) (b : BitVec 8) (O : Own w W S L) (_hd : o.dst = some d) (hgd : o.guard = none) (ho : o.op = .buildSlice 49 1 #[(0, x)]) (hx : a.eval x = U8 b)
    (h : ∀ u g, Keeps W u [] → Own w u S ((g, 5, bytesA 1 fun _ => b) :: L) → wpList Try.prog ops Q rest (a.put o.dst (.slice (some ⟨g, 0, none⟩) 1 1)) u) : wpList Try.prog ops Q (o :: rest) a W := by
  obtain ⟨i, hi, hz, hs, hb⟩ := info5
  refine wpList_buildSlice hgd 49 5 1 _ ho (bytesA 1 fun _ => b) i (.int .u8 0) Try.underlying49 hi hz (by rw [hs]; decide) (by rw [hs]; decide) ?_ (h _ _ ((Keeps.refl _ _).alloc _) (O.add ((Keeps.refl _ _).alloc _) (Blk.new _ _ _)))
  rw [hs]
  have e : ((#[(0, x)] : Array (Nat × Operand)).map (fun (i, x) => (i, a.eval x))).toList = [(0, U8 b)] := by simp [hx]
  rw [e]
  have r : Array.range 1 = #[0] := by decide
  simp [Instr.fill, bytesA, r, cells_U8]

/-- The slice that the call itself makes: v holds the bytes f, n of them. -/
def Mine (w W : World) (v : Value) (n : Nat) (f : Nat → BitVec 8) : Prop := W.ownsRow w.heap.size 5 1 v n (bl n f)
theorem Mine.nil (w W : World) (f : Nat → BitVec 8) : Mine w W (.slice none 0 0) 0 f := by
  have e : bl 0 f = [] := List.eq_nil_of_length_eq_zero (bl_length 0 f)
  unfold Mine
  rw [e]
  exact World.ownsRow_nil W w.heap.size 5 1
theorem Mine.congr {w W : World} {v : Value} {n : Nat} {f g : Nat → BitVec 8} (h : Mine w W v n f) (e : ∀ i, i < n → f i = g i) : Mine w W v n g := by
  unfold Mine bl at h ⊢
  rwa [bytesA_congr e] at h
theorem Mine.row {w W : World} {g n c : Nat} {f : Nat → BitVec 8} (h : Blk W g 5 (bytesA c f)) (hg : w.heap.size ≤ g) (hn : n ≤ c) (hc : c ≤ maxLen) : Mine w W (.slice (some ⟨g, 0, none⟩) n c) n f := by
  refine ⟨by rw [bl_length]; omega, .inr ⟨g, c, _, rfl, hg, h, hn, hc, by rw [bytesA_size]; omega, ?_⟩⟩
  apply List.ext_getElem?
  intro j
  rw [List.getElem?_take, bl_get, Array.getElem?_toList, bytesA_get']
  by_cases hj : j < n
  · rw [if_pos (by omega), if_pos (by omega), if_pos hj]
  · rw [if_neg (by omega), if_neg hj]
theorem Mine.keeps {w W u : World} {v : Value} {n : Nat} {f : Nat → BitVec 8} (h : Mine w W v n f) (k : Keeps W u []) : Mine w u v n f := by
  refine ⟨h.1, ?_⟩
  rcases h.2 with hn | ⟨g, cap, cur, rfl, hb, hgg, rest⟩
  · exact .inl hn
  · refine .inr ⟨g, cap, cur, rfl, hb, ?_, rest⟩
    rw [k.block g (Array.getElem?_eq_some_iff.1 hgg).1 (by simp)]
    exact hgg
theorem Mine.byt {w W : World} {v : Value} {n : Nat} {f : Nat → BitVec 8} (h : Mine w W v n f) (hn : 0 < n) : ∃ g c, v = .slice (some ⟨g, 0, none⟩) n c ∧ w.heap.size ≤ g ∧ g < W.heap.size ∧ ∀ j, j < n → W.cell? ((⟨g, 0, none⟩ : Addr).add j) = some (U8 (f j)) := by
  have hc := fun g hg j u hu => h.cells (g := g) hg j u hu
  have hl := h.lt
  rcases h.2 with ⟨_, h0⟩ | ⟨g, cap, cur, rfl, hb, hgg, rest⟩
  · omega
  · exact ⟨g, cap, rfl, hb, (hl g rfl).2, fun j hj => hc g rfl j _ (by rw [bl_get, if_pos hj])⟩
theorem Own.grown (O : Own w W S L) {v : Value} {n : Nat} {f : Nat → BitVec 8} {W' : World} (h : Mine w W v n f) (hg : W.grownBy W' v.ownBlock) (hL : ∀ q ∈ L, q.2.1 ≠ 5) : Own w W' S L := by
  have k := Keeps.grown hg
  have hlt := h.lt
  have hne : ∀ q ∈ L, q.1 ∉ v.ownBlock.toList := fun q hq hm => by
    have hv : v.ownBlock = some q.1 := by simpa using hm
    rcases h.2 with ⟨rfl, _⟩ | ⟨g, cap, cur, rfl, hb, hgg, rest⟩
    · cases hv
    · have e : g = q.1 := by simpa [Value.ownBlock] using hv
      subst e
      have b := O.blk q hq
      unfold Blk at b
      rw [hgg] at b
      injection b with b
      injection b with _ ht
      exact hL q hq ht.symm
  refine ⟨O.keep.trans k fun b hb hlt' => ?_, fun q hq => (O.blk q hq).keeps k (hne q hq), O.new, O.nd⟩
  have hv : v.ownBlock = some b := by simpa using hb
  have := (hlt b hv).1
  omega

theorem own_append (v : Value) (n m c : Nat) (f g : Nat → BitVec 8) (ad : Addr) (s z : Operand) (O : Own w W S L) (hM : Mine w W v n f) (hgd : o.guard = none) (ho : o.op = .call { callee := .builtin .append, args := #[s, z], argTypes := #[49, 49] })
    (hs : a.eval s = v) (hz' : a.eval z = .slice (some ad) m c) (hL : ∀ q ∈ L, q.2.1 ≠ 5) (hc : ∀ j, j < m → W.cell? (ad.add j) = some (U8 (g j))) (hb : n + m ≤ 140737488355328)
    (h : ∀ v' u, Own w u S L → Mine w u v' (n + m) (cat n f g) → wpList Try.prog ops Q rest (a.put o.dst v') u) : wpList Try.prog ops Q (o :: rest) a W := by
  obtain ⟨i, hi, hz, hsz, hby⟩ := info5
  refine wpList_append_own W hgd s z 49 ho w.heap.size 5 i (.int .u8 0) 1 1 Try.underlying49 hi hz hsz hby rfl (by decide) v n (bl n f) hs hM ad m c (bl m g) hz' (by rw [bl_length]; omega) (fun j u hu => ?_) (bl_one m g)
    (by simp only [maxLen]; omega) (by omega) O.keep.size fun v' u h1 h2 _ => ?_
  · rw [bl_get] at hu
    by_cases hj : j < m
    · rw [if_pos hj] at hu; rw [hc j hj]; exact hu
    · rw [if_neg hj] at hu; cases hu
  · rw [bl_append] at h1
    exact h v' u (O.grown hM h2 hL) h1
end

/-- What store hands back. -/
def Fresh (w u : World) (e : Ending) (n : Nat) (f : Nat → BitVec 8) : Prop :=
  Keeps w u [] ∧ ∃ g c, e = .returned (.slice (some ⟨g, 0, none⟩) n c) ∧ w.heap.size ≤ g ∧ g < u.heap.size ∧ ∀ j, j < n → u.cell? ((⟨g, 0, none⟩ : Addr).add j) = some (U8 (f j))
theorem add_zero_ (g j : Nat) : (⟨g, 0, none⟩ : Addr).add j = ⟨g, j, none⟩ := by unfold Addr.add; split <;> simp_all

def part8 (x : BitVec 64) (k : Nat) : Nat → BitVec 8 := fun i => if i < k then by64 x i else 0
theorem part8_zero (x : BitVec 64) (i : Nat) : (0 : BitVec 8) = part8 x 0 i := by unfold part8; rw [if_neg (by omega)]
theorem part8_step (x : BitVec 64) (k i : Nat) : upd8 (part8 x k) k (by64 x k) i = part8 x (k + 1) i := by
  unfold upd8 part8
  by_cases h1 : i = k
  · rw [if_pos h1, if_pos (by omega), h1]
  · rw [if_neg h1]
    by_cases h2 : i < k
    · rw [if_pos h2, if_pos (by omega)]
    · rw [if_neg h2, if_neg (by omega)]
theorem part8_all (x : BitVec 64) (i : Nat) (h : i < 8) : part8 x 8 i = by64 x i := by unfold part8; rw [if_pos h]

set_option maxHeartbeats 1000000 in
theorem store_any (x : BitVec 64) (w : World) : Calls Try.prog 42 #[U64 x] w fun e u => Fresh w u e 8 (by64 x) := by
  have O := Own.start w []
  go_enter Try.func42, Try.ntmps42
  go_wp2_with (refine own_make 5 8 8 O rfl rfl rfl rfl rfl (by omega) (by omega) ?_; clear O; intro W a3 O; simp only [Act.put, List.setIfInBounds_toArray, List.set_cons_zero, List.set_cons_succ])
  go_loopw [6] (fun i wr => ∃ k : Nat, k ≤ 8 ∧ i = .int .i64 k ∧ Own w wr [] [(a3, 5, bytesA 8 (part8 x k))]) (fun i _ => 8 - (intOf i).toNat)
  case atStart => exact ⟨0, by omega, rfl, O.put 0 rfl (bytesA_congr fun i _ => part8_zero x i)⟩
  case round =>
    obtain ⟨k, hk, rfl, O⟩ := hrel
    by_cases hlt : k < 8
    · have g1 : ((k : Int)) < 8 := by omega
      have m3 : IntKind.i64.wrap (8 * (k : Int)) = 8 * k := IntWalk.i64_in _ (by omega)
      have m4 : (8 * (k : Int)).toNat = 8 * k := by omega
      have m7 : (0 : Int) ≤ 8 * k := by omega
      have ma := add_zero_ a3 k
      go_wp2_with (refine own_store 0 k (U8 (by64 x k)) (.tmp 16) (.tmp 15) O rfl rfl rfl rfl rfl rfl (by simp only [bytesA_size]; omega) rfl rfl (by kernel_rfl) (bytesA_set 8 _ k _) ?_; clear O; intro W O; simp only [List.set_cons_zero] at O)
      clear m3 m4 ma
      go_roundw
      case rel => exact ⟨k + 1, by omega, by go_num, O.put 0 rfl (bytesA_congr fun i _ => part8_step x k i)⟩
      case measure => (simp [intOf] <;> omega)
    · obtain rfl : k = 8 := by omega
      go_wp2
      go_ret
      have hb := O.get 0 rfl
      refine ⟨O.keep, a3, 8, rfl, ?_, hb.lt, fun j hj => ?_⟩
      · rcases Nat.lt_or_ge a3 w.heap.size with h | h
        · exact absurd (O.new (a3, 5, bytesA 8 (part8 x 8)) (by simp) h) (by simp)
        · exact h
      · rw [add_zero_, hb.cell, bytesA_get _ _ _ hj, part8_all x j hj]

set_option maxHeartbeats 1000000 in
theorem refstore_any (x : BitVec 64) (w : World) : Calls Try.prog 43 #[U64 x, .int .i64 8] w fun e u => Fresh w u e 8 (by64 x) := by
  have O := Own.start w []
  have M := Mine.nil w w (by64 x)
  go_enter Try.func43, Try.ntmps43
  go_wp2
  go_loopw [6, 5, 0] (fun i v y wr => ∃ k : Nat, k ≤ 8 ∧ i = .int .i64 k ∧ y = U64 (cutB x k) ∧ Own w wr [] [] ∧ Mine w wr v k (by64 x)) (fun i _ _ _ => 8 - (intOf i).toNat)
  case atStart => exact ⟨0, by omega, rfl, rfl, O, M⟩
  case round =>
    obtain ⟨k, hk, rfl, rfl, O, M⟩ := hrel
    by_cases hlt : k < 8
    · have g1 : ((k : Int)) < 8 := by omega
      have e1 := cutB_byte x k
      go_wp2_with (first
        | (refine own_lit1 16 (by64 x k) O rfl rfl rfl rfl ?_; clear O; intro W a16 K16 O; replace M := M.keeps K16; clear K16; simp only [Act.put, List.setIfInBounds_toArray, List.set_cons_zero, List.set_cons_succ])
        | (at_builtin; refine own_append _ k 1 1 (by64 x) (fun _ => by64 x k) ⟨a16, 0, none⟩ (.tmp 12) (.tmp 16) (O.drop_ 1) M rfl rfl rfl rfl (by simp) (fun j hj => by rw [add_zero_, (O.get 0 rfl).cell, bytesA_get _ _ _ hj]) (by omega) ?_; clear O M; intro v1 W O M; simp only [Act.put, List.setIfInBounds_toArray, List.set_cons_zero, List.set_cons_succ, List.drop] at O ⊢))
      clear e1
      go_roundw
      case rel =>
        refine ⟨k + 1, by omega, by go_num, rfl, O, M.congr fun i hi => ?_⟩
        unfold cat
        by_cases h1 : i < k
        · rw [if_pos h1]
        · rw [if_neg h1, show i = k from by omega]
      case measure => (simp [intOf] <;> omega)
    · obtain rfl : k = 8 := by omega
      go_wp2
      go_ret
      obtain ⟨g, c, rfl, h1, h2, h3⟩ := M.byt (by omega)
      exact ⟨O.keep, g, c, rfl, h1, h2, h3⟩
end Go.Proofs.Ytainpnjddhabfaa
