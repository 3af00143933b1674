/-
  Bytes: a slice that reads as bytes; what load of both texts computes; slices of bytes that a call makes.
-/
import Derived.Test.YtanibkocihjgjaaS11
import Derived.Deep.AppendLies
import Derived.Laws.AppendOwnNone
import Derived.ChangeSlices
namespace Go.Proofs.Ytanibkocihjgjaa
open Go.RowKit

@[go_sem] theorem run_convert_U8 {P : Program} (w : World) (src dst : TypeId) (x : BitVec 8) (hs : (P.underlying src).isSome = true) (hd : P.underlying dst = some (.int .u64)) :
    (convert src dst (U8 x)).run P w = .ok (U64 (x.setWidth 64)) w := by
  have hk : P.intKind dst = .u64 := by simp [Program.intKind, hd]
  unfold U8
  rw [run_convert_int w src dst .u8 _ hs (by rw [hk]; exact hd), hk, wrap_u64]
  congr 2
  rw [BitVec.toNat_setWidth]
  have := x.isLt
  omega
@[go_sem] theorem neq_U8 (t : TypeId) (x y : BitVec 8) : binOp .neq t (U8 x) (U8 y) = pure (.bool (x != y)) := by
  simp only [U8, binOp_neq]
  congr 2
  rw [Bool.eq_iff_iff, bne_iff_ne, bne_iff_ne, ne_eq, ne_eq, Int.natCast_inj, BitVec.toNat_inj]

/-! ### A slice that reads as bytes -/
def Byt (W : World) (A : Option Addr) (n : Nat) (f : Nat → BitVec 8) : Prop :=
  0 < n → ∃ ad, A = some ad ∧ ad.block < W.heap.size ∧ ∀ j, j < n → W.cell? (ad.add j) = some (U8 (f j))
theorem add_block (a : Addr) (n : Nat) : (a.add n).block = a.block := by unfold Addr.add; split <;> rfl
theorem Keeps.cellAt {w u : World} {S : List Nat} (k : Keeps w u S) {p : Addr} (hp : p.block < w.heap.size) (hn : p.block ∉ S) : u.cell? p = w.cell? p := World.cell?_of_block (k.block p.block hp hn)
theorem Byt.keeps {w u : World} {A : Option Addr} {n : Nat} {f : Nat → BitVec 8} {S : List Nat} (h : Byt w A n f) (k : Keeps w u S) (hS : ∀ ad, A = some ad → ad.block ∉ S) : Byt u A n f := fun hn => by
  obtain ⟨ad, e, hb, hc⟩ := h hn
  refine ⟨ad, e, by have := k.size; omega, fun j hj => ?_⟩
  rw [k.cellAt (by rw [add_block]; exact hb) (by rw [add_block]; exact hS ad e)]
  exact hc j hj
theorem Byt.kept {w u : World} {A : Option Addr} {n : Nat} {f : Nat → BitVec 8} (h : Byt w A n f) (k : Keeps w u []) : Byt u A n f := h.keeps k (fun _ _ => by simp)

def orK (f : Nat → BitVec 8) : Nat → BitVec 64
  | 0 => 0
  | k + 1 => orK f k ||| ((f k).setWidth 64) <<< (8 * k)
def leN (f : Nat → BitVec 8) : Nat → Nat
  | 0 => 0
  | k + 1 => leN f k + (f k).toNat * 2 ^ (8 * k)
theorem leN_lt (f : Nat → BitVec 8) : ∀ k, leN f k < 2 ^ (8 * k)
  | 0 => by simp [leN]
  | k + 1 => by
    have h := leN_lt f k
    have hb := (f k).isLt
    unfold leN
    have e : 2 ^ (8 * (k + 1)) = 2 ^ (8 * k) * 256 := by rw [show 8 * (k + 1) = 8 * k + 8 from by omega, Nat.pow_add]
    rw [e]
    have h2 : (f k).toNat * 2 ^ (8 * k) ≤ 255 * 2 ^ (8 * k) := Nat.mul_le_mul_right _ (by omega)
    omega
theorem orK_toNat (f : Nat → BitVec 8) : ∀ k, k ≤ 8 → (orK f k).toNat = leN f k
  | 0, _ => rfl
  | k + 1, h => by
    have ih := orK_toNat f k (by omega)
    have hl := leN_lt f k
    have hb := (f k).isLt
    unfold orK leN
    have hp : 2 ^ (8 * k) * 256 ≤ 2 ^ 64 := by
      rw [show 2 ^ (8 * k) * 256 = 2 ^ (8 * k + 8) from by rw [Nat.pow_add]]
      exact Nat.pow_le_pow_right (by decide) (by omega)
    have h2 : (f k).toNat * 2 ^ (8 * k) ≤ 255 * 2 ^ (8 * k) := Nat.mul_le_mul_right _ (by omega)
    rw [BitVec.toNat_or, BitVec.toNat_shiftLeft, BitVec.toNat_setWidth, ih, Nat.mod_eq_of_lt (show (f k).toNat < 2 ^ 64 from by omega), Nat.shiftLeft_eq, Nat.mod_eq_of_lt (by omega), Nat.or_comm, ← Nat.shiftLeft_eq, ← Nat.shiftLeft_add_eq_or_of_lt hl, Nat.shiftLeft_eq, Nat.add_comm]
/-- Four bytes as a word, the lowest first. -/
def ld32 (f : Nat → BitVec 8) : BitVec 32 := (f 0).setWidth 32 + (f 1).setWidth 32 <<< 8 + (f 2).setWidth 32 <<< 16 + (f 3).setWidth 32 <<< 24
theorem orK_ld32 (f : Nat → BitVec 8) : (orK f 4).setWidth 32 = ld32 f := by
  apply BitVec.eq_of_toNat_eq
  rw [BitVec.toNat_setWidth, orK_toNat f 4 (by omega)]
  have h0 := (f 0).isLt
  have h1 := (f 1).isLt
  have h2 := (f 2).isLt
  have h3 := (f 3).isLt
  unfold ld32
  simp only [leN, BitVec.toNat_add, BitVec.toNat_shiftLeft, BitVec.toNat_setWidth, Nat.shiftLeft_eq]
  omega
/-- Word k of the bytes f. -/
def wV (f : Nat → BitVec 8) : Nat → BitVec 32 := fun k => ld32 fun j => f (4 * k + j)

set_option maxHeartbeats 1000000 in
theorem load_any (ad : Addr) (n c off : Nat) (f : Nat → BitVec 8) (w : World) (hB : ad.block < w.heap.size) (hc : ∀ j, j < n → w.cell? (ad.add j) = some (U8 (f j))) (ho : off + 4 ≤ n) (hn : n ≤ maxLen) :
    Calls Try.prog 65 #[.slice (some ad) n c, .int .i64 off, .int .i64 4] w fun e w' => e = .returned (.tuple #[U64 (orK (fun j => f (off + j)) 4), .int .i64 0]) ∧ w = w' := by
  have hn' : n ≤ 9223372036854775807 := hn
  have h0 : ¬ ((off : Int) < 0) := by omega
  have h1 : ¬ ((n : Int) < off) := by omega
  have h2 : IntKind.i64.wrap ((n : Int) - off) = n - off := IntWalk.i64_in _ (by omega)
  have h3 : ¬ ((n : Int) - off < 4) := by omega
  have HW := Lib.hid h2
  clear h2
  generalize hg : (fun j => f (off + j)) = g at *
  have hgv : ∀ j, f (off + j) = g j := fun j => by rw [← hg]
  have HG := Lib.hid hgv
  clear hg hgv
  go_enter Try.func65, Try.ntmps65
  have h2 := HW.out
  go_wp2
  clear h2
  go_loopw [25, 8] (fun i v wr => ∃ k : Nat, k ≤ 4 ∧ i = .int .i64 k ∧ v = U64 (orK g k) ∧ w = wr) (fun i _ _ => 4 - (intOf i).toNat)
  case atStart => exact ⟨0, by omega, rfl, rfl, rfl⟩
  case round =>
    obtain ⟨k, hk, rfl, rfl, rfl⟩ := hrel
    by_cases hlt : k < 4
    · have g1 : ((k : Int)) < 4 := by omega
      have m1 : IntKind.i64.wrap ((off : Int) + k) = off + k := IntWalk.i64_in _ (by omega)
      have m2 : ((off : Int) + k).toNat = off + k := by omega
      have m3 : IntKind.i64.wrap (8 * (k : Int)) = 8 * k := IntWalk.i64_in _ (by omega)
      have m4 : (8 * (k : Int)).toNat = 8 * k := by omega
      have m5 : (0 : Int) ≤ off + k := by omega
      have m6 : (off : Int) + k < n := by omega
      have m7 : (0 : Int) ≤ 8 * k := by omega
      have cc : w.cell? (ad.add (off + k)) = some (U8 (g k)) := by rw [hc (off + k) (by omega), HG.out]
      go_wp2
      clear m1 m2 m3 m4 cc
      go_roundw
      case rel => exact ⟨k + 1, by omega, by go_num, rfl, by trivial⟩
      case measure => (simp [intOf] <;> omega)
    · obtain rfl : k = 4 := by omega
      go_wp2
      go_ret2
      exact ⟨rfl, rfl⟩

theorem load32_any (ad : Addr) (n c off : Nat) (f : Nat → BitVec 8) (w : World) (hB : ad.block < w.heap.size) (hc : ∀ j, j < n → w.cell? (ad.add j) = some (U8 (f j))) (ho : off + 4 ≤ n) (hn : n ≤ maxLen) :
    Calls Try.prog 60 #[.slice (some ad) n c, .int .i64 off] w fun e w' => e = .returned (.tuple #[U32 (ld32 fun j => f (off + j)), .int .i64 0]) ∧ w = w' := by
  rw [← orK_ld32]
  go_enter Try.func60, Try.ntmps60
  go_wp2_with (go_at_call 65; refine (load_any ad n c off f w hB hc ho hn).mono ?_; rintro e W ⟨rfl, rfl⟩)
  go_ret2
  exact ⟨rfl, rfl⟩

set_option maxHeartbeats 1000000 in
theorem refload_any (ad : Addr) (n c off : Nat) (f : Nat → BitVec 8) (w : World) (hB : ad.block < w.heap.size) (hc : ∀ j, j < n → w.cell? (ad.add j) = some (U8 (f j))) (ho : off + 4 ≤ n) (hn : n ≤ maxLen) :
    Calls Try.prog 54 #[.slice (some ad) n c, .int .i64 off] w fun e w' => e = .returned (U32 (ld32 fun j => f (off + j))) ∧ Keeps w w' [] := by
  have hn' : n ≤ 9223372036854775807 := hn
  have m0 : (0 : Int) ≤ off := by omega
  have l0 : (off : Int) < n := by omega
  obtain ⟨o1, ho1⟩ : ∃ o, o = off + 1 := ⟨_, rfl⟩
  have w1 : IntKind.i64.wrap ((off : Int) + 1) = o1 := by rw [ho1]; exact IntWalk.i64_in _ (by omega)
  have m1 : (0 : Int) ≤ o1 := by omega
  have l1 : (o1 : Int) < n := by omega
  have c1 := hc o1 (by omega)
  obtain ⟨o2, ho2⟩ : ∃ o, o = off + 2 := ⟨_, rfl⟩
  have w2 : IntKind.i64.wrap ((off : Int) + 2) = o2 := by rw [ho2]; exact IntWalk.i64_in _ (by omega)
  have m2 : (0 : Int) ≤ o2 := by omega
  have l2 : (o2 : Int) < n := by omega
  have c2 := hc o2 (by omega)
  obtain ⟨o3, ho3⟩ : ∃ o, o = off + 3 := ⟨_, rfl⟩
  have w3 : IntKind.i64.wrap ((off : Int) + 3) = o3 := by rw [ho3]; exact IntWalk.i64_in _ (by omega)
  have m3 : (0 : Int) ≤ o3 := by omega
  have l3 : (o3 : Int) < n := by omega
  have c3 := hc o3 (by omega)
  have c0 := hc off (by omega)
  have HR := Lib.hid (show ld32 (fun j => f (off + j)) = (f off).setWidth 32 + (f o1).setWidth 32 <<< 8 + (f o2).setWidth 32 <<< 16 + (f o3).setWidth 32 <<< 24 by rw [ho1, ho2, ho3]; rfl)
  generalize ld32 (fun j => f (off + j)) = R at *
  generalize f off = x0 at *
  generalize f o1 = x1 at *
  generalize f o2 = x2 at *
  generalize f o3 = x3 at *
  clear hc ho1 ho2 ho3
  go_enter Try.func54, Try.ntmps54
  go_wp2
  go_quiet (fail)
  go_wp2
  go_ret
  exact ⟨by rw [HR.out]; rfl, (Keeps.refl w []).drewN _⟩

def bytesA (n : Nat) (f : Nat → BitVec 8) : Array Value := (Array.range n).map fun i => U8 (f i)
def upd8 (f : Nat → BitVec 8) (i : Nat) (x : BitVec 8) : Nat → BitVec 8 := fun j => if j = i then x else f j
@[go_sem] theorem bytesA_size (n : Nat) (f : Nat → BitVec 8) : (bytesA n f).size = n := by simp [bytesA]
theorem bytesA_get' (n : Nat) (f : Nat → BitVec 8) (i : Nat) : (bytesA n f)[i]? = if i < n then some (U8 (f i)) else none := by
  by_cases h : i < n <;> simp [bytesA, h]
theorem bytesA_get (n : Nat) (f : Nat → BitVec 8) (i : Nat) (h : i < n) : (bytesA n f)[i]? = some (U8 (f i)) := by rw [bytesA_get', if_pos h]
theorem bytesA_set (n : Nat) (f : Nat → BitVec 8) (i : Nat) (x : BitVec 8) : (bytesA n f).setIfInBounds i (U8 x) = bytesA n (upd8 f i x) := by
  apply Array.ext_getElem?
  intro j
  rw [Array.getElem?_setIfInBounds, bytesA_get', bytesA_get', bytesA_size]
  by_cases hj : i = j
  · subst hj; simp [upd8]
  · rw [if_neg hj]; unfold upd8; rw [if_neg (Ne.symm hj)]
theorem bytesA_congr {n : Nat} {f g : Nat → BitVec 8} (h : ∀ i, i < n → f i = g i) : bytesA n f = bytesA n g := by
  apply Array.ext_getElem?
  intro j
  rw [bytesA_get', bytesA_get']
  by_cases hj : j < n
  · rw [if_pos hj, if_pos hj, h j hj]
  · rw [if_neg hj, if_neg hj]
/-- n bytes as a list of cells. -/
def bl (n : Nat) (f : Nat → BitVec 8) : List Value := (bytesA n f).toList
theorem bl_length (n : Nat) (f : Nat → BitVec 8) : (bl n f).length = n := by simp [bl, bytesA]
theorem bl_get (n : Nat) (f : Nat → BitVec 8) (i : Nat) : (bl n f)[i]? = if i < n then some (U8 (f i)) else none := by
  unfold bl
  rw [Array.getElem?_toList, bytesA_get']
theorem bl_one (n : Nat) (f : Nat → BitVec 8) : ∀ u ∈ bl n f, u.oneCell' = true := by
  intro v hv
  simp only [bl, bytesA, Array.toList_map, List.mem_map] at hv
  obtain ⟨i, _, rfl⟩ := hv
  rfl
def cat (n : Nat) (f g : Nat → BitVec 8) : Nat → BitVec 8 := fun j => if j < n then f j else g (j - n)
theorem bl_append (n m : Nat) (f g : Nat → BitVec 8) : bl n f ++ bl m g = bl (n + m) (cat n f g) := by
  apply List.ext_getElem?
  intro j
  rw [List.getElem?_append, bl_get, bl_get, bl_get, bl_length]
  unfold cat
  by_cases h : j < n
  · rw [if_pos h, if_pos h, if_pos (by omega), if_pos h]
  · rw [if_neg h]
    by_cases h2 : j - n < m
    · rw [if_pos h2, if_pos (by omega), if_neg h]
    · rw [if_neg h2, if_neg (by omega)]

theorem info5 : ∃ i, Try.prog.info? 5 = some i ∧ i.zero = some (.int .u8 0) ∧ i.size = 1 ∧ i.bytes = 1 := by
  have h : (Try.prog.info? 5).map (fun i => (i.zero, i.size, i.bytes)) = some (some (.int .u8 0), 1, 1) := by kernel_rfl
  cases hq : Try.prog.info? 5 with
  | none => rw [hq] at h; cases h
  | some i =>
    rw [hq] at h
    simp only [Option.map_some, Option.some.injEq, Prod.mk.injEq] at h
    exact ⟨i, rfl, h.1, h.2.1, h.2.2⟩

section
variable {ops : Array Oper} {rest : List Oper} {o : Oper} {a : Act} {w W : World} {Q : Exit → Act → World → Prop} {S : List Nat} {L : List Ent} {x y : Operand}

theorem own_make (d l c : Nat) (O : Own w W S L) (_hd : o.dst = some d) (hgd : o.guard = none) (ho : o.op = .makeSlice 32 x y) (hx : a.eval x = .int .i64 (l : Nat)) (hy : a.eval y = .int .i64 (c : Nat)) (hlc : l ≤ c) (hc : c ≤ 1000000)
    (h : ∀ u g, Own w u S ((g, 5, bytesA c fun _ => 0) :: L) → wpList Try.prog ops Q rest (a.put o.dst (.slice (some ⟨g, 0, none⟩) l c)) u) : wpList Try.prog ops Q (o :: rest) a W := by
  obtain ⟨i, hi, hz, hs, hb⟩ := info5
  refine wpList_plain hgd fun K hK => ?_
  have hr := run_make (P := Try.prog) W 32 5 i (.int .u8 0) Try.underlying32 hi hz .i64 .i64 l c (by omega) (by omega) (by rw [hb]; omega) (by omega)
  have e1 : madeCells (Value.int .u8 0).cells ((c : Int).toNat * i.size) = bytesA c fun _ => 0 := by
    rw [hs]
    simp [madeCells, Value.cells, bytesA]
    intro j hj
    rw [Nat.mod_one]
    rfl
  rw [e1] at hr
  simp only [Int.toNat_natCast] at hr
  unfold Oper.wp execOp
  simp only [ho, hx, hy, Sem.run_bind, hr, Result.andThen_ok, Sem.run_pure]
  exact hK _ _ (h _ _ (O.add ((Keeps.refl _ _).alloc _) (Blk.new _ _ _)))

/-- A literal of one byte. -/
theorem own_lit1 (d : Nat) (b : BitVec 8) (O : Own w W S L) (_hd : o.dst = some d) (hgd : o.guard = none) (ho : o.op = .buildSlice 32 1 #[(0, x)]) (hx : a.eval x = U8 b)
    (h : ∀ u g, Keeps W u [] → Own w u S ((g, 5, bytesA 1 fun _ => b) :: L) → wpList Try.prog ops Q rest (a.put o.dst (.slice (some ⟨g, 0, none⟩) 1 1)) u) : wpList Try.prog ops Q (o :: rest) a W := by
  obtain ⟨i, hi, hz, hs, hb⟩ := info5
  refine wpList_buildSlice hgd 32 5 1 _ ho (bytesA 1 fun _ => b) i (.int .u8 0) Try.underlying32 hi hz (by rw [hs]; decide) (by rw [hs]; decide) ?_ (h _ _ ((Keeps.refl _ _).alloc _) (O.add ((Keeps.refl _ _).alloc _) (Blk.new _ _ _)))
  rw [hs]
  have e : ((#[(0, x)] : Array (Nat × Operand)).map (fun (i, x) => (i, a.eval x))).toList = [(0, U8 b)] := by simp [hx]
  rw [e]
  have r : Array.range 1 = #[0] := by decide
  simp [Instr.fill, bytesA, r, cells_U8]

/-- The slice that the call itself makes: v holds the bytes f, n of them. -/
def Mine (w W : World) (v : Value) (n : Nat) (f : Nat → BitVec 8) : Prop := W.ownsRow w.heap.size 5 1 v n (bl n f)
theorem Mine.nil (w W : World) (f : Nat → BitVec 8) : Mine w W (.slice none 0 0) 0 f := by
  have e : bl 0 f = [] := List.eq_nil_of_length_eq_zero (bl_length 0 f)
  unfold Mine
  rw [e]
  exact World.ownsRow_nil W w.heap.size 5 1
theorem Mine.congr {w W : World} {v : Value} {n : Nat} {f g : Nat → BitVec 8} (h : Mine w W v n f) (e : ∀ i, i < n → f i = g i) : Mine w W v n g := by
  unfold Mine bl at h ⊢
  rwa [bytesA_congr e] at h
theorem Mine.row {w W : World} {g n c : Nat} {f : Nat → BitVec 8} (h : Blk W g 5 (bytesA c f)) (hg : w.heap.size ≤ g) (hn : n ≤ c) (hc : c ≤ maxLen) : Mine w W (.slice (some ⟨g, 0, none⟩) n c) n f := by
  refine ⟨by rw [bl_length]; omega, .inr ⟨g, c, _, rfl, hg, h, hn, hc, by rw [bytesA_size]; omega, ?_⟩⟩
  apply List.ext_getElem?
  intro j
  rw [List.getElem?_take, bl_get, Array.getElem?_toList, bytesA_get']
  by_cases hj : j < n
  · rw [if_pos (by omega), if_pos (by omega), if_pos hj]
  · rw [if_neg (by omega), if_neg hj]
theorem Mine.keeps {w W u : World} {v : Value} {n : Nat} {f : Nat → BitVec 8} (h : Mine w W v n f) (k : Keeps W u []) : Mine w u v n f := by
  refine ⟨h.1, ?_⟩
  rcases h.2 with hn | ⟨g, cap, cur, rfl, hb, hgg, rest⟩
  · exact .inl hn
  · refine .inr ⟨g, cap, cur, rfl, hb, ?_, rest⟩
    rw [k.block g (Array.getElem?_eq_some_iff.1 hgg).1 (by simp)]
    exact hgg
theorem Mine.byt {w W : World} {v : Value} {n : Nat} {f : Nat → BitVec 8} (h : Mine w W v n f) (hn : 0 < n) : ∃ g c, v = .slice (some ⟨g, 0, none⟩) n c ∧ w.heap.size ≤ g ∧ g < W.heap.size ∧ ∀ j, j < n → W.cell? ((⟨g, 0, none⟩ : Addr).add j) = some (U8 (f j)) := by
  have hc := fun g hg j u hu => h.cells (g := g) hg j u hu
  have hl := h.lt
  rcases h.2 with ⟨_, h0⟩ | ⟨g, cap, cur, rfl, hb, hgg, rest⟩
  · omega
  · exact ⟨g, cap, rfl, hb, (hl g rfl).2, fun j hj => hc g rfl j _ (by rw [bl_get, if_pos hj])⟩
theorem Own.grown (O : Own w W S L) {v : Value} {n : Nat} {f : Nat → BitVec 8} {W' : World} (h : Mine w W v n f) (hg : W.grownBy W' v.ownBlock) (hL : ∀ q ∈ L, q.2.1 ≠ 5) : Own w W' S L := by
  have k := Keeps.grown hg
  have hlt := h.lt
  have hne : ∀ q ∈ L, q.1 ∉ v.ownBlock.toList := fun q hq hm => by
    have hv : v.ownBlock = some q.1 := by simpa using hm
    rcases h.2 with ⟨rfl, _⟩ | ⟨g, cap, cur, rfl, hb, hgg, rest⟩
    · cases hv
    · have e : g = q.1 := by simpa [Value.ownBlock] using hv
      subst e
      have b := O.blk q hq
      unfold Blk at b
      rw [hgg] at b
      injection b with b
      injection b with _ ht
      exact hL q hq ht.symm
  refine ⟨O.keep.trans k fun b hb hlt' => ?_, fun q hq => (O.blk q hq).keeps k (hne q hq), O.new, O.nd⟩
  have hv : v.ownBlock = some b := by simpa using hb
  have := (hlt b hv).1
  omega

theorem own_append (v : Value) (n m c : Nat) (f g : Nat → BitVec 8) (ad : Addr) (s z : Operand) (O : Own w W S L) (hM : Mine w W v n f) (hgd : o.guard = none) (ho : o.op = .call { callee := .builtin .append, args := #[s, z], argTypes := #[32, 32] })
    (hs : a.eval s = v) (hz' : a.eval z = .slice (some ad) m c) (hL : ∀ q ∈ L, q.2.1 ≠ 5) (hc : ∀ j, j < m → W.cell? (ad.add j) = some (U8 (g j))) (hb : n + m ≤ 140737488355328)
    (h : ∀ v' u, Own w u S L → Mine w u v' (n + m) (cat n f g) → wpList Try.prog ops Q rest (a.put o.dst v') u) : wpList Try.prog ops Q (o :: rest) a W := by
  obtain ⟨i, hi, hz, hsz, hby⟩ := info5
  refine wpList_append_own W hgd s z 32 ho w.heap.size 5 i (.int .u8 0) 1 1 Try.underlying32 hi hz hsz hby rfl (by decide) v n (bl n f) hs hM ad m c (bl m g) hz' (by rw [bl_length]; omega) (fun j u hu => ?_) (bl_one m g)
    (by simp only [maxLen]; omega) (by omega) O.keep.size fun v' u h1 h2 _ => ?_
  · rw [bl_get] at hu
    by_cases hj : j < m
    · rw [if_pos hj] at hu; rw [hc j hj]; exact hu
    · rw [if_neg hj] at hu; cases hu
  · rw [bl_append] at h1
    exact h v' u (O.grown hM h2 hL) h1
end

end Go.Proofs.Ytanibkocihjgjaa
