/-
  A system as it comes in: its data by index, and where they lie.
-/
import Derived.Test.YtakmcpadkanggaaProg
import Derived.Test.YtakmcpadkanggaaOwn
import Derived.Test.YtakmcpadkanggaaLaw
import Derived.Lib.Hide
import Derived.Lib.SmallJoins
import Derived.Deep.Slices
namespace Go.Proofs.Ytakmcpadkanggaa
open Go.ChangeShapes Go.WideShapes Go.RowKit Go.Deep

theorem add_block (a : Addr) (n : Nat) : (a.add n).block = a.block := by unfold Addr.add; split <;> rfl
theorem Keeps.cellAt {w u : World} {S : List Nat} (k : Keeps w u S) {p : Addr} (hp : p.block < w.heap.size) (hn : p.block ∉ S) : u.cell? p = w.cell? p := World.cell?_of_block (k.block p.block hp hn)

/-- A system's data. -/
structure Sys where
  np : Nat
  lp : Nat → Nat
  q : Nat → Nat → Nat → Int
  nr : Nat
  rm : Nat → Int
  gr : Int
  lk : Int
  ce : Int

def IntsAt (W : World) (A : Option Addr) (n : Nat) (f : Nat → Int) : Prop := 0 < n → ∃ ad, A = some ad ∧ ad.block < W.heap.size ∧ ∀ j, j < n → W.cell? (ad.add j) = some (.int .i64 (f j))
def InstsAt (W : World) (A : Option Addr) (n : Nat) (f : Nat → Nat → Int) : Prop := 0 < n → ∃ ad, A = some ad ∧ ad.block < W.heap.size ∧ ∀ i j, i < n → j < 4 → W.cell? (ad.add (i * 4 + j)) = some (.int .i64 (f i j))
def ProgsAt (W : World) (A : Option Addr) (n : Nat) (lp : Nat → Nat) (q : Nat → Nat → Nat → Int) : Prop := 0 < n → ∃ ad, A = some ad ∧ ad.block < W.heap.size ∧ ∀ p, p < n → ∃ B c, W.cell? (ad.add p) = some (.slice B (lp p) c) ∧ lp p ≤ c ∧ c ≤ maxLen ∧ InstsAt W B (lp p) (q p)
theorem IntsAt.kept {w u : World} {A : Option Addr} {n : Nat} {f : Nat → Int} (h : IntsAt w A n f) (k : Keeps w u []) : IntsAt u A n f := fun hn => by
  obtain ⟨ad, e, hb, hc⟩ := h hn
  exact ⟨ad, e, by have := k.size; omega, fun j hj => by rw [k.cellAt (by rw [add_block]; exact hb) (by simp)]; exact hc j hj⟩
theorem InstsAt.kept {w u : World} {A : Option Addr} {n : Nat} {f : Nat → Nat → Int} (h : InstsAt w A n f) (k : Keeps w u []) : InstsAt u A n f := fun hn => by
  obtain ⟨ad, e, hb, hc⟩ := h hn
  exact ⟨ad, e, by have := k.size; omega, fun i j hi hj => by rw [k.cellAt (by rw [add_block]; exact hb) (by simp)]; exact hc i j hi hj⟩
theorem ProgsAt.kept {w u : World} {A : Option Addr} {n : Nat} {lp : Nat → Nat} {q : Nat → Nat → Nat → Int} (h : ProgsAt w A n lp q) (k : Keeps w u []) : ProgsAt u A n lp q := fun hn => by
  obtain ⟨ad, e, hb, hc⟩ := h hn
  refine ⟨ad, e, by have := k.size; omega, fun p hp => ?_⟩
  obtain ⟨B, c, h1, h2, h3, h4⟩ := hc p hp
  exact ⟨B, c, by rw [k.cellAt (by rw [add_block]; exact hb) (by simp)]; exact h1, h2, h3, h4.kept k⟩

/-- Where a system's data lie. -/
structure SysIn (W : World) (S : Sys) (A : Option Addr) (c : Nat) (R : Option Addr) (d : Nat) : Prop where
  progs : ProgsAt W A S.np S.lp S.q
  rooms : IntsAt W R S.nr S.rm
  np : S.np ≤ c
  nc : c ≤ maxLen
  nr : S.nr ≤ d
  nd : d ≤ maxLen
def sysV (S : Sys) (A : Option Addr) (c : Nat) (R : Option Addr) (d : Nat) : Array Value := #[.slice A S.np c, .slice R S.nr d, .int .i64 S.gr, .int .i64 S.lk, .int .i64 S.ce]
theorem SysIn.kept {w u : World} {S : Sys} {A : Option Addr} {c : Nat} {R : Option Addr} {d : Nat} (h : SysIn w S A c R d) (k : Keeps w u []) : SysIn u S A c R d := ⟨h.progs.kept k, h.rooms.kept k, h.np, h.nc, h.nr, h.nd⟩

section
variable {H : Type} {enc : TypeId × Value → H} {w : World}
theorem cells3 : Try.prog.cellsOf 3 = 1 := by kernel_rfl
theorem cells99 : Try.prog.cellsOf 99 = 4 := by kernel_rfl
theorem cells97 : Try.prog.cellsOf 97 = 1 := by kernel_rfl
/-- One field of one cell. -/
theorem field1 {fuel j : Nat} {cs : List Value} {y : DataW H × List MemPlace} (h : DataW.trod enc Try.prog w 0 (fun _ => true) true fuel 3 ((cs.drop j).take (Try.prog.cellsOf 3)) = some y) : ∃ n : Int, cs[j]? = some (.int .i64 n) := by
  rw [cells3] at h
  obtain ⟨n, e, _, _⟩ := DataW.trod_int Try.underlying3 h
  refine ⟨n, ?_⟩
  have := congrArg (fun l => l[0]?) e
  simpa [List.getElem?_take, List.getElem?_drop] using this
theorem open_insts {fuel : Nat} {v : Value} {y : DataW H × List MemPlace} (h : DataW.trod enc Try.prog w 0 (fun _ => true) true fuel 97 [v] = some y) : ∃ (A : Option Addr) (n c : Nat) (f : Nat → Nat → Int), v = .slice A n c ∧ n ≤ c ∧ c ≤ maxLen ∧ InstsAt w A n f := by
  rcases open_slice Try.underlying97 h with ⟨hcs, _⟩ | ⟨a, len, cap, m, n, D, Pl, hcs, hb, hl, hm, hmm, _, hx⟩
  · obtain rfl : v = .slice none 0 0 := by simpa using hcs
    exact ⟨none, 0, 0, fun _ _ => 0, rfl, Nat.le_refl _, by simp [maxLen], fun h => by omega⟩
  · obtain rfl : v = .slice (some a) len cap := by simpa using hcs
    simp only [if_true] at hmm
    subst hmm
    have key : ∀ i, i < m → ∃ g : Nat → Int, ∀ j, j < 4 → w.cell? (a.add (i * 4 + j)) = some (.int .i64 (g j)) := fun i hi => by
      obtain ⟨cs', h1, h2⟩ := hx i hi
      rw [cells99] at h1
      obtain ⟨y0, y1, y2, y3, n', _, hl4, t0, t1, t2, t3⟩ := Go.Joins.trod_struct4 Try.underlying99 h2
      obtain ⟨n0, e0⟩ := field1 t0
      obtain ⟨n1, e1⟩ := field1 t1
      obtain ⟨n2, e2⟩ := field1 t2
      obtain ⟨n3, e3⟩ := field1 t3
      have hc := (World.cells?_some h1).2.2
      refine ⟨fun j => if j = 0 then n0 else if j = 1 then n1 else if j = 2 then n2 else n3, fun j hj => ?_⟩
      rw [← Addr.add_add]
      match j, hj with
      | 0, _ => rw [hc 0 (by omega)]; exact e0
      | 1, _ => rw [hc 1 (by omega)]; exact e1
      | 2, _ => rw [hc 2 (by omega)]; exact e2
      | 3, _ => rw [hc 3 (by omega)]; exact e3
    obtain ⟨g, hg⟩ := choose_lt key
    exact ⟨some a, len, m, g, rfl, hl, hm, fun hn => ⟨a, rfl, by have := World.block_lt_of_cell? w _ (hg 0 (by omega) 0 (by omega)); rwa [add_block] at this, fun i j hi hj => hg i (by omega) j hj⟩⟩
theorem open_progs {fuel : Nat} {v : Value} {y : DataW H × List MemPlace} (h : DataW.trod enc Try.prog w 0 (fun _ => true) true fuel 24 [v] = some y) : ∃ (A : Option Addr) (n c : Nat) (lp : Nat → Nat) (q : Nat → Nat → Nat → Int), v = .slice A n c ∧ n ≤ c ∧ c ≤ maxLen ∧ ProgsAt w A n lp q := by
  rcases open_slice1 Try.underlying24 cells97 h with ⟨hcs, _⟩ | ⟨a, len, cap, m, n, V, D, Pl, hcs, hb, hl, hm, hmm, _, hx⟩
  · obtain rfl : v = .slice none 0 0 := by simpa using hcs
    exact ⟨none, 0, 0, fun _ => 0, fun _ _ _ => 0, rfl, Nat.le_refl _, by simp [maxLen], fun h => by omega⟩
  · obtain rfl : v = .slice (some a) len cap := by simpa using hcs
    simp only [if_true] at hmm
    subst hmm
    have key : ∀ i, i < m → ∃ x : Nat × (Nat → Nat → Int), ∃ B c, w.cell? (a.add i) = some (.slice B x.1 c) ∧ x.1 ≤ c ∧ c ≤ maxLen ∧ InstsAt w B x.1 x.2 := fun i hi => by
      obtain ⟨h1, h2⟩ := hx i hi
      obtain ⟨B, n', c, f, e, r1, r2, r3⟩ := open_insts h2
      exact ⟨(n', f), B, c, by rw [h1, e], r1, r2, r3⟩
    obtain ⟨g, hg⟩ := choose_lt key
    refine ⟨some a, len, m, fun i => (g i).1, fun i => (g i).2, rfl, hl, hm, fun hn => ⟨a, rfl, ?_, fun p hp => hg p (by omega)⟩⟩
    obtain ⟨B, c, h1, _⟩ := hg 0 (by omega)
    have := World.block_lt_of_cell? w _ h1
    rwa [add_block] at this
theorem open_rooms {fuel : Nat} {v : Value} {y : DataW H × List MemPlace} (h : DataW.trod enc Try.prog w 0 (fun _ => true) true fuel 25 [v] = some y) : ∃ (A : Option Addr) (n c : Nat) (f : Nat → Int), v = .slice A n c ∧ n ≤ c ∧ c ≤ maxLen ∧ IntsAt w A n f := by
  rcases open_ints Try.underlying25 Try.underlying3 cells3 h with ⟨hcs, _⟩ | ⟨a, len, cap, zs, hcs, _, hle, hmax, hzl, _, hcell, _⟩
  · obtain rfl : v = .slice none 0 0 := by simpa using hcs
    exact ⟨none, 0, 0, fun _ => 0, rfl, Nat.le_refl _, by simp [maxLen], fun h => by omega⟩
  · obtain rfl : v = .slice (some a) len cap := by simpa using hcs
    have hz : zs.length = cap := by simpa using hzl
    exact ⟨some a, len, cap, fun i => zs.getD i 0, rfl, hle, hmax, fun hn => ⟨a, rfl, by have := World.block_lt_of_cell? w _ (hcell 0 (by omega)); rwa [add_block] at this, fun j hj => hcell j (by omega)⟩⟩
set_option maxRecDepth 100000 in
/-- A system, opened. -/
theorem open_sys {base : Nat} {v : Value} {d : DataW H} {p : List MemPlace} (hval : Value.okWide Try.prog w .any base 27 v) (h : DataW.Trod enc Try.prog w 0 (fun _ => true) true 27 v d p) :
    ∃ (S : Sys) (A : Option Addr) (c : Nat) (R : Option Addr) (e : Nat), v = .agg (sysV S A c R e) ∧ SysIn w S A c R e := by
  obtain ⟨cs, rfl, hs⟩ := okWide_struct Try.underlying27 hval
  obtain ⟨fuel, hf⟩ := h
  have h5 : Try.prog.cellsOf 27 = 5 := by kernel_rfl
  rw [h5] at hs
  obtain ⟨xs, n, _, _, _, hlen, hx⟩ := DataW.trod_struct Try.underlying27 hf
  obtain ⟨l⟩ := cs
  match l, hs, xs, hlen with
  | [v0, v1, v2, v3, v4], _, [y0, y1, y2, y3, y4], _ =>
    have f0 := hx 0 _ rfl
    have f1 := hx 1 _ rfl
    have f2 := hx 2 _ rfl
    have f3 := hx 3 _ rfl
    have f4 := hx 4 _ rfl
    have c24 : Try.prog.cellsOf 24 = 1 := by kernel_rfl
    have c25 : Try.prog.cellsOf 25 = 1 := by kernel_rfl
    obtain ⟨n2, e2⟩ := field1 (j := 2) (by simpa using f2)
    obtain ⟨n3, e3⟩ := field1 (j := 3) (by simpa using f3)
    obtain ⟨n4, e4⟩ := field1 (j := 4) (by simpa using f4)
    simp [Value.cells] at e2 e3 e4
    obtain rfl := e2
    obtain rfl := e3
    obtain rfl := e4
    simp [Value.cells, c24] at f0
    simp [Value.cells, c25] at f1
    obtain ⟨A, np, c, lp, q, rfl, a1, a2, a3⟩ := open_progs f0
    obtain ⟨R, nr, e, rm, rfl, b1, b2, b3⟩ := open_rooms f1
    exact ⟨⟨np, lp, q, nr, rm, n2, n3, n4⟩, A, c, R, e, rfl, ⟨a3, b3, a1, a2, b1, b2⟩⟩
end
end Go.Proofs.Ytakmcpadkanggaa
