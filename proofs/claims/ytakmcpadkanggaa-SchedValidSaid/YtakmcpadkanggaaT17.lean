/-
  The locks that an event's runner holds (trace.Held).
-/
import Derived.Test.YtakmcpadkanggaaT16
namespace Go.Proofs.Ytakmcpadkanggaa
open Go.RowKit Go.Maps Go.Deep

theorem Blk.ne {W : World} {g g' t t' : Nat} {cs cs' : Array Value} (h : Blk W g t cs) (h' : Blk W g' t' cs') (ht : t ≠ t') : g ≠ g' := by
  rintro rfl
  rw [Blk, h] at h'
  injection h' with h'
  injection h' with _ h' _
  exact ht h'
section
variable {base : Nat} {W : World} {v : Value} {xs : List Int}
theorem Mint.off (h : Mint base W v xs) {g t : Nat} {cs : Array Value} (hB : Blk W g t cs) (ht : t ≠ 3) : g ∉ v.ownBlock.toList := by
  intro hm
  obtain ⟨_, _, cur, hcur⟩ := h.own (g := g) (by simpa using hm)
  exact hB.ne hcur ht rfl
theorem Mint.offMap (h : Mint base W v xs) {b n : Nat} {f : Int → Int} (hB : MapI W b n f) : b ∉ v.ownBlock.toList := by
  intro hm
  obtain ⟨_, _, cur, hcur⟩ := h.own (g := b) (by simpa using hm)
  exact hB.not_blk hcur rfl
theorem Mint.cell (h : Mint base W v xs) : v.cells = #[v] ∧ v.oneCell' = true := by
  rcases h.2 with ⟨rfl, _⟩ | ⟨g, cap, cur, rfl, _⟩
  · exact ⟨rfl, rfl⟩
  · exact ⟨rfl, rfl⟩
end
theorem keeps_of_own {W u : World} {x : Option Nat} (g : W.grownBy u x) : Keeps W u x.toList := ⟨g.os, g.tape, g.output, g.size, fun b hb hn => g.block b hb (by rintro e; exact hn (by rw [← e]; simp))⟩
/-- What the closure of Held leaves. -/
structure Rel (w1 u wr : World) (po b m : Nat) (f : Int → Int) (xs : List Int) : Prop where
  keep : Keeps w1 wr [po]
  out : ∃ v, Blk wr po 25 #[v] ∧ Mint w1.heap.size wr v xs
  map : MapI wr b m f
  ev : ∀ g cs, Blk u g 37 cs → Blk wr g 37 cs
section
variable {w1 u wr W u1 u2 : World} {po b m : Nat} {f : Int → Int} {xs ys : List Int}
theorem Rel.kept (r : Rel w1 u wr po b m f xs) (k : Keeps wr W []) : Rel w1 u W po b m f xs := by
  obtain ⟨v, h1, h2⟩ := r.out
  exact ⟨r.keep.trans k (by simp), ⟨v, h1.keeps k (by simp), h2.keeps k (by simp)⟩, r.map.keeps k (by simp), fun g cs h => (r.ev g cs h).keeps k (by simp)⟩
theorem Rel.push (r : Rel w1 u W po b m f xs) {v v' : Value} (hv : Blk W po 25 #[v]) (M : Mint w1.heap.size W v xs) (hg : W.grownBy u1 v.ownBlock) (M' : Mint w1.heap.size u1 v' ys) (K2 : Keeps u1 u2 [po]) (hb : Blk u2 po 25 #[v']) : Rel w1 u u2 po b m f ys := by
  have k1 := keeps_of_own hg
  have hv1 : Blk u1 po 25 #[v] := hv.keeps k1 (M.off hv (by decide))
  have hm1 : MapI u1 b m f := r.map.keeps k1 (M.offMap r.map)
  refine ⟨(r.keep.trans k1 (fun x hx hlt => ?_)).trans K2 (fun x hx _ => hx), ⟨v', hb, M'.keeps K2 (fun g hg' hm => ?_)⟩, hm1.keeps K2 (by simpa using (hm1.not_blk hv1).symm), fun g cs h => ?_⟩
  · have := (M.own (g := x) (by simpa using hx)).1
    omega
  · obtain rfl : g = po := by simpa using hm
    exact M'.off hv1 (by decide) (by rw [hg']; simp)
  · have h1 := r.ev g cs h
    have h2 : Blk u1 g 37 cs := h1.keeps k1 (M.off h1 (by decide))
    exact h2.keeps K2 (by simpa using h2.ne hv1 (by decide))
end
section
variable {S : Sys} {A : Option Addr} {c : Nat} {R : Option Addr} {d n : Nat} {E : Nat → Ev} {B : Option Addr} {cb : Nat}
/-- What is known where Held calls holder. -/
structure HeldAt (w1 : World) (S : Sys) (A : Option Addr) (c : Nat) (R : Option Addr) (d : Nat) (E : Nat → Ev) (B : Option Addr) (n cb i m ps pi pl po : Nat) : Prop where
  fs : Blk w1 ps 27 (sysV S A c R d)
  fi : Blk w1 pi 3 #[.int .i64 (i : Int)]
  fl : Blk w1 pl 31 #[.slice B n cb]
  fo : Blk w1 po 25 #[.slice none 0 0]
  fe : EvsAt w1 B n E
  off : ∀ ad, B = some ad → ad.block ≠ po
  lk : S.lk = (m : Int)
  m64 : m ≤ 64
  hi : i < n
  hn : n ≤ 40000
  who : ∀ j, j < n → 0 ≤ (E j).who ∧ (E j).who ≤ 100000
variable {w1 u : World} {i m ps pi pl po b : Nat}
def heldAtN (E : Nat → Ev) (i m k : Nat) : List Int := if k ≤ i then [] else heldN E i m

set_option maxRecDepth 100000 in
theorem held1_before (H : HeldAt w1 S A c R d E B n cb i m ps pi pl po) (k : Nat) (hk : k < i) (r : Rel w1 u u po b k (whoF E k) (heldAtN E i m k)) : Calls Try.prog 64 #[.int .i64 (k : Int), .map (some b), .pointer (some ⟨ps, 0, none⟩), .pointer (some ⟨pi, 0, none⟩), .pointer (some ⟨pl, 0, none⟩), .pointer (some ⟨po, 0, none⟩)] u fun e u' => e = .returned (.tuple #[]) ∧ Rel w1 u u' po b k (whoF E k) (heldAtN E i m (k + 1)) := by
  have HH := Lib.hid H
  have cs : u.cell? ⟨ps, 3, none⟩ = some (.int .i64 (m : Int)) := ((H.fs.keeps r.keep (by simpa using H.fs.ne H.fo (by decide))).cell 3).trans (by show some (Value.int .i64 S.lk) = _; rw [H.lk])
  have HR := Lib.hid r
  have b1 := H.m64
  have hp : pi ≠ po := H.fi.ne H.fo (by decide)
  have ei : ((k : Int) == (i : Int)) = false := by simpa using (show ¬ (k : Int) = i by omega)
  have HX := Lib.hid (show heldAtN E i m k = heldAtN E i m (k + 1) by simp [heldAtN, show k ≤ i by omega, show k + 1 ≤ i by omega])
  clear H r hk
  go_enter Try.func64, Try.ntmps64
  go_wp2
  clear cs
  go_loopw [11] (fun j wr => ∃ q : Nat, q ≤ m ∧ j = .int .i64 q ∧ Keeps u wr []) (fun j _ => m - (intOf j).toNat)
  case atStart => exact ⟨0, by omega, rfl, Keeps.refl _ _⟩
  case round =>
    obtain ⟨q, hq, rfl, K⟩ := hrel
    by_cases hlt : q < m
    · have g1 : ((q : Int)) < m := by omega
      have g0 : (0 : Int) ≤ q := by omega
      have ci : ∀ p : Later wr, p.1.cell? ⟨pi, 0, none⟩ = some (.int .i64 (i : Int)) := fun p => (HH.out.fi.keeps ((HR.out.kept (K.trans p.2 (by simp))).keep) (by simpa using hp)).cell 0
      go_wp2
      refine wp_quiet_later (by kernel_rfl) (by kernel_rfl) ?_
      repeat (first
        | go_big_quiet_skip
        | go_big_quiet_step (fail))
      refine wpQuiet_nil ?_
      intro _ hw
      obtain ⟨p', rfl⟩ := hw
      replace K := K.trans p'.2 (by simp)
      clear ci
      generalize p'.1 = W at K ⊢
      go_wp2
      go_roundw
      case rel => exact ⟨q + 1, by omega, by go_num, K⟩
      case measure => (simp [intOf] <;> omega)
    · obtain rfl : q = m := by omega
      go_wp2
      go_returns
      exact ⟨rfl, by rw [← HX.out]; exact HR.out.kept K⟩
set_option maxRecDepth 100000 in
set_option maxHeartbeats 1000000 in
theorem held1_at (H : HeldAt w1 S A c R d E B n cb i m ps pi pl po) (r : Rel w1 u u po b i (whoF E i) (heldAtN E i m i)) : Calls Try.prog 64 #[.int .i64 (i : Int), .map (some b), .pointer (some ⟨ps, 0, none⟩), .pointer (some ⟨pi, 0, none⟩), .pointer (some ⟨pl, 0, none⟩), .pointer (some ⟨po, 0, none⟩)] u fun e u' => e = .returned (.tuple #[]) ∧ Rel w1 u u' po b i (whoF E i) (heldAtN E i m (i + 1)) := by
  have HH := Lib.hid H
  have cs : u.cell? ⟨ps, 3, none⟩ = some (.int .i64 (m : Int)) := ((H.fs.keeps r.keep (by simpa using H.fs.ne H.fo (by decide))).cell 3).trans (by show some (Value.int .i64 S.lk) = _; rw [H.lk])
  have HR := Lib.hid r
  have b1 := H.m64
  have hp : pi ≠ po := H.fi.ne H.fo (by decide)
  have hpl : pl ≠ po := H.fl.ne H.fo (by decide)
  have ei : ((i : Int) == (i : Int)) = true := by simp
  have R0 : Rel w1 u u po b i (whoF E i) (heldN E i 0) := by simpa [heldAtN, heldN] using r
  have HX := Lib.hid (show heldAtN E i m (i + 1) = heldN E i m by simp [heldAtN, show ¬ i + 1 ≤ i by omega])
  have g3 : ((i : Nat) : Int) < n := by have := H.hi; omega
  have g4 : (0 : Int) ≤ i := by omega
  have r1 : IntKind.i64.wrap ((E i).who + 1) = (E i).who + 1 := IntWalk.i64_in _ (by have := H.who i H.hi; omega)
  have HP := Lib.hid hp
  have HPL := Lib.hid hpl
  clear H r hp hpl HR
  obtain ⟨ad, hB, hc⟩ := EvsAt.row (u := w1) HH.out.fe HH.out.hi
  have HC := Lib.hid hc
  have HOF := Lib.hid (HH.out.off ad hB)
  subst hB
  clear hc
  go_enter Try.func64, Try.ntmps64
  go_wp2
  clear cs
  go_loopw [11] (fun j wr => ∃ q : Nat, q ≤ m ∧ j = .int .i64 q ∧ Rel w1 u wr po b i (whoF E i) (heldN E i q)) (fun j _ => m - (intOf j).toNat)
  case atStart => exact ⟨0, by omega, rfl, R0⟩
  case round =>
    clear R0
    obtain ⟨q, hq, rfl, r⟩ := hrel
    have HR := Lib.hid r
    clear r
    by_cases hlt : q < m
    · have g1 : ((q : Int)) < m := by omega
      have g0 : (0 : Int) ≤ q := by omega
      have ci : ∀ p : Later wr, p.1.cell? ⟨pi, 0, none⟩ = some (.int .i64 (i : Int)) := fun p => (HH.out.fi.keeps ((HR.out.kept p.2).keep) (by simpa using HP.out)).cell 0
      have cl : ∀ p : Later wr, p.1.cell? ⟨pl, 0, none⟩ = some (.slice (some ad) n cb) := fun p => (HH.out.fl.keeps ((HR.out.kept p.2).keep) (by simpa using HPL.out)).cell 0
      have ce : ∀ p : Later wr, p.1.cell? (ad.add (i * 5)) = some (.int .i64 (E i).who) := fun p => HC.out [po] p.1 ((HR.out.kept p.2).keep) (by simpa using HOF.out) 0 (by show 0 < 5; omega)
      have lk : ∀ p : Later wr, (Instr.lookup 117 (.map (some b)) (.int .i64 (q : Int)) false).run Try.prog p.1 = .ok (.int .i64 (refW E q i + 1)) p.1 := fun p => by have := look_eqI (HR.out.kept p.2).map 117 Try.underlying117 (q : Int) (WalkArith.wf_i64 (by omega)); rwa [whoF_ref] at this
      by_cases he : refW E q i = (E i).who
      · have HN := Lib.hid (show heldN E i (q + 1) = heldN E i q ++ [(q : Int)] by simp [heldN, he])
        rw [he] at lk
        clear he
        generalize (E i).who = who at ce lk r1
        have e1 : (who + 1 == who + 1) = true := by simp
        go_wp2
        refine wp_quiet_later (by kernel_rfl) (by kernel_rfl) ?_
        repeat (first
          | go_big_quiet_skip
          | go_big_quiet_step (fail))
        refine wpQuiet_nil ?_
        intro _ hw
        obtain ⟨p', rfl⟩ := hw
        have HR2 := Lib.hid (HR.out.kept p'.2)
        clear ci cl ce lk e1
        generalize p'.1 = W at HR2 ⊢
        clear HR
        obtain ⟨v, hv, M⟩ := HR2.out.out
        have cv : W.cell? ⟨po, 0, none⟩ = some v := hv.cell 0
        have HV := Lib.hid hv
        have HM := Lib.hid M
        have HLN := Lib.hid (heldN_length E i q)
        have O := Own.start W []
        clear hv M
        go_wp2_with (first
          | go_big_skip
          | (refine own_lit1 31 (q : Int) O rfl rfl rfl rfl ?_; clear O; intro W gl O K1 hg; have HR3 := Lib.hid (HR2.out.kept K1); have HV3 := Lib.hid (HV.out.keeps K1 (by simp)); have HM3 := Lib.hid (HM.out.keeps K1 (by simp)); clear K1 hg cv; simp only [Act.put, List.setIfInBounds_toArray, List.set_cons_zero, List.set_cons_succ])
          | (at_builtin; refine app_one w1.heap.size v (heldN E i q) (q : Int) gl (.tmp 29) (.tmp 31) HM3.out (HR3.out.keep.size) rfl rfl rfl rfl ((O.get 0 rfl).cell 0) (by have := HLN.out; omega) ?_; intro v1 u1 hgr M1; have HG := Lib.hid hgr; have HM1 := Lib.hid M1; have hv1 := (HV3.out.keeps (keeps_of_own hgr) (HM3.out.off HV3.out (by decide))); have HV1 := Lib.hid hv1; clear hgr M1 hv1 O; simp only [Act.put, List.setIfInBounds_toArray, List.set_cons_zero, List.set_cons_succ])
          | (refine at_store (.tmp 5) (.tmp 32) rfl ?_; go_loud (refine wpList_store_blk po 0 25 _ v1 rfl rfl rfl rfl rfl HV1.out (by show 0 < 1; omega) (HM1.out.cell).1 (HM1.out.cell).2 (by kernel_rfl) ?_; intro u2 K2 b2; have HR4 := Lib.hid (HR3.out.push HV3.out HM3.out HG.out HM1.out K2 b2); clear K2 b2)))
        go_roundw
        case rel => exact ⟨q + 1, by omega, by go_num, by rw [HN.out]; exact HR4.out⟩
        case measure => (simp [intOf] <;> omega)
      · have HN := Lib.hid (show heldN E i (q + 1) = heldN E i q by simp [heldN, he])
        have e1 : (refW E q i + 1 == (E i).who + 1) = false := by simpa using (show ¬ refW E q i + 1 = (E i).who + 1 by omega)
        clear he
        go_wp2
        refine wp_quiet_later (by kernel_rfl) (by kernel_rfl) ?_
        repeat (first
          | go_big_quiet_skip
          | go_big_quiet_step (fail))
        refine wpQuiet_nil ?_
        intro _ hw
        obtain ⟨p', rfl⟩ := hw
        have HR2 := Lib.hid (HR.out.kept p'.2)
        clear ci cl ce lk e1
        generalize p'.1 = W at HR2 ⊢
        go_wp2
        go_roundw
        case rel => exact ⟨q + 1, by omega, by go_num, by rw [HN.out]; exact HR2.out⟩
        case measure => (simp [intOf] <;> omega)
    · obtain rfl : q = m := by omega
      go_wp2
      go_returns
      exact ⟨rfl, by rw [HX.out]; exact HR.out⟩
end
end Go.Proofs.Ytakmcpadkanggaa
