/-
  One step of a runner, whatever it is.
-/
import Derived.Test.YtakmcpadkanggaaT32
import Derived.Test.YtakmcpadkanggaaT33
import Derived.Test.YtakmcpadkanggaaT35
import Derived.Test.YtakmcpadkanggaaT34
import Derived.Test.YtakmcpadkanggaaP1
namespace Go.Proofs.Ytakmcpadkanggaa
open Go.RowKit Go.Maps Go.Deep

section
variable {S : Sys} {p : Nat} {f : Nat → Int}
theorem right_a (h : rightS S p f = true) (ho : f 0 = 1) : 0 ≤ f 1 ∧ f 1 < 8 := by
  unfold rightS at h
  rw [ho] at h; simp [kd, kdL, mayS, bnd, opOk] at h; omega
theorem right_ab (h : rightS S p f = true) (ho : f 0 = 2 ∨ f 0 = 3 ∨ f 0 = 12 ∨ f 0 = 13) : 0 ≤ f 1 ∧ f 1 < 8 ∧ 0 ≤ f 2 ∧ f 2 < 8 := by
  unfold rightS at h
  rcases ho with ho | ho | ho | ho <;> rw [ho] at h <;> simp [kd, kdL, mayS, bnd, opOk] at h <;> omega
theorem right_b (h : rightS S p f = true) (ho : f 0 = 5 ∨ f 0 = 6 ∨ f 0 = 15) : 0 ≤ f 2 ∧ f 2 < 8 := by
  unfold rightS at h
  rcases ho with ho | ho | ho <;> rw [ho] at h <;> simp [kd, kdL, mayS, bnd, opOk] at h <;> omega
theorem right_c (h : rightS S p f = true) (ho : f 0 = 3 ∨ f 0 = 4 ∨ f 0 = 6) : 0 ≤ f 3 := by
  unfold rightS at h
  rcases ho with ho | ho | ho <;> rw [ho] at h <;> simp [kd, kdL, mayS, bnd, opOk] at h <;> omega
end
/-- How a step ends: without a fault, or with a panic of that fault. -/
def stepEnd (x : Int) : Ending := if x = 0 then .returned (.tuple #[]) else .panicked [{ v := .iface 22 (.int .i64 x), recovered := false }]
section
variable {w W : World} {Lr : List Ent} {S : Sys} {A : Option Addr} {c : Nat} {R : Option Addr} {d : Nat} {y : Ly}
theorem step_any {P : PW} {k : Nat} {f : Nat → Int} (h : InW w W S A c R d y Lr P) (hS : SysIn w S A c R d) (hvd : validB S = true) (hr : RInv S P) (hk : k < P.n) (hI : instP S (P.rs k) = some f) (hlk : S.lk = (y.lk : Int)) (hgr : S.gr = (y.gr : Int)) (hce : S.ce = (y.ce : Int))
    (hE : P.ev.length ≤ 100000) (hH : ∀ c, (P.held c).length ≤ 1000000) : Calls Try.prog 91 #[.pointer (some ⟨y.wp, 0, none⟩), .int .i64 (k : Int)] W fun e W' => InW w W' S A c R d y Lr (stepP S P k f).1 ∧ e = stepEnd (stepP S P k f).2 := by
  have hp := hr k hk
  have hrt := right_of hvd hp hI
  have hl : S.lp (P.rs k).prog ≤ 256 := (((validB_iff S).1 hvd).2.2 _ hp).1
  have hce64 : y.ce ≤ 64 := by
    have := ((headB_iff S).1 ((validB_iff S).1 hvd).1).2.2.2.2.2
    rw [shB_iff] at this
    omega
  obtain ⟨gw, cw, cur, evs, hv, M, hC, h1, h2, h3⟩ := h
  obtain ⟨n, rs, held, cl, lk, gr, ce, ev⟩ := P
  obtain ⟨o1, o2⟩ := right_op hrt
  simp only at hp hrt hl hk hI hE hH M hC h1 h2 h3
  have hop : f 0 = 1 ∨ f 0 = 2 ∨ f 0 = 3 ∨ f 0 = 4 ∨ f 0 = 5 ∨ f 0 = 6 ∨ f 0 = 7 ∨ f 0 = 8 ∨ f 0 = 9 ∨ f 0 = 10 ∨ f 0 = 11 ∨ f 0 = 12 ∨ f 0 = 13 ∨ f 0 = 14 ∨ f 0 = 15 ∨ f 0 = 16 := by omega
  rcases hop with o | o | o | o | o | o | o | o | o | o | o | o | o | o | o | o
  · have ra := right_a hrt o
    obtain ⟨aN, eaN⟩ : ∃ aN : Nat, f 1 = (aN : Int) := ⟨(f 1).toNat, by omega⟩
    refine (st_1 (b := f 2) (b3 := f 3) M hC hk hS hp hl hE h1 h2 h3 hI o eaN rfl rfl (by omega)).mono ?_
    rintro e W' ⟨he, hw⟩
    have hs : stepP S ⟨n, rs, held, cl, lk, gr, ce, ev⟩ k f = (⟨n, (fun j => if j = k then { setReg (rs k) aN (f 2) with pos := (rs k).pos + 1 } else rs j), held, cl, lk, gr, ce, ev ++ [⟨k, 1, 0, 0, false⟩]⟩, 0) := by
      unfold stepP
      simp only [o]
      simp [eaN, finP, tellP, setR]
      try rfl
    rw [hs]
    exact ⟨hw, he⟩
  · have ra := right_ab hrt (.inl o)
    obtain ⟨aN, eaN⟩ : ∃ aN : Nat, f 1 = (aN : Int) := ⟨(f 1).toNat, by omega⟩
    obtain ⟨bN, ebN⟩ : ∃ bN : Nat, f 2 = (bN : Int) := ⟨(f 2).toNat, by omega⟩
    refine (st_2 (b3 := f 3) M hC hk hS hp hl hE h1 h2 h3 hI o eaN ebN rfl (by omega) (by omega) rfl).mono ?_
    rintro e W' ⟨he, hw⟩
    have hs : stepP S ⟨n, rs, held, cl, lk, gr, ce, ev⟩ k f = (⟨n, (fun j => if j = k then { setReg (rs k) aN (IntKind.i64.wrap ((rs k).rg aN + (rs k).rg bN)) with pos := (rs k).pos + 1 } else rs j), held, cl, lk, gr, ce, ev ++ [⟨k, 2, 0, 0, false⟩]⟩, 0) := by
      unfold stepP
      simp only [o]
      simp [eaN, ebN, finP, tellP, setR]
      try rfl
    rw [hs]
    exact ⟨hw, he⟩
  · have ra := right_ab hrt (.inr (.inl o))
    have rc := right_c hrt (.inl o)
    obtain ⟨aN, eaN⟩ : ∃ aN : Nat, f 1 = (aN : Int) := ⟨(f 1).toNat, by omega⟩
    obtain ⟨bN, ebN⟩ : ∃ bN : Nat, f 2 = (bN : Int) := ⟨(f 2).toNat, by omega⟩
    obtain ⟨cN, ecN⟩ : ∃ cN : Nat, f 3 = (cN : Int) := ⟨(f 3).toNat, by omega⟩
    by_cases hlt : (rs k).rg bN ≤ (rs k).rg aN
    · refine (st_3a  M hC hk hS hp hl hE h1 h2 h3 hI o eaN ebN ecN (by omega) (by omega) hlt).mono ?_
      rintro e W' ⟨he, hw⟩
      have hs : stepP S ⟨n, rs, held, cl, lk, gr, ce, ev⟩ k f = (⟨n, (fun j => if j = k then { rs k with pos := (rs k).pos + 1 } else rs j), held, cl, lk, gr, ce, ev ++ [⟨k, 3, 0, 0, false⟩]⟩, 0) := by
        unfold stepP
        simp only [o]
        simp [eaN, ebN, hlt, finP, tellP, setR]
        try rfl
      rw [hs]
      exact ⟨hw, he⟩
    · refine (st_3b  M hC hk hS hp hl hE h1 h2 h3 hI o eaN ebN ecN (by omega) (by omega) (by omega)).mono ?_
      rintro e W' ⟨he, hw⟩
      have hs : stepP S ⟨n, rs, held, cl, lk, gr, ce, ev⟩ k f = (⟨n, (fun j => if j = k then { rs k with pos := cN } else rs j), held, cl, lk, gr, ce, ev ++ [⟨k, 3, 0, 0, false⟩]⟩, 0) := by
        unfold stepP
        simp only [o]
        simp [eaN, ebN, ecN, hlt, finP, tellP, setR]
        try rfl
      rw [hs]
      exact ⟨hw, he⟩
  · have rc := right_c hrt (.inr (.inl o))
    obtain ⟨cN, ecN⟩ : ∃ cN : Nat, f 3 = (cN : Int) := ⟨(f 3).toNat, by omega⟩
    refine (st_4 (b := f 1) (b4 := f 2) M hC hk hS hp hl hE h1 h2 h3 hI o rfl rfl ecN).mono ?_
    rintro e W' ⟨he, hw⟩
    have hs : stepP S ⟨n, rs, held, cl, lk, gr, ce, ev⟩ k f = (⟨n, (fun j => if j = k then { rs k with pos := cN } else rs j), held, cl, lk, gr, ce, ev ++ [⟨k, 4, 0, 0, false⟩]⟩, 0) := by
      unfold stepP
      simp only [o]
      simp [ecN, finP, tellP, setR]
      try rfl
    rw [hs]
    exact ⟨hw, he⟩
  · have ra := right_room hrt (.inl o)
    have rb := right_b hrt (.inl o)
    obtain ⟨aN, eaN⟩ : ∃ aN : Nat, f 1 = (aN : Int) := ⟨(f 1).toNat, by omega⟩
    obtain ⟨bN, ebN⟩ : ∃ bN : Nat, f 2 = (bN : Int) := ⟨(f 2).toNat, by omega⟩
    cases hcl : cl aN with
    | true =>
      refine (st_5c (b3 := f 3) M hC hk hS hp hl hE h1 h2 h3 hI o eaN ebN rfl (by omega) (by omega) hcl).mono ?_
      rintro e W' ⟨he, hw⟩
      have hs : stepP S ⟨n, rs, held, cl, lk, gr, ce, ev⟩ k f = (⟨n, rs, held, cl, lk, gr, ce, ev ++ [⟨k, 5, aN, ((rs k).rg bN), false⟩]⟩, 131) := by
        unfold stepP
        simp only [o]
        simp [eaN, ebN, hcl, tellP]
        try rfl
      rw [hs]
      exact ⟨hw, he⟩
    | false =>
      refine (st_5o (b3 := f 3) M hC hk hS hp hl hE h1 h2 h3 hI o eaN ebN rfl (hH aN) (by omega) (by omega) hcl).mono ?_
      rintro e W' ⟨he, hw⟩
      have hs : stepP S ⟨n, rs, held, cl, lk, gr, ce, ev⟩ k f = (⟨n, (fun j => if j = k then { rs k with pos := (rs k).pos + 1 } else rs j), updN held aN (held aN ++ [(rs k).rg bN]), cl, lk, gr, ce, ev ++ [⟨k, 5, aN, ((rs k).rg bN), false⟩]⟩, 0) := by
        unfold stepP
        simp only [o]
        simp [eaN, ebN, hcl, finP, tellP, setR]
        try rfl
      rw [hs]
      exact ⟨hw, he⟩
  · have ra := right_room hrt (.inr (.inl o))
    have rb := right_b hrt (.inr (.inl o))
    have rc := right_c hrt (.inr (.inr o))
    obtain ⟨aN, eaN⟩ : ∃ aN : Nat, f 1 = (aN : Int) := ⟨(f 1).toNat, by omega⟩
    obtain ⟨bN, ebN⟩ : ∃ bN : Nat, f 2 = (bN : Int) := ⟨(f 2).toNat, by omega⟩
    obtain ⟨cN, ecN⟩ : ∃ cN : Nat, f 3 = (cN : Int) := ⟨(f 3).toNat, by omega⟩
    have hq := M.hr aN (by show aN < S.nr; omega)
    have hq : HRow w.heap.size W (hv aN) (held aN) := hq
    cases hh : held aN with
    | nil =>
      rw [hh] at hq
      obtain ⟨A0, c1, hv0⟩ : ∃ A0 c1, hv aN = .slice A0 0 c1 := by
        rcases hq with ⟨h, _⟩ | ⟨g, off, cap, cur', h, _⟩
        · exact ⟨_, _, h⟩
        · exact ⟨_, _, h⟩
      refine (st_6n (b := f 2) M hC hk hS hp hl hE h1 h2 h3 hI o eaN rfl ecN hv0 (by omega)).mono ?_
      rintro e W' ⟨he, hw⟩
      have hs : stepP S ⟨n, rs, held, cl, lk, gr, ce, ev⟩ k f = (⟨n, (fun j => if j = k then { rs k with pos := cN } else rs j), held, cl, lk, gr, ce, ev ++ [⟨k, 6, aN, 0, true⟩]⟩, 0) := by
        unfold stepP
        simp only [o]
        simp [eaN, ecN, hh, finP, tellP, setR]
        try rfl
      rw [hs]
      exact ⟨hw, he⟩
    | cons x l =>
      rw [hh] at hq
      obtain ⟨g, off, cc, hv0, hcc⟩ : ∃ g off cc, hv aN = .slice (some ⟨g, off, none⟩) (l.length + 1) cc ∧ 1 ≤ cc := by
        rcases hq with ⟨_, h⟩ | ⟨g, off, cap, cur', h, _, _, h4, _⟩
        · cases h
        · exact ⟨g, off, cap, h, by simp at h4; omega⟩
      by_cases h1c : cc = 1
      · refine (st_6a (b3 := f 3) M hC hk hS hp hl hE h1 h2 h3 hI o eaN ebN rfl hv0 hh h1c (by omega) (by omega)).mono ?_
        rintro e W' ⟨he, hw⟩
        have hs : stepP S ⟨n, rs, held, cl, lk, gr, ce, ev⟩ k f = (⟨n, (fun j => if j = k then { setReg (rs k) bN x with pos := (rs k).pos + 1 } else rs j), updN held aN l, cl, lk, gr, ce, ev ++ [⟨k, 6, aN, x, false⟩]⟩, 0) := by
          unfold stepP
          simp only [o]
          simp [eaN, ebN, hh, finP, tellP, setR]
          try rfl
        rw [hs]
        exact ⟨hw, he⟩
      · refine (st_6b (b3 := f 3) M hC hk hS hp hl hE h1 h2 h3 hI o eaN ebN rfl hv0 hh (by omega) (by omega) (by omega)).mono ?_
        rintro e W' ⟨he, hw⟩
        have hs : stepP S ⟨n, rs, held, cl, lk, gr, ce, ev⟩ k f = (⟨n, (fun j => if j = k then { setReg (rs k) bN x with pos := (rs k).pos + 1 } else rs j), updN held aN l, cl, lk, gr, ce, ev ++ [⟨k, 6, aN, x, false⟩]⟩, 0) := by
          unfold stepP
          simp only [o]
          simp [eaN, ebN, hh, finP, tellP, setR]
          try rfl
        rw [hs]
        exact ⟨hw, he⟩
  · have ra := right_room hrt (.inr (.inr o))
    obtain ⟨aN, eaN⟩ : ∃ aN : Nat, f 1 = (aN : Int) := ⟨(f 1).toNat, by omega⟩
    cases hcl : cl aN with
    | true =>
      refine (st_7c (b := f 2) (b3 := f 3) M hC hk hS hp hl hE h1 h2 h3 hI o eaN rfl rfl (by omega) hcl).mono ?_
      rintro e W' ⟨he, hw⟩
      have hs : stepP S ⟨n, rs, held, cl, lk, gr, ce, ev⟩ k f = (⟨n, rs, held, cl, lk, gr, ce, ev ++ [⟨k, 7, aN, 0, false⟩]⟩, 132) := by
        unfold stepP
        simp only [o]
        simp [eaN, hcl, tellP]
        try rfl
      rw [hs]
      exact ⟨hw, he⟩
    | false =>
      refine (st_7o (b := f 2) (b3 := f 3) M hC hk hS hp hl hE h1 h2 h3 hI o eaN rfl rfl (by omega) hcl).mono ?_
      rintro e W' ⟨he, hw⟩
      have hs : stepP S ⟨n, rs, held, cl, lk, gr, ce, ev⟩ k f = (⟨n, (fun j => if j = k then { rs k with pos := (rs k).pos + 1 } else rs j), held, updN cl aN true, lk, gr, ce, ev ++ [⟨k, 7, aN, 0, false⟩]⟩, 0) := by
        unfold stepP
        simp only [o]
        simp [eaN, hcl, finP, tellP, setR]
        try rfl
      rw [hs]
      exact ⟨hw, he⟩
  · have ra := right_lock hrt (.inl o)
    obtain ⟨aN, eaN⟩ : ∃ aN : Nat, f 1 = (aN : Int) := ⟨(f 1).toNat, by omega⟩
    refine (st_8 (b := f 2) (b3 := f 3) M hC hk hS hp hl hE h1 h2 h3 hI o eaN rfl rfl (by omega)).mono ?_
    rintro e W' ⟨he, hw⟩
    have hs : stepP S ⟨n, rs, held, cl, lk, gr, ce, ev⟩ k f = (⟨n, (fun j => if j = k then { rs k with pos := (rs k).pos + 1 } else rs j), held, cl, updI lk aN true, gr, ce, ev ++ [⟨k, 8, aN, 0, false⟩]⟩, 0) := by
      unfold stepP
      simp only [o]
      simp [eaN, finP, tellP, setR]
      try rfl
    rw [hs]
    exact ⟨hw, he⟩
  · have ra := right_lock hrt (.inr o)
    obtain ⟨aN, eaN⟩ : ∃ aN : Nat, f 1 = (aN : Int) := ⟨(f 1).toNat, by omega⟩
    cases hcl : lk aN with
    | true =>
      refine (st_9t (b := f 2) (b3 := f 3) M hC hk hS hp hl hE h1 h2 h3 hI o eaN rfl rfl (by omega) hcl).mono ?_
      rintro e W' ⟨he, hw⟩
      have hs : stepP S ⟨n, rs, held, cl, lk, gr, ce, ev⟩ k f = (⟨n, (fun j => if j = k then { rs k with pos := (rs k).pos + 1 } else rs j), held, cl, updI lk aN false, gr, ce, ev ++ [⟨k, 9, aN, 0, false⟩]⟩, 0) := by
        unfold stepP
        simp only [o]
        simp [eaN, hcl, finP, tellP, setR]
        try rfl
      rw [hs]
      exact ⟨hw, he⟩
    | false =>
      refine (st_9f (b := f 2) (b3 := f 3) M hC hk hS hp hl hE h1 h2 h3 hI o eaN rfl rfl (by omega) hcl).mono ?_
      rintro e W' ⟨he, hw⟩
      have hs : stepP S ⟨n, rs, held, cl, lk, gr, ce, ev⟩ k f = (⟨n, rs, held, cl, lk, gr, ce, ev ++ [⟨k, 9, aN, 0, false⟩]⟩, 133) := by
        unfold stepP
        simp only [o]
        simp [eaN, hcl, tellP]
        try rfl
      rw [hs]
      exact ⟨hw, he⟩
  · have ra := right_group hrt (.inl o)
    obtain ⟨aN, eaN⟩ : ∃ aN : Nat, f 1 = (aN : Int) := ⟨(f 1).toNat, by omega⟩
    by_cases hs0 : IntKind.i64.wrap (gr aN + f 2) < 0
    · refine (st_10g (b := f 2) (b3 := f 3) M hC hk hS hp hl hE h1 h2 h3 hI o eaN rfl rfl (by omega) rfl hs0).mono ?_
      rintro e W' ⟨he, hw⟩
      have hs : stepP S ⟨n, rs, held, cl, lk, gr, ce, ev⟩ k f = (⟨n, rs, held, cl, lk, gr, ce, ev ++ [⟨k, 10, aN, (IntKind.i64.wrap (gr aN + f 2)), false⟩]⟩, 134) := by
        unfold stepP
        simp only [o]
        simp [eaN, hs0, tellP]
        try rfl
      rw [hs]
      exact ⟨hw, he⟩
    · refine (st_10n (b := f 2) (b3 := f 3) M hC hk hS hp hl hE h1 h2 h3 hI o eaN rfl rfl (by omega) rfl hs0).mono ?_
      rintro e W' ⟨he, hw⟩
      have hs : stepP S ⟨n, rs, held, cl, lk, gr, ce, ev⟩ k f = (⟨n, (fun j => if j = k then { rs k with pos := (rs k).pos + 1 } else rs j), held, cl, lk, updI gr aN (IntKind.i64.wrap (gr aN + f 2)), ce, ev ++ [⟨k, 10, aN, (IntKind.i64.wrap (gr aN + f 2)), false⟩]⟩, 0) := by
        unfold stepP
        simp only [o]
        simp [eaN, hs0, finP, tellP, setR]
        try rfl
      rw [hs]
      exact ⟨hw, he⟩
  · have ra := right_group hrt (.inr o)
    obtain ⟨aN, eaN⟩ : ∃ aN : Nat, f 1 = (aN : Int) := ⟨(f 1).toNat, by omega⟩
    refine (st_11 (b := f 2) (b3 := f 3) M hC hk hS hp hl hE h1 h2 h3 hI o eaN rfl rfl).mono ?_
    rintro e W' ⟨he, hw⟩
    have hs : stepP S ⟨n, rs, held, cl, lk, gr, ce, ev⟩ k f = (⟨n, (fun j => if j = k then { rs k with pos := (rs k).pos + 1 } else rs j), held, cl, lk, gr, ce, ev ++ [⟨k, 11, aN, 0, false⟩]⟩, 0) := by
      unfold stepP
      simp only [o]
      simp [eaN, finP, tellP, setR]
      try rfl
    rw [hs]
    exact ⟨hw, he⟩
  · have ra := right_ab hrt (.inr (.inr (.inl o)))
    obtain ⟨aN, eaN⟩ : ∃ aN : Nat, f 1 = (aN : Int) := ⟨(f 1).toNat, by omega⟩
    obtain ⟨bN, ebN⟩ : ∃ bN : Nat, f 2 = (bN : Int) := ⟨(f 2).toNat, by omega⟩
    have hc0 := right_cells hrt (.inl o)
    have hce0 : 0 < y.ce := by omega
    have hm1 := Int.emod_nonneg ((rs k).rg aN) hc0
    have hm2 := Int.emod_lt_of_pos ((rs k).rg aN) (b := S.ce) (by omega)
    obtain ⟨x, ex⟩ : ∃ x : Nat, (rs k).rg aN % S.ce = (x : Int) := ⟨((rs k).rg aN % S.ce).toNat, by omega⟩
    refine (st_12 (b3 := f 3) M hC hk hS hp hl hE h1 h2 h3 hI o eaN ebN rfl (by omega) (by omega) (x := x) (by omega) (by rw [← hce]; exact ex) hce0 hce64).mono ?_
    rintro e W' ⟨he, hw⟩
    have hs : stepP S ⟨n, rs, held, cl, lk, gr, ce, ev⟩ k f = (⟨n, (fun j => if j = k then { setReg (rs k) bN (ce x) with pos := (rs k).pos + 1 } else rs j), held, cl, lk, gr, ce, ev ++ [⟨k, 12, x, (ce x), false⟩]⟩, 0) := by
      unfold stepP
      simp only [o]
      simp [eaN, ebN, ex, finP, tellP, setR]
      try rfl
    rw [hs]
    exact ⟨hw, he⟩
  · have ra := right_ab hrt (.inr (.inr (.inr o)))
    obtain ⟨aN, eaN⟩ : ∃ aN : Nat, f 1 = (aN : Int) := ⟨(f 1).toNat, by omega⟩
    obtain ⟨bN, ebN⟩ : ∃ bN : Nat, f 2 = (bN : Int) := ⟨(f 2).toNat, by omega⟩
    have hc0 := right_cells hrt (.inr o)
    have hce0 : 0 < y.ce := by omega
    have hm1 := Int.emod_nonneg ((rs k).rg aN) hc0
    have hm2 := Int.emod_lt_of_pos ((rs k).rg aN) (b := S.ce) (by omega)
    obtain ⟨x, ex⟩ : ∃ x : Nat, (rs k).rg aN % S.ce = (x : Int) := ⟨((rs k).rg aN % S.ce).toNat, by omega⟩
    refine (st_13 (b3 := f 3) M hC hk hS hp hl hE h1 h2 h3 hI o eaN ebN rfl (by omega) (by omega) (x := x) (by omega) (by rw [← hce]; exact ex) hce0 hce64).mono ?_
    rintro e W' ⟨he, hw⟩
    have hs : stepP S ⟨n, rs, held, cl, lk, gr, ce, ev⟩ k f = (⟨n, (fun j => if j = k then { rs k with pos := (rs k).pos + 1 } else rs j), held, cl, lk, gr, updI ce x ((rs k).rg bN), ev ++ [⟨k, 13, x, ((rs k).rg bN), false⟩]⟩, 0) := by
      unfold stepP
      simp only [o]
      simp [eaN, ebN, ex, finP, tellP, setR]
      try rfl
    rw [hs]
    exact ⟨hw, he⟩
  · have ra := right_start hrt o
    obtain ⟨aN, eaN⟩ : ∃ aN : Nat, f 1 = (aN : Int) := ⟨(f 1).toNat, by omega⟩
    by_cases hn : 512 ≤ n
    · refine (st_14f (b := f 2) (b3 := f 3) M hC hk hS hp hl hE h1 h2 h3 hI o eaN rfl rfl hn).mono ?_
      rintro e W' ⟨he, hw⟩
      have hs : stepP S ⟨n, rs, held, cl, lk, gr, ce, ev⟩ k f = (⟨n, rs, held, cl, lk, gr, ce, ev ++ [⟨k, 14, aN, 0, false⟩]⟩, 135) := by
        unfold stepP
        simp only [o]
        simp [eaN, hn, tellP]
        try rfl
      rw [hs]
      exact ⟨hw, he⟩
    · refine (st_14 (b := f 2) (b3 := f 3) M hC hk hS hp hl hE h1 h2 h3 hI o eaN rfl rfl (by omega)).mono ?_
      rintro e W' ⟨he, hw⟩
      have hs : stepP S ⟨n, rs, held, cl, lk, gr, ce, ev⟩ k f = (⟨n + 1, (fun j => if j = k then { rs k with pos := (rs k).pos + 1 } else updN rs n ⟨aN, 0, (rs k).rg⟩ j), held, cl, lk, gr, ce, ev ++ [⟨k, 14, aN, n, false⟩]⟩, 0) := by
        unfold stepP
        simp only [o]
        simp [eaN, hn, finP, tellP, setR]
        try rfl
      rw [hs]
      exact ⟨hw, he⟩
  · have rb := right_b hrt (.inr (.inr o))
    obtain ⟨bN, ebN⟩ : ∃ bN : Nat, f 2 = (bN : Int) := ⟨(f 2).toNat, by omega⟩
    refine (st_15 (b := f 1) (b3 := f 3) M hC hk hS hp hl hE h1 h2 h3 hI o rfl ebN rfl (by omega)).mono ?_
    rintro e W' ⟨he, hw⟩
    have hs : stepP S ⟨n, rs, held, cl, lk, gr, ce, ev⟩ k f = (⟨n, (fun j => if j = k then { rs k with pos := (rs k).pos + 1 } else rs j), held, cl, lk, gr, ce, ev ++ [⟨k, 15, (f 1), ((rs k).rg bN), false⟩]⟩, 0) := by
      unfold stepP
      simp only [o]
      simp [ebN, finP, tellP, setR]
      try rfl
    rw [hs]
    exact ⟨hw, he⟩
  · refine (st_16 (b := f 1) (b4 := f 2) (b3 := f 3) M hC hk hS hp hl hE h1 h2 h3 hI o rfl rfl rfl).mono ?_
    rintro e W' ⟨he, hw⟩
    have hs : stepP S ⟨n, rs, held, cl, lk, gr, ce, ev⟩ k f = (⟨n, (fun j => if j = k then { rs k with pos := S.lp (rs k).prog } else rs j), held, cl, lk, gr, ce, ev ++ [⟨k, 16, 0, 0, false⟩]⟩, 0) := by
      unfold stepP
      simp only [o]
      simp [finP, tellP, setR]
      try rfl
    rw [hs]
    exact ⟨hw, he⟩
end
end Go.Proofs.Ytakmcpadkanggaa
