/-
  The document's answer: from where edges lead to an event (quernref14.into).
-/
import Derived.Test.YtakmcpadkanggaaK1
import Derived.Test.YtakmcpadkanggaaTail2
import Derived.Deep.DeepCutAuto
import Derived.Deep.LoopGhost
namespace Go.Proofs.Ytakmcpadkanggaa
open Go.RowKit Go.Maps Go.Deep

/-- Is event i counted for e? -/
def samE (E : Nat → Ev) (e : Ev) (i : Nat) : Bool := (((e.op == 5) && ((E i).op == 5)) || ((e.op == 6) && (!e.sh && (((E i).op == 6) && !(E i).sh)))) && ((E i).a == e.a)
theorem samE_5 (E : Nat → Ev) (e : Ev) (h : e.op = 5) : samE E e = isSend E e.a := by
  funext i
  simp [samE, isSend, h, Bool.beq_eq_decide_eq]
theorem samE_6 (E : Nat → Ev) (e : Ev) (h : e.op = 6) (hs : e.sh = false) : samE E e = isTake E e.a := by
  funext i
  simp only [samE, isTake, h, hs]
  cases (E i).sh <;> by_cases h6 : (E i).op = 6 <;> by_cases ha : (E i).a = e.a <;> simp [h6, ha]
section
variable {w : World} {S : Sys} {A : Option Addr} {c : Nat} {R : Option Addr} {d n : Nat} {E : Nat → Ev} {B : Option Addr} {cb : Nat}
def rmS (S : Sys) (a : Int) : Int := S.rm a.toNat
def IntoPost (w : World) (S : Sys) (E : Nat → Ev) (j : Nat) (e : Ending) (w' : World) : Prop := (∃ r, e = .returned r ∧ Mint w.heap.size w' r (intoL E (rmS S) j)) ∧ Keeps w w' []
theorem mint_low {W : World} {r : Value} {b b' : Nat} {xs : List Int} (h : Mint b' W r xs) (hb : b ≤ b') : Mint b W r xs := by
  refine ⟨h.1, ?_⟩
  rcases h.2 with hn | ⟨g, cap, cur, rfl, hg, rest⟩
  · exact .inl hn
  · exact .inr ⟨g, cap, cur, rfl, Nat.le_trans hb hg, rest⟩
theorem shutN_stay {a i : Int} {m : Nat} (h : shutN E a m = some i) : ∀ k, m ≤ k → shutN E a k = some i
  | 0, hk => by obtain rfl : m = 0 := by omega
                exact h
  | k + 1, hk => by
    by_cases e : m = k + 1
    · rw [← e]; exact h
    · have := shutN_stay h k (by omega)
      unfold shutN
      rw [this]
      simp
theorem shutN_found {a : Int} {m k : Nat} (h : shutN E a m = none) (h7 : (E m).op = 7) (ha : (E m).a = a) (hm : m < k) : shutN E a k = some (m : Int) :=
  shutN_stay (m := m + 1) (by unfold shutN; rw [h, if_pos ⟨h7, ha, rfl⟩]) k hm
theorem freeL_succ (a : Int) (m j : Nat) : freeL E a m (j + 1) = freeL E a m j ++ if isFree E a j && decide (m ≤ j) then [j] else [] := by unfold freeL; rw [pickL_succ]
theorem freeL_len (a : Int) (m j : Nat) : (freeL E a m j).length ≤ j := pickL_length _ _
theorem ok_room {S : Sys} {st : St} {who a v : Int} {sh : Bool} (h : okE S st ⟨who, 5, a, v, sh⟩ = true) : 0 ≤ a ∧ a < S.nr := by
  unfold okE headE at h
  simp [cnt] at h
  omega
def LI (S : Sys) (A : Option Addr) (c : Nat) (R : Option Addr) (d g7 a3 : Nat) (e : Ev) : List Ent := [(g7, 37, evC e), (a3, 27, sysV S A c R d)]
end
end Go.Proofs.Ytakmcpadkanggaa
