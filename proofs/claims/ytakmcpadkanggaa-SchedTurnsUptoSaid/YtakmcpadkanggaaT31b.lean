/-
  A run's world in memory.
-/
import Derived.Test.YtakmcpadkanggaaT31
namespace Go.Proofs.Ytakmcpadkanggaa
open Go.RowKit Go.Maps Go.Deep

/-- A run's world in memory. -/
def InW (w W : World) (S : Sys) (A : Option Addr) (c : Nat) (R : Option Addr) (d : Nat) (y : Ly) (Lr : List Ent) (P : PW) : Prop :=
  ∃ gw cw cur evs hv, OM w W ((y.wp, 110, wpC y S.nr gw P.n cw evs) :: (gw, 174, cur) :: (y.bp, 186, pipesA S.nr hv P.cl) :: (y.bl, 4, arrB y.lk P.lk) :: (y.bg, 3, arrI y.gr P.gr) :: (y.bc, 3, arrI y.ce P.ce) :: (y.ps, 27, sysV S A c R d) :: Lr) ⟨evs, P.ev, S.nr, hv, P.held⟩ ∧ WhoC cur P.n P.rs ∧ P.n ≤ cw ∧ cw ≤ maxLen ∧ cur.size = cw * 10
theorem WhoC.congr {cur : Array Value} {n : Nat} {rs rs' : Nat → Rn} (h : WhoC cur n rs) (e : ∀ k, k < n → rs k = rs' k) : WhoC cur n rs' := fun k hk f hf => by rw [← e k hk]; exact h k hk f hf
end Go.Proofs.Ytakmcpadkanggaa
