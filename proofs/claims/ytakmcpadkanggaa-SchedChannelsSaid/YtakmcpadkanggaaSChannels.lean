/-
  SchedChannels: in every run what comes out of a channel went in, in that order, each once; the law returns true.
-/
import Derived.Test.YtakmcpadkanggaaT45
import Derived.Test.YtakmcpadkanggaaRows
namespace Go.Proofs.Ytakmcpadkanggaa
open Go.ChangeShapes Go.WideShapes Go.ChangeAt Go.RowKit

theorem own : ownKnob Try.prog.godebug = none := by kernel_rfl
theorem laid : laidOutB Try.prog = true := by kernel_rfl

theorem schan_walk {w : World} {S : Sys} {A : Option Addr} {c : Nat} {R : Option Addr} {d : Nat} {picks : List Int} {pv : Value} (hS : SysIn w S A c R d) (hp : IntL w pv picks) : Calls Try.prog 6 #[.agg (sysV S A c R d), pv] w fun e w' => e = .returned (.bool true) ∧ Keeps w w' [] := by
  cases hv : validB S with
  | false => exact schan_bad hS hv
  | true => exact schan_good hS hv hp

set_option maxRecDepth 100000 in
theorem schannels_lifted (os : Os) (started : os.Started) (H : Type) (enc : TypeId × Value → H) :
    ReturnsInHanded {} Try.checked os 6 .any (Rows.schedChannelsSpec.pre6 enc Try.prog Try.f6 Rows.schedChannelsRow.domain false) (Rows.schedChannelsSpec.post enc Try.prog Try.f6 false true false false) := by
  refine law_lifted (C := Try.checked) own started (by kernel_rfl) Try.func6 rfl (fun ds h => ?_) rfl Try.underlying4 laid ?_
    (ChangeSpec.witness6 (enc := enc) (C := Try.checked) false ⟨#[], #[.agg #[.slice none 0 0, .slice none 0 0, .int .i64 0, .int .i64 0, .int .i64 0], .slice none 0 0], []⟩ 8 (by kernel_rfl) (by kernel_rfl) (by kernel_rfl) (by kernel_rfl)) ?_
  · match ds, h with
    | [d0, d1], _ => exact ⟨rfl, rfl, rfl⟩
  · intro t ht
    have ht' : t ∈ ([27, 25] : List TypeId) := ht
    simp only [List.mem_cons, List.not_mem_nil, or_false] at ht'
    rcases ht' with rfl | rfl
    all_goals exact ⟨by kernel_rfl, of_decide_eq_true (by kernel_rfl)⟩
  · intro W base args ds ps hval hA hlt hfz hsz
    have hA' : DataW.TrodAll enc Try.prog W 0 (fun _ => true) true [27, 25] args.toList ds ps := hA
    clear hA
    obtain ⟨v0, v1, d0, d1, p0, p1, hargs, rfl, rfl, h0, h1⟩ := trodAll_two hA'
    obtain rfl : args = #[v0, v1] := by cases args; simp_all
    obtain ⟨S, A, c, R, e, rfl, hS⟩ := open_sys (hval 0 27 v0 rfl rfl) h0
    obtain ⟨picks, hp⟩ := open_picks (hval 1 25 v1 rfl rfl) h1
    exact (schan_walk hS hp).mono fun e W' ⟨he, hk⟩ => ⟨he, hk.below⟩

theorem schannels_holds : Rows.SchedChannelsSaid :=
  OpenClaim.holds_of_wide 6 Try.f6 rfl rfl rfl rfl rfl rfl rfl ⟨rfl, rfl, rfl, rfl, rfl⟩ rfl rfl rfl rfl rfl (by kernel_rfl) Try.func6 (by kernel_rfl)
    (of_decide_eq_true (by kernel_rfl)) (by unfold Func.isWrapper; rw [if_neg (of_decide_eq_false (by kernel_rfl))]; exact ⟨rfl, rfl⟩)
    (fun os started H enc _ => schannels_lifted os started H enc)
end Go.Proofs.Ytakmcpadkanggaa
