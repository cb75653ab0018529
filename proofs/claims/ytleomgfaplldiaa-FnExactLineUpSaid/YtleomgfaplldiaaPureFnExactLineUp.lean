/- The program's LineUp returns what the reference's returns, for all arguments: for every two ints, no condition. -/
import Derived.Test.YtleomgfaplldiaaPFnExactLineUpx1
namespace Go.Proofs.Ytleomgfaplldiaa.Pure
open Go.RowKit Go.Proofs.Ytleomgfaplldiaa.PFnExactLineUp Go.Proofs.YtleomgfaplldiaaW.PrintWords Go.Proofs.YtleomgfaplldiaaW.PrintLast

theorem in_some (a b c : Int) : spec_l1In.f a b c = some (decide (a ≥ b) && decide (a ≤ c)) := by
  unfold spec_l1In.f
  by_cases h : a ≥ b <;> simp [h]

theorem same_in : impl_in.f = spec_l1In.f := by
  funext a b c
  simp only [impl_in.f, spec_l1In.f]

theorem same_up : impl_lineUp.f = spec_l10Up.f := by
  funext a b
  simp only [impl_lineUp.f, spec_l10Up.f]

theorem same_all (a b : Int) : impl_LineUp.f a b = spec_LineUp.f a b := by
  simp only [impl_LineUp.f, spec_LineUp.f, same_in, same_up]

theorem spec_told (a b : Int) : ∃ r, spec_LineUp.f a b = some r := by
  unfold spec_LineUp.f
  rw [in_some, in_some]
  simp only [Option.bind_some]
  split
  · split
    · rename_i h
      have hb : ¬ b = 0 := by
        simp at h
        omega
      unfold spec_l10Up.f
      rw [if_neg hb]
      exact ⟨_, rfl⟩
    · exact ⟨_, rfl⟩
  · exact ⟨_, rfl⟩

theorem FnExactLineUp : laws_FnExactLineUp.Pure := by
  intro a b _ _
  obtain ⟨r, hr⟩ := spec_told a b
  unfold laws_FnExactLineUp.f
  rw [same_all, hr]
  simp

end Go.Proofs.Ytleomgfaplldiaa.Pure
