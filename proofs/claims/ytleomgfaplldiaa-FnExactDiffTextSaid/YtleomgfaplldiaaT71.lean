/- Contracts of functions of the given program, for the law FnExactDiffText: what they return and what they write, under the bounds that each theorem states. -/
import Derived.Test.YtleomgfaplldiaaT60
import Derived.Ground.NamesProg
import Derived.Shelf.Lay
import Derived.Shelf.Strings.OnBuilder
set_option linter.unusedVariables false
set_option linter.unusedSimpArgs false
namespace Go.Proofs
open Go.Shelf Go.RowKit

shelf_lay Lays.n156 Nm 156 at Try as Try.laysJoin
theorem Try.extraJoin : Builder.Extra Try.prog Try.laysJoin_ren where
  sizeBuilder := by kernel_rfl
  liesBuilder := by kernel_rfl
  t5 := Try.underlying5
  a5 := Try.isAgg5
  z5 := Try.sizeOf5
  v5 := Try.zeroValue5
  infoByte := by kernel_rfl
  cellsByte := by kernel_rfl
  sizeByte := by kernel_rfl
  neB5 := by decide
end Go.Proofs
namespace Go.AM

theorem str_cells {w : World} {Fz : Nat → Prop} : ∀ {l : List Str} {xs : List Value}, RepRows w Fz 1 (l.map Str.c) xs [] → xs = l.map fun s => Value.string s.s
  | [], xs, h => by simp only [List.map_nil, RepRows] at h; rw [h.1]; rfl
  | s :: l, xs, h => by
    simp only [List.map_cons, RepRows] at h
    obtain ⟨x1, x2, o1, o2, rfl, ho, hl, h1, h2⟩ := h
    obtain ⟨rfl, rfl⟩ : o1 = [] ∧ o2 = [] := by simpa using ho.symm
    simp only [Str.c, RepRow, RepC] at h1
    obtain ⟨x, xs', p1, p2, rfl, _, hc, rfl, _⟩ := h1
    rw [hc.1, str_cells h2]
    rfl

theorem d117 (l : List Str) (sep : ByteArray) (hl : (l.length : Int) ≤ 1048576) (hs : (Lib.join (l.map (·.s.data.toList)) sep.data.toList).length ≤ 140737488355328) : Does Go.Proofs.Try.prog 117 [.fsl 1 (l.map Str.c), .v (.string sep)] false (.v (.string ⟨(Lib.join (l.map (·.s.data.toList)) sep.data.toList).toArray⟩)) [.dead, .dead] := by
  refine ⟨by decide +kernel, ?_⟩
  intro w Fz xs os hrep hos hfz hlt
  simp only [RepVs, RepV, RepC] at hrep
  obtain ⟨x, xs', o1, o2, rfl, rfl, ⟨rfl, A, c, rfl, hc, hcase⟩, y, ys, p1, p2, rfl, rfl, ⟨rfl, _, rfl⟩, rfl, rfl⟩ := hrep
  rw [List.length_map] at *
  have key : Calls Go.Proofs.Try.prog 117 #[.slice A l.length c, .string sep] w fun e w' => e = .returned (.string ⟨(Lib.join (l.map (·.s.data.toList)) sep.data.toList).toArray⟩) ∧ Go.RowKit.Below w.heap.size w w' := by
    rcases hcase with hnil | ⟨g, h, ys, rfl, hg, hrows, hat⟩
    · have hl0 : l = [] := by simpa using hnil
      subst hl0
      refine (Go.Proofs.Any.strings_Join_none Go.Proofs.Try.laysJoin Go.Proofs.Try.extraJoin A c sep w).mono ?_
      rintro e w' ⟨rfl, rfl⟩
      exact ⟨rfl, Go.RowKit.Below.refl _ _⟩
    · have hys := str_cells hrows
      subst hys
      have e := Go.Proofs.Any.strings_Join Go.Proofs.Try.laysJoin Go.Proofs.Try.extraJoin g h c (l.map Str.s) sep w ?_ (hlt g hg) (by simp; omega) (by simpa using hc) (by rw [List.map_map]; exact hs)
      · simp only [List.length_map, List.map_map] at e
        exact e
      · intro j x hj
        refine hat j _ ?_
        simp only [List.getElem?_map] at hj ⊢
        cases hlj : l[j]? with
        | none => rw [hlj] at hj; simp at hj
        | some s => rw [hlj] at hj; simp at hj; simp [hj]
  refine key.mono ?_
  rintro e w' ⟨rfl, bel⟩
  refine ⟨_, [], [], rfl, ⟨bel.os, bel.tape, bel.output, bel.size, fun b hb _ => bel.block b hb⟩, by simp [RepV, RepC, Value.oneCell'], ?_, by simp, by simp⟩
  simp only [RepVs, RepV]
  exact ⟨_, _, [], [], rfl, rfl, rfl, _, _, [], [], rfl, rfl, rfl, rfl, rfl⟩
end Go.AM
