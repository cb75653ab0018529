/- Contracts of functions of the given program, for the law FnExactSameStore: what they return and what they write, under the bounds that each theorem states. -/
import Derived.Test.YtjbmgopednpbmaaC9
import Derived.Test.YtjbmgopednpbmaaU2
import Derived.Test.YtjbmgopednpbmaaU4
import Derived.Test.YtjbmgopednpbmaaU5
namespace Go.AM
set_option linter.unusedVariables false
set_option linter.unusedSimpArgs false

theorem pbeq (a b c d : Nat) : ((a, b) == (c, d)) = (a == c && b == d) := rfl
structure Scope where
  name : ByteArray
  imports : List Str
  types : List Ty
  objects : List Ob
  uses : List Us

def Scope.z (s : Scope) : List AV := [.v (.string s.name), .fsl 1 (s.imports.map Str.z), .fsl 6 (s.types.map Ty.z), .fsl 6 (s.objects.map Ob.z), .fsl 2 (s.uses.map Us.z)]

def Scope.o (s : Scope) : List AV := [.v (.string s.name), .usl 9 1 (s.imports.map Str.o), .usl 59 6 (s.types.map Ty.o), .usl 130 6 (s.objects.map Ob.o), .usl 132 2 (s.uses.map Us.o)]

def Scope.zr : List AV := [.v (.string ⟨#[]⟩), .usl 9 1 [], .usl 59 6 [], .usl 130 6 [], .usl 132 2 []]

theorem Scope.fr (s : Scope) : frzRow s.o = s.z := by
  simp only [Scope.o, Scope.z, frzRow, frzL, List.cons_append, List.nil_append, Str.frz, Ty.frz, Fd.frz, Ob.frz, Par.frz, Us.frz]
theorem Scope.frz : ∀ l : List Scope, frzRows (l.map Scope.o) = l.map Scope.z
  | [] => rfl
  | s :: l => by simp only [List.map_cons, frzRows, Scope.fr, Scope.frz l]
theorem Scope.nf (s : Scope) : nfzs s.o = true := by
  simp only [Scope.o, nfzs, nfz, List.cons_append, List.nil_append, Bool.and_self, Str.nfz, Ty.nfz, Fd.nfz, Ob.nfz, Par.nfz, Us.nfz]
theorem Scope.nfz : ∀ l : List Scope, nfzss (l.map Scope.o) = true
  | [] => rfl
  | s :: l => by simp only [List.map_cons, nfzss, Scope.nf, Scope.nfz l, Bool.and_self]
theorem ScopeE : (∀ f : Scope, f.z.length = 5) ∧ (∀ f : Scope, f.z.take 5 = f.z) ∧ (∀ (st : St) (f : Scope), frzBs st f.z = f.z) ∧ (∀ f : Scope, bares f.z = true) ∧ (∀ f : Scope, plains f.z = true) ∧
    (∀ (f : Scope) (K : Nat → List (Nat × Nat) → Bool), killVs K f.z = f.z) ∧ (∀ f : Scope, f.z.all storL = true) ∧ (∀ f : Scope, f.o.length = 5) ∧ (∀ f : Scope, f.o.take 5 = f.o) ∧ (∀ f : Scope, bares f.o = false) ∧
    (∀ f : Scope, plains f.o = false) ∧ (∀ (f : Scope) (K : Nat → List (Nat × Nat) → Bool), killVs K f.o = f.o) ∧ (∀ f : Scope, f.o.all storL = true) :=
  ⟨fun _ => rfl, fun _ => rfl, fun _ _ => rfl, fun _ => rfl, fun _ => rfl, fun _ _ => rfl, fun _ => rfl, fun _ => rfl, fun _ => rfl, fun _ => rfl, fun _ => rfl, fun _ _ => rfl, fun _ => rfl⟩

def Scope.ok (s : Scope) : Prop := (s.name.size : Int) ≤ 9223372036854775807 ∧ ((s.imports.length : Int) ≤ 9223372036854775807 ∧ ∀ y ∈ s.imports, y.ok) ∧ ((s.types.length : Int) ≤ 9223372036854775807 ∧ ∀ y ∈ s.types, y.ok) ∧ ((s.objects.length : Int) ≤ 9223372036854775807 ∧ ∀ y ∈ s.objects, y.ok) ∧ ((s.uses.length : Int) ≤ 9223372036854775807 ∧ ∀ y ∈ s.uses, y.ok)
def Scope.sm (s : Scope) : Prop := (s.name.size : Int) ≤ 1048576 ∧ ((s.imports.length : Int) ≤ 1048576 ∧ ∀ y ∈ s.imports, y.sm) ∧ ((s.types.length : Int) ≤ 1048576 ∧ ∀ y ∈ s.types, y.sm) ∧ ((s.objects.length : Int) ≤ 1048576 ∧ ∀ y ∈ s.objects, y.sm) ∧ ((s.uses.length : Int) ≤ 1048576 ∧ ∀ y ∈ s.uses, y.sm)

def szScope (s : Scope) (k : Int) : Int := if k - s.name.size < 0 then -1 else if szStrS s.imports (k - s.name.size) < 0 then -1 else if szTyS s.types (szStrS s.imports (k - s.name.size)) < 0 then -1 else if szObS s.objects (szTyS s.types (szStrS s.imports (k - s.name.size))) < 0 then -1 else if szUsS s.uses (szObS s.objects (szTyS s.types (szStrS s.imports (k - s.name.size)))) < 0 then -1 else szUsS s.uses (szObS s.objects (szTyS s.types (szStrS s.imports (k - s.name.size))))
def totScope (s : Scope) : Int := (s.name.size : Int) + totStrs s.imports + totTys s.types + totObs s.objects + totUss s.uses
theorem szScope_le (s : Scope) (k : Int) (h : 0 ≤ k) : szScope s k ≤ k := by
  unfold szScope
  by_cases g0 : k - s.name.size < 0
  · rw [if_pos g0]; omega
  rw [if_neg g0]
  have l1 := szStrS_le s.imports (k - s.name.size) (by omega)
  by_cases g1 : szStrS s.imports (k - s.name.size) < 0
  · rw [if_pos g1]; omega
  rw [if_neg g1]
  have l2 := szTyS_le s.types (szStrS s.imports (k - s.name.size)) (by omega)
  by_cases g2 : szTyS s.types (szStrS s.imports (k - s.name.size)) < 0
  · rw [if_pos g2]; omega
  rw [if_neg g2]
  have l3 := szObS_le s.objects (szTyS s.types (szStrS s.imports (k - s.name.size))) (by omega)
  by_cases g3 : szObS s.objects (szTyS s.types (szStrS s.imports (k - s.name.size))) < 0
  · rw [if_pos g3]; omega
  rw [if_neg g3]
  have l4 := szUsS_le s.uses (szObS s.objects (szTyS s.types (szStrS s.imports (k - s.name.size)))) (by omega)
  by_cases g4 : szUsS s.uses (szObS s.objects (szTyS s.types (szStrS s.imports (k - s.name.size)))) < 0
  · rw [if_pos g4]; omega
  rw [if_neg g4]
  omega
theorem szScope_tot (s : Scope) (k : Int) (h : 0 ≤ szScope s k) : totScope s + szScope s k = k := by
  unfold szScope at h ⊢
  unfold totScope
  by_cases g0 : k - s.name.size < 0
  · rw [if_pos g0] at h; omega
  rw [if_neg g0] at h ⊢
  by_cases g1 : szStrS s.imports (k - s.name.size) < 0
  · rw [if_pos g1] at h; omega
  rw [if_neg g1] at h ⊢
  have t1 := szStrS_tot s.imports (k - s.name.size) (by omega)
  by_cases g2 : szTyS s.types (szStrS s.imports (k - s.name.size)) < 0
  · rw [if_pos g2] at h; omega
  rw [if_neg g2] at h ⊢
  have t2 := szTyS_tot s.types (szStrS s.imports (k - s.name.size)) (by omega)
  by_cases g3 : szObS s.objects (szTyS s.types (szStrS s.imports (k - s.name.size))) < 0
  · rw [if_pos g3] at h; omega
  rw [if_neg g3] at h ⊢
  have t3 := szObS_tot s.objects (szTyS s.types (szStrS s.imports (k - s.name.size))) (by omega)
  by_cases g4 : szUsS s.uses (szObS s.objects (szTyS s.types (szStrS s.imports (k - s.name.size)))) < 0
  · rw [if_pos g4] at h; omega
  rw [if_neg g4] at h ⊢
  have t4 := szUsS_tot s.uses (szObS s.objects (szTyS s.types (szStrS s.imports (k - s.name.size)))) (by omega)
  omega
theorem totScope_nn (s : Scope) : 0 ≤ totScope s := by
  unfold totScope
  have n1 := totStrs_nn s.imports
  have n2 := totTys_nn s.types
  have n3 := totObs_nn s.objects
  have n4 := totUss_nn s.uses
  omega
theorem Scope.sm_of (s : Scope) (h : totScope s ≤ 1048576) : s.sm := by
  unfold totScope at h
  have n1 := totStrs_nn s.imports
  have n2 := totTys_nn s.types
  have n3 := totObs_nn s.objects
  have n4 := totUss_nn s.uses
  exact ⟨by omega, ⟨by omega, fun y hy => Str.sm_of y (by have := totStrs_mem s.imports y hy; omega)⟩, ⟨by omega, fun y hy => Ty.sm_of y (by have := totTys_mem s.types y hy; omega)⟩, ⟨by omega, fun y hy => Ob.sm_of y (by have := totObs_mem s.objects y hy; omega)⟩, ⟨by omega, fun y hy => Us.sm_of y (by have := totUss_mem s.uses y hy; omega)⟩⟩

/-- loop.example/g00837/laws.szScope -/
def m112 : MC :=
  (.seq
   (.reg [⟨(some 2), none, .a (.box 76 (.t 0))⟩,
     ⟨(some 4), none, .a (.asg (.c (.int .i64 0)))⟩])
   (.seq
    (.reg [⟨(some 5), none, .q (.mov (.t 1))⟩,
      ⟨(some 6), none, .q (.fad 0 (.t 2))⟩,
      ⟨(some 7), none, .q (.load false 1 (.t 6))⟩,
      ⟨(some 8), none, .q (.len true (.t 7))⟩,
      ⟨(some 9), none, .q (.bin false .sub (.t 5) (.t 8))⟩,
      ⟨(some 1), none, .a (.asg (.t 9))⟩])
    (.seq
     (.seq
      (.reg [⟨(some 10), none, .q (.mov (.t 1))⟩,
        ⟨(some 11), none, .q (.bin false .lss (.t 10) (.c (.int .i64 0)))⟩])
      (.cond (.t 11)
       (.seq
        (.reg [⟨(some 4), none, .a (.asg (.c (.int .i64 (-1))))⟩])
        .ret)
       .skip))
     (.seq
      (.reg [⟨(some 12), none, .q (.fad 1 (.t 2))⟩,
        ⟨(some 13), none, .q (.load false 1 (.t 12))⟩,
        ⟨(some 14), none, .q (.mov (.t 1))⟩,
        ⟨(some 15), none, .a (.call (.fn 151) false [.lend (.t 13), .lend (.t 14)])⟩,
        ⟨(some 1), none, .a (.asg (.t 15))⟩])
      (.seq
       (.seq
        (.reg [⟨(some 16), none, .q (.mov (.t 1))⟩,
          ⟨(some 17), none, .q (.bin false .lss (.t 16) (.c (.int .i64 0)))⟩])
        (.cond (.t 17)
         (.seq
          (.reg [⟨(some 4), none, .a (.asg (.c (.int .i64 (-1))))⟩])
          .ret)
         .skip))
       (.seq
        (.reg [⟨(some 18), none, .q (.fad 2 (.t 2))⟩,
          ⟨(some 19), none, .q (.load false 1 (.t 18))⟩,
          ⟨(some 20), none, .q (.mov (.t 1))⟩,
          ⟨(some 21), none, .a (.call (.fn 18) false [.lend (.t 19), .lend (.t 20)])⟩,
          ⟨(some 1), none, .a (.asg (.t 21))⟩])
        (.seq
         (.seq
          (.reg [⟨(some 22), none, .q (.mov (.t 1))⟩,
            ⟨(some 23), none, .q (.bin false .lss (.t 22) (.c (.int .i64 0)))⟩])
          (.cond (.t 23)
           (.seq
            (.reg [⟨(some 4), none, .a (.asg (.c (.int .i64 (-1))))⟩])
            .ret)
           .skip))
         (.seq
          (.reg [⟨(some 24), none, .q (.fad 3 (.t 2))⟩,
            ⟨(some 25), none, .q (.load false 1 (.t 24))⟩,
            ⟨(some 26), none, .q (.mov (.t 1))⟩,
            ⟨(some 27), none, .a (.call (.fn 152) false [.lend (.t 25), .lend (.t 26)])⟩,
            ⟨(some 1), none, .a (.asg (.t 27))⟩])
          (.seq
           (.seq
            (.reg [⟨(some 28), none, .q (.mov (.t 1))⟩,
              ⟨(some 29), none, .q (.bin false .lss (.t 28) (.c (.int .i64 0)))⟩])
            (.cond (.t 29)
             (.seq
              (.reg [⟨(some 4), none, .a (.asg (.c (.int .i64 (-1))))⟩])
              .ret)
             .skip))
           (.seq
            (.reg [⟨(some 30), none, .q (.fad 4 (.t 2))⟩,
              ⟨(some 31), none, .q (.load false 1 (.t 30))⟩,
              ⟨(some 32), none, .q (.mov (.t 1))⟩,
              ⟨(some 33), none, .a (.call (.fn 153) false [.lend (.t 31), .lend (.t 32)])⟩,
              ⟨(some 1), none, .a (.asg (.t 33))⟩])
            (.seq
             (.seq
              (.reg [⟨(some 34), none, .q (.mov (.t 1))⟩,
                ⟨(some 35), none, .q (.bin false .lss (.t 34) (.c (.int .i64 0)))⟩])
              (.cond (.t 35)
               (.seq
                (.reg [⟨(some 4), none, .a (.asg (.c (.int .i64 (-1))))⟩])
                .ret)
               .skip))
             (.seq
              (.reg [⟨(some 36), none, .q (.mov (.t 1))⟩,
                ⟨(some 4), none, .a (.asg (.t 36))⟩])
              .ret))))))))))))


set_option maxRecDepth 100000 in
theorem d112 (s : Scope) (k : Int) (h0 : 0 ≤ k) (h1 : k ≤ 1048576) (hok : s.ok) : Does Go.Proofs.Try.prog 112 [.agg s.z, .v (.int .i64 k)] false (.v (.int .i64 (szScope s k))) [.dead, .dead] := by
  unfold Scope.ok at hok
  refine does_intro (mc := m112) (N := 37) (rs := [4]) (fx := []) 2 rfl (by decide +kernel) ?_
  simp only [m112, Scope.z, EV, Nat.reduceEqDiff, Nat.reduceBEq, Nat.reduceLT, Nat.reduceLeDiff, Nat.reduceAdd, Nat.reduceSub, reduceIte]
  have b0 := hok.1
  have w0 := w64 (k - s.name.size) (by omega)
  simp only [w0, EV, Nat.reduceEqDiff, Nat.reduceBEq, Nat.reduceLT, Nat.reduceLeDiff, Nat.reduceAdd, Nat.reduceSub, reduceIte]
  refine cK_cut (fun h => ?_) (fun h => ?_)
  · have g0 : k - s.name.size < 0 := by simpa using h
    have e : szScope s k = -1 := by unfold szScope; rw [if_pos g0]
    simp only [EV, Nat.reduceEqDiff, Nat.reduceBEq, Nat.reduceLT, Nat.reduceLeDiff, Nat.reduceAdd, Nat.reduceSub, reduceIte]
    simp only [e, EV, Nat.reduceEqDiff, Nat.reduceBEq, Nat.reduceLT, Nat.reduceLeDiff, Nat.reduceAdd, Nat.reduceSub, reduceIte, retVC, cellV', evR, nfz, nfzs, nfzss, List.contains_nil, List.contains_cons, Bool.or_false, or_true]
  · have g0 : ¬ k - s.name.size < 0 := by simpa using h
    simp only [EV, Nat.reduceEqDiff, Nat.reduceBEq, Nat.reduceLT, Nat.reduceLeDiff, Nat.reduceAdd, Nat.reduceSub, reduceIte]
    have l1 := szStrS_le s.imports (k - s.name.size) (by omega)
    refine callK_i (d151 s.imports (k - s.name.size) (by omega) (by omega) (hok.2.1).1 (hok.2.1).2) ?_
    simp only [EV, Nat.reduceEqDiff, Nat.reduceBEq, Nat.reduceLT, Nat.reduceLeDiff, Nat.reduceAdd, Nat.reduceSub, reduceIte]
    refine cK_cut (fun h => ?_) (fun h => ?_)
    · have g1 : szStrS s.imports (k - s.name.size) < 0 := by simpa using h
      have e : szScope s k = -1 := by unfold szScope; rw [if_neg g0, if_pos g1]
      simp only [EV, Nat.reduceEqDiff, Nat.reduceBEq, Nat.reduceLT, Nat.reduceLeDiff, Nat.reduceAdd, Nat.reduceSub, reduceIte]
      simp only [e, EV, Nat.reduceEqDiff, Nat.reduceBEq, Nat.reduceLT, Nat.reduceLeDiff, Nat.reduceAdd, Nat.reduceSub, reduceIte, retVC, cellV', evR, nfz, nfzs, nfzss, List.contains_nil, List.contains_cons, Bool.or_false, or_true]
    · have g1 : ¬ szStrS s.imports (k - s.name.size) < 0 := by simpa using h
      simp only [EV, Nat.reduceEqDiff, Nat.reduceBEq, Nat.reduceLT, Nat.reduceLeDiff, Nat.reduceAdd, Nat.reduceSub, reduceIte]
      have l2 := szTyS_le s.types (szStrS s.imports (k - s.name.size)) (by omega)
      refine callK_i (d18 s.types (szStrS s.imports (k - s.name.size)) (by omega) (by omega) (hok.2.2.1).1 (hok.2.2.1).2) ?_
      simp only [EV, Nat.reduceEqDiff, Nat.reduceBEq, Nat.reduceLT, Nat.reduceLeDiff, Nat.reduceAdd, Nat.reduceSub, reduceIte]
      refine cK_cut (fun h => ?_) (fun h => ?_)
      · have g2 : szTyS s.types (szStrS s.imports (k - s.name.size)) < 0 := by simpa using h
        have e : szScope s k = -1 := by unfold szScope; rw [if_neg g0, if_neg g1, if_pos g2]
        simp only [EV, Nat.reduceEqDiff, Nat.reduceBEq, Nat.reduceLT, Nat.reduceLeDiff, Nat.reduceAdd, Nat.reduceSub, reduceIte]
        simp only [e, EV, Nat.reduceEqDiff, Nat.reduceBEq, Nat.reduceLT, Nat.reduceLeDiff, Nat.reduceAdd, Nat.reduceSub, reduceIte, retVC, cellV', evR, nfz, nfzs, nfzss, List.contains_nil, List.contains_cons, Bool.or_false, or_true]
      · have g2 : ¬ szTyS s.types (szStrS s.imports (k - s.name.size)) < 0 := by simpa using h
        simp only [EV, Nat.reduceEqDiff, Nat.reduceBEq, Nat.reduceLT, Nat.reduceLeDiff, Nat.reduceAdd, Nat.reduceSub, reduceIte]
        have l3 := szObS_le s.objects (szTyS s.types (szStrS s.imports (k - s.name.size))) (by omega)
        refine callK_i (d152 s.objects (szTyS s.types (szStrS s.imports (k - s.name.size))) (by omega) (by omega) (hok.2.2.2.1).1 (hok.2.2.2.1).2) ?_
        simp only [EV, Nat.reduceEqDiff, Nat.reduceBEq, Nat.reduceLT, Nat.reduceLeDiff, Nat.reduceAdd, Nat.reduceSub, reduceIte]
        refine cK_cut (fun h => ?_) (fun h => ?_)
        · have g3 : szObS s.objects (szTyS s.types (szStrS s.imports (k - s.name.size))) < 0 := by simpa using h
          have e : szScope s k = -1 := by unfold szScope; rw [if_neg g0, if_neg g1, if_neg g2, if_pos g3]
          simp only [EV, Nat.reduceEqDiff, Nat.reduceBEq, Nat.reduceLT, Nat.reduceLeDiff, Nat.reduceAdd, Nat.reduceSub, reduceIte]
          simp only [e, EV, Nat.reduceEqDiff, Nat.reduceBEq, Nat.reduceLT, Nat.reduceLeDiff, Nat.reduceAdd, Nat.reduceSub, reduceIte, retVC, cellV', evR, nfz, nfzs, nfzss, List.contains_nil, List.contains_cons, Bool.or_false, or_true]
        · have g3 : ¬ szObS s.objects (szTyS s.types (szStrS s.imports (k - s.name.size))) < 0 := by simpa using h
          simp only [EV, Nat.reduceEqDiff, Nat.reduceBEq, Nat.reduceLT, Nat.reduceLeDiff, Nat.reduceAdd, Nat.reduceSub, reduceIte]
          have l4 := szUsS_le s.uses (szObS s.objects (szTyS s.types (szStrS s.imports (k - s.name.size)))) (by omega)
          refine callK_i (d153 s.uses (szObS s.objects (szTyS s.types (szStrS s.imports (k - s.name.size)))) (by omega) (by omega) (hok.2.2.2.2).1 (hok.2.2.2.2).2) ?_
          simp only [EV, Nat.reduceEqDiff, Nat.reduceBEq, Nat.reduceLT, Nat.reduceLeDiff, Nat.reduceAdd, Nat.reduceSub, reduceIte]
          refine cK_cut (fun h => ?_) (fun h => ?_)
          · have g4 : szUsS s.uses (szObS s.objects (szTyS s.types (szStrS s.imports (k - s.name.size)))) < 0 := by simpa using h
            have e : szScope s k = -1 := by unfold szScope; rw [if_neg g0, if_neg g1, if_neg g2, if_neg g3, if_pos g4]
            simp only [EV, Nat.reduceEqDiff, Nat.reduceBEq, Nat.reduceLT, Nat.reduceLeDiff, Nat.reduceAdd, Nat.reduceSub, reduceIte]
            simp only [e, EV, Nat.reduceEqDiff, Nat.reduceBEq, Nat.reduceLT, Nat.reduceLeDiff, Nat.reduceAdd, Nat.reduceSub, reduceIte, retVC, cellV', evR, nfz, nfzs, nfzss, List.contains_nil, List.contains_cons, Bool.or_false, or_true]
          · have g4 : ¬ szUsS s.uses (szObS s.objects (szTyS s.types (szStrS s.imports (k - s.name.size)))) < 0 := by simpa using h
            simp only [EV, Nat.reduceEqDiff, Nat.reduceBEq, Nat.reduceLT, Nat.reduceLeDiff, Nat.reduceAdd, Nat.reduceSub, reduceIte]
            have e : szScope s k = szUsS s.uses (szObS s.objects (szTyS s.types (szStrS s.imports (k - s.name.size)))) := by unfold szScope; rw [if_neg g0, if_neg g1, if_neg g2, if_neg g3, if_neg g4]
            simp only [e, EV, Nat.reduceEqDiff, Nat.reduceBEq, Nat.reduceLT, Nat.reduceLeDiff, Nat.reduceAdd, Nat.reduceSub, reduceIte, retVC, cellV', evR, nfz, nfzs, nfzss, List.contains_nil, List.contains_cons, Bool.or_false, or_true]

/-- loop.example/g00837/laws.toScope -/
def m117 : MC :=
  (.seq
   (.reg [⟨(some 1), none, .a (.box 76 (.t 0))⟩,
     ⟨(some 2), none, .a (.alloc 83 [.v (.string ({ data := #[] })), .s 9 1, .s 59 6, .s 130 6, .s 132 2])⟩])
   (.seq
    (.reg [⟨(some 3), none, .a (.alloc 83 [.v (.string ({ data := #[] })), .s 9 1, .s 59 6, .s 130 6, .s 132 2])⟩])
    (.seq
     (.reg [⟨(some 4), none, .q (.fad 0 (.t 1))⟩,
       ⟨(some 5), none, .q (.load false 1 (.t 4))⟩,
       ⟨(some 6), none, .q (.fad 0 (.t 3))⟩,
       ⟨none, none, .a (.store 1 (.t 6) (.t 5))⟩])
     (.seq
      (.reg [⟨(some 7), none, .q (.fad 1 (.t 1))⟩,
        ⟨(some 8), none, .q (.load false 1 (.t 7))⟩,
        ⟨(some 9), none, .a (.call (.fn 155) false [.lend (.t 8)])⟩,
        ⟨(some 10), none, .q (.fad 1 (.t 3))⟩,
        ⟨none, none, .a (.store 1 (.t 10) (.t 9))⟩])
      (.seq
       (.reg [⟨(some 11), none, .q (.fad 2 (.t 1))⟩,
         ⟨(some 12), none, .q (.load false 1 (.t 11))⟩,
         ⟨(some 13), none, .a (.call (.fn 20) false [.lend (.t 12)])⟩,
         ⟨(some 14), none, .q (.fad 2 (.t 3))⟩,
         ⟨none, none, .a (.store 1 (.t 14) (.t 13))⟩])
       (.seq
        (.reg [⟨(some 15), none, .q (.fad 3 (.t 1))⟩,
          ⟨(some 16), none, .q (.load false 1 (.t 15))⟩,
          ⟨(some 17), none, .a (.call (.fn 156) false [.lend (.t 16)])⟩,
          ⟨(some 18), none, .q (.fad 3 (.t 3))⟩,
          ⟨none, none, .a (.store 1 (.t 18) (.t 17))⟩])
        (.seq
         (.reg [⟨(some 19), none, .q (.fad 4 (.t 1))⟩,
           ⟨(some 20), none, .q (.load false 1 (.t 19))⟩,
           ⟨(some 21), none, .a (.call (.fn 157) false [.lend (.t 20)])⟩,
           ⟨(some 22), none, .q (.fad 4 (.t 3))⟩,
           ⟨none, none, .a (.store 1 (.t 22) (.t 21))⟩])
         (.seq
          (.reg [⟨(some 23), none, .q (.load true 5 (.t 3))⟩,
            ⟨none, none, .a (.store 5 (.t 2) (.t 23))⟩])
          .ret))))))))


set_option maxRecDepth 100000 in
theorem d117 (s : Scope) (hs : s.sm) : Does Go.Proofs.Try.prog 117 [.agg s.z] false (.agg s.o) [.dead] := by
  unfold Scope.sm at hs
  refine does_introC (mc := m117) (N := 24) (r := 2) (ty := 83) (agg := true) (sz := 5) (fx := []) 1 rfl (by decide +kernel) ?_
  simp only [m117, Scope.z, Scope.o, EV, Nat.reduceEqDiff, Nat.reduceBEq, Nat.reduceLT, Nat.reduceLeDiff, Nat.reduceAdd, Nat.reduceSub, reduceIte]
  refine callK_i (d155 s.imports (hs.2.1).1 (hs.2.1).2) ?_
  simp only [pbeq, Scope.z, Scope.o, EV, Nat.reduceEqDiff, Nat.reduceBEq, Nat.reduceLT, Nat.reduceLeDiff, Nat.reduceAdd, Nat.reduceSub, reduceIte]
  refine callK_i (d20 s.types (hs.2.2.1).1 (hs.2.2.1).2) ?_
  simp only [pbeq, Scope.z, Scope.o, EV, Nat.reduceEqDiff, Nat.reduceBEq, Nat.reduceLT, Nat.reduceLeDiff, Nat.reduceAdd, Nat.reduceSub, reduceIte]
  refine callK_i (d156 s.objects (hs.2.2.2.1).1 (hs.2.2.2.1).2) ?_
  simp only [pbeq, Scope.z, Scope.o, EV, Nat.reduceEqDiff, Nat.reduceBEq, Nat.reduceLT, Nat.reduceLeDiff, Nat.reduceAdd, Nat.reduceSub, reduceIte]
  refine callK_i (d157 s.uses (hs.2.2.2.2).1 (hs.2.2.2.2).2) ?_
  simp only [pbeq, Scope.z, Scope.o, EV, Nat.reduceEqDiff, Nat.reduceBEq, Nat.reduceLT, Nat.reduceLeDiff, Nat.reduceAdd, Nat.reduceSub, reduceIte]
  simp only [Str.nfz, Ty.nfz, Fd.nfz, Ob.nfz, Par.nfz, Us.nfz, EV, Nat.reduceEqDiff, Nat.reduceBEq, Nat.reduceLT, Nat.reduceLeDiff, Nat.reduceAdd, Nat.reduceSub, reduceIte, retVC, cellV', evR, nfz, nfzs, nfzss, List.contains_nil, List.contains_cons, Bool.or_false, or_true]

/-- loop.example/g00837/laws.eqScope -/
def m125 : MC :=
  (.seq
   (.reg [⟨(some 2), none, .a (.box 83 (.t 0))⟩,
     ⟨(some 3), none, .a (.box 83 (.t 1))⟩,
     ⟨(some 4), none, .a (.asg (.c (.bool false)))⟩])
   (.seq
    (.seq
     (.reg [⟨(some 5), none, .q (.fad 0 (.t 2))⟩,
       ⟨(some 6), none, .q (.load false 1 (.t 5))⟩,
       ⟨(some 7), none, .q (.fad 0 (.t 3))⟩,
       ⟨(some 8), none, .q (.load false 1 (.t 7))⟩,
       ⟨(some 9), none, .q (.bin false .neq (.t 6) (.t 8))⟩])
     (.cond (.t 9)
      (.seq
       (.reg [⟨(some 4), none, .a (.asg (.c (.bool false)))⟩])
       .ret)
      .skip))
    (.seq
     (.seq
      (.reg [⟨(some 10), none, .q (.fad 1 (.t 2))⟩,
        ⟨(some 11), none, .q (.load false 1 (.t 10))⟩,
        ⟨(some 12), none, .q (.fad 1 (.t 3))⟩,
        ⟨(some 13), none, .q (.load false 1 (.t 12))⟩,
        ⟨(some 14), none, .a (.call (.fn 161) false [.lend (.t 11), .lend (.t 13)])⟩,
        ⟨(some 15), none, .q (.un .not (.t 14))⟩])
      (.cond (.t 15)
       (.seq
        (.reg [⟨(some 4), none, .a (.asg (.c (.bool false)))⟩])
        .ret)
       .skip))
     (.seq
      (.seq
       (.reg [⟨(some 16), none, .q (.fad 2 (.t 2))⟩,
         ⟨(some 17), none, .q (.load false 1 (.t 16))⟩,
         ⟨(some 18), none, .q (.fad 2 (.t 3))⟩,
         ⟨(some 19), none, .q (.load false 1 (.t 18))⟩,
         ⟨(some 20), none, .a (.call (.fn 22) false [.lend (.t 17), .lend (.t 19)])⟩,
         ⟨(some 21), none, .q (.un .not (.t 20))⟩])
       (.cond (.t 21)
        (.seq
         (.reg [⟨(some 4), none, .a (.asg (.c (.bool false)))⟩])
         .ret)
        .skip))
      (.seq
       (.seq
        (.reg [⟨(some 22), none, .q (.fad 3 (.t 2))⟩,
          ⟨(some 23), none, .q (.load false 1 (.t 22))⟩,
          ⟨(some 24), none, .q (.fad 3 (.t 3))⟩,
          ⟨(some 25), none, .q (.load false 1 (.t 24))⟩,
          ⟨(some 26), none, .a (.call (.fn 162) false [.lend (.t 23), .lend (.t 25)])⟩,
          ⟨(some 27), none, .q (.un .not (.t 26))⟩])
        (.cond (.t 27)
         (.seq
          (.reg [⟨(some 4), none, .a (.asg (.c (.bool false)))⟩])
          .ret)
         .skip))
       (.seq
        (.seq
         (.reg [⟨(some 28), none, .q (.fad 4 (.t 2))⟩,
           ⟨(some 29), none, .q (.load false 1 (.t 28))⟩,
           ⟨(some 30), none, .q (.fad 4 (.t 3))⟩,
           ⟨(some 31), none, .q (.load false 1 (.t 30))⟩,
           ⟨(some 32), none, .a (.call (.fn 163) false [.lend (.t 29), .lend (.t 31)])⟩,
           ⟨(some 33), none, .q (.un .not (.t 32))⟩])
         (.cond (.t 33)
          (.seq
           (.reg [⟨(some 4), none, .a (.asg (.c (.bool false)))⟩])
           .ret)
          .skip))
        (.seq
         (.reg [⟨(some 4), none, .a (.asg (.c (.bool true)))⟩])
         .ret)))))))


set_option maxRecDepth 100000 in
theorem d125 (s : Scope) (hs : s.sm) : Does Go.Proofs.Try.prog 125 [.agg s.z, .agg s.z] false (.v (.bool true)) [.dead, .dead] := by
  unfold Scope.sm at hs
  refine does_intro (mc := m125) (N := 34) (rs := [4]) (fx := []) 2 rfl (by decide +kernel) ?_
  simp only [m125, Scope.z, EV, Nat.reduceEqDiff, Nat.reduceBEq, Nat.reduceLT, Nat.reduceLeDiff, Nat.reduceAdd, Nat.reduceSub, reduceIte]
  refine callK_i (d161 s.imports (hs.2.1).1 (hs.2.1).2) ?_
  simp only [Scope.z, EV, Nat.reduceEqDiff, Nat.reduceBEq, Nat.reduceLT, Nat.reduceLeDiff, Nat.reduceAdd, Nat.reduceSub, reduceIte]
  refine callK_i (d22 s.types (hs.2.2.1).1 (hs.2.2.1).2) ?_
  simp only [Scope.z, EV, Nat.reduceEqDiff, Nat.reduceBEq, Nat.reduceLT, Nat.reduceLeDiff, Nat.reduceAdd, Nat.reduceSub, reduceIte]
  refine callK_i (d162 s.objects (hs.2.2.2.1).1 (hs.2.2.2.1).2) ?_
  simp only [Scope.z, EV, Nat.reduceEqDiff, Nat.reduceBEq, Nat.reduceLT, Nat.reduceLeDiff, Nat.reduceAdd, Nat.reduceSub, reduceIte]
  refine callK_i (d163 s.uses (hs.2.2.2.2).1 (hs.2.2.2.2).2) ?_
  simp only [Scope.z, EV, Nat.reduceEqDiff, Nat.reduceBEq, Nat.reduceLT, Nat.reduceLeDiff, Nat.reduceAdd, Nat.reduceSub, reduceIte]
  simp only [EV, Nat.reduceEqDiff, Nat.reduceBEq, Nat.reduceLT, Nat.reduceLeDiff, Nat.reduceAdd, Nat.reduceSub, reduceIte, retVC, cellV', evR, nfz, nfzs, nfzss, List.contains_nil, List.contains_cons, Bool.or_false, or_true]

end Go.AM
