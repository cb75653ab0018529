/- Contracts of functions of the given program, for the law FnExactFoldExpr: what they return and what they write, under the bounds that each theorem states. -/
import Derived.Test.YtleomgfaplldiaaC9
import Derived.Test.YtleomgfaplldiaaT83
namespace Go.AM
set_option linter.unusedVariables false
set_option linter.unusedSimpArgs false

theorem evTop_ok {x : Sum Int (List Int)} (h : ∀ c, x = .inl c → 0 < c) : (∀ c, evTop x = .inl c → 0 < c) ∧ ∀ n r, evTop x = .inr (n :: r) → whole n = true := by
  rcases x with c | _ | ⟨n, r⟩
  · refine ⟨fun d e => ?_, fun n r e => ?_⟩
    · simp only [evTop, Sum.inl.injEq] at e
      exact h d (by rw [e])
    · simp only [evTop] at e; cases e
  · refine ⟨fun d e => ?_, fun n r e => ?_⟩
    · simp only [evTop] at e; cases e
    · simp only [evTop] at e; cases e
  · refine ⟨fun d e => ?_, fun m q e => ?_⟩
    · simp only [evTop] at e
      split at e
      · cases e
      · simp only [Sum.inl.injEq] at e; omega
    · simp only [evTop] at e
      split at e
      · rename_i hw
        simp only [Sum.inr.injEq, List.cons.injEq] at e
        rw [← e.1]; exact hw
      · cases e
theorem evPre_ok (K : List Known) (r : List Int) (s : Step) : ∀ c, evPre K r s = .inl c → 0 < c := by
  intro c h
  unfold evPre at h
  repeat' split at h
  all_goals first | (cases h; done) | (simp only [Sum.inl.injEq] at h; omega)
theorem evRun_ok (K : List Known) : ∀ (l : List Step) (r : List Int), (∀ n q, r = n :: q → whole n = true) → (∀ c, evRun K r l = .inl c → 0 < c) ∧ ∀ n q, evRun K r l = .inr (n :: q) → whole n = true
  | [], r, h => by
    refine ⟨fun c e => ?_, fun n q e => ?_⟩
    · simp only [evRun] at e; cases e
    · simp only [evRun, Sum.inr.injEq] at e; exact h n q e
  | s :: l, r, h => by
    have ht := evTop_ok (evPre_ok K r s)
    rcases hp : evTop (evPre K r s) with c | r'
    · rw [evRun_no hp]
      refine ⟨fun d e => ?_, fun n q e => ?_⟩
      · simp only [Sum.inl.injEq] at e
        rw [← e]; exact ht.1 c hp
      · cases e
    · rw [evRun_go hp]
      exact evRun_ok K l r' (fun n q e => ht.2 n q (by rw [hp, e]))
theorem evalOf_ok (K : List Known) (l : List Step) : 0 ≤ (evalOf K l).2 ∧ whole (evalOf K l).1 = true := by
  have h := evRun_ok K l [] (fun n q e => by cases e)
  unfold evalOf
  rcases he : evRun K [] l with c | _ | ⟨n, r⟩
  · have := h.1 c he
    exact ⟨by simp only [outOf]; omega, by simp [outOf, whole]⟩
  · exact ⟨by simp [outOf], by simp [outOf, whole]⟩
  · exact ⟨by simp [outOf], by simp only [outOf]; exact h.2 n r he⟩

/-- loop.example/g00837/spec.EvalExpr -/
def m102 : MC :=
  (.seq
   (.reg [⟨(some 4), none, .a (.asg (.c (.int .i64 0)))⟩,
     ⟨(some 5), none, .a (.asg (.c (.int .i64 0)))⟩,
     ⟨(some 6), none, .a (.asg (.c (.bool false)))⟩])
   (.seq
    (.seq
     (.reg [⟨(some 9), none, .q (.mov (.t 0))⟩,
       ⟨(some 10), none, .a (.call (.fn 85) false [.lend (.t 9)])⟩,
       ⟨(some 11), none, .q (.un .not (.t 10))⟩,
       ⟨(some 12), none, .q (.mov (.t 11))⟩,
       ⟨(some 13), (some (12, false)), .q (.mov (.t 1))⟩,
       ⟨(some 14), (some (12, false)), .a (.call (.fn 129) false [.lend (.t 13)])⟩,
       ⟨(some 15), (some (12, false)), .q (.un .not (.t 14))⟩,
       ⟨(some 16), none, .q (.pick (.t 12) (.c (.bool true)) (.t 15))⟩])
     (.cond (.t 16)
      (.seq
       (.reg [⟨(some 4), none, .a (.asg (.c (.int .i64 0)))⟩,
         ⟨(some 5), none, .a (.asg (.c (.int .i64 0)))⟩,
         ⟨(some 6), none, .a (.asg (.c (.bool false)))⟩])
       .ret)
      .skip))
    (.seq
     (.reg [⟨(some 18), none, .q (.mov (.t 0))⟩,
       ⟨(some 19), none, .q (.mov (.t 1))⟩,
       ⟨(some 20), none, .a (.call (.fn 130) false [.lend (.t 18), .lend (.t 19)])⟩,
       ⟨(some 17), none, .q (.mov (.t 20))⟩,
       ⟨(some 21), none, .q (.ext 17 0)⟩,
       ⟨(some 22), none, .q (.ext 17 1)⟩,
       ⟨(some 7), none, .a (.asg (.t 21))⟩,
       ⟨(some 8), none, .a (.asg (.t 22))⟩])
     (.seq
      (.reg [⟨(some 23), none, .q (.mov (.t 7))⟩,
        ⟨(some 24), none, .q (.mov (.t 8))⟩,
        ⟨(some 4), none, .a (.asg (.t 23))⟩,
        ⟨(some 5), none, .a (.asg (.t 24))⟩,
        ⟨(some 6), none, .a (.asg (.c (.bool true)))⟩])
      .ret))))


theorem d102 (l : List Step) (K : List Known) (hl : (l.length : Int) ≤ 1048576) (hs : ∀ s ∈ l, s.ok) (hK : K.length < 9223372036854775807) :
    Does Go.Proofs.Try.prog 102 [.fsl 4 (l.map Step.c), .fsl 3 (K.map Known.c)] false (.tup (if (exprOk l && knOk K) = true then [.v (.int .i64 (evalOf K l).1), .v (.int .i64 (evalOf K l).2), .v (.bool true)] else [.v (.int .i64 0), .v (.int .i64 0), .v (.bool false)])) [.dead, .dead] := by
  refine does_intro (mc := m102) (N := 25) (rs := [4, 5, 6]) (fx := []) 2 rfl (by decide +kernel) ?_
  simp only [m102, EV, Nat.reduceEqDiff, Nat.reduceBEq, Nat.reduceLT, Nat.reduceLeDiff, Nat.reduceAdd, Nat.reduceSub, reduceIte]
  refine callK_i (d85 l hl hs) ?_
  simp only [EV, Nat.reduceEqDiff, Nat.reduceBEq, Nat.reduceLT, Nat.reduceLeDiff, Nat.reduceAdd, Nat.reduceSub, reduceIte]
  rcases e1 : exprOk l with _ | _
  · simp only [EV, Nat.reduceEqDiff, Nat.reduceBEq, Nat.reduceLT, Nat.reduceLeDiff, Nat.reduceAdd, Nat.reduceSub, reduceIte]
    simp only [e1, Bool.false_and, Bool.false_eq_true, if_false, EV, Nat.reduceEqDiff, Nat.reduceBEq, Nat.reduceLT, Nat.reduceLeDiff, Nat.reduceAdd, Nat.reduceSub, reduceIte, retVC, cellV', evR, nfz, nfzs, nfzss, List.contains_nil, List.contains_cons, Bool.or_false, or_true]
  simp only [EV, Nat.reduceEqDiff, Nat.reduceBEq, Nat.reduceLT, Nat.reduceLeDiff, Nat.reduceAdd, Nat.reduceSub, reduceIte]
  refine callK_i (d129 K hK) ?_
  simp only [EV, Nat.reduceEqDiff, Nat.reduceBEq, Nat.reduceLT, Nat.reduceLeDiff, Nat.reduceAdd, Nat.reduceSub, reduceIte]
  rcases e2 : knOk K with _ | _
  · simp only [EV, Nat.reduceEqDiff, Nat.reduceBEq, Nat.reduceLT, Nat.reduceLeDiff, Nat.reduceAdd, Nat.reduceSub, reduceIte]
    simp only [e1, e2, Bool.and_false, Bool.false_eq_true, if_false, EV, Nat.reduceEqDiff, Nat.reduceBEq, Nat.reduceLT, Nat.reduceLeDiff, Nat.reduceAdd, Nat.reduceSub, reduceIte, retVC, cellV', evR, nfz, nfzs, nfzss, List.contains_nil, List.contains_cons, Bool.or_false, or_true]
  simp only [EV, Nat.reduceEqDiff, Nat.reduceBEq, Nat.reduceLT, Nat.reduceLeDiff, Nat.reduceAdd, Nat.reduceSub, reduceIte]
  refine callK_i (d130 l K e1 e2) ?_
  simp only [EV, Nat.reduceEqDiff, Nat.reduceBEq, Nat.reduceLT, Nat.reduceLeDiff, Nat.reduceAdd, Nat.reduceSub, reduceIte]
  simp only [e1, e2, Bool.and_self, if_true, EV, Nat.reduceEqDiff, Nat.reduceBEq, Nat.reduceLT, Nat.reduceLeDiff, Nat.reduceAdd, Nat.reduceSub, reduceIte, retVC, cellV', evR, nfz, nfzs, nfzss, List.contains_nil, List.contains_cons, Bool.or_false, or_true]

def numStep (n : Int) : Step := ⟨1, n, ⟨#[]⟩, ⟨#[]⟩⟩
def negStep : Step := ⟨8, 0, ⟨#[]⟩, ⟨#[]⟩⟩
noncomputable def foldL (K : List Known) (l : List Step) : List Step :=
  if (exprOk l && knOk K) = false then []
  else if 0 < (evalOf K l).2 then l
  else if (evalOf K l).1 < 0 then [numStep (-(evalOf K l).1), negStep]
  else [numStep (evalOf K l).1]
noncomputable def foldB (K : List Known) (l : List Step) : Bool := exprOk l && knOk K

/-- loop.example/g00837/spec.FoldExpr -/
def m55 : MC :=
  (.seq
   (.reg [⟨(some 4), none, .a (.asg (.nils 108 4))⟩,
     ⟨(some 5), none, .a (.asg (.c (.bool false)))⟩])
   (.seq
    (.reg [⟨(some 10), none, .q (.mov (.t 0))⟩,
      ⟨(some 11), none, .q (.mov (.t 1))⟩,
      ⟨(some 12), none, .a (.call (.fn 102) false [.lend (.t 10), .lend (.t 11)])⟩,
      ⟨(some 9), none, .q (.mov (.t 12))⟩,
      ⟨(some 13), none, .q (.ext 9 0)⟩,
      ⟨(some 14), none, .q (.ext 9 1)⟩,
      ⟨(some 15), none, .q (.ext 9 2)⟩,
      ⟨(some 6), none, .a (.asg (.t 13))⟩,
      ⟨(some 7), none, .a (.asg (.t 14))⟩,
      ⟨(some 8), none, .a (.asg (.t 15))⟩])
    (.seq
     (.block 0
      (.seq
       (.reg [⟨(some 17), none, .q (.mov (.t 8))⟩,
         ⟨(some 18), none, .q (.un .not (.t 17))⟩,
         ⟨(some 16), none, .a (.asg (.t 18))⟩])
       (.cond (.t 16)
        (.seq
         (.reg [⟨(some 4), none, .a (.asg (.nils 108 4))⟩,
           ⟨(some 5), none, .a (.asg (.c (.bool false)))⟩])
         .ret)
        (.seq
         (.reg [⟨(some 20), none, .q (.mov (.t 7))⟩,
           ⟨(some 21), none, .q (.bin false .gtr (.t 20) (.c (.int .i64 0)))⟩,
           ⟨(some 19), none, .a (.asg (.t 21))⟩])
         (.cond (.t 19)
          (.seq
           (.reg [⟨(some 22), none, .a (.bsl 108 4 [])⟩,
             ⟨(some 23), none, .q (.mov (.t 0))⟩,
             ⟨(some 24), none, .a (.app false 108 4 48 (.t 22) (.t 23))⟩,
             ⟨(some 4), none, .a (.asg (.t 24))⟩,
             ⟨(some 5), none, .a (.asg (.c (.bool true)))⟩])
           .ret)
          (.seq
           (.reg [⟨(some 26), none, .q (.mov (.t 6))⟩,
             ⟨(some 27), none, .q (.bin false .lss (.t 26) (.c (.int .i64 0)))⟩,
             ⟨(some 25), none, .a (.asg (.t 27))⟩])
           (.cond (.t 25)
            (.seq
             (.reg [⟨(some 28), none, .q (.mov (.t 6))⟩,
               ⟨(some 29), none, .q (.un .neg (.t 28))⟩,
               ⟨(some 30), none, .a (.build [0, 1] [0, 1] [1, 1] [.v (.int .i64 0), .v (.int .i64 0), .v (.string ({ data := #[] })), .v (.string ({ data := #[] }))] [.c (.int .i64 1), .t 29])⟩,
               ⟨(some 31), none, .a (.build [0] [0] [1] [.v (.int .i64 0), .v (.int .i64 0), .v (.string ({ data := #[] })), .v (.string ({ data := #[] }))] [.c (.int .i64 8)])⟩,
               ⟨(some 32), none, .a (.bsl 108 4 [.t 30, .t 31])⟩,
               ⟨(some 4), none, .a (.asg (.t 32))⟩,
               ⟨(some 5), none, .a (.asg (.c (.bool true)))⟩])
             .ret)
            .skip)))))))
     (.seq
      (.reg [⟨(some 33), none, .q (.mov (.t 6))⟩,
        ⟨(some 34), none, .a (.build [0, 1] [0, 1] [1, 1] [.v (.int .i64 0), .v (.int .i64 0), .v (.string ({ data := #[] })), .v (.string ({ data := #[] }))] [.c (.int .i64 1), .t 33])⟩,
        ⟨(some 35), none, .a (.bsl 108 4 [.t 34])⟩,
        ⟨(some 4), none, .a (.asg (.t 35))⟩,
        ⟨(some 5), none, .a (.asg (.c (.bool true)))⟩])
      .ret))))


set_option maxRecDepth 100000 in
theorem d55 (l : List Step) (K : List Known) (hl : (l.length : Int) ≤ 1048576) (hs : ∀ s ∈ l, s.ok) (hK : K.length < 9223372036854775807) :
    Does Go.Proofs.Try.prog 55 [.fsl 4 (l.map Step.c), .fsl 3 (K.map Known.c)] false (.tup [.usl 108 4 ((foldL K l).map Step.c), .v (.bool (foldB K l))]) [.dead, .dead] := by
  have ho := evalOf_ok K l
  have hw := whole_iff.1 ho.2
  refine does_intro (mc := m55) (N := 36) (rs := [4, 5]) (fx := []) 2 rfl (by decide +kernel) ?_
  simp only [m55, EV, Nat.reduceEqDiff, Nat.reduceBEq, Nat.reduceLT, Nat.reduceLeDiff, Nat.reduceAdd, Nat.reduceSub, reduceIte]
  refine callK_i (d102 l K hl hs hK) ?_
  rcases e1 : (exprOk l && knOk K) with _ | _
  · simp only [Bool.false_eq_true, if_false, EV, Nat.reduceEqDiff, Nat.reduceBEq, Nat.reduceLT, Nat.reduceLeDiff, Nat.reduceAdd, Nat.reduceSub, reduceIte]
    simp only [foldL, foldB, e1, Bool.false_eq_true, if_false, if_true, EV, Nat.reduceEqDiff, Nat.reduceBEq, Nat.reduceLT, Nat.reduceLeDiff, Nat.reduceAdd, Nat.reduceSub, reduceIte, retVC, cellV', evR, nfz, nfzs, nfzss, List.contains_nil, List.contains_cons, Bool.or_false, or_true]
  simp only [Bool.false_eq_true, if_false, if_true, EV, Nat.reduceEqDiff, Nat.reduceBEq, Nat.reduceLT, Nat.reduceLeDiff, Nat.reduceAdd, Nat.reduceSub, reduceIte]
  refine cK_cut (fun h => ?_) (fun h => ?_)
  · have q : 0 < (evalOf K l).2 := by simpa using h
    have e : foldL K l = l := by simp only [foldL, e1, if_pos q, Bool.true_eq_false, if_false]
    simp only [EV, Nat.reduceEqDiff, Nat.reduceBEq, Nat.reduceLT, Nat.reduceLeDiff, Nat.reduceAdd, Nat.reduceSub, reduceIte]
    refine ⟨Or.inl trivial, by omega, by omega, ?_⟩
    simp only [e, foldB, e1, StepE, Step.nfz, EV, Nat.reduceEqDiff, Nat.reduceBEq, Nat.reduceLT, Nat.reduceLeDiff, Nat.reduceAdd, Nat.reduceSub, reduceIte, retVC, cellV', evR, nfz, nfzs, nfzss, List.contains_nil, List.contains_cons, Bool.or_false, or_true]
  have q : ¬ 0 < (evalOf K l).2 := by simpa using h
  clear h
  simp only [EV, Nat.reduceEqDiff, Nat.reduceBEq, Nat.reduceLT, Nat.reduceLeDiff, Nat.reduceAdd, Nat.reduceSub, reduceIte]
  refine cK_cut (fun h => ?_) (fun h => ?_)
  · have n : (evalOf K l).1 < 0 := by simpa using h
    have e : foldL K l = [numStep (-(evalOf K l).1), negStep] := by simp only [foldL, e1, if_neg q, if_pos n, Bool.true_eq_false, if_false]
    simp only [EV, Nat.reduceEqDiff, Nat.reduceBEq, Nat.reduceLT, Nat.reduceLeDiff, Nat.reduceAdd, Nat.reduceSub, reduceIte]
    rw [w64 (0 - (evalOf K l).1) (by omega), Int.zero_sub]
    simp only [e, foldB, e1, numStep, negStep, Step.c, EV, Nat.reduceEqDiff, Nat.reduceBEq, Nat.reduceLT, Nat.reduceLeDiff, Nat.reduceAdd, Nat.reduceSub, reduceIte, retVC, cellV', evR, nfz, nfzs, nfzss, List.contains_nil, List.contains_cons, Bool.or_false, or_true]
  have n : ¬ (evalOf K l).1 < 0 := by simpa using h
  have e : foldL K l = [numStep (evalOf K l).1] := by simp only [foldL, e1, if_neg q, if_neg n, Bool.true_eq_false, if_false]
  simp only [EV, Nat.reduceEqDiff, Nat.reduceBEq, Nat.reduceLT, Nat.reduceLeDiff, Nat.reduceAdd, Nat.reduceSub, reduceIte]
  simp only [e, foldB, e1, numStep, Step.c, EV, Nat.reduceEqDiff, Nat.reduceBEq, Nat.reduceLT, Nat.reduceLeDiff, Nat.reduceAdd, Nat.reduceSub, reduceIte, retVC, cellV', evR, nfz, nfzs, nfzss, List.contains_nil, List.contains_cons, Bool.or_false, or_true]

/-- slices.Clone[[]loop.example/g00837/impl.Step,loop.example/g00837/impl.Step] -/
def m106 : MC :=
  (.seq
   (.reg [⟨(some 2), none, .a (.asg (.nils 108 4))⟩])
   (.seq
    (.seq
     (.reg [⟨(some 3), none, .q (.mov (.t 0))⟩,
       ⟨(some 4), none, .q (.isnil false (.t 3))⟩])
     (.cond (.t 4)
      (.seq
       (.reg [⟨(some 2), none, .a (.asg (.nils 108 4))⟩])
       .ret)
      .skip))
    (.seq
     (.reg [⟨(some 5), none, .a (.bsl 108 4 [])⟩,
       ⟨(some 6), none, .q (.mov (.t 0))⟩,
       ⟨(some 7), none, .a (.app false 108 4 48 (.t 5) (.t 6))⟩,
       ⟨(some 2), none, .a (.asg (.t 7))⟩])
     .ret)))


theorem d106 (l : List Step) (hl : (l.length : Int) ≤ 1048576) : Does Go.Proofs.Try.prog 106 [.fsl 4 (l.map Step.c)] false (.usl 108 4 (l.map Step.c)) [.dead] := by
  refine does_intro (mc := m106) (N := 8) (rs := [2]) (fx := []) 1 rfl (by decide +kernel) ?_
  simp only [m106, EV, Nat.reduceEqDiff, Nat.reduceBEq, Nat.reduceLT, Nat.reduceLeDiff, Nat.reduceAdd, Nat.reduceSub, reduceIte]
  refine ⟨fun h b => ?_, fun h => ⟨Or.inl trivial, by omega, by omega, ?_⟩⟩
  · have hl0 : l = [] := by simpa using h
    subst hl0
    cases b
    · simp only [EV, Nat.reduceEqDiff, Nat.reduceBEq, Nat.reduceLT, Nat.reduceLeDiff, Nat.reduceAdd, Nat.reduceSub, reduceIte]
      refine ⟨Or.inl trivial, by decide, ?_⟩
      simp only [nfzss, EV, Nat.reduceEqDiff, Nat.reduceBEq, Nat.reduceLT, Nat.reduceLeDiff, Nat.reduceAdd, Nat.reduceSub, reduceIte, retVC, cellV', evR, nfz, nfzs, nfzss, List.contains_nil, List.contains_cons, Bool.or_false, or_true]
    · simp only [EV, Nat.reduceEqDiff, Nat.reduceBEq, Nat.reduceLT, Nat.reduceLeDiff, Nat.reduceAdd, Nat.reduceSub, reduceIte]
      simp only [nfzss, EV, Nat.reduceEqDiff, Nat.reduceBEq, Nat.reduceLT, Nat.reduceLeDiff, Nat.reduceAdd, Nat.reduceSub, reduceIte, retVC, cellV', evR, nfz, nfzs, nfzss, List.contains_nil, List.contains_cons, Bool.or_false, or_true]
  · simp only [StepE, Step.nfz, EV, Nat.reduceEqDiff, Nat.reduceBEq, Nat.reduceLT, Nat.reduceLeDiff, Nat.reduceAdd, Nat.reduceSub, reduceIte, retVC, cellV', evR, nfz, nfzs, nfzss, List.contains_nil, List.contains_cons, Bool.or_false, or_true]

/-- loop.example/g00837/impl.FoldExpr -/
def m57 : MC :=
  (.seq
   (.reg [⟨(some 4), none, .a (.asg (.nils 108 4))⟩,
     ⟨(some 5), none, .a (.asg (.c (.bool false)))⟩])
   (.seq
    (.seq
     (.reg [⟨(some 8), none, .q (.mov (.t 0))⟩,
       ⟨(some 9), none, .a (.call (.fn 87) false [.lend (.t 8)])⟩,
       ⟨(some 10), none, .q (.un .not (.t 9))⟩,
       ⟨(some 11), none, .q (.mov (.t 10))⟩,
       ⟨(some 12), (some (11, false)), .q (.mov (.t 1))⟩,
       ⟨(some 13), (some (11, false)), .a (.call (.fn 104) false [.lend (.t 12)])⟩,
       ⟨(some 14), (some (11, false)), .q (.un .not (.t 13))⟩,
       ⟨(some 15), none, .q (.pick (.t 11) (.c (.bool true)) (.t 14))⟩])
     (.cond (.t 15)
      (.seq
       (.reg [⟨(some 4), none, .a (.asg (.nils 108 4))⟩,
         ⟨(some 5), none, .a (.asg (.c (.bool false)))⟩])
       .ret)
      .skip))
    (.seq
     (.reg [⟨(some 17), none, .q (.mov (.t 0))⟩,
       ⟨(some 18), none, .q (.mov (.t 1))⟩,
       ⟨(some 19), none, .a (.call (.fn 105) false [.lend (.t 17), .lend (.t 18)])⟩,
       ⟨(some 16), none, .q (.mov (.t 19))⟩,
       ⟨(some 20), none, .q (.ext 16 0)⟩,
       ⟨(some 21), none, .q (.ext 16 1)⟩,
       ⟨(some 6), none, .a (.asg (.t 20))⟩,
       ⟨(some 7), none, .a (.asg (.t 21))⟩])
     (.seq
      (.block 0
       (.seq
        (.reg [⟨(some 23), none, .q (.mov (.t 7))⟩,
          ⟨(some 24), none, .q (.bin false .neq (.t 23) (.c (.int .i64 0)))⟩,
          ⟨(some 22), none, .a (.asg (.t 24))⟩])
        (.cond (.t 22)
         (.seq
          (.reg [⟨(some 25), none, .q (.mov (.t 0))⟩,
            ⟨(some 26), none, .a (.call (.fn 106) false [.lend (.t 25)])⟩,
            ⟨(some 4), none, .a (.asg (.t 26))⟩,
            ⟨(some 5), none, .a (.asg (.c (.bool true)))⟩])
          .ret)
         (.seq
          (.reg [⟨(some 28), none, .q (.mov (.t 6))⟩,
            ⟨(some 29), none, .q (.bin false .lss (.t 28) (.c (.int .i64 0)))⟩,
            ⟨(some 27), none, .a (.asg (.t 29))⟩])
          (.cond (.t 27)
           (.seq
            (.reg [⟨(some 30), none, .q (.mov (.t 6))⟩,
              ⟨(some 31), none, .q (.un .neg (.t 30))⟩,
              ⟨(some 32), none, .a (.build [0, 1] [0, 1] [1, 1] [.v (.int .i64 0), .v (.int .i64 0), .v (.string ({ data := #[] })), .v (.string ({ data := #[] }))] [.c (.int .i64 1), .t 31])⟩,
              ⟨(some 33), none, .a (.build [0] [0] [1] [.v (.int .i64 0), .v (.int .i64 0), .v (.string ({ data := #[] })), .v (.string ({ data := #[] }))] [.c (.int .i64 8)])⟩,
              ⟨(some 34), none, .a (.bsl 108 4 [.t 32, .t 33])⟩,
              ⟨(some 4), none, .a (.asg (.t 34))⟩,
              ⟨(some 5), none, .a (.asg (.c (.bool true)))⟩])
            .ret)
           .skip)))))
      (.seq
       (.reg [⟨(some 35), none, .q (.mov (.t 6))⟩,
         ⟨(some 36), none, .a (.build [0, 1] [0, 1] [1, 1] [.v (.int .i64 0), .v (.int .i64 0), .v (.string ({ data := #[] })), .v (.string ({ data := #[] }))] [.c (.int .i64 1), .t 35])⟩,
         ⟨(some 37), none, .a (.bsl 108 4 [.t 36])⟩,
         ⟨(some 4), none, .a (.asg (.t 37))⟩,
         ⟨(some 5), none, .a (.asg (.c (.bool true)))⟩])
       .ret)))))


set_option maxRecDepth 100000 in
theorem d57 (l : List Step) (K : List Known) (hl : (l.length : Int) ≤ 1048576) (hs : ∀ s ∈ l, s.ok) (hK : K.length < 9223372036854775807) :
    Does Go.Proofs.Try.prog 57 [.fsl 4 (l.map Step.c), .fsl 3 (K.map Known.c)] false (.tup [.usl 108 4 ((foldL K l).map Step.c), .v (.bool (foldB K l))]) [.dead, .dead] := by
  have ho := evalOf_ok K l
  have hw := whole_iff.1 ho.2
  refine does_intro (mc := m57) (N := 38) (rs := [4, 5]) (fx := []) 2 rfl (by decide +kernel) ?_
  simp only [m57, EV, Nat.reduceEqDiff, Nat.reduceBEq, Nat.reduceLT, Nat.reduceLeDiff, Nat.reduceAdd, Nat.reduceSub, reduceIte]
  refine callK_i (d87 l hl hs) ?_
  simp only [EV, Nat.reduceEqDiff, Nat.reduceBEq, Nat.reduceLT, Nat.reduceLeDiff, Nat.reduceAdd, Nat.reduceSub, reduceIte]
  rcases e1 : exprOk l with _ | _
  · simp only [EV, Nat.reduceEqDiff, Nat.reduceBEq, Nat.reduceLT, Nat.reduceLeDiff, Nat.reduceAdd, Nat.reduceSub, reduceIte]
    simp only [foldL, foldB, e1, Bool.false_and, Bool.false_eq_true, if_false, if_true, EV, Nat.reduceEqDiff, Nat.reduceBEq, Nat.reduceLT, Nat.reduceLeDiff, Nat.reduceAdd, Nat.reduceSub, reduceIte, retVC, cellV', evR, nfz, nfzs, nfzss, List.contains_nil, List.contains_cons, Bool.or_false, or_true]
  simp only [EV, Nat.reduceEqDiff, Nat.reduceBEq, Nat.reduceLT, Nat.reduceLeDiff, Nat.reduceAdd, Nat.reduceSub, reduceIte]
  refine callK_i (d104 K hK) ?_
  simp only [EV, Nat.reduceEqDiff, Nat.reduceBEq, Nat.reduceLT, Nat.reduceLeDiff, Nat.reduceAdd, Nat.reduceSub, reduceIte]
  rcases e2 : knOk K with _ | _
  · simp only [EV, Nat.reduceEqDiff, Nat.reduceBEq, Nat.reduceLT, Nat.reduceLeDiff, Nat.reduceAdd, Nat.reduceSub, reduceIte]
    simp only [foldL, foldB, e1, e2, Bool.and_false, Bool.false_eq_true, if_false, if_true, EV, Nat.reduceEqDiff, Nat.reduceBEq, Nat.reduceLT, Nat.reduceLeDiff, Nat.reduceAdd, Nat.reduceSub, reduceIte, retVC, cellV', evR, nfz, nfzs, nfzss, List.contains_nil, List.contains_cons, Bool.or_false, or_true]
  simp only [EV, Nat.reduceEqDiff, Nat.reduceBEq, Nat.reduceLT, Nat.reduceLeDiff, Nat.reduceAdd, Nat.reduceSub, reduceIte]
  refine callK_i (d105 l K e1 e2) ?_
  simp only [EV, Nat.reduceEqDiff, Nat.reduceBEq, Nat.reduceLT, Nat.reduceLeDiff, Nat.reduceAdd, Nat.reduceSub, reduceIte]
  refine cK_cut (fun h => ?_) (fun h => ?_)
  · have q : 0 < (evalOf K l).2 := by simp only [bne_iff_ne, ne_eq] at h; omega
    have e : foldL K l = l := by simp only [foldL, e1, e2, Bool.and_self, if_pos q, Bool.true_eq_false, if_false]
    simp only [EV, Nat.reduceEqDiff, Nat.reduceBEq, Nat.reduceLT, Nat.reduceLeDiff, Nat.reduceAdd, Nat.reduceSub, reduceIte]
    refine callK_i (d106 l hl) ?_
    simp only [EV, Nat.reduceEqDiff, Nat.reduceBEq, Nat.reduceLT, Nat.reduceLeDiff, Nat.reduceAdd, Nat.reduceSub, reduceIte]
    simp only [e, foldB, e1, e2, Bool.and_self, StepE, Step.nfz, EV, Nat.reduceEqDiff, Nat.reduceBEq, Nat.reduceLT, Nat.reduceLeDiff, Nat.reduceAdd, Nat.reduceSub, reduceIte, retVC, cellV', evR, nfz, nfzs, nfzss, List.contains_nil, List.contains_cons, Bool.or_false, or_true]
  have q : ¬ 0 < (evalOf K l).2 := by simp only [bne_eq_false_iff_eq] at h; omega
  clear h
  simp only [EV, Nat.reduceEqDiff, Nat.reduceBEq, Nat.reduceLT, Nat.reduceLeDiff, Nat.reduceAdd, Nat.reduceSub, reduceIte]
  refine cK_cut (fun h => ?_) (fun h => ?_)
  · have n : (evalOf K l).1 < 0 := by simpa using h
    have e : foldL K l = [numStep (-(evalOf K l).1), negStep] := by simp only [foldL, e1, e2, Bool.and_self, if_neg q, if_pos n, Bool.true_eq_false, if_false]
    simp only [EV, Nat.reduceEqDiff, Nat.reduceBEq, Nat.reduceLT, Nat.reduceLeDiff, Nat.reduceAdd, Nat.reduceSub, reduceIte]
    rw [w64 (0 - (evalOf K l).1) (by omega), Int.zero_sub]
    simp only [e, foldB, e1, e2, Bool.and_self, numStep, negStep, Step.c, EV, Nat.reduceEqDiff, Nat.reduceBEq, Nat.reduceLT, Nat.reduceLeDiff, Nat.reduceAdd, Nat.reduceSub, reduceIte, retVC, cellV', evR, nfz, nfzs, nfzss, List.contains_nil, List.contains_cons, Bool.or_false, or_true]
  have n : ¬ (evalOf K l).1 < 0 := by simpa using h
  have e : foldL K l = [numStep (evalOf K l).1] := by simp only [foldL, e1, e2, Bool.and_self, if_neg q, if_neg n, Bool.true_eq_false, if_false]
  simp only [EV, Nat.reduceEqDiff, Nat.reduceBEq, Nat.reduceLT, Nat.reduceLeDiff, Nat.reduceAdd, Nat.reduceSub, reduceIte]
  simp only [e, foldB, e1, e2, Bool.and_self, numStep, Step.c, EV, Nat.reduceEqDiff, Nat.reduceBEq, Nat.reduceLT, Nat.reduceLeDiff, Nat.reduceAdd, Nat.reduceSub, reduceIte, retVC, cellV', evR, nfz, nfzs, nfzss, List.contains_nil, List.contains_cons, Bool.or_false, or_true]
end Go.AM
