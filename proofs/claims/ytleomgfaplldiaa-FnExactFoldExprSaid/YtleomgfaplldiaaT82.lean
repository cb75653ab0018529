/- Contracts of functions of the given program, for the law FnExactFoldExpr: what they return and what they write, under the bounds that each theorem states. -/
import Derived.Test.YtleomgfaplldiaaC9
import Derived.Test.YtleomgfaplldiaaT81
namespace Go.AM
set_option linter.unusedVariables false
set_option linter.unusedSimpArgs false

/-- The stack, its top first, as rows. -/
def rows (r : List Int) : List (List AV) := r.reverse.map fun n => [.v (.int .i64 n)]
theorem rows_nil : rows [] = [] := rfl
theorem rows_cons (a : Int) (r : List Int) : rows (a :: r) = rows r ++ [[.v (.int .i64 a)]] := by simp [rows]
theorem nth_zero (x : List AV) (l : List (List AV)) : nth (x :: l) 0 = x := rfl
theorem rows_len (r : List Int) : (rows r).length = r.length := by simp [rows]
theorem rows_all (r : List Int) : (rows r).take r.length = rows r := by rw [← rows_len r, List.take_length]
theorem rows_top (a : Int) (r : List Int) : nth (rows (a :: r)) r.length = [.v (.int .i64 a)] := by
  simp [rows_cons, nth, rows_len, List.getElem?_append_right]
theorem rows_top2 (a b : Int) (r : List Int) : nth (rows (b :: a :: r)) (r.length + 1) = [.v (.int .i64 b)] := rows_top b (a :: r)
theorem rows_sub (a b : Int) (r : List Int) : nth (rows (b :: a :: r)) r.length = [.v (.int .i64 a)] := by
  simp [rows_cons, nth, rows_len, List.getElem?_append_right]
theorem rows_set (a c : Int) (r : List Int) : (rows (a :: r)).set r.length [.v (.int .i64 c)] = rows (c :: r) := by
  simp [rows_cons, rows_len, List.set_append]
theorem rows_take (a b : Int) (r : List Int) : (rows (b :: a :: r)).take r.length = rows r := by
  simp [rows_cons, rows_len, List.take_append]

/-- Is this the one that a step names? -/
def isOf (s : Step) (k : Known) : Bool := k.mod.toList == s.mod.toList && k.name.toList == s.name.toList
def evPre (K : List Known) (r : List Int) (s : Step) : Sum Int (List Int) :=
  if s.kind = 1 then .inr (s.value :: r)
  else if s.kind = 8 then match r with
    | a :: r => .inr (-a :: r)
    | [] => .inl 9
  else if s.kind = 2 then match K.find? (isOf s) with
    | some k => .inr (k.value :: r)
    | none => .inl 1
  else match r with
    | b :: a :: r => if b = 0 ∧ (s.kind = 6 ∨ s.kind = 7) then .inl 2 else .inr (opOf s.kind a b :: r)
    | _ => .inl 9
def evTop : Sum Int (List Int) → Sum Int (List Int)
  | .inl c => .inl c
  | .inr (n :: r) => if whole n = true then .inr (n :: r) else .inl 3
  | .inr [] => .inr []
def evRun (K : List Known) : List Int → List Step → Sum Int (List Int)
  | r, [] => .inr r
  | r, s :: l => match evTop (evPre K r s) with
    | .inl c => .inl c
    | .inr r => evRun K r l
def outOf : Sum Int (List Int) → Int × Int
  | .inl c => (0, c)
  | .inr (n :: _) => (n, 0)
  | .inr [] => (0, 0)
def evalOf (K : List Known) (l : List Step) : Int × Int := outOf (evRun K [] l)

theorem evRun_no {K : List Known} {r : List Int} {s : Step} {l : List Step} {c : Int} (h : evTop (evPre K r s) = .inl c) : evRun K r (s :: l) = .inl c := by
  simp only [evRun, h]
theorem evRun_go {K : List Known} {r r' : List Int} {s : Step} {l : List Step} (h : evTop (evPre K r s) = .inr r') : evRun K r (s :: l) = evRun K r' l := by
  simp only [evRun, h]

theorem exRun_go {n : Int} {s : Step} {l : List Step} (h : exRun n (s :: l) = some 1) : stepOk s = true ∧ ((s.kind = 1 ∨ s.kind = 2) ∧ exRun (n + 1) l = some 1 ∨ s.kind = 8 ∧ 1 ≤ n ∧ exRun n l = some 1 ∨ 3 ≤ s.kind ∧ s.kind ≤ 7 ∧ 2 ≤ n ∧ exRun (n - 1) l = some 1) := by
  rcases hs : stepOk s with _ | _
  · simp [exRun, exS0 hs] at h
  refine ⟨rfl, ?_⟩
  have hk := stepOk_kind hs
  by_cases c1 : 3 ≤ s.kind ∧ s.kind ≤ 7
  · by_cases c2 : n < 2
    · simp [exRun, exS1 hs c1.1 c1.2 c2] at h
    · simp only [exRun, exS2 hs c1.1 c1.2 c2] at h
      exact .inr (.inr ⟨c1.1, c1.2, by omega, h⟩)
  · by_cases c8 : s.kind = 8
    · by_cases c2 : n < 1
      · simp [exRun, exS3 hs c8 c2] at h
      · simp only [exRun, exS4 hs c8 c2] at h
        exact .inr (.inl ⟨c8, by omega, h⟩)
    · simp only [exRun, exS5 hs c1 c8] at h
      exact .inl ⟨by omega, h⟩
theorem stepOk_num {s : Step} (h : stepOk s = true) (h1 : s.kind = 1) : whole s.value = true := by
  simp only [stepOk, h1, if_true, Bool.and_eq_true, decide_eq_true_eq] at h
  rw [whole_iff]; omega
theorem exprOk_run {l : List Step} (h : exprOk l = true) : exRun 0 l = some 1 ∧ (l.length : Int) ≤ 40 := by
  unfold exprOk at h
  split at h
  · rename_i n e
    simp only [Bool.and_eq_true, beq_iff_eq, decide_eq_true_eq] at h
    rw [e, h.1]; exact ⟨rfl, h.2⟩
  · cases h
theorem knOk_find {K : List Known} {s : Step} {k : Known} (h : knOk K = true) (h1 : K.find? (isOf s) = some k) : whole k.value = true := by
  simp only [knOk, Bool.and_eq_true, List.all_eq_true] at h
  exact h.2 _ (List.mem_of_find?_eq_some h1)

theorem findI_find {α : Type} (q : α → Bool) (l : List α) : (findI q l < 0 ∧ l.find? q = none) ∨ ∃ (j : Nat) (h : j < l.length), findI q l = j ∧ l.find? q = some l[j] := by
  unfold findI
  cases h : l.findIdx? q with
  | none =>
    left
    rw [List.findIdx?_eq_none_iff] at h
    exact ⟨by simp, by rw [List.find?_eq_none]; intro x hx; simp [h x hx]⟩
  | some i =>
    right
    rw [List.findIdx?_eq_some_iff_getElem] at h
    obtain ⟨hi, h1, h2⟩ := h
    refine ⟨i, hi, rfl, ?_⟩
    rw [List.find?_eq_some_iff_getElem]
    exact ⟨h1, i, hi, rfl, fun j hj => by simpa using h2 j hj⟩

/-- loop.example/g00837/impl.eval$1 -/
def m135 : MC :=
  (.seq
   (.reg [⟨(some 2), none, .a (.box 132 (.t 0))⟩,
     ⟨(some 3), none, .a (.asg (.c (.bool false)))⟩])
   (.seq
    (.reg [⟨(some 4), none, .q (.fad 0 (.t 2))⟩,
      ⟨(some 5), none, .q (.load false 1 (.t 4))⟩,
      ⟨(some 6), none, .q (.fad 2 (.t 1))⟩,
      ⟨(some 7), none, .q (.load false 1 (.t 6))⟩,
      ⟨(some 8), none, .q (.bin false .eql (.t 5) (.t 7))⟩,
      ⟨(some 9), none, .q (.mov (.t 8))⟩,
      ⟨(some 10), (some (9, true)), .q (.fad 1 (.t 2))⟩,
      ⟨(some 11), (some (9, true)), .q (.load false 1 (.t 10))⟩,
      ⟨(some 12), (some (9, true)), .q (.fad 3 (.t 1))⟩,
      ⟨(some 13), (some (9, true)), .q (.load false 1 (.t 12))⟩,
      ⟨(some 14), (some (9, true)), .q (.bin false .eql (.t 11) (.t 13))⟩,
      ⟨(some 15), none, .q (.pick (.t 9) (.t 14) (.c (.bool false)))⟩,
      ⟨(some 3), none, .a (.asg (.t 15))⟩])
    .ret))


theorem d135 (k : Known) (s : Step) : Does Go.Proofs.Try.prog 135 [.agg k.c, .fptr s.c] false (.v (.bool (isOf s k))) [.dead, .dead] := by
  refine does_intro (mc := m135) (N := 16) (rs := [3]) (fx := []) 2 rfl (by decide +kernel) ?_
  simp only [m135, Known.c, Step.c, EV, Nat.reduceEqDiff, Nat.reduceBEq, Nat.reduceLT, Nat.reduceLeDiff, Nat.reduceAdd, Nat.reduceSub, reduceIte]
  repeat' (first
    | (refine gK_cut (fun h => ?_) (fun h => ?_) <;> simp only [h, EV, Nat.reduceEqDiff, Nat.reduceBEq, Nat.reduceLT, Nat.reduceLeDiff, Nat.reduceAdd, Nat.reduceSub, reduceIte])
    | (refine cK_cut (fun h => ?_) (fun h => ?_) <;> simp only [h, EV, Nat.reduceEqDiff, Nat.reduceBEq, Nat.reduceLT, Nat.reduceLeDiff, Nat.reduceAdd, Nat.reduceSub, reduceIte]))
  all_goals simp only [isOf, h, Bool.true_and, Bool.false_and, EV, Nat.reduceEqDiff, Nat.reduceBEq, Nat.reduceLT, Nat.reduceLeDiff, Nat.reduceAdd, Nat.reduceSub, reduceIte, retVC, cellV', evR, nfz, nfzs, nfzss, List.contains_nil, List.contains_cons, Bool.or_false, or_true]

/-- loop.example/g00837/impl.eval -/
def m105 : MC :=
  (.seq
   (.reg [⟨(some 4), none, .a (.asg (.c (.int .i64 0)))⟩,
     ⟨(some 5), none, .a (.asg (.c (.int .i64 0)))⟩])
   (.seq
    (.reg [⟨(some 16), none, .a (.bsl 3 1 [])⟩,
      ⟨(some 6), none, .a (.asg (.t 16))⟩])
    (.seq
     (.seq
      (.reg [⟨(some 17), none, .q (.mov (.t 0))⟩,
        ⟨(some 18), none, .q (.len false (.t 17))⟩,
        ⟨(some 19), none, .q (.mov (.c (.int .i64 0)))⟩])
      (.block 0
       (.loop [0, 1, 6, 16, 17, 18, 19, 34, 49, 108]
        (.seq
         (.reg [⟨(some 20), none, .q (.bin false .lss (.t 19) (.t 18))⟩])
         (.seq
          (.cond (.t 20)
           .skip
           (.exit 0))
          (.join [0, 1, 6, 16, 17, 18, 19, 34, 49, 108]
           (.block 1
            (.seq
             (.reg [⟨(some 21), none, .q (.iad 4 (.t 17) (.t 19))⟩,
               ⟨(some 22), none, .q (.load true 4 (.t 21))⟩,
               ⟨(some 8), none, .a (.alloc 108 [.v (.int .i64 0), .v (.int .i64 0), .v (.string ({ data := #[] })), .v (.string ({ data := #[] }))])⟩,
               ⟨none, none, .a (.store 4 (.t 8) (.t 22))⟩])
             (.seq
              (.reg [⟨(some 23), none, .q (.mov (.t 6))⟩,
                ⟨(some 24), none, .q (.len false (.t 23))⟩,
                ⟨(some 25), none, .q (.bin false .sub (.t 24) (.c (.int .i64 1)))⟩,
                ⟨(some 9), none, .a (.asg (.c (.int .i64 0)))⟩,
                ⟨(some 10), none, .a (.asg (.t 25))⟩])
              (.seq
               (.seq
                (.reg [⟨(some 26), none, .q (.fad 0 (.t 8))⟩,
                  ⟨(some 27), none, .q (.load false 1 (.t 26))⟩])
                (.block 2
                 (.seq
                  (.reg [⟨(some 29), none, .q (.bin false .eql (.t 27) (.c (.int .i64 1)))⟩,
                    ⟨(some 28), none, .a (.asg (.t 29))⟩])
                  (.cond (.t 28)
                   (.seq
                    (.reg [⟨(some 30), none, .q (.mov (.t 6))⟩,
                      ⟨(some 31), none, .q (.fad 1 (.t 8))⟩,
                      ⟨(some 32), none, .q (.load false 1 (.t 31))⟩,
                      ⟨(some 33), none, .a (.bsl 3 1 [.t 32])⟩,
                      ⟨(some 34), none, .a (.app true 3 1 8 (.t 30) (.t 33))⟩,
                      ⟨(some 6), none, .a (.asg (.t 34))⟩])
                    (.exit 1))
                   (.seq
                    (.reg [⟨(some 36), none, .q (.bin false .eql (.t 27) (.c (.int .i64 2)))⟩,
                      ⟨(some 35), none, .a (.asg (.t 36))⟩])
                    (.cond (.t 35)
                     (.seq
                      (.reg [⟨(some 37), none, .q (.mov (.t 1))⟩,
                        ⟨(some 38), none, .q (.mkf 135 [.t 8])⟩,
                        ⟨(some 39), none, .a (.call (.fn 134) false [.lend (.t 37), .lend (.t 38)])⟩,
                        ⟨(some 11), none, .a (.asg (.t 39))⟩])
                      (.seq
                       (.seq
                        (.reg [⟨(some 40), none, .q (.mov (.t 11))⟩,
                          ⟨(some 41), none, .q (.bin false .lss (.t 40) (.c (.int .i64 0)))⟩])
                        (.cond (.t 41)
                         (.seq
                          (.reg [⟨(some 4), none, .a (.asg (.c (.int .i64 0)))⟩,
                            ⟨(some 5), none, .a (.asg (.c (.int .i64 1)))⟩])
                          .ret)
                         .skip))
                       (.seq
                        (.reg [⟨(some 42), none, .q (.mov (.t 6))⟩,
                          ⟨(some 43), none, .q (.mov (.t 1))⟩,
                          ⟨(some 44), none, .q (.mov (.t 11))⟩,
                          ⟨(some 45), none, .q (.iad 3 (.t 43) (.t 44))⟩,
                          ⟨(some 46), none, .q (.fad 2 (.t 45))⟩,
                          ⟨(some 47), none, .q (.load false 1 (.t 46))⟩,
                          ⟨(some 48), none, .a (.bsl 3 1 [.t 47])⟩,
                          ⟨(some 49), none, .a (.app true 3 1 8 (.t 42) (.t 48))⟩,
                          ⟨(some 6), none, .a (.asg (.t 49))⟩])
                        (.exit 1))))
                     (.seq
                      (.reg [⟨(some 51), none, .q (.bin false .eql (.t 27) (.c (.int .i64 8)))⟩,
                        ⟨(some 50), none, .a (.asg (.t 51))⟩])
                      (.cond (.t 50)
                       (.seq
                        (.reg [⟨(some 52), none, .q (.mov (.t 6))⟩,
                          ⟨(some 53), none, .q (.mov (.t 10))⟩,
                          ⟨(some 54), none, .q (.mov (.t 6))⟩,
                          ⟨(some 55), none, .q (.mov (.t 10))⟩,
                          ⟨(some 56), none, .q (.iad 1 (.t 54) (.t 55))⟩,
                          ⟨(some 57), none, .q (.load false 1 (.t 56))⟩,
                          ⟨(some 58), none, .q (.un .neg (.t 57))⟩,
                          ⟨(some 59), none, .q (.iad 1 (.t 52) (.t 53))⟩,
                          ⟨none, none, .a (.store 1 (.t 59) (.t 58))⟩])
                        (.exit 1))
                       .skip))))))))
               (.seq
                (.dreg [⟨(some 60), none, .q (.mov (.t 6))⟩,
                  ⟨(some 61), none, .q (.mov (.t 10))⟩,
                  ⟨(some 62), none, .q (.bin false .sub (.t 61) (.c (.int .i64 1)))⟩,
                  ⟨(some 63), none, .q (.iad 1 (.t 60) (.t 62))⟩,
                  ⟨(some 64), none, .q (.load false 1 (.t 63))⟩,
                  ⟨(some 65), none, .q (.mov (.t 6))⟩,
                  ⟨(some 66), none, .q (.mov (.t 10))⟩,
                  ⟨(some 67), none, .q (.iad 1 (.t 65) (.t 66))⟩,
                  ⟨(some 68), none, .q (.load false 1 (.t 67))⟩,
                  ⟨(some 12), none, .q (.mov (.t 64))⟩,
                  ⟨(some 13), none, .q (.mov (.t 68))⟩])
                (.join [0, 1, 6, 9, 10, 16, 17, 18, 19, 34, 49, 108]
                 (.seq
                  (.reg [⟨(some 69), none, .q (.fad 0 (.t 8))⟩,
                    ⟨(some 70), none, .q (.load false 1 (.t 69))⟩])
                  (.block 3
                   (.seq
                    (.reg [⟨(some 85), none, .q (.bin false .eql (.t 70) (.c (.int .i64 3)))⟩,
                      ⟨(some 84), none, .a (.asg (.t 85))⟩])
                    (.cond (.t 84)
                     (.reg [⟨(some 86), none, .q (.mov (.t 12))⟩,
                       ⟨(some 87), none, .q (.mov (.t 13))⟩,
                       ⟨(some 88), none, .q (.bin false .add (.t 86) (.t 87))⟩,
                       ⟨(some 9), none, .a (.asg (.t 88))⟩])
                     (.seq
                      (.reg [⟨(some 90), none, .q (.bin false .eql (.t 70) (.c (.int .i64 4)))⟩,
                        ⟨(some 89), none, .a (.asg (.t 90))⟩])
                      (.cond (.t 89)
                       (.reg [⟨(some 91), none, .q (.mov (.t 12))⟩,
                         ⟨(some 92), none, .q (.mov (.t 13))⟩,
                         ⟨(some 93), none, .q (.bin false .sub (.t 91) (.t 92))⟩,
                         ⟨(some 9), none, .a (.asg (.t 93))⟩])
                       (.seq
                        (.reg [⟨(some 95), none, .q (.bin false .eql (.t 70) (.c (.int .i64 5)))⟩,
                          ⟨(some 94), none, .a (.asg (.t 95))⟩])
                        (.cond (.t 94)
                         (.reg [⟨(some 96), none, .q (.mov (.t 12))⟩,
                           ⟨(some 97), none, .q (.mov (.t 13))⟩,
                           ⟨(some 98), none, .q (.bin false .mul (.t 96) (.t 97))⟩,
                           ⟨(some 9), none, .a (.asg (.t 98))⟩])
                         (.seq
                          (.seq
                           (.reg [⟨(some 71), none, .q (.mov (.t 13))⟩,
                             ⟨(some 72), none, .q (.bin false .eql (.t 71) (.c (.int .i64 0)))⟩])
                           (.cond (.t 72)
                            (.seq
                             (.reg [⟨(some 4), none, .a (.asg (.c (.int .i64 0)))⟩,
                               ⟨(some 5), none, .a (.asg (.c (.int .i64 2)))⟩])
                             .ret)
                            .skip))
                          (.seq
                           (.reg [⟨(some 74), none, .q (.mov (.t 12))⟩,
                             ⟨(some 75), none, .q (.mov (.t 13))⟩,
                             ⟨(some 76), none, .a (.call (.fn 136) false [.lend (.t 74), .lend (.t 75)])⟩,
                             ⟨(some 73), none, .q (.mov (.t 76))⟩,
                             ⟨(some 77), none, .q (.ext 73 0)⟩,
                             ⟨(some 78), none, .q (.ext 73 1)⟩,
                             ⟨(some 14), none, .a (.asg (.t 77))⟩,
                             ⟨(some 15), none, .a (.asg (.t 78))⟩])
                           (.seq
                            (.reg [⟨(some 79), none, .q (.mov (.t 14))⟩,
                              ⟨(some 9), none, .a (.asg (.t 79))⟩])
                            (.seq
                             (.reg [⟨(some 80), none, .q (.fad 0 (.t 8))⟩,
                               ⟨(some 81), none, .q (.load false 1 (.t 80))⟩,
                               ⟨(some 82), none, .q (.bin false .eql (.t 81) (.c (.int .i64 7)))⟩])
                             (.cond (.t 82)
                              (.reg [⟨(some 83), none, .q (.mov (.t 15))⟩,
                                ⟨(some 9), none, .a (.asg (.t 83))⟩])
                              .skip)))))))))))))
                 (.seq
                  (.seq
                   (.reg [⟨(some 99), none, .q (.mov (.t 9))⟩,
                     ⟨(some 100), none, .a (.call (.fn 133) false [.lend (.t 99)])⟩,
                     ⟨(some 101), none, .q (.un .not (.t 100))⟩])
                   (.cond (.t 101)
                    (.seq
                     (.reg [⟨(some 4), none, .a (.asg (.c (.int .i64 0)))⟩,
                       ⟨(some 5), none, .a (.asg (.c (.int .i64 3)))⟩])
                     .ret)
                    .skip))
                  (.reg [⟨(some 102), none, .q (.mov (.t 6))⟩,
                    ⟨(some 103), none, .q (.mov (.t 10))⟩,
                    ⟨(some 104), none, .q (.bin false .sub (.t 103) (.c (.int .i64 1)))⟩,
                    ⟨(some 105), none, .q (.slc false 1 (.t 102) none (some (.t 104)))⟩,
                    ⟨(some 106), none, .q (.mov (.t 9))⟩,
                    ⟨(some 107), none, .a (.bsl 3 1 [.t 106])⟩,
                    ⟨(some 108), none, .a (.app true 3 1 8 (.t 105) (.t 107))⟩,
                    ⟨(some 6), none, .a (.asg (.t 108))⟩]))))))))
           (.reg [⟨(some 109), none, .q (.bin false .add (.t 19) (.c (.int .i64 1)))⟩,
             ⟨(some 19), none, .q (.mov (.t 109))⟩])))))))
     (.seq
      (.reg [⟨(some 110), none, .q (.mov (.t 6))⟩,
        ⟨(some 111), none, .q (.iad 1 (.t 110) (.c (.int .i64 0)))⟩,
        ⟨(some 112), none, .q (.load false 1 (.t 111))⟩,
        ⟨(some 4), none, .a (.asg (.t 112))⟩,
        ⟨(some 5), none, .a (.asg (.c (.int .i64 0)))⟩])
      .ret))))


set_option maxHeartbeats 1000000 in
set_option maxRecDepth 100000 in
theorem d105 (l : List Step) (K : List Known) (hl : exprOk l = true) (hK : knOk K = true) :
    Does Go.Proofs.Try.prog 105 [.fsl 4 (l.map Step.c), .fsl 3 (K.map Known.c)] false (.tup [.v (.int .i64 (evalOf K l).1), .v (.int .i64 (evalOf K l).2)]) [.dead, .dead] := by
  obtain ⟨hx, hll⟩ := exprOk_run hl
  refine does_intro (mc := m105) (N := 113) (rs := [4, 5]) (fx := []) 2 rfl (by decide +kernel) ?_
  simp only [m105, EV, Nat.reduceEqDiff, Nat.reduceBEq, Nat.reduceLT, Nat.reduceLeDiff, Nat.reduceAdd, Nat.reduceSub, reduceIte]
  refine awp_loop (fun p : Nat × List Int => p.1 ≤ l.length ∧ evRun K p.2 (l.drop p.1) = evRun K [] l ∧ exRun p.2.length (l.drop p.1) = some 1 ∧ (p.2.length ≤ p.1) ∧ ∀ n ∈ p.2, whole n = true)
    (fun p => stl [(0, .fsl 4 (l.map Step.c)), (1, .fsl 3 (K.map Known.c)), (6, .usl 3 1 (rows p.2)), (16, .dead), (17, .fsl 4 (l.map Step.c)), (18, .v (.int .i64 (l.length : Int))), (19, .v (.int .i64 (p.1 : Int))), (34, .dead), (49, .dead), (108, .dead)]) (fun p => l.length - p.1) (0, []) ⟨Nat.zero_le _, by simp, by simpa using hx, by simp, by simp⟩ ?_ ?_
  · simp only [rows_nil, EV, Nat.reduceEqDiff, Nat.reduceBEq, Nat.reduceLT, Nat.reduceLeDiff, Nat.reduceAdd, Nat.reduceSub, reduceIte]
    rfl
  · rintro ⟨i, r⟩ ⟨p0, p1, p2, p3, p4⟩
    simp only at p0 p1 p2 p3 p4
    simp only [EV, Nat.reduceEqDiff, Nat.reduceBEq, Nat.reduceLT, Nat.reduceLeDiff, Nat.reduceAdd, Nat.reduceSub, reduceIte]
    refine cK_cut (fun h => ?_) (fun h => ?_)
    · have h1 : i < l.length := by simpa using h
      have h2 : (i : Int) < (l.length : Int) := by omega
      rw [List.drop_eq_getElem_cons h1] at p1 p2
      have p9 : ∀ {c : Int}, evTop (evPre K r l[i]) = .inl c → evalOf K l = (0, c) := by
        intro c hc
        simp only [evalOf, ← p1, evRun_no hc, outOf]
      obtain ⟨hso, hkind⟩ := exRun_go p2
      clear h p2
      refine awp_join (fun r' : List Int => evTop (evPre K r l[i]) = .inr r' ∧ exRun r'.length (l.drop (i + 1)) = some 1 ∧ r'.length ≤ i + 1 ∧ ∀ n ∈ r', whole n = true)
        (fun r' => stl [(0, .fsl 4 (l.map Step.c)), (1, .fsl 3 (K.map Known.c)), (6, .usl 3 1 (rows r')), (16, .dead), (17, .fsl 4 (l.map Step.c)), (18, .v (.int .i64 (l.length : Int))), (19, .v (.int .i64 (i : Int))), (34, .dead), (49, .dead), (108, .dead)]) ?_ ?_
      · rcases hkind with ⟨k | k, hx1⟩ | ⟨k, hn, hx1⟩ | ⟨k3, k7, hn, hx1⟩
        · have e1 : (l[i].kind == 1) = true := by simp [k]
          have hw1 := stepOk_num hso k
          simp only [nth_map h1, h2, Step.c, rows_len, rows_all, e1, EV, Nat.reduceEqDiff, Nat.reduceBEq, Nat.reduceLT, Nat.reduceLeDiff, Nat.reduceAdd, Nat.reduceSub, reduceIte]
          refine ⟨by omega, by omega, l[i].value :: r, ⟨?_, ?_, ?_, ?_⟩, ?_⟩
          · simp only [evPre, k, evTop, hw1, if_true]
          · simpa using hx1
          · simp only [List.length_cons]; omega
          · intro n hn
            rcases List.mem_cons.1 hn with rfl | hn
            · exact hw1
            · exact p4 n hn
          · rw [rows_cons]
        · have e1 : (l[i].kind == 1) = false := by simp [k]
          have e2 : (l[i].kind == 2) = true := by simp [k]
          simp only [nth_map h1, h2, Step.c, rows_len, rows_all, e1, e2, EV, Nat.reduceEqDiff, Nat.reduceBEq, Nat.reduceLT, Nat.reduceLeDiff, Nat.reduceAdd, Nat.reduceSub, reduceIte]
          refine callK_i (d134 K (by simp only [knOk, Bool.and_eq_true, decide_eq_true_eq] at hK; omega) 135 [.fptr l[i].c] (isOf l[i]) rfl rfl (fun _ => rfl) (fun _ => rfl) (fun k _ => d135 k l[i])) ?_
          simp only [Step.c, rows_len, rows_all, EV, Nat.reduceEqDiff, Nat.reduceBEq, Nat.reduceLT, Nat.reduceLeDiff, Nat.reduceAdd, Nat.reduceSub, reduceIte]
          rcases findI_find (isOf l[i]) K with ⟨f0, ff⟩ | ⟨j, hj, f0, ff⟩
          · have e : evTop (evPre K r l[i]) = .inl 1 := by
              have n1 : ¬ l[i].kind = 1 := by omega
              have n8 : ¬ l[i].kind = 8 := by omega
              simp only [evPre, k, ff, evTop, Int.reduceEq, if_true, if_false]
            simp only [f0, decide_true, rows_len, rows_all, EV, Nat.reduceEqDiff, Nat.reduceBEq, Nat.reduceLT, Nat.reduceLeDiff, Nat.reduceAdd, Nat.reduceSub, reduceIte]
            simp only [p9 e, EV, Nat.reduceEqDiff, Nat.reduceBEq, Nat.reduceLT, Nat.reduceLeDiff, Nat.reduceAdd, Nat.reduceSub, reduceIte, retVC, cellV', evR, nfz, nfzs, nfzss, List.contains_nil, List.contains_cons, Bool.or_false, or_true]
          · have hj2 : (j : Int) < (K.length : Int) := by omega
            have hj3 : ¬ ((j : Int) < 0) := by omega
            have hw1 := knOk_find hK ff
            simp only [f0, hj2, hj3, decide_false, nth_map hj, Known.c, rows_len, rows_all, EV, Nat.reduceEqDiff, Nat.reduceBEq, Nat.reduceLT, Nat.reduceLeDiff, Nat.reduceAdd, Nat.reduceSub, reduceIte]
            refine ⟨by omega, by omega, K[j].value :: r, ⟨?_, ?_, ?_, ?_⟩, ?_⟩
            · simp only [evPre, k, ff, evTop, hw1, Int.reduceEq, if_true, if_false]
            · simpa using hx1
            · simp only [List.length_cons]; omega
            · intro n hn
              rcases List.mem_cons.1 hn with rfl | hn
              · exact hw1
              · exact p4 n hn
            · rw [rows_cons]
        · have e1 : (l[i].kind == 1) = false := by simp [k]
          have e2 : (l[i].kind == 2) = false := by simp [k]
          have e8 : (l[i].kind == 8) = true := by simp [k]
          rcases r with _ | ⟨a, r⟩
          · simp at hn
          have hw : IntKind.i64.wrap (((a :: r).length : Int) - 1) = (r.length : Int) := by
            rw [w64 _ (by simp only [List.length_cons] at *; omega)]; simp
          simp only [List.length_cons] at hw
          have hr : r.length < r.length + 1 := by omega
          have hr2 : (r.length : Int) < ((r.length + 1 : Nat) : Int) := by omega
          have wa := p4 a (by simp)
          have wa2 := whole_iff.1 wa
          simp only [nth_map h1, h2, Step.c, rows_len, hw, hr, hr2, e1, e2, e8, rows_top, rows_set, EV, Nat.reduceEqDiff, Nat.reduceBEq, Nat.reduceLT, Nat.reduceLeDiff, Nat.reduceAdd, Nat.reduceSub, reduceIte]
          have wn : whole (-a) = true := whole_iff.2 (by omega)
          rw [w64 (0 - a) (by omega), Int.zero_sub]
          refine ⟨-a :: r, ⟨?_, ?_, ?_, ?_⟩, rfl⟩
          · simp only [evPre, k, evTop, wn, Int.reduceEq, if_true, if_false]
          · simpa using hx1
          · simp only [List.length_cons] at *; omega
          · intro n hn
            rcases List.mem_cons.1 hn with rfl | hn
            · exact wn
            · exact p4 n (by simp [hn])
        · have e1 : (l[i].kind == 1) = false := by simp; omega
          have e2 : (l[i].kind == 2) = false := by simp; omega
          have e8 : (l[i].kind == 8) = false := by simp; omega
          rcases r with _ | ⟨b, _ | ⟨a, r⟩⟩
          · simp at hn
          · simp at hn
          have hw : IntKind.i64.wrap (((b :: a :: r).length : Int) - 1) = ((r.length + 1 : Nat) : Int) := by
            rw [w64 _ (by simp only [List.length_cons] at *; omega)]; simp
          have hw2 : IntKind.i64.wrap (((r.length + 1 : Nat) : Int) - 1) = (r.length : Int) := by
            rw [w64 _ (by simp only [List.length_cons] at *; omega)]; simp
          simp only [List.length_cons] at hw
          have hr : r.length < r.length + 1 + 1 := by omega
          have hr1 : r.length + 1 < r.length + 1 + 1 := by omega
          have hr2 : (r.length : Int) < ((r.length + 1 + 1 : Nat) : Int) := by omega
          have hr3 : ((r.length + 1 : Nat) : Int) < ((r.length + 1 + 1 : Nat) : Int) := by omega
          have wb := p4 b (by simp)
          have wa := p4 a (by simp)
          have wm := mul_b wa wb
          have wa2 := whole_iff.1 wa
          have wb2 := whole_iff.1 wb
          have n1 : ¬ l[i].kind = 1 := by omega
          have n2 : ¬ l[i].kind = 2 := by omega
          have n8 : ¬ l[i].kind = 8 := by omega
          simp only [nth_map h1, h2, Step.c, rows_len, hw, hw2, hr, hr1, hr2, hr3, e1, e2, e8, rows_top2, rows_sub, EV, Nat.reduceEqDiff, Nat.reduceBEq, Nat.reduceLT, Nat.reduceLeDiff, Nat.reduceAdd, Nat.reduceSub, reduceIte]
          refine awp_join (fun n : Int => n = opOf l[i].kind a b ∧ ¬ (b = 0 ∧ (l[i].kind = 6 ∨ l[i].kind = 7)))
            (fun n => stl [(0, .fsl 4 (l.map Step.c)), (1, .fsl 3 (K.map Known.c)), (6, .usl 3 1 (rows (b :: a :: r))), (9, .v (.int .i64 n)), (10, .v (.int .i64 ((r.length + 1 : Nat) : Int))), (16, .dead), (17, .fsl 4 (l.map Step.c)), (18, .v (.int .i64 (l.length : Int))), (19, .v (.int .i64 (i : Int))), (34, .dead), (49, .dead), (108, .dead)]) ?_ ?_
          · simp only [EV, Nat.reduceEqDiff, Nat.reduceBEq, Nat.reduceLT, Nat.reduceLeDiff, Nat.reduceAdd, Nat.reduceSub, reduceIte]
            refine cK_cut (fun h => ?_) (fun h => ?_)
            · have q : l[i].kind = 3 := by simpa using h
              simp only [EV, Nat.reduceEqDiff, Nat.reduceBEq, Nat.reduceLT, Nat.reduceLeDiff, Nat.reduceAdd, Nat.reduceSub, reduceIte]
              rw [w64 (a + b) (by omega)]
              exact ⟨a + b, ⟨by simp [opOf, q], by omega⟩, rfl⟩
            have q3 : ¬ l[i].kind = 3 := by simpa using h
            clear h
            simp only [EV, Nat.reduceEqDiff, Nat.reduceBEq, Nat.reduceLT, Nat.reduceLeDiff, Nat.reduceAdd, Nat.reduceSub, reduceIte]
            refine cK_cut (fun h => ?_) (fun h => ?_)
            · have q : l[i].kind = 4 := by simpa using h
              simp only [EV, Nat.reduceEqDiff, Nat.reduceBEq, Nat.reduceLT, Nat.reduceLeDiff, Nat.reduceAdd, Nat.reduceSub, reduceIte]
              rw [w64 (a - b) (by omega)]
              exact ⟨a - b, ⟨by simp [opOf, q], by omega⟩, rfl⟩
            have q4 : ¬ l[i].kind = 4 := by simpa using h
            clear h
            simp only [EV, Nat.reduceEqDiff, Nat.reduceBEq, Nat.reduceLT, Nat.reduceLeDiff, Nat.reduceAdd, Nat.reduceSub, reduceIte]
            refine cK_cut (fun h => ?_) (fun h => ?_)
            · have q : l[i].kind = 5 := by simpa using h
              simp only [EV, Nat.reduceEqDiff, Nat.reduceBEq, Nat.reduceLT, Nat.reduceLeDiff, Nat.reduceAdd, Nat.reduceSub, reduceIte]
              rw [w64 (a * b) (by omega)]
              exact ⟨a * b, ⟨by simp [opOf, q], by omega⟩, rfl⟩
            have q5 : ¬ l[i].kind = 5 := by simpa using h
            have q67 : l[i].kind = 6 ∨ l[i].kind = 7 := by omega
            clear h
            simp only [EV, Nat.reduceEqDiff, Nat.reduceBEq, Nat.reduceLT, Nat.reduceLeDiff, Nat.reduceAdd, Nat.reduceSub, reduceIte]
            refine cK_cut (fun h => ?_) (fun h => ?_)
            · have q : b = 0 := by simpa using h
              have e : evTop (evPre K (b :: a :: r) l[i]) = .inl 2 := by
                simp only [evPre, n1, n2, n8, if_false, q, q67, true_and, if_true, evTop]
              simp only [EV, Nat.reduceEqDiff, Nat.reduceBEq, Nat.reduceLT, Nat.reduceLeDiff, Nat.reduceAdd, Nat.reduceSub, reduceIte]
              simp only [p9 e, EV, Nat.reduceEqDiff, Nat.reduceBEq, Nat.reduceLT, Nat.reduceLeDiff, Nat.reduceAdd, Nat.reduceSub, reduceIte, retVC, cellV', evR, nfz, nfzs, nfzss, List.contains_nil, List.contains_cons, Bool.or_false, or_true]
            have qb : ¬ b = 0 := by simpa using h
            clear h
            simp only [EV, Nat.reduceEqDiff, Nat.reduceBEq, Nat.reduceLT, Nat.reduceLeDiff, Nat.reduceAdd, Nat.reduceSub, reduceIte]
            refine callK_i (d136 a b wa wb qb) ?_
            simp only [EV, Nat.reduceEqDiff, Nat.reduceBEq, Nat.reduceLT, Nat.reduceLeDiff, Nat.reduceAdd, Nat.reduceSub, reduceIte]
            refine cK_cut (fun h => ?_) (fun h => ?_)
            · have q : l[i].kind = 7 := by simpa using h
              simp only [EV, Nat.reduceEqDiff, Nat.reduceBEq, Nat.reduceLT, Nat.reduceLeDiff, Nat.reduceAdd, Nat.reduceSub, reduceIte]
              exact ⟨rst a b, ⟨by simp [opOf, q], by omega⟩, rfl⟩
            · have q : ¬ l[i].kind = 7 := by simpa using h
              have q6 : l[i].kind = 6 := by omega
              simp only [EV, Nat.reduceEqDiff, Nat.reduceBEq, Nat.reduceLT, Nat.reduceLeDiff, Nat.reduceAdd, Nat.reduceSub, reduceIte]
              exact ⟨flo a b, ⟨by simp [opOf, q6], by omega⟩, rfl⟩
          · rintro n ⟨hn1, hn2⟩
            have ep : evPre K (b :: a :: r) l[i] = .inr (n :: r) := by
              simp only [evPre, n1, n2, n8, if_false, hn2, hn1]
            simp only [EV, Nat.reduceEqDiff, Nat.reduceBEq, Nat.reduceLT, Nat.reduceLeDiff, Nat.reduceAdd, Nat.reduceSub, reduceIte]
            refine callK_i (d133 n) ?_
            simp only [EV, Nat.reduceEqDiff, Nat.reduceBEq, Nat.reduceLT, Nat.reduceLeDiff, Nat.reduceAdd, Nat.reduceSub, reduceIte]
            refine cK_cut (fun h => ?_) (fun h => ?_)
            · have q : whole n = false := by simpa using h
              have e : evTop (evPre K (b :: a :: r) l[i]) = .inl 3 := by
                simp [ep, evTop, q]
              simp only [EV, Nat.reduceEqDiff, Nat.reduceBEq, Nat.reduceLT, Nat.reduceLeDiff, Nat.reduceAdd, Nat.reduceSub, reduceIte]
              simp only [p9 e, EV, Nat.reduceEqDiff, Nat.reduceBEq, Nat.reduceLT, Nat.reduceLeDiff, Nat.reduceAdd, Nat.reduceSub, reduceIte, retVC, cellV', evR, nfz, nfzs, nfzss, List.contains_nil, List.contains_cons, Bool.or_false, or_true]
            have wn : whole n = true := by simpa using h
            clear h
            simp only [hw2, rows_len, rows_take, List.length_cons, EV, Nat.reduceEqDiff, Nat.reduceBEq, Nat.reduceLT, Nat.reduceLeDiff, Nat.reduceAdd, Nat.reduceSub, reduceIte]
            simp only [List.length_cons] at hx1 p3
            refine ⟨by omega, by omega, by omega, by omega, n :: r, ⟨?_, ?_, ?_, ?_⟩, ?_⟩
            · simp only [ep, evTop, wn, if_true]
            · have : (((n :: r).length : Nat) : Int) = ((r.length + 1 + 1 : Nat) : Int) - 1 := by simp only [List.length_cons]; omega
              rw [this]; exact hx1
            · simp only [List.length_cons]; omega
            · intro m hm
              rcases List.mem_cons.1 hm with rfl | hm
              · exact wn
              · exact p4 m (by simp [hm])
            · rw [rows_cons]
      · rintro r' ⟨q1, q2, q3, q4⟩
        simp only [EV, Nat.reduceEqDiff, Nat.reduceBEq, Nat.reduceLT, Nat.reduceLeDiff, Nat.reduceAdd, Nat.reduceSub, reduceIte]
        rw [w64 _ (by omega)]
        refine ⟨(i + 1, r'), ⟨h1, ?_, q2, q3, q4⟩, by simp only; omega, rfl⟩
        rw [← p1, evRun_go q1]
    · have h1 : i = l.length := by have : ¬ (i : Int) < l.length := by simpa using h
                                   omega
      subst h1
      rw [List.drop_length] at p1 p2
      simp only [exRun, Option.some.injEq] at p2
      have e0 : ∃ n, r = [n] := List.length_eq_one_iff.1 (by omega)
      obtain ⟨n, rfl⟩ := e0
      have e : evalOf K l = (n, 0) := by simp only [evalOf, ← p1, evRun, outOf]
      simp only [rows_cons, rows_nil, EV, Nat.reduceEqDiff, Nat.reduceBEq, Nat.reduceLT, Nat.reduceLeDiff, Nat.reduceAdd, Nat.reduceSub, reduceIte]
      refine ⟨by omega, by simp, ?_⟩
      simp only [nth_zero, EV, Nat.reduceEqDiff, Nat.reduceBEq, Nat.reduceLT, Nat.reduceLeDiff, Nat.reduceAdd, Nat.reduceSub, reduceIte]
      simp only [e, EV, Nat.reduceEqDiff, Nat.reduceBEq, Nat.reduceLT, Nat.reduceLeDiff, Nat.reduceAdd, Nat.reduceSub, reduceIte, retVC, cellV', evR, nfz, nfzs, nfzss, List.contains_nil, List.contains_cons, Bool.or_false, or_true]
end Go.AM
