/- Contracts of functions of the given program, for the law FnExactRoundFingers: what they return and what they write, under the bounds that each theorem states. -/
import Derived.Test.YtmacgaechjiecaaF3
import Derived.Test.YtmacgaechjiecaaProg
namespace Go.AM
set_option linter.unusedVariables false
set_option linter.unusedSimpArgs false
/-- loop.example/g00837/spec.l1In -/
def m15 : MC :=
  (.seq
   (.reg [⟨(some 6), none, .a (.asg (.c (.bool false)))⟩])
   (.seq
    (.reg [⟨(some 7), none, .q (.mov (.t 0))⟩,
      ⟨(some 8), none, .q (.mov (.t 1))⟩,
      ⟨(some 9), none, .q (.bin false .geq (.t 7) (.t 8))⟩,
      ⟨(some 10), none, .q (.mov (.t 9))⟩,
      ⟨(some 11), (some (10, true)), .q (.mov (.t 0))⟩,
      ⟨(some 12), (some (10, true)), .q (.mov (.t 2))⟩,
      ⟨(some 13), (some (10, true)), .q (.bin false .leq (.t 11) (.t 12))⟩,
      ⟨(some 14), none, .q (.pick (.t 10) (.t 13) (.c (.bool false)))⟩,
      ⟨(some 6), none, .a (.asg (.t 14))⟩])
    .ret))

theorem d15 (x lo hi : Int) : Does Go.Proofs.Try.prog 15 [.v (.int .i64 x), .v (.int .i64 lo), .v (.int .i64 hi)] false (.v (.bool (decide (lo ≤ x) && decide (x ≤ hi)))) [.dead, .dead, .dead] := by
  refine does_intro (mc := m15) (N := 15) (rs := [6]) (fx := []) 3 rfl (by decide +kernel) ?_
  simp only [m15, EV, Nat.reduceEqDiff, Nat.reduceBEq, Nat.reduceLT, Nat.reduceLeDiff, Nat.reduceAdd, Nat.reduceSub, reduceIte]
  repeat' (first
    | (refine gK_cut (fun h => ?_) (fun h => ?_) <;> simp only [h, EV, Nat.reduceEqDiff, Nat.reduceBEq, Nat.reduceLT, Nat.reduceLeDiff, Nat.reduceAdd, Nat.reduceSub, reduceIte])
    | (refine cK_cut (fun h => ?_) (fun h => ?_) <;> simp only [h, EV, Nat.reduceEqDiff, Nat.reduceBEq, Nat.reduceLT, Nat.reduceLeDiff, Nat.reduceAdd, Nat.reduceSub, reduceIte]))
  all_goals simp only [h, EV, Nat.reduceEqDiff, Nat.reduceBEq, Nat.reduceLT, Nat.reduceLeDiff, Nat.reduceAdd, Nat.reduceSub, reduceIte, evRE, retVC, cellV', evR, nfz, nfzs, nfzss, List.contains_nil, List.contains_cons, Bool.or_false, or_true]

/-- loop.example/g00837/impl.in -/
def m19 : MC :=
  (.seq
   (.reg [⟨(some 6), none, .a (.asg (.c (.bool false)))⟩])
   (.seq
    (.reg [⟨(some 7), none, .q (.mov (.t 0))⟩,
      ⟨(some 8), none, .q (.mov (.t 1))⟩,
      ⟨(some 9), none, .q (.bin false .geq (.t 7) (.t 8))⟩,
      ⟨(some 10), none, .q (.mov (.t 9))⟩,
      ⟨(some 11), (some (10, true)), .q (.mov (.t 0))⟩,
      ⟨(some 12), (some (10, true)), .q (.mov (.t 2))⟩,
      ⟨(some 13), (some (10, true)), .q (.bin false .leq (.t 11) (.t 12))⟩,
      ⟨(some 14), none, .q (.pick (.t 10) (.t 13) (.c (.bool false)))⟩,
      ⟨(some 6), none, .a (.asg (.t 14))⟩])
    .ret))

theorem d19 (x lo hi : Int) : Does Go.Proofs.Try.prog 19 [.v (.int .i64 x), .v (.int .i64 lo), .v (.int .i64 hi)] false (.v (.bool (decide (lo ≤ x) && decide (x ≤ hi)))) [.dead, .dead, .dead] := by
  refine does_intro (mc := m19) (N := 15) (rs := [6]) (fx := []) 3 rfl (by decide +kernel) ?_
  simp only [m19, EV, Nat.reduceEqDiff, Nat.reduceBEq, Nat.reduceLT, Nat.reduceLeDiff, Nat.reduceAdd, Nat.reduceSub, reduceIte]
  repeat' (first
    | (refine gK_cut (fun h => ?_) (fun h => ?_) <;> simp only [h, EV, Nat.reduceEqDiff, Nat.reduceBEq, Nat.reduceLT, Nat.reduceLeDiff, Nat.reduceAdd, Nat.reduceSub, reduceIte])
    | (refine cK_cut (fun h => ?_) (fun h => ?_) <;> simp only [h, EV, Nat.reduceEqDiff, Nat.reduceBEq, Nat.reduceLT, Nat.reduceLeDiff, Nat.reduceAdd, Nat.reduceSub, reduceIte]))
  all_goals simp only [h, EV, Nat.reduceEqDiff, Nat.reduceBEq, Nat.reduceLT, Nat.reduceLeDiff, Nat.reduceAdd, Nat.reduceSub, reduceIte, evRE, retVC, cellV', evR, nfz, nfzs, nfzss, List.contains_nil, List.contains_cons, Bool.or_false, or_true]

def lett (b : Int) : Bool := decide (65 ≤ b) && decide (b ≤ 90) || decide (97 ≤ b) && decide (b ≤ 122)

def digt (b : Int) : Bool := decide (48 ≤ b) && decide (b ≤ 57)

/-- loop.example/g00837/impl.isLetter -/
def m87 : MC :=
  (.seq
   (.reg [⟨(some 2), none, .a (.asg (.c (.bool false)))⟩])
   (.seq
    (.reg [⟨(some 3), none, .q (.mov (.t 0))⟩,
      ⟨(some 4), none, .q (.bin false .geq (.t 3) (.c (.int .u8 65)))⟩,
      ⟨(some 5), none, .q (.mov (.t 4))⟩,
      ⟨(some 6), (some (5, true)), .q (.mov (.t 0))⟩,
      ⟨(some 7), (some (5, true)), .q (.bin false .leq (.t 6) (.c (.int .u8 90)))⟩,
      ⟨(some 8), none, .q (.pick (.t 5) (.t 7) (.c (.bool false)))⟩,
      ⟨(some 9), none, .q (.mov (.t 8))⟩,
      ⟨(some 10), (some (9, false)), .q (.mov (.t 0))⟩,
      ⟨(some 11), (some (9, false)), .q (.bin false .geq (.t 10) (.c (.int .u8 97)))⟩,
      ⟨(some 12), (some (9, false)), .q (.mov (.t 11))⟩,
      ⟨(some 13), (some (12, true)), .q (.mov (.t 0))⟩,
      ⟨(some 14), (some (12, true)), .q (.bin false .leq (.t 13) (.c (.int .u8 122)))⟩,
      ⟨(some 15), (some (9, false)), .q (.pick (.t 12) (.t 14) (.c (.bool false)))⟩,
      ⟨(some 16), none, .q (.pick (.t 9) (.c (.bool true)) (.t 15))⟩,
      ⟨(some 2), none, .a (.asg (.t 16))⟩])
    .ret))

theorem d87 (b : Int) : Does Go.Proofs.Try.prog 87 [.v (.int .u8 b)] false (.v (.bool (lett b))) [.dead] := by
  refine does_intro (mc := m87) (N := 17) (rs := [2]) (fx := []) 1 rfl (by decide +kernel) ?_
  simp only [m87, EV, Nat.reduceEqDiff, Nat.reduceBEq, Nat.reduceLT, Nat.reduceLeDiff, Nat.reduceAdd, Nat.reduceSub, reduceIte]
  repeat' (first
    | (refine gK_cut (fun h => ?_) (fun h => ?_) <;> simp only [h, EV, Nat.reduceEqDiff, Nat.reduceBEq, Nat.reduceLT, Nat.reduceLeDiff, Nat.reduceAdd, Nat.reduceSub, reduceIte])
    | (refine cK_cut (fun h => ?_) (fun h => ?_) <;> simp only [h, EV, Nat.reduceEqDiff, Nat.reduceBEq, Nat.reduceLT, Nat.reduceLeDiff, Nat.reduceAdd, Nat.reduceSub, reduceIte]))
  all_goals simp only [lett, *, Bool.or_true, Bool.true_or, Bool.false_or, Bool.or_false, EV, Nat.reduceEqDiff, Nat.reduceBEq, Nat.reduceLT, Nat.reduceLeDiff, Nat.reduceAdd, Nat.reduceSub, reduceIte, evRE, retVC, cellV', evR, nfz, nfzs, nfzss, List.contains_nil, List.contains_cons, Bool.or_false, or_true]

/-- loop.example/g00837/impl.isDigit -/
def m88 : MC :=
  (.seq
   (.reg [⟨(some 2), none, .a (.asg (.c (.bool false)))⟩])
   (.seq
    (.reg [⟨(some 3), none, .q (.mov (.t 0))⟩,
      ⟨(some 4), none, .q (.bin false .geq (.t 3) (.c (.int .u8 48)))⟩,
      ⟨(some 5), none, .q (.mov (.t 4))⟩,
      ⟨(some 6), (some (5, true)), .q (.mov (.t 0))⟩,
      ⟨(some 7), (some (5, true)), .q (.bin false .leq (.t 6) (.c (.int .u8 57)))⟩,
      ⟨(some 8), none, .q (.pick (.t 5) (.t 7) (.c (.bool false)))⟩,
      ⟨(some 2), none, .a (.asg (.t 8))⟩])
    .ret))

theorem d88 (b : Int) : Does Go.Proofs.Try.prog 88 [.v (.int .u8 b)] false (.v (.bool (digt b))) [.dead] := by
  refine does_intro (mc := m88) (N := 9) (rs := [2]) (fx := []) 1 rfl (by decide +kernel) ?_
  simp only [m88, EV, Nat.reduceEqDiff, Nat.reduceBEq, Nat.reduceLT, Nat.reduceLeDiff, Nat.reduceAdd, Nat.reduceSub, reduceIte]
  repeat' (first
    | (refine gK_cut (fun h => ?_) (fun h => ?_) <;> simp only [h, EV, Nat.reduceEqDiff, Nat.reduceBEq, Nat.reduceLT, Nat.reduceLeDiff, Nat.reduceAdd, Nat.reduceSub, reduceIte])
    | (refine cK_cut (fun h => ?_) (fun h => ?_) <;> simp only [h, EV, Nat.reduceEqDiff, Nat.reduceBEq, Nat.reduceLT, Nat.reduceLeDiff, Nat.reduceAdd, Nat.reduceSub, reduceIte]))
  all_goals simp only [digt, *, EV, Nat.reduceEqDiff, Nat.reduceBEq, Nat.reduceLT, Nat.reduceLeDiff, Nat.reduceAdd, Nat.reduceSub, reduceIte, evRE, retVC, cellV', evR, nfz, nfzs, nfzss, List.contains_nil, List.contains_cons, Bool.or_false, or_true]

def chOk (s : ByteArray) (i : Nat) : Bool := lett (sAt s i) || (i != 0 && digt (sAt s i))

def chsOk (s : ByteArray) (i : Nat) : Prop := ∀ j, j < i → chOk s j = true

open Classical in
noncomputable def nameOk (s : ByteArray) : Bool := decide (chsOk s s.size ∧ 1 ≤ s.size ∧ s.size ≤ 10)

theorem chsOk_succ {s : ByteArray} {i : Nat} (h : chsOk s i) (h2 : chOk s i = true) : chsOk s (i + 1) := by
  intro j hj
  by_cases e : j = i
  · subst e; exact h2
  · exact h j (by omega)

theorem nameOk_no {s : ByteArray} {i : Nat} (hi : i < s.size) (h : chOk s i = false) : nameOk s = false := by
  simp only [nameOk, decide_eq_false_iff_not]
  rintro ⟨h1, _⟩
  have := h1 i hi
  rw [h] at this; cases this

theorem nameOk_yes {s : ByteArray} (h : chsOk s s.size) : nameOk s = (decide ((1 : Int) ≤ s.size) && decide ((s.size : Int) ≤ 10)) := by
  have e1 : decide ((1 : Int) ≤ s.size) = decide (1 ≤ s.size) := by congr 1; apply propext; omega
  have e2 : decide ((s.size : Int) ≤ 10) = decide (s.size ≤ 10) := by congr 1; apply propext; omega
  simp [nameOk, h, e1, e2]

/-- loop.example/g00837/spec.l1Name -/
def m59 : MC :=
  (.seq
   (.reg [⟨(some 2), none, .a (.asg (.c (.bool false)))⟩])
   (.seq
    (.seq
     (.reg [⟨(some 3), none, .a (.asg (.c (.int .i64 0)))⟩])
     (.block 0
      (.loop [0, 3]
       (.seq
        (.seq
         (.reg [⟨(some 6), none, .q (.mov (.t 3))⟩,
           ⟨(some 7), none, .q (.mov (.t 0))⟩,
           ⟨(some 8), none, .q (.len true (.t 7))⟩,
           ⟨(some 9), none, .q (.bin false .lss (.t 6) (.t 8))⟩])
         (.cond (.t 9)
          .skip
          (.exit 0)))
        (.seq
         (.block 1
          (.seq
           (.reg [⟨(some 12), none, .q (.mov (.t 0))⟩,
             ⟨(some 13), none, .q (.mov (.t 3))⟩,
             ⟨(some 14), none, .q (.idx (.t 12) (.t 13))⟩,
             ⟨(some 4), none, .a (.asg (.t 14))⟩])
           (.join [0, 3, 4, 5]
            (.reg [⟨(some 15), none, .q (.mov (.t 4))⟩,
              ⟨(some 16), none, .q (.bin false .geq (.t 15) (.c (.int .u8 65)))⟩,
              ⟨(some 17), none, .q (.mov (.t 16))⟩,
              ⟨(some 18), (some (17, true)), .q (.mov (.t 4))⟩,
              ⟨(some 19), (some (17, true)), .q (.bin false .leq (.t 18) (.c (.int .u8 90)))⟩,
              ⟨(some 20), none, .q (.pick (.t 17) (.t 19) (.c (.bool false)))⟩,
              ⟨(some 21), none, .q (.mov (.t 20))⟩,
              ⟨(some 22), (some (21, false)), .q (.mov (.t 4))⟩,
              ⟨(some 23), (some (21, false)), .q (.bin false .geq (.t 22) (.c (.int .u8 97)))⟩,
              ⟨(some 24), (some (21, false)), .q (.mov (.t 23))⟩,
              ⟨(some 25), (some (24, true)), .q (.mov (.t 4))⟩,
              ⟨(some 26), (some (24, true)), .q (.bin false .leq (.t 25) (.c (.int .u8 122)))⟩,
              ⟨(some 27), (some (21, false)), .q (.pick (.t 24) (.t 26) (.c (.bool false)))⟩,
              ⟨(some 28), none, .q (.pick (.t 21) (.c (.bool true)) (.t 27))⟩,
              ⟨(some 5), none, .a (.asg (.t 28))⟩])
            (.seq
             (.reg [⟨(some 29), none, .q (.mov (.t 5))⟩,
               ⟨(some 30), none, .q (.un .not (.t 29))⟩,
               ⟨(some 31), none, .q (.mov (.t 30))⟩,
               ⟨(some 32), (some (31, true)), .q (.mov (.t 3))⟩,
               ⟨(some 33), (some (31, true)), .q (.bin false .eql (.t 32) (.c (.int .i64 0)))⟩,
               ⟨(some 34), (some (31, true)), .q (.mov (.t 33))⟩,
               ⟨(some 35), (some (34, false)), .q (.mov (.t 4))⟩,
               ⟨(some 36), (some (34, false)), .q (.bin false .lss (.t 35) (.c (.int .u8 48)))⟩,
               ⟨(some 37), (some (31, true)), .q (.pick (.t 34) (.c (.bool true)) (.t 36))⟩,
               ⟨(some 38), (some (31, true)), .q (.mov (.t 37))⟩,
               ⟨(some 39), (some (38, false)), .q (.mov (.t 4))⟩,
               ⟨(some 40), (some (38, false)), .q (.bin false .gtr (.t 39) (.c (.int .u8 57)))⟩,
               ⟨(some 41), (some (31, true)), .q (.pick (.t 38) (.c (.bool true)) (.t 40))⟩,
               ⟨(some 42), none, .q (.pick (.t 31) (.t 41) (.c (.bool false)))⟩])
             (.cond (.t 42)
              (.seq
               (.reg [⟨(some 2), none, .a (.asg (.c (.bool false)))⟩])
               .ret)
              .skip)))))
         (.reg [⟨(some 10), none, .q (.mov (.t 3))⟩,
           ⟨(some 11), none, .q (.bin false .add (.t 10) (.c (.int .i64 1)))⟩,
           ⟨(some 3), none, .a (.asg (.t 11))⟩]))))))
    (.seq
     (.reg [⟨(some 43), none, .q (.mov (.t 0))⟩,
       ⟨(some 44), none, .q (.len true (.t 43))⟩,
       ⟨(some 45), none, .a (.call (.fn 15) false [.lend (.t 44), .lend (.c (.int .i64 1)), .lend (.c (.int .i64 10))])⟩,
       ⟨(some 2), none, .a (.asg (.t 45))⟩])
     .ret)))

theorem d59 (s : ByteArray) (hs : (s.size : Int) ≤ 9223372036854775807) : Does Go.Proofs.Try.prog 59 [.v (.string s)] false (.v (.bool (nameOk s))) [.dead] := by
  refine does_intro (mc := m59) (N := 46) (rs := [2]) (fx := []) 1 rfl (by decide +kernel) ?_
  simp only [m59, EV, Nat.reduceEqDiff, Nat.reduceBEq, Nat.reduceLT, Nat.reduceLeDiff, Nat.reduceAdd, Nat.reduceSub, reduceIte]
  refine awp_loop (fun i : Nat => i ≤ s.size ∧ chsOk s i) (fun i => stl [(0, .v (.string s)), (3, .v (.int .i64 (i : Int)))]) (fun i => s.size - i) 0 ⟨by omega, fun j hj => absurd hj (by omega)⟩ ?_ ?_
  · simp only [EV, Nat.reduceEqDiff, Nat.reduceBEq, Nat.reduceLT, Nat.reduceLeDiff, Nat.reduceAdd, Nat.reduceSub, reduceIte]
    rfl
  · rintro i ⟨h0, h1⟩
    simp only [EV, Nat.reduceEqDiff, Nat.reduceBEq, Nat.reduceLT, Nat.reduceLeDiff, Nat.reduceAdd, Nat.reduceSub, reduceIte]
    refine cK_cut (fun h => ?_) (fun h => ?_)
    · have h2 : (i : Int) < s.size := by simpa using h
      simp only [h2, EV, Nat.reduceEqDiff, Nat.reduceBEq, Nat.reduceLT, Nat.reduceLeDiff, Nat.reduceAdd, Nat.reduceSub, reduceIte]
      refine awp_join (fun _ : Unit => True) (fun _ => stl [(0, .v (.string s)), (3, .v (.int .i64 (i : Int))), (4, .v (.int .u8 (sAt s i))), (5, .v (.bool (lett (sAt s i))))]) ?_ ?_
      · simp only [EV, Nat.reduceEqDiff, Nat.reduceBEq, Nat.reduceLT, Nat.reduceLeDiff, Nat.reduceAdd, Nat.reduceSub, reduceIte]
        repeat' (first
    | (refine gK_cut (fun h => ?_) (fun h => ?_) <;> simp only [h, EV, Nat.reduceEqDiff, Nat.reduceBEq, Nat.reduceLT, Nat.reduceLeDiff, Nat.reduceAdd, Nat.reduceSub, reduceIte])
    | (refine cK_cut (fun h => ?_) (fun h => ?_) <;> simp only [h, EV, Nat.reduceEqDiff, Nat.reduceBEq, Nat.reduceLT, Nat.reduceLeDiff, Nat.reduceAdd, Nat.reduceSub, reduceIte]))
        all_goals refine ⟨(), ?_⟩
        all_goals simp only [lett, *, Bool.or_true, Bool.true_or, Bool.false_or, Bool.or_false, EV, Nat.reduceEqDiff, Nat.reduceBEq, Nat.reduceLT, Nat.reduceLeDiff, Nat.reduceAdd, Nat.reduceSub, reduceIte]
      · rintro _ _
        simp only [EV, Nat.reduceEqDiff, Nat.reduceBEq, Nat.reduceLT, Nat.reduceLeDiff, Nat.reduceAdd, Nat.reduceSub, reduceIte]
        repeat' (first
    | (refine gK_cut (fun h => ?_) (fun h => ?_) <;> simp only [h, EV, Nat.reduceEqDiff, Nat.reduceBEq, Nat.reduceLT, Nat.reduceLeDiff, Nat.reduceAdd, Nat.reduceSub, reduceIte])
    | (refine cK_cut (fun h => ?_) (fun h => ?_) <;> simp only [h, EV, Nat.reduceEqDiff, Nat.reduceBEq, Nat.reduceLT, Nat.reduceLeDiff, Nat.reduceAdd, Nat.reduceSub, reduceIte]))
        all_goals first
          | (have hc : chOk s i = false := by
               simp_all [chOk, digt] <;> omega
             simp only [nameOk_no (by omega) hc, EV, Nat.reduceEqDiff, Nat.reduceBEq, Nat.reduceLT, Nat.reduceLeDiff, Nat.reduceAdd, Nat.reduceSub, reduceIte, evRE, retVC, cellV', evR, nfz, nfzs, nfzss, List.contains_nil, List.contains_cons, Bool.or_false, or_true]
             done)
          | (have hc : chOk s i = true := by
               simp_all [chOk, digt] <;> omega
             rw [w64 _ (by omega)]
             exact ⟨i + 1, ⟨by omega, chsOk_succ h1 hc⟩, by omega, rfl⟩)
    · have h2 : i = s.size := by have : ¬ (i : Int) < s.size := by simpa using h
                                 omega
      subst h2
      simp only [EV, Nat.reduceEqDiff, Nat.reduceBEq, Nat.reduceLT, Nat.reduceLeDiff, Nat.reduceAdd, Nat.reduceSub, reduceIte]
      refine callK_i (d15 _ _ _) ?_
      simp only [EV, Nat.reduceEqDiff, Nat.reduceBEq, Nat.reduceLT, Nat.reduceLeDiff, Nat.reduceAdd, Nat.reduceSub, reduceIte]
      simp only [nameOk_yes h1, EV, Nat.reduceEqDiff, Nat.reduceBEq, Nat.reduceLT, Nat.reduceLeDiff, Nat.reduceAdd, Nat.reduceSub, reduceIte, evRE, retVC, cellV', evR, nfz, nfzs, nfzss, List.contains_nil, List.contains_cons, Bool.or_false, or_true]

/-- loop.example/g00837/impl.isName -/
def m73 : MC :=
  (.seq
   (.reg [⟨(some 2), none, .a (.asg (.c (.bool false)))⟩])
   (.seq
    (.seq
     (.reg [⟨(some 4), none, .q (.mov (.t 0))⟩,
       ⟨(some 5), none, .q (.len true (.t 4))⟩,
       ⟨(some 6), none, .q (.mov (.c (.int .i64 0)))⟩])
     (.block 0
      (.loop [0, 5, 6]
       (.seq
        (.reg [⟨(some 7), none, .q (.bin false .lss (.t 6) (.t 5))⟩])
        (.seq
         (.cond (.t 7)
          .skip
          (.exit 0))
         (.seq
          (.block 1
           (.seq
            (.reg [⟨(some 8), none, .q (.mov (.t 6))⟩,
              ⟨(some 3), none, .a (.asg (.t 8))⟩])
            (.seq
             (.reg [⟨(some 9), none, .q (.mov (.t 0))⟩,
               ⟨(some 10), none, .q (.mov (.t 3))⟩,
               ⟨(some 11), none, .q (.idx (.t 9) (.t 10))⟩,
               ⟨(some 12), none, .a (.call (.fn 87) false [.lend (.t 11)])⟩,
               ⟨(some 13), none, .q (.un .not (.t 12))⟩,
               ⟨(some 14), none, .q (.mov (.t 13))⟩,
               ⟨(some 15), (some (14, true)), .q (.mov (.t 3))⟩,
               ⟨(some 16), (some (14, true)), .q (.bin false .eql (.t 15) (.c (.int .i64 0)))⟩,
               ⟨(some 17), (some (14, true)), .q (.mov (.t 16))⟩,
               ⟨(some 18), (some (17, false)), .q (.mov (.t 0))⟩,
               ⟨(some 19), (some (17, false)), .q (.mov (.t 3))⟩,
               ⟨(some 20), (some (17, false)), .q (.idx (.t 18) (.t 19))⟩,
               ⟨(some 21), (some (17, false)), .a (.call (.fn 88) false [.lend (.t 20)])⟩,
               ⟨(some 22), (some (17, false)), .q (.un .not (.t 21))⟩,
               ⟨(some 23), (some (14, true)), .q (.pick (.t 17) (.c (.bool true)) (.t 22))⟩,
               ⟨(some 24), none, .q (.pick (.t 14) (.t 23) (.c (.bool false)))⟩])
             (.cond (.t 24)
              (.seq
               (.reg [⟨(some 2), none, .a (.asg (.c (.bool false)))⟩])
               .ret)
              .skip))))
          (.reg [⟨(some 25), none, .q (.bin false .add (.t 6) (.c (.int .i64 1)))⟩,
            ⟨(some 6), none, .q (.mov (.t 25))⟩])))))))
    (.seq
     (.reg [⟨(some 26), none, .q (.mov (.t 0))⟩,
       ⟨(some 27), none, .q (.len true (.t 26))⟩,
       ⟨(some 28), none, .a (.call (.fn 19) false [.lend (.t 27), .lend (.c (.int .i64 1)), .lend (.c (.int .i64 10))])⟩,
       ⟨(some 2), none, .a (.asg (.t 28))⟩])
     .ret)))

theorem d73 (s : ByteArray) (hs : (s.size : Int) ≤ 9223372036854775807) : Does Go.Proofs.Try.prog 73 [.v (.string s)] false (.v (.bool (nameOk s))) [.dead] := by
  refine does_intro (mc := m73) (N := 29) (rs := [2]) (fx := []) 1 rfl (by decide +kernel) ?_
  simp only [m73, EV, Nat.reduceEqDiff, Nat.reduceBEq, Nat.reduceLT, Nat.reduceLeDiff, Nat.reduceAdd, Nat.reduceSub, reduceIte]
  refine awp_loop (fun i : Nat => i ≤ s.size ∧ chsOk s i) (fun i => stl [(0, .v (.string s)), (5, .v (.int .i64 (s.size : Int))), (6, .v (.int .i64 (i : Int)))]) (fun i => s.size - i) 0 ⟨by omega, fun j hj => absurd hj (by omega)⟩ ?_ ?_
  · simp only [EV, Nat.reduceEqDiff, Nat.reduceBEq, Nat.reduceLT, Nat.reduceLeDiff, Nat.reduceAdd, Nat.reduceSub, reduceIte]
    rfl
  · rintro i ⟨h0, h1⟩
    simp only [EV, Nat.reduceEqDiff, Nat.reduceBEq, Nat.reduceLT, Nat.reduceLeDiff, Nat.reduceAdd, Nat.reduceSub, reduceIte]
    refine cK_cut (fun h => ?_) (fun h => ?_)
    · have h2 : (i : Int) < s.size := by simpa using h
      simp only [h2, EV, Nat.reduceEqDiff, Nat.reduceBEq, Nat.reduceLT, Nat.reduceLeDiff, Nat.reduceAdd, Nat.reduceSub, reduceIte]
      refine callK_i (d87 _) ?_
      simp only [EV, Nat.reduceEqDiff, Nat.reduceBEq, Nat.reduceLT, Nat.reduceLeDiff, Nat.reduceAdd, Nat.reduceSub, reduceIte]
      repeat' (first
    | (refine gK_cut (fun h => ?_) (fun h => ?_) <;> simp only [h, h2, EV, Nat.reduceEqDiff, Nat.reduceBEq, Nat.reduceLT, Nat.reduceLeDiff, Nat.reduceAdd, Nat.reduceSub, reduceIte])
    | (refine cK_cut (fun h => ?_) (fun h => ?_) <;> simp only [h, h2, EV, Nat.reduceEqDiff, Nat.reduceBEq, Nat.reduceLT, Nat.reduceLeDiff, Nat.reduceAdd, Nat.reduceSub, reduceIte])
    | (refine callK_i (d88 _) ?_ <;> simp only [h, h2, EV, Nat.reduceEqDiff, Nat.reduceBEq, Nat.reduceLT, Nat.reduceLeDiff, Nat.reduceAdd, Nat.reduceSub, reduceIte]))
      all_goals first
          | (have hc : chOk s i = false := by
               simp_all [chOk]
             simp only [nameOk_no (by omega) hc, EV, Nat.reduceEqDiff, Nat.reduceBEq, Nat.reduceLT, Nat.reduceLeDiff, Nat.reduceAdd, Nat.reduceSub, reduceIte, evRE, retVC, cellV', evR, nfz, nfzs, nfzss, List.contains_nil, List.contains_cons, Bool.or_false, or_true]
             done)
          | (have hc : chOk s i = true := by
               simp_all [chOk] <;> omega
             rw [w64 _ (by omega)]
             exact ⟨i + 1, ⟨by omega, chsOk_succ h1 hc⟩, by omega, rfl⟩)
    · have h2 : i = s.size := by have : ¬ (i : Int) < s.size := by simpa using h
                                 omega
      subst h2
      simp only [EV, Nat.reduceEqDiff, Nat.reduceBEq, Nat.reduceLT, Nat.reduceLeDiff, Nat.reduceAdd, Nat.reduceSub, reduceIte]
      refine callK_i (d19 _ _ _) ?_
      simp only [EV, Nat.reduceEqDiff, Nat.reduceBEq, Nat.reduceLT, Nat.reduceLeDiff, Nat.reduceAdd, Nat.reduceSub, reduceIte]
      simp only [nameOk_yes h1, EV, Nat.reduceEqDiff, Nat.reduceBEq, Nat.reduceLT, Nat.reduceLeDiff, Nat.reduceAdd, Nat.reduceSub, reduceIte, evRE, retVC, cellV', evR, nfz, nfzs, nfzss, List.contains_nil, List.contains_cons, Bool.or_false, or_true]

end Go.AM
namespace Go.AM
set_option linter.unusedVariables false
set_option linter.unusedSimpArgs false
theorem fill_set {α : Type} {g : α → List AV} {l : List α} {z : List AV} {i : Nat} (h : i < l.length) : ((l.take i).map g ++ List.replicate (l.length - i) z).set i (g l[i]) = (l.take (i + 1)).map g ++ List.replicate (l.length - (i + 1)) z := by
  obtain ⟨n, hn⟩ : ∃ n, l.length - i = n + 1 := ⟨l.length - i - 1, by omega⟩
  have e : l.length - (i + 1) = n := by omega
  have hl : (List.map g (List.take i l)).length = i := by simp; omega
  rw [hn, e, List.replicate_succ, List.set_append, if_neg (by omega), hl, Nat.sub_self, List.set_cons_zero, List.take_succ_eq_append_getElem h, List.map_append, List.append_assoc]
  rfl

theorem fill_nth {α : Type} {g : α → List AV} {l : List α} {z : List AV} {i : Nat} (h : i < l.length) : nth ((l.take i).map g ++ List.replicate (l.length - i) z) i = z := by
  obtain ⟨n, hn⟩ : ∃ n, l.length - i = n + 1 := ⟨l.length - i - 1, by omega⟩
  have hl : (List.map g (List.take i l)).length = i := by simp; omega
  unfold nth
  rw [List.getD_eq_getElem?_getD, hn, List.replicate_succ, List.getElem?_append_right (by omega), hl]
  simp

structure Fd where
  name : ByteArray
  mark : Int
  typ : Int

def Fd.z (s : Fd) : List AV := [.v (.string s.name), .v (.int .i64 s.mark), .v (.int .i64 s.typ)]

def Fd.o (s : Fd) : List AV := [.v (.string s.name), .v (.int .i64 s.mark), .v (.int .i64 s.typ)]

def Fd.zr : List AV := [.v (.string ⟨#[]⟩), .v (.int .i64 0), .v (.int .i64 0)]

theorem Fd.fr (s : Fd) : frzRow s.o = s.z := by
  simp only [Fd.o, Fd.z, frzRow, frzL, List.cons_append, List.nil_append]

theorem Fd.frz : ∀ l : List Fd, frzRows (l.map Fd.o) = l.map Fd.z
  | [] => rfl
  | s :: l => by simp only [List.map_cons, frzRows, Fd.fr, Fd.frz l]

theorem Fd.nf (s : Fd) : nfzs s.o = true := by
  simp only [Fd.o, nfzs, nfz, List.cons_append, List.nil_append, Bool.and_self]

theorem Fd.nfz : ∀ l : List Fd, nfzss (l.map Fd.o) = true
  | [] => rfl
  | s :: l => by simp only [List.map_cons, nfzss, Fd.nf, Fd.nfz l, Bool.and_self]

theorem FdE : (∀ f : Fd, f.z.length = 3) ∧ (∀ f : Fd, f.z.take 3 = f.z) ∧ (∀ (st : St) (f : Fd), frzBs st f.z = f.z) ∧ (∀ f : Fd, bares f.z = true) ∧ (∀ f : Fd, plains f.z = true) ∧
    (∀ (f : Fd) (K : Nat → List (Nat × Nat) → Bool), killVs K f.z = f.z) ∧ (∀ f : Fd, f.z.all storL = true) ∧ (∀ f : Fd, f.o.length = 3) ∧ (∀ f : Fd, f.o.take 3 = f.o) ∧ (∀ f : Fd, bares f.o = true) ∧
    (∀ f : Fd, plains f.o = true) ∧ (∀ (f : Fd) (K : Nat → List (Nat × Nat) → Bool), killVs K f.o = f.o) ∧ (∀ f : Fd, f.o.all storL = true) :=
  ⟨fun _ => rfl, fun _ => rfl, fun _ _ => rfl, fun _ => rfl, fun _ => rfl, fun _ _ => rfl, fun _ => rfl, fun _ => rfl, fun _ => rfl, fun _ => rfl, fun _ => rfl, fun _ _ => rfl, fun _ => rfl⟩

def Fd.ok (s : Fd) : Prop := (s.name.size : Int) ≤ 9223372036854775807 ∧ (-9223372036854775808 ≤ s.mark ∧ s.mark ≤ 9223372036854775807) ∧ (-9223372036854775808 ≤ s.typ ∧ s.typ ≤ 9223372036854775807)

def Fd.sm (s : Fd) : Prop := (s.name.size : Int) ≤ 1048576 ∧ True ∧ True

def szFd (s : Fd) (k : Int) : Int := if k - s.name.size < 0 then -1 else k - s.name.size

def totFd (s : Fd) : Int := (s.name.size : Int)

theorem szFd_le (s : Fd) (k : Int) (h : 0 ≤ k) : szFd s k ≤ k := by
  unfold szFd
  by_cases g0 : k - s.name.size < 0
  · rw [if_pos g0]; omega
  rw [if_neg g0]
  omega

theorem szFd_tot (s : Fd) (k : Int) (h : 0 ≤ szFd s k) : totFd s + szFd s k = k := by
  unfold szFd at h ⊢
  unfold totFd
  by_cases g0 : k - s.name.size < 0
  · rw [if_pos g0] at h; omega
  rw [if_neg g0] at h ⊢
  omega

theorem totFd_nn (s : Fd) : 0 ≤ totFd s := by
  unfold totFd
  omega

theorem Fd.sm_of (s : Fd) (h : totFd s ≤ 1048576) : s.sm := by
  unfold totFd at h
  exact ⟨by omega, trivial, trivial⟩

/-- loop.example/g00837/laws.szField -/
def m36 : MC :=
  (.seq
   (.reg [⟨(some 2), none, .a (.box 59 (.t 0))⟩,
     ⟨(some 4), none, .a (.asg (.c (.int .i64 0)))⟩])
   (.seq
    (.reg [⟨(some 5), none, .q (.mov (.t 1))⟩,
      ⟨(some 6), none, .q (.fad 0 (.t 2))⟩,
      ⟨(some 7), none, .q (.load false 1 (.t 6))⟩,
      ⟨(some 8), none, .q (.len true (.t 7))⟩,
      ⟨(some 9), none, .q (.bin false .sub (.t 5) (.t 8))⟩,
      ⟨(some 1), none, .a (.asg (.t 9))⟩])
    (.seq
     (.seq
      (.reg [⟨(some 10), none, .q (.mov (.t 1))⟩,
        ⟨(some 11), none, .q (.bin false .lss (.t 10) (.c (.int .i64 0)))⟩])
      (.cond (.t 11)
       (.seq
        (.reg [⟨(some 4), none, .a (.asg (.c (.int .i64 (-1))))⟩])
        .ret)
       .skip))
     (.seq
      (.reg [⟨(some 12), none, .q (.mov (.t 1))⟩,
        ⟨(some 4), none, .a (.asg (.t 12))⟩])
      .ret))))

set_option maxRecDepth 100000 in
theorem d36 (s : Fd) (k : Int) (h0 : 0 ≤ k) (h1 : k ≤ 1048576) (hok : s.ok) : Does Go.Proofs.Try.prog 36 [.agg s.z, .v (.int .i64 k)] false (.v (.int .i64 (szFd s k))) [.dead, .dead] := by
  unfold Fd.ok at hok
  refine does_intro (mc := m36) (N := 13) (rs := [4]) (fx := []) 2 rfl (by decide +kernel) ?_
  simp only [m36, Fd.z, EV, Nat.reduceEqDiff, Nat.reduceBEq, Nat.reduceLT, Nat.reduceLeDiff, Nat.reduceAdd, Nat.reduceSub, reduceIte]
  have b0 := hok.1
  have w0 := w64 (k - s.name.size) (by omega)
  simp only [w0, EV, Nat.reduceEqDiff, Nat.reduceBEq, Nat.reduceLT, Nat.reduceLeDiff, Nat.reduceAdd, Nat.reduceSub, reduceIte]
  refine cK_cut (fun h => ?_) (fun h => ?_)
  · have g0 : k - s.name.size < 0 := by simpa using h
    have e : szFd s k = -1 := by unfold szFd; rw [if_pos g0]
    simp only [EV, Nat.reduceEqDiff, Nat.reduceBEq, Nat.reduceLT, Nat.reduceLeDiff, Nat.reduceAdd, Nat.reduceSub, reduceIte]
    simp only [e, EV, Nat.reduceEqDiff, Nat.reduceBEq, Nat.reduceLT, Nat.reduceLeDiff, Nat.reduceAdd, Nat.reduceSub, reduceIte, evRE, retVC, cellV', evR, nfz, nfzs, nfzss, List.contains_nil, List.contains_cons, Bool.or_false, or_true]
  · have g0 : ¬ k - s.name.size < 0 := by simpa using h
    simp only [EV, Nat.reduceEqDiff, Nat.reduceBEq, Nat.reduceLT, Nat.reduceLeDiff, Nat.reduceAdd, Nat.reduceSub, reduceIte]
    have e : szFd s k = k - s.name.size := by unfold szFd; rw [if_neg g0]
    simp only [e, EV, Nat.reduceEqDiff, Nat.reduceBEq, Nat.reduceLT, Nat.reduceLeDiff, Nat.reduceAdd, Nat.reduceSub, reduceIte, evRE, retVC, cellV', evR, nfz, nfzs, nfzss, List.contains_nil, List.contains_cons, Bool.or_false, or_true]

def szFds : List Fd → Int → Int
  | [], k => k
  | s :: r, k => if szFd s k < 0 then -1 else szFds r (szFd s k)

def szFdS (l : List Fd) (k : Int) : Int := if k - l.length < 0 then -1 else szFds l (k - l.length)

theorem szFds_le : ∀ (l : List Fd) (k : Int), 0 ≤ k → szFds l k ≤ k
  | [], k, h => by simp [szFds]
  | s :: r, k, h => by
    simp only [szFds]
    have h1 := szFd_le s k h
    split
    · omega
    · have := szFds_le r (szFd s k) (by omega)
      omega

theorem szFdS_le (l : List Fd) (k : Int) (h : 0 ≤ k) : szFdS l k ≤ k := by
  unfold szFdS
  split
  · omega
  · have := szFds_le l (k - l.length) (by omega); omega

def totFds : List Fd → Int
  | [] => 0
  | s :: r => 1 + totFd s + totFds r

theorem szFds_tot : ∀ (l : List Fd) (k : Int), 0 ≤ szFds l k → totFds l + szFds l k = k + l.length
  | [], k, h => by simp [szFds, totFds]
  | s :: r, k, h => by
    simp only [szFds] at h ⊢
    split
    · rename_i h1; rw [if_pos h1] at h; omega
    · rename_i h1
      rw [if_neg h1] at h
      have h2 := szFd_tot s k (by omega)
      have h3 := szFds_tot r _ h
      simp only [totFds, List.length_cons]
      omega

theorem szFdS_tot (l : List Fd) (k : Int) (h : 0 ≤ szFdS l k) : totFds l + szFdS l k = k := by
  unfold szFdS at h ⊢
  split
  · rename_i h1; rw [if_pos h1] at h; omega
  · rename_i h1
    rw [if_neg h1] at h
    have := szFds_tot l _ h
    omega

theorem totFds_nn : ∀ l : List Fd, (l.length : Int) ≤ totFds l
  | [] => by simp [totFds]
  | s :: r => by
    have := totFds_nn r
    have := totFd_nn s
    simp only [totFds, List.length_cons]
    omega

theorem totFds_mem : ∀ (l : List Fd) (s : Fd), s ∈ l → totFd s ≤ totFds l
  | x :: r, s, h => by
    simp only [totFds]
    have h3 := totFd_nn x
    have h2 := totFds_nn r
    rcases List.mem_cons.1 h with h | h
    · subst h; omega
    · have := totFds_mem r s h; omega

/-- loop.example/g00837/laws.szFieldS -/
def m24 : MC :=
  (.seq
   (.reg [⟨(some 4), none, .a (.asg (.c (.int .i64 0)))⟩])
   (.seq
    (.reg [⟨(some 6), none, .q (.mov (.t 1))⟩,
      ⟨(some 7), none, .q (.mov (.t 0))⟩,
      ⟨(some 8), none, .q (.len false (.t 7))⟩,
      ⟨(some 9), none, .q (.bin false .sub (.t 6) (.t 8))⟩,
      ⟨(some 1), none, .a (.asg (.t 9))⟩])
    (.seq
     (.seq
      (.reg [⟨(some 10), none, .q (.mov (.t 1))⟩,
        ⟨(some 11), none, .q (.bin false .lss (.t 10) (.c (.int .i64 0)))⟩])
      (.cond (.t 11)
       (.seq
        (.reg [⟨(some 4), none, .a (.asg (.c (.int .i64 (-1))))⟩])
        .ret)
       .skip))
     (.seq
      (.seq
       (.reg [⟨(some 5), none, .a (.asg (.c (.int .i64 0)))⟩])
       (.block 0
        (.loop [0, 1, 5]
         (.seq
          (.seq
           (.reg [⟨(some 12), none, .q (.mov (.t 5))⟩,
             ⟨(some 13), none, .q (.mov (.t 0))⟩,
             ⟨(some 14), none, .q (.len false (.t 13))⟩,
             ⟨(some 15), none, .q (.bin false .lss (.t 12) (.t 14))⟩])
           (.cond (.t 15)
            .skip
            (.exit 0)))
          (.seq
           (.block 1
            (.seq
             (.reg [⟨(some 18), none, .q (.mov (.t 0))⟩,
               ⟨(some 19), none, .q (.mov (.t 5))⟩,
               ⟨(some 20), none, .q (.iad 3 (.t 18) (.t 19))⟩,
               ⟨(some 21), none, .q (.load true 3 (.t 20))⟩,
               ⟨(some 22), none, .q (.mov (.t 1))⟩,
               ⟨(some 23), none, .a (.call (.fn 36) false [.lend (.t 21), .lend (.t 22)])⟩,
               ⟨(some 1), none, .a (.asg (.t 23))⟩])
             (.seq
              (.reg [⟨(some 24), none, .q (.mov (.t 1))⟩,
                ⟨(some 25), none, .q (.bin false .lss (.t 24) (.c (.int .i64 0)))⟩])
              (.cond (.t 25)
               (.seq
                (.reg [⟨(some 4), none, .a (.asg (.c (.int .i64 (-1))))⟩])
                .ret)
               .skip))))
           (.reg [⟨(some 16), none, .q (.mov (.t 5))⟩,
             ⟨(some 17), none, .q (.bin false .add (.t 16) (.c (.int .i64 1)))⟩,
             ⟨(some 5), none, .a (.asg (.t 17))⟩]))))))
      (.seq
       (.reg [⟨(some 26), none, .q (.mov (.t 1))⟩,
         ⟨(some 4), none, .a (.asg (.t 26))⟩])
       .ret)))))

theorem d24 (l : List Fd) (k : Int) (h0 : 0 ≤ k) (h1 : k ≤ 1048576) (hl : (l.length : Int) ≤ 9223372036854775807) (hs : ∀ s ∈ l, s.ok) :
    Does Go.Proofs.Try.prog 24 [.fsl 3 (l.map Fd.z), .v (.int .i64 k)] false (.v (.int .i64 (szFdS l k))) [.dead, .dead] := by
  refine does_intro (mc := m24) (N := 27) (rs := [4]) (fx := []) 2 rfl (by decide +kernel) ?_
  simp only [m24, EV, Nat.reduceEqDiff, Nat.reduceBEq, Nat.reduceLT, Nat.reduceLeDiff, Nat.reduceAdd, Nat.reduceSub, reduceIte]
  have w1 := w64 (k - l.length) (by omega)
  simp only [w1]
  refine cK_cut (fun h => ?_) (fun h => ?_)
  · have h2 : k - l.length < 0 := by simpa using h
    have e : szFdS l k = -1 := by simp [szFdS, h2]
    simp only [EV, Nat.reduceEqDiff, Nat.reduceBEq, Nat.reduceLT, Nat.reduceLeDiff, Nat.reduceAdd, Nat.reduceSub, reduceIte]
    simp only [e, EV, Nat.reduceEqDiff, Nat.reduceBEq, Nat.reduceLT, Nat.reduceLeDiff, Nat.reduceAdd, Nat.reduceSub, reduceIte, evRE, retVC, cellV', evR, nfz, nfzs, nfzss, List.contains_nil, List.contains_cons, Bool.or_false, or_true]
  · have h2 : ¬ k - l.length < 0 := by simpa using h
    have e : szFdS l k = szFds l (k - l.length) := by simp [szFdS, h2]
    simp only [EV, Nat.reduceEqDiff, Nat.reduceBEq, Nat.reduceLT, Nat.reduceLeDiff, Nat.reduceAdd, Nat.reduceSub, reduceIte]
    refine awp_loop (fun p : Nat × Int => p.1 ≤ l.length ∧ 0 ≤ p.2 ∧ p.2 ≤ 1048576 ∧ szFds (l.drop p.1) p.2 = szFdS l k)
      (fun p => stl [(0, .fsl 3 (l.map Fd.z)), (1, .v (.int .i64 p.2)), (5, .v (.int .i64 (p.1 : Int)))]) (fun p => l.length - p.1) (0, k - l.length) ⟨by simp, by simp only; omega, by simp only; omega, by simp [e]⟩ ?_ ?_
    · simp only [EV, Nat.reduceEqDiff, Nat.reduceBEq, Nat.reduceLT, Nat.reduceLeDiff, Nat.reduceAdd, Nat.reduceSub, reduceIte]
      rfl
    · rintro ⟨i, n⟩ ⟨p0, p1, p2, p3⟩
      simp only at p0 p1 p2 p3
      simp only [EV, Nat.reduceEqDiff, Nat.reduceBEq, Nat.reduceLT, Nat.reduceLeDiff, Nat.reduceAdd, Nat.reduceSub, reduceIte]
      refine cK_cut (fun h => ?_) (fun h => ?_)
      · have h3 : i < l.length := by simpa using h
        have h4 : (i : Int) < (l.length : Int) := by omega
        rw [List.drop_eq_getElem_cons h3] at p3
        simp only [szFds] at p3
        have hle := szFd_le l[i] n p1
        simp only [FdE, nth_map h3, h4, EV, Nat.reduceEqDiff, Nat.reduceBEq, Nat.reduceLT, Nat.reduceLeDiff, Nat.reduceAdd, Nat.reduceSub, reduceIte]
        refine callK_i (d36 l[i] n p1 p2 (hs l[i] (List.getElem_mem h3))) ?_
        simp only [FdE, nth_map h3, h4, EV, Nat.reduceEqDiff, Nat.reduceBEq, Nat.reduceLT, Nat.reduceLeDiff, Nat.reduceAdd, Nat.reduceSub, reduceIte]
        refine cK_cut (fun h => ?_) (fun h => ?_)
        · have h5 : szFd l[i] n < 0 := by simpa using h
          rw [if_pos h5] at p3
          simp only [EV, Nat.reduceEqDiff, Nat.reduceBEq, Nat.reduceLT, Nat.reduceLeDiff, Nat.reduceAdd, Nat.reduceSub, reduceIte]
          simp only [← p3, EV, Nat.reduceEqDiff, Nat.reduceBEq, Nat.reduceLT, Nat.reduceLeDiff, Nat.reduceAdd, Nat.reduceSub, reduceIte, evRE, retVC, cellV', evR, nfz, nfzs, nfzss, List.contains_nil, List.contains_cons, Bool.or_false, or_true]
        · have h5 : ¬ szFd l[i] n < 0 := by simpa using h
          rw [if_neg h5] at p3
          have w2 := w64 ((i : Int) + 1) (by omega)
          simp only [w2, EV, Nat.reduceEqDiff, Nat.reduceBEq, Nat.reduceLT, Nat.reduceLeDiff, Nat.reduceAdd, Nat.reduceSub, reduceIte]
          exact ⟨(i + 1, szFd l[i] n), ⟨by simp only; omega, by simp only; omega, by simp only; omega, p3⟩, by simp only; omega, rfl⟩
      · have h3 : i = l.length := by have : ¬ (i : Int) < l.length := by simpa using h
                                     omega
        subst h3
        rw [List.drop_length] at p3
        simp only [szFds] at p3
        simp only [EV, Nat.reduceEqDiff, Nat.reduceBEq, Nat.reduceLT, Nat.reduceLeDiff, Nat.reduceAdd, Nat.reduceSub, reduceIte]
        simp only [← p3, EV, Nat.reduceEqDiff, Nat.reduceBEq, Nat.reduceLT, Nat.reduceLeDiff, Nat.reduceAdd, Nat.reduceSub, reduceIte, evRE, retVC, cellV', evR, nfz, nfzs, nfzss, List.contains_nil, List.contains_cons, Bool.or_false, or_true]

/-- loop.example/g00837/laws.toField -/
def m43 : MC :=
  (.seq
   (.reg [⟨(some 1), none, .a (.box 59 (.t 0))⟩,
     ⟨(some 2), none, .a (.alloc 54 [.v (.string ({ data := #[] })), .v (.int .i64 0), .v (.int .i64 0)])⟩])
   (.seq
    (.reg [⟨(some 3), none, .a (.alloc 54 [.v (.string ({ data := #[] })), .v (.int .i64 0), .v (.int .i64 0)])⟩])
    (.seq
     (.reg [⟨(some 4), none, .q (.fad 0 (.t 1))⟩,
       ⟨(some 5), none, .q (.load false 1 (.t 4))⟩,
       ⟨(some 6), none, .q (.fad 0 (.t 3))⟩,
       ⟨none, none, .a (.store 1 (.t 6) (.t 5))⟩])
     (.seq
      (.reg [⟨(some 7), none, .q (.fad 1 (.t 1))⟩,
        ⟨(some 8), none, .q (.load false 1 (.t 7))⟩,
        ⟨(some 9), none, .q (.fad 1 (.t 3))⟩,
        ⟨none, none, .a (.store 1 (.t 9) (.t 8))⟩])
      (.seq
       (.reg [⟨(some 10), none, .q (.fad 2 (.t 1))⟩,
         ⟨(some 11), none, .q (.load false 1 (.t 10))⟩,
         ⟨(some 12), none, .q (.fad 2 (.t 3))⟩,
         ⟨none, none, .a (.store 1 (.t 12) (.t 11))⟩])
       (.seq
        (.reg [⟨(some 13), none, .q (.load true 3 (.t 3))⟩,
          ⟨none, none, .a (.store 3 (.t 2) (.t 13))⟩])
        .ret))))))

set_option maxRecDepth 100000 in
theorem d43 (s : Fd) (hs : s.sm) : Does Go.Proofs.Try.prog 43 [.agg s.z] false (.agg s.o) [.dead] := by
  unfold Fd.sm at hs
  refine does_introC (mc := m43) (N := 14) (r := 2) (ty := 54) (agg := true) (sz := 3) (fx := []) 1 rfl (by decide +kernel) ?_
  simp only [m43, Fd.z, Fd.o, EV, Nat.reduceEqDiff, Nat.reduceBEq, Nat.reduceLT, Nat.reduceLeDiff, Nat.reduceAdd, Nat.reduceSub, reduceIte]
  simp only [EV, Nat.reduceEqDiff, Nat.reduceBEq, Nat.reduceLT, Nat.reduceLeDiff, Nat.reduceAdd, Nat.reduceSub, reduceIte, evRE, retVC, cellV', evR, nfz, nfzs, nfzss, List.contains_nil, List.contains_cons, Bool.or_false, or_true]

/-- loop.example/g00837/laws.toFieldS -/
def m30 : MC :=
  (.seq
   (.reg [⟨(some 2), none, .a (.asg (.nils 54 3))⟩])
   (.seq
    (.reg [⟨(some 5), none, .q (.mov (.t 0))⟩,
      ⟨(some 6), none, .q (.len false (.t 5))⟩,
      ⟨(some 7), none, .a (.mks 54 3 32 [.v (.string ({ data := #[] })), .v (.int .i64 0), .v (.int .i64 0)] (.t 6) (.t 6))⟩,
      ⟨(some 3), none, .a (.asg (.t 7))⟩])
    (.seq
     (.seq
      (.reg [⟨(some 4), none, .a (.asg (.c (.int .i64 0)))⟩])
      (.block 0
       (.loop [0, 3, 4, 7]
        (.seq
         (.seq
          (.reg [⟨(some 8), none, .q (.mov (.t 4))⟩,
            ⟨(some 9), none, .q (.mov (.t 0))⟩,
            ⟨(some 10), none, .q (.len false (.t 9))⟩,
            ⟨(some 11), none, .q (.bin false .lss (.t 8) (.t 10))⟩])
          (.cond (.t 11)
           .skip
           (.exit 0)))
         (.seq
          (.block 1
           (.reg [⟨(some 14), none, .q (.mov (.t 3))⟩,
             ⟨(some 15), none, .q (.mov (.t 4))⟩,
             ⟨(some 16), none, .q (.mov (.t 0))⟩,
             ⟨(some 17), none, .q (.mov (.t 4))⟩,
             ⟨(some 18), none, .q (.iad 3 (.t 16) (.t 17))⟩,
             ⟨(some 19), none, .q (.load true 3 (.t 18))⟩,
             ⟨(some 20), none, .a (.call (.fn 43) false [.lend (.t 19)])⟩,
             ⟨(some 21), none, .q (.iad 3 (.t 14) (.t 15))⟩,
             ⟨none, none, .a (.store 3 (.t 21) (.t 20))⟩]))
          (.reg [⟨(some 12), none, .q (.mov (.t 4))⟩,
            ⟨(some 13), none, .q (.bin false .add (.t 12) (.c (.int .i64 1)))⟩,
            ⟨(some 4), none, .a (.asg (.t 13))⟩]))))))
     (.seq
      (.reg [⟨(some 22), none, .q (.mov (.t 3))⟩,
        ⟨(some 2), none, .a (.asg (.t 22))⟩])
      .ret))))

theorem d30 (l : List Fd) (hl : (l.length : Int) ≤ 1048576) (hs : ∀ s ∈ l, s.sm) : Does Go.Proofs.Try.prog 30 [.fsl 3 (l.map Fd.z)] false (.usl 54 3 (l.map Fd.o)) [.dead] := by
  refine does_intro (mc := m30) (N := 23) (rs := [2]) (fx := []) 1 rfl (by decide +kernel) ?_
  simp only [m30, EV, Nat.reduceEqDiff, Nat.reduceBEq, Nat.reduceLT, Nat.reduceLeDiff, Nat.reduceAdd, Nat.reduceSub, reduceIte]
  refine ⟨by omega, by omega, ?_⟩
  refine awp_loop (fun i : Nat => i ≤ l.length) (fun i => stl [(0, .fsl 3 (l.map Fd.z)), (3, .usl 54 3 ((l.take i).map Fd.o ++ List.replicate (l.length - i) Fd.zr)), (4, .v (.int .i64 (i : Int))), (7, .dead)]) (fun i => l.length - i) 0 (Nat.zero_le _) ?_ ?_
  · simp only [EV, Nat.reduceEqDiff, Nat.reduceBEq, Nat.reduceLT, Nat.reduceLeDiff, Nat.reduceAdd, Nat.reduceSub, reduceIte]
    rfl
  · intro i hi
    simp only [EV, Nat.reduceEqDiff, Nat.reduceBEq, Nat.reduceLT, Nat.reduceLeDiff, Nat.reduceAdd, Nat.reduceSub, reduceIte]
    refine cK_cut (fun h => ?_) (fun h => ?_)
    · have h1 : i < l.length := by simpa using h
      have h2 : (i : Int) < (l.length : Int) := by omega
      have h3 : ((l.take i).map Fd.o ++ List.replicate (l.length - i) Fd.zr).length = l.length := by simp; omega
      simp only [FdE, nth_map h1, h2, EV, Nat.reduceEqDiff, Nat.reduceBEq, Nat.reduceLT, Nat.reduceLeDiff, Nat.reduceAdd, Nat.reduceSub, reduceIte]
      refine callK_i (d43 l[i] (hs l[i] (List.getElem_mem h1))) ?_
      simp only [FdE, h2, h3, EV, Nat.reduceEqDiff, Nat.reduceBEq, Nat.reduceLT, Nat.reduceLeDiff, Nat.reduceAdd, Nat.reduceSub, reduceIte]
      refine ⟨h1, i + 1, by omega, by omega, ?_⟩
      have ez : l[i].o ++ List.drop 3 Fd.zr = l[i].o := List.append_nil _
      rw [fill_nth h1, w64 _ (by omega), ez, fill_set h1]
      rfl
    · have h1 : i = l.length := by have : ¬ (i : Int) < l.length := by simpa using h
                                   omega
      subst h1
      simp only [EV, Nat.reduceEqDiff, Nat.reduceBEq, Nat.reduceLT, Nat.reduceLeDiff, Nat.reduceAdd, Nat.reduceSub, reduceIte]
      simp only [Nat.sub_self, List.replicate_zero, Fd.nfz, EV, Nat.reduceEqDiff, Nat.reduceBEq, Nat.reduceLT, Nat.reduceLeDiff, Nat.reduceAdd, Nat.reduceSub, reduceIte, evRE, retVC, cellV', evR, nfz, nfzs, nfzss, List.contains_nil, List.contains_cons, Bool.or_false, or_true]

/-- loop.example/g00837/laws.eqField -/
def m57 : MC :=
  (.seq
   (.reg [⟨(some 2), none, .a (.box 54 (.t 0))⟩,
     ⟨(some 3), none, .a (.box 54 (.t 1))⟩,
     ⟨(some 4), none, .a (.asg (.c (.bool false)))⟩])
   (.seq
    (.seq
     (.reg [⟨(some 5), none, .q (.fad 0 (.t 2))⟩,
       ⟨(some 6), none, .q (.load false 1 (.t 5))⟩,
       ⟨(some 7), none, .q (.fad 0 (.t 3))⟩,
       ⟨(some 8), none, .q (.load false 1 (.t 7))⟩,
       ⟨(some 9), none, .q (.bin false .neq (.t 6) (.t 8))⟩])
     (.cond (.t 9)
      (.seq
       (.reg [⟨(some 4), none, .a (.asg (.c (.bool false)))⟩])
       .ret)
      .skip))
    (.seq
     (.seq
      (.reg [⟨(some 10), none, .q (.fad 1 (.t 2))⟩,
        ⟨(some 11), none, .q (.load false 1 (.t 10))⟩,
        ⟨(some 12), none, .q (.fad 1 (.t 3))⟩,
        ⟨(some 13), none, .q (.load false 1 (.t 12))⟩,
        ⟨(some 14), none, .q (.bin false .neq (.t 11) (.t 13))⟩])
      (.cond (.t 14)
       (.seq
        (.reg [⟨(some 4), none, .a (.asg (.c (.bool false)))⟩])
        .ret)
       .skip))
     (.seq
      (.seq
       (.reg [⟨(some 15), none, .q (.fad 2 (.t 2))⟩,
         ⟨(some 16), none, .q (.load false 1 (.t 15))⟩,
         ⟨(some 17), none, .q (.fad 2 (.t 3))⟩,
         ⟨(some 18), none, .q (.load false 1 (.t 17))⟩,
         ⟨(some 19), none, .q (.bin false .neq (.t 16) (.t 18))⟩])
       (.cond (.t 19)
        (.seq
         (.reg [⟨(some 4), none, .a (.asg (.c (.bool false)))⟩])
         .ret)
        .skip))
      (.seq
       (.reg [⟨(some 4), none, .a (.asg (.c (.bool true)))⟩])
       .ret)))))

set_option maxRecDepth 100000 in
theorem d57 (s : Fd) (hs : s.sm) : Does Go.Proofs.Try.prog 57 [.agg s.z, .agg s.z] false (.v (.bool true)) [.dead, .dead] := by
  unfold Fd.sm at hs
  refine does_intro (mc := m57) (N := 20) (rs := [4]) (fx := []) 2 rfl (by decide +kernel) ?_
  simp only [m57, Fd.z, EV, Nat.reduceEqDiff, Nat.reduceBEq, Nat.reduceLT, Nat.reduceLeDiff, Nat.reduceAdd, Nat.reduceSub, reduceIte]
  simp only [EV, Nat.reduceEqDiff, Nat.reduceBEq, Nat.reduceLT, Nat.reduceLeDiff, Nat.reduceAdd, Nat.reduceSub, reduceIte, evRE, retVC, cellV', evR, nfz, nfzs, nfzss, List.contains_nil, List.contains_cons, Bool.or_false, or_true]

/-- loop.example/g00837/laws.eqFieldS -/
def m35 : MC :=
  (.seq
   (.reg [⟨(some 4), none, .a (.asg (.c (.bool false)))⟩])
   (.seq
    (.seq
     (.reg [⟨(some 6), none, .q (.mov (.t 0))⟩,
       ⟨(some 7), none, .q (.len false (.t 6))⟩,
       ⟨(some 8), none, .q (.mov (.t 1))⟩,
       ⟨(some 9), none, .q (.len false (.t 8))⟩,
       ⟨(some 10), none, .q (.bin false .neq (.t 7) (.t 9))⟩])
     (.cond (.t 10)
      (.seq
       (.reg [⟨(some 4), none, .a (.asg (.c (.bool false)))⟩])
       .ret)
      .skip))
    (.seq
     (.seq
      (.reg [⟨(some 5), none, .a (.asg (.c (.int .i64 0)))⟩])
      (.block 0
       (.loop [0, 1, 5]
        (.seq
         (.seq
          (.reg [⟨(some 11), none, .q (.mov (.t 5))⟩,
            ⟨(some 12), none, .q (.mov (.t 0))⟩,
            ⟨(some 13), none, .q (.len false (.t 12))⟩,
            ⟨(some 14), none, .q (.bin false .lss (.t 11) (.t 13))⟩])
          (.cond (.t 14)
           .skip
           (.exit 0)))
         (.seq
          (.block 1
           (.seq
            (.dreg [⟨(some 17), none, .q (.mov (.t 0))⟩,
              ⟨(some 18), none, .q (.mov (.t 5))⟩,
              ⟨(some 19), none, .q (.iad 3 (.t 17) (.t 18))⟩,
              ⟨(some 20), none, .q (.load true 3 (.t 19))⟩,
              ⟨(some 21), none, .q (.mov (.t 1))⟩,
              ⟨(some 22), none, .q (.mov (.t 5))⟩,
              ⟨(some 23), none, .q (.iad 3 (.t 21) (.t 22))⟩,
              ⟨(some 24), none, .q (.load true 3 (.t 23))⟩,
              ⟨(some 25), none, .a (.call (.fn 57) false [.lend (.t 20), .lend (.t 24)])⟩,
              ⟨(some 26), none, .q (.un .not (.t 25))⟩])
            (.cond (.t 26)
             (.seq
              (.reg [⟨(some 4), none, .a (.asg (.c (.bool false)))⟩])
              .ret)
             .skip)))
          (.reg [⟨(some 15), none, .q (.mov (.t 5))⟩,
            ⟨(some 16), none, .q (.bin false .add (.t 15) (.c (.int .i64 1)))⟩,
            ⟨(some 5), none, .a (.asg (.t 16))⟩]))))))
     (.seq
      (.reg [⟨(some 4), none, .a (.asg (.c (.bool true)))⟩])
      .ret))))

theorem d35 (l : List Fd) (hl : (l.length : Int) ≤ 1048576) (hs : ∀ s ∈ l, s.sm) : Does Go.Proofs.Try.prog 35 [.fsl 3 (l.map Fd.z), .fsl 3 (l.map Fd.z)] false (.v (.bool true)) [.dead, .dead] := by
  refine does_intro (mc := m35) (N := 27) (rs := [4]) (fx := []) 2 rfl (by decide +kernel) ?_
  simp only [m35, EV, Nat.reduceEqDiff, Nat.reduceBEq, Nat.reduceLT, Nat.reduceLeDiff, Nat.reduceAdd, Nat.reduceSub, reduceIte]
  refine awp_loop (fun i : Nat => i ≤ l.length) (fun i => stl [(0, .fsl 3 (l.map Fd.z)), (1, .fsl 3 (l.map Fd.z)), (5, .v (.int .i64 (i : Int)))]) (fun i => l.length - i) 0 (Nat.zero_le _) ?_ ?_
  · simp only [EV, Nat.reduceEqDiff, Nat.reduceBEq, Nat.reduceLT, Nat.reduceLeDiff, Nat.reduceAdd, Nat.reduceSub, reduceIte]
    rfl
  · intro i hi
    simp only [EV, Nat.reduceEqDiff, Nat.reduceBEq, Nat.reduceLT, Nat.reduceLeDiff, Nat.reduceAdd, Nat.reduceSub, reduceIte]
    refine cK_cut (fun h => ?_) (fun h => ?_)
    · have h1 : i < l.length := by simpa using h
      have h2 : (i : Int) < (l.length : Int) := by omega
      simp only [FdE, nth_map h1, h2, EV, Nat.reduceEqDiff, Nat.reduceBEq, Nat.reduceLT, Nat.reduceLeDiff, Nat.reduceAdd, Nat.reduceSub, reduceIte]
      refine callD_i (d57 l[i] (hs l[i] (List.getElem_mem h1))) rfl ?_
      simp only [EV, Nat.reduceEqDiff, Nat.reduceBEq, Nat.reduceLT, Nat.reduceLeDiff, Nat.reduceAdd, Nat.reduceSub, reduceIte]
      refine ⟨i + 1, by omega, by omega, ?_⟩
      rw [w64 _ (by omega)]
      rfl
    · have h1 : i = l.length := by have : ¬ (i : Int) < l.length := by simpa using h
                                   omega
      simp only [EV, Nat.reduceEqDiff, Nat.reduceBEq, Nat.reduceLT, Nat.reduceLeDiff, Nat.reduceAdd, Nat.reduceSub, reduceIte]
      simp only [EV, Nat.reduceEqDiff, Nat.reduceBEq, Nat.reduceLT, Nat.reduceLeDiff, Nat.reduceAdd, Nat.reduceSub, reduceIte, evRE, retVC, cellV', evR, nfz, nfzs, nfzss, List.contains_nil, List.contains_cons, Bool.or_false, or_true]

end Go.AM
namespace Go.AM
set_option linter.unusedVariables false
set_option linter.unusedSimpArgs false
structure Ty where
  kind : Int
  long : Int
  base : Int
  fields : List Fd
  owner : ByteArray
  name : ByteArray

def Ty.z (s : Ty) : List AV := [.v (.int .i64 s.kind), .v (.int .i64 s.long), .v (.int .i64 s.base), .fsl 3 (s.fields.map Fd.z), .v (.string s.owner), .v (.string s.name)]

def Ty.o (s : Ty) : List AV := [.v (.int .i64 s.kind), .v (.int .i64 s.long), .v (.int .i64 s.base), .usl 54 3 (s.fields.map Fd.o), .v (.string s.owner), .v (.string s.name)]

def Ty.zr : List AV := [.v (.int .i64 0), .v (.int .i64 0), .v (.int .i64 0), .usl 54 3 [], .v (.string ⟨#[]⟩), .v (.string ⟨#[]⟩)]

theorem Ty.fr (s : Ty) : frzRow s.o = s.z := by
  simp only [Ty.o, Ty.z, frzRow, frzL, List.cons_append, List.nil_append, Fd.frz]

theorem Ty.frz : ∀ l : List Ty, frzRows (l.map Ty.o) = l.map Ty.z
  | [] => rfl
  | s :: l => by simp only [List.map_cons, frzRows, Ty.fr, Ty.frz l]

theorem Ty.nf (s : Ty) : nfzs s.o = true := by
  simp only [Ty.o, nfzs, nfz, List.cons_append, List.nil_append, Bool.and_self, Fd.nfz]

theorem Ty.nfz : ∀ l : List Ty, nfzss (l.map Ty.o) = true
  | [] => rfl
  | s :: l => by simp only [List.map_cons, nfzss, Ty.nf, Ty.nfz l, Bool.and_self]

theorem TyE : (∀ f : Ty, f.z.length = 6) ∧ (∀ f : Ty, f.z.take 6 = f.z) ∧ (∀ (st : St) (f : Ty), frzBs st f.z = f.z) ∧ (∀ f : Ty, bares f.z = true) ∧ (∀ f : Ty, plains f.z = true) ∧
    (∀ (f : Ty) (K : Nat → List (Nat × Nat) → Bool), killVs K f.z = f.z) ∧ (∀ f : Ty, f.z.all storL = true) ∧ (∀ f : Ty, f.o.length = 6) ∧ (∀ f : Ty, f.o.take 6 = f.o) ∧ (∀ f : Ty, bares f.o = false) ∧
    (∀ f : Ty, plains f.o = false) ∧ (∀ (f : Ty) (K : Nat → List (Nat × Nat) → Bool), killVs K f.o = f.o) ∧ (∀ f : Ty, f.o.all storL = true) :=
  ⟨fun _ => rfl, fun _ => rfl, fun _ _ => rfl, fun _ => rfl, fun _ => rfl, fun _ _ => rfl, fun _ => rfl, fun _ => rfl, fun _ => rfl, fun _ => rfl, fun _ => rfl, fun _ _ => rfl, fun _ => rfl⟩

def Ty.ok (s : Ty) : Prop := (-9223372036854775808 ≤ s.kind ∧ s.kind ≤ 9223372036854775807) ∧ (-9223372036854775808 ≤ s.long ∧ s.long ≤ 9223372036854775807) ∧ (-9223372036854775808 ≤ s.base ∧ s.base ≤ 9223372036854775807) ∧ ((s.fields.length : Int) ≤ 9223372036854775807 ∧ ∀ y ∈ s.fields, y.ok) ∧ (s.owner.size : Int) ≤ 9223372036854775807 ∧ (s.name.size : Int) ≤ 9223372036854775807

def Ty.sm (s : Ty) : Prop := True ∧ True ∧ True ∧ ((s.fields.length : Int) ≤ 1048576 ∧ ∀ y ∈ s.fields, y.sm) ∧ (s.owner.size : Int) ≤ 1048576 ∧ (s.name.size : Int) ≤ 1048576

def szTy (s : Ty) (k : Int) : Int := if szFdS s.fields (k) < 0 then -1 else if szFdS s.fields (k) - s.owner.size < 0 then -1 else if szFdS s.fields (k) - s.owner.size - s.name.size < 0 then -1 else szFdS s.fields (k) - s.owner.size - s.name.size

def totTy (s : Ty) : Int := totFds s.fields + (s.owner.size : Int) + (s.name.size : Int)

theorem szTy_le (s : Ty) (k : Int) (h : 0 ≤ k) : szTy s k ≤ k := by
  unfold szTy
  have l0 := szFdS_le s.fields (k) (by omega)
  by_cases g0 : szFdS s.fields (k) < 0
  · rw [if_pos g0]; omega
  rw [if_neg g0]
  by_cases g1 : szFdS s.fields (k) - s.owner.size < 0
  · rw [if_pos g1]; omega
  rw [if_neg g1]
  by_cases g2 : szFdS s.fields (k) - s.owner.size - s.name.size < 0
  · rw [if_pos g2]; omega
  rw [if_neg g2]
  omega

theorem szTy_tot (s : Ty) (k : Int) (h : 0 ≤ szTy s k) : totTy s + szTy s k = k := by
  unfold szTy at h ⊢
  unfold totTy
  by_cases g0 : szFdS s.fields (k) < 0
  · rw [if_pos g0] at h; omega
  rw [if_neg g0] at h ⊢
  have t0 := szFdS_tot s.fields (k) (by omega)
  by_cases g1 : szFdS s.fields (k) - s.owner.size < 0
  · rw [if_pos g1] at h; omega
  rw [if_neg g1] at h ⊢
  by_cases g2 : szFdS s.fields (k) - s.owner.size - s.name.size < 0
  · rw [if_pos g2] at h; omega
  rw [if_neg g2] at h ⊢
  omega

theorem totTy_nn (s : Ty) : 0 ≤ totTy s := by
  unfold totTy
  have n3 := totFds_nn s.fields
  omega

theorem Ty.sm_of (s : Ty) (h : totTy s ≤ 1048576) : s.sm := by
  unfold totTy at h
  have n3 := totFds_nn s.fields
  exact ⟨trivial, trivial, trivial, ⟨by omega, fun y hy => Fd.sm_of y (by have := totFds_mem s.fields y hy; omega)⟩, by omega, by omega⟩

/-- loop.example/g00837/laws.szType -/
def m13 : MC :=
  (.seq
   (.reg [⟨(some 2), none, .a (.box 37 (.t 0))⟩,
     ⟨(some 4), none, .a (.asg (.c (.int .i64 0)))⟩])
   (.seq
    (.reg [⟨(some 5), none, .q (.fad 3 (.t 2))⟩,
      ⟨(some 6), none, .q (.load false 1 (.t 5))⟩,
      ⟨(some 7), none, .q (.mov (.t 1))⟩,
      ⟨(some 8), none, .a (.call (.fn 24) false [.lend (.t 6), .lend (.t 7)])⟩,
      ⟨(some 1), none, .a (.asg (.t 8))⟩])
    (.seq
     (.seq
      (.reg [⟨(some 9), none, .q (.mov (.t 1))⟩,
        ⟨(some 10), none, .q (.bin false .lss (.t 9) (.c (.int .i64 0)))⟩])
      (.cond (.t 10)
       (.seq
        (.reg [⟨(some 4), none, .a (.asg (.c (.int .i64 (-1))))⟩])
        .ret)
       .skip))
     (.seq
      (.reg [⟨(some 11), none, .q (.mov (.t 1))⟩,
        ⟨(some 12), none, .q (.fad 4 (.t 2))⟩,
        ⟨(some 13), none, .q (.load false 1 (.t 12))⟩,
        ⟨(some 14), none, .q (.len true (.t 13))⟩,
        ⟨(some 15), none, .q (.bin false .sub (.t 11) (.t 14))⟩,
        ⟨(some 1), none, .a (.asg (.t 15))⟩])
      (.seq
       (.seq
        (.reg [⟨(some 16), none, .q (.mov (.t 1))⟩,
          ⟨(some 17), none, .q (.bin false .lss (.t 16) (.c (.int .i64 0)))⟩])
        (.cond (.t 17)
         (.seq
          (.reg [⟨(some 4), none, .a (.asg (.c (.int .i64 (-1))))⟩])
          .ret)
         .skip))
       (.seq
        (.reg [⟨(some 18), none, .q (.mov (.t 1))⟩,
          ⟨(some 19), none, .q (.fad 5 (.t 2))⟩,
          ⟨(some 20), none, .q (.load false 1 (.t 19))⟩,
          ⟨(some 21), none, .q (.len true (.t 20))⟩,
          ⟨(some 22), none, .q (.bin false .sub (.t 18) (.t 21))⟩,
          ⟨(some 1), none, .a (.asg (.t 22))⟩])
        (.seq
         (.seq
          (.reg [⟨(some 23), none, .q (.mov (.t 1))⟩,
            ⟨(some 24), none, .q (.bin false .lss (.t 23) (.c (.int .i64 0)))⟩])
          (.cond (.t 24)
           (.seq
            (.reg [⟨(some 4), none, .a (.asg (.c (.int .i64 (-1))))⟩])
            .ret)
           .skip))
         (.seq
          (.reg [⟨(some 25), none, .q (.mov (.t 1))⟩,
            ⟨(some 4), none, .a (.asg (.t 25))⟩])
          .ret))))))))

set_option maxRecDepth 100000 in
theorem d13 (s : Ty) (k : Int) (h0 : 0 ≤ k) (h1 : k ≤ 1048576) (hok : s.ok) : Does Go.Proofs.Try.prog 13 [.agg s.z, .v (.int .i64 k)] false (.v (.int .i64 (szTy s k))) [.dead, .dead] := by
  unfold Ty.ok at hok
  refine does_intro (mc := m13) (N := 26) (rs := [4]) (fx := []) 2 rfl (by decide +kernel) ?_
  simp only [m13, Ty.z, EV, Nat.reduceEqDiff, Nat.reduceBEq, Nat.reduceLT, Nat.reduceLeDiff, Nat.reduceAdd, Nat.reduceSub, reduceIte]
  have l0 := szFdS_le s.fields (k) (by omega)
  refine callK_i (d24 s.fields (k) (by omega) (by omega) (hok.2.2.2.1).1 (hok.2.2.2.1).2) ?_
  simp only [EV, Nat.reduceEqDiff, Nat.reduceBEq, Nat.reduceLT, Nat.reduceLeDiff, Nat.reduceAdd, Nat.reduceSub, reduceIte]
  refine cK_cut (fun h => ?_) (fun h => ?_)
  · have g0 : szFdS s.fields (k) < 0 := by simpa using h
    have e : szTy s k = -1 := by unfold szTy; rw [if_pos g0]
    simp only [EV, Nat.reduceEqDiff, Nat.reduceBEq, Nat.reduceLT, Nat.reduceLeDiff, Nat.reduceAdd, Nat.reduceSub, reduceIte]
    simp only [e, EV, Nat.reduceEqDiff, Nat.reduceBEq, Nat.reduceLT, Nat.reduceLeDiff, Nat.reduceAdd, Nat.reduceSub, reduceIte, evRE, retVC, cellV', evR, nfz, nfzs, nfzss, List.contains_nil, List.contains_cons, Bool.or_false, or_true]
  · have g0 : ¬ szFdS s.fields (k) < 0 := by simpa using h
    simp only [EV, Nat.reduceEqDiff, Nat.reduceBEq, Nat.reduceLT, Nat.reduceLeDiff, Nat.reduceAdd, Nat.reduceSub, reduceIte]
    have b1 := hok.2.2.2.2.1
    have w1 := w64 (szFdS s.fields (k) - s.owner.size) (by omega)
    simp only [w1, EV, Nat.reduceEqDiff, Nat.reduceBEq, Nat.reduceLT, Nat.reduceLeDiff, Nat.reduceAdd, Nat.reduceSub, reduceIte]
    refine cK_cut (fun h => ?_) (fun h => ?_)
    · have g1 : szFdS s.fields (k) - s.owner.size < 0 := by simpa using h
      have e : szTy s k = -1 := by unfold szTy; rw [if_neg g0, if_pos g1]
      simp only [EV, Nat.reduceEqDiff, Nat.reduceBEq, Nat.reduceLT, Nat.reduceLeDiff, Nat.reduceAdd, Nat.reduceSub, reduceIte]
      simp only [e, EV, Nat.reduceEqDiff, Nat.reduceBEq, Nat.reduceLT, Nat.reduceLeDiff, Nat.reduceAdd, Nat.reduceSub, reduceIte, evRE, retVC, cellV', evR, nfz, nfzs, nfzss, List.contains_nil, List.contains_cons, Bool.or_false, or_true]
    · have g1 : ¬ szFdS s.fields (k) - s.owner.size < 0 := by simpa using h
      simp only [EV, Nat.reduceEqDiff, Nat.reduceBEq, Nat.reduceLT, Nat.reduceLeDiff, Nat.reduceAdd, Nat.reduceSub, reduceIte]
      have b2 := hok.2.2.2.2.2
      have w2 := w64 (szFdS s.fields (k) - s.owner.size - s.name.size) (by omega)
      simp only [w2, EV, Nat.reduceEqDiff, Nat.reduceBEq, Nat.reduceLT, Nat.reduceLeDiff, Nat.reduceAdd, Nat.reduceSub, reduceIte]
      refine cK_cut (fun h => ?_) (fun h => ?_)
      · have g2 : szFdS s.fields (k) - s.owner.size - s.name.size < 0 := by simpa using h
        have e : szTy s k = -1 := by unfold szTy; rw [if_neg g0, if_neg g1, if_pos g2]
        simp only [EV, Nat.reduceEqDiff, Nat.reduceBEq, Nat.reduceLT, Nat.reduceLeDiff, Nat.reduceAdd, Nat.reduceSub, reduceIte]
        simp only [e, EV, Nat.reduceEqDiff, Nat.reduceBEq, Nat.reduceLT, Nat.reduceLeDiff, Nat.reduceAdd, Nat.reduceSub, reduceIte, evRE, retVC, cellV', evR, nfz, nfzs, nfzss, List.contains_nil, List.contains_cons, Bool.or_false, or_true]
      · have g2 : ¬ szFdS s.fields (k) - s.owner.size - s.name.size < 0 := by simpa using h
        simp only [EV, Nat.reduceEqDiff, Nat.reduceBEq, Nat.reduceLT, Nat.reduceLeDiff, Nat.reduceAdd, Nat.reduceSub, reduceIte]
        have e : szTy s k = szFdS s.fields (k) - s.owner.size - s.name.size := by unfold szTy; rw [if_neg g0, if_neg g1, if_neg g2]
        simp only [e, EV, Nat.reduceEqDiff, Nat.reduceBEq, Nat.reduceLT, Nat.reduceLeDiff, Nat.reduceAdd, Nat.reduceSub, reduceIte, evRE, retVC, cellV', evR, nfz, nfzs, nfzss, List.contains_nil, List.contains_cons, Bool.or_false, or_true]

def szTys : List Ty → Int → Int
  | [], k => k
  | s :: r, k => if szTy s k < 0 then -1 else szTys r (szTy s k)

def szTyS (l : List Ty) (k : Int) : Int := if k - l.length < 0 then -1 else szTys l (k - l.length)

def totTys : List Ty → Int
  | [] => 0
  | s :: r => 1 + totTy s + totTys r

theorem szTys_tot : ∀ (l : List Ty) (k : Int), 0 ≤ szTys l k → totTys l + szTys l k = k + l.length
  | [], k, h => by simp [szTys, totTys]
  | s :: r, k, h => by
    simp only [szTys] at h ⊢
    split
    · rename_i h1; rw [if_pos h1] at h; omega
    · rename_i h1
      rw [if_neg h1] at h
      have h2 := szTy_tot s k (by omega)
      have h3 := szTys_tot r _ h
      simp only [totTys, List.length_cons]
      omega

theorem szTyS_tot (l : List Ty) (k : Int) (h : 0 ≤ szTyS l k) : totTys l + szTyS l k = k := by
  unfold szTyS at h ⊢
  split
  · rename_i h1; rw [if_pos h1] at h; omega
  · rename_i h1
    rw [if_neg h1] at h
    have := szTys_tot l _ h
    omega

theorem totTys_nn : ∀ l : List Ty, (l.length : Int) ≤ totTys l
  | [] => by simp [totTys]
  | s :: r => by
    have := totTys_nn r
    have := totTy_nn s
    simp only [totTys, List.length_cons]
    omega

theorem totTys_mem : ∀ (l : List Ty) (s : Ty), s ∈ l → totTy s ≤ totTys l
  | x :: r, s, h => by
    simp only [totTys]
    have h3 := totTy_nn x
    have h2 := totTys_nn r
    rcases List.mem_cons.1 h with h | h
    · subst h; omega
    · have := totTys_mem r s h; omega

/-- loop.example/g00837/laws.szTypeS -/
def m4 : MC :=
  (.seq
   (.reg [⟨(some 4), none, .a (.asg (.c (.int .i64 0)))⟩])
   (.seq
    (.reg [⟨(some 6), none, .q (.mov (.t 1))⟩,
      ⟨(some 7), none, .q (.mov (.t 0))⟩,
      ⟨(some 8), none, .q (.len false (.t 7))⟩,
      ⟨(some 9), none, .q (.bin false .sub (.t 6) (.t 8))⟩,
      ⟨(some 1), none, .a (.asg (.t 9))⟩])
    (.seq
     (.seq
      (.reg [⟨(some 10), none, .q (.mov (.t 1))⟩,
        ⟨(some 11), none, .q (.bin false .lss (.t 10) (.c (.int .i64 0)))⟩])
      (.cond (.t 11)
       (.seq
        (.reg [⟨(some 4), none, .a (.asg (.c (.int .i64 (-1))))⟩])
        .ret)
       .skip))
     (.seq
      (.seq
       (.reg [⟨(some 5), none, .a (.asg (.c (.int .i64 0)))⟩])
       (.block 0
        (.loop [0, 1, 5]
         (.seq
          (.seq
           (.reg [⟨(some 12), none, .q (.mov (.t 5))⟩,
             ⟨(some 13), none, .q (.mov (.t 0))⟩,
             ⟨(some 14), none, .q (.len false (.t 13))⟩,
             ⟨(some 15), none, .q (.bin false .lss (.t 12) (.t 14))⟩])
           (.cond (.t 15)
            .skip
            (.exit 0)))
          (.seq
           (.block 1
            (.seq
             (.reg [⟨(some 18), none, .q (.mov (.t 0))⟩,
               ⟨(some 19), none, .q (.mov (.t 5))⟩,
               ⟨(some 20), none, .q (.iad 6 (.t 18) (.t 19))⟩,
               ⟨(some 21), none, .q (.load true 6 (.t 20))⟩,
               ⟨(some 22), none, .q (.mov (.t 1))⟩,
               ⟨(some 23), none, .a (.call (.fn 13) false [.lend (.t 21), .lend (.t 22)])⟩,
               ⟨(some 1), none, .a (.asg (.t 23))⟩])
             (.seq
              (.reg [⟨(some 24), none, .q (.mov (.t 1))⟩,
                ⟨(some 25), none, .q (.bin false .lss (.t 24) (.c (.int .i64 0)))⟩])
              (.cond (.t 25)
               (.seq
                (.reg [⟨(some 4), none, .a (.asg (.c (.int .i64 (-1))))⟩])
                .ret)
               .skip))))
           (.reg [⟨(some 16), none, .q (.mov (.t 5))⟩,
             ⟨(some 17), none, .q (.bin false .add (.t 16) (.c (.int .i64 1)))⟩,
             ⟨(some 5), none, .a (.asg (.t 17))⟩]))))))
      (.seq
       (.reg [⟨(some 26), none, .q (.mov (.t 1))⟩,
         ⟨(some 4), none, .a (.asg (.t 26))⟩])
       .ret)))))

theorem d4 (l : List Ty) (k : Int) (h0 : 0 ≤ k) (h1 : k ≤ 1048576) (hl : (l.length : Int) ≤ 9223372036854775807) (hs : ∀ s ∈ l, s.ok) :
    Does Go.Proofs.Try.prog 4 [.fsl 6 (l.map Ty.z), .v (.int .i64 k)] false (.v (.int .i64 (szTyS l k))) [.dead, .dead] := by
  refine does_intro (mc := m4) (N := 27) (rs := [4]) (fx := []) 2 rfl (by decide +kernel) ?_
  simp only [m4, EV, Nat.reduceEqDiff, Nat.reduceBEq, Nat.reduceLT, Nat.reduceLeDiff, Nat.reduceAdd, Nat.reduceSub, reduceIte]
  have w1 := w64 (k - l.length) (by omega)
  simp only [w1]
  refine cK_cut (fun h => ?_) (fun h => ?_)
  · have h2 : k - l.length < 0 := by simpa using h
    have e : szTyS l k = -1 := by simp [szTyS, h2]
    simp only [EV, Nat.reduceEqDiff, Nat.reduceBEq, Nat.reduceLT, Nat.reduceLeDiff, Nat.reduceAdd, Nat.reduceSub, reduceIte]
    simp only [e, EV, Nat.reduceEqDiff, Nat.reduceBEq, Nat.reduceLT, Nat.reduceLeDiff, Nat.reduceAdd, Nat.reduceSub, reduceIte, evRE, retVC, cellV', evR, nfz, nfzs, nfzss, List.contains_nil, List.contains_cons, Bool.or_false, or_true]
  · have h2 : ¬ k - l.length < 0 := by simpa using h
    have e : szTyS l k = szTys l (k - l.length) := by simp [szTyS, h2]
    simp only [EV, Nat.reduceEqDiff, Nat.reduceBEq, Nat.reduceLT, Nat.reduceLeDiff, Nat.reduceAdd, Nat.reduceSub, reduceIte]
    refine awp_loop (fun p : Nat × Int => p.1 ≤ l.length ∧ 0 ≤ p.2 ∧ p.2 ≤ 1048576 ∧ szTys (l.drop p.1) p.2 = szTyS l k)
      (fun p => stl [(0, .fsl 6 (l.map Ty.z)), (1, .v (.int .i64 p.2)), (5, .v (.int .i64 (p.1 : Int)))]) (fun p => l.length - p.1) (0, k - l.length) ⟨by simp, by simp only; omega, by simp only; omega, by simp [e]⟩ ?_ ?_
    · simp only [EV, Nat.reduceEqDiff, Nat.reduceBEq, Nat.reduceLT, Nat.reduceLeDiff, Nat.reduceAdd, Nat.reduceSub, reduceIte]
      rfl
    · rintro ⟨i, n⟩ ⟨p0, p1, p2, p3⟩
      simp only at p0 p1 p2 p3
      simp only [EV, Nat.reduceEqDiff, Nat.reduceBEq, Nat.reduceLT, Nat.reduceLeDiff, Nat.reduceAdd, Nat.reduceSub, reduceIte]
      refine cK_cut (fun h => ?_) (fun h => ?_)
      · have h3 : i < l.length := by simpa using h
        have h4 : (i : Int) < (l.length : Int) := by omega
        rw [List.drop_eq_getElem_cons h3] at p3
        simp only [szTys] at p3
        have hle := szTy_le l[i] n p1
        simp only [TyE, nth_map h3, h4, EV, Nat.reduceEqDiff, Nat.reduceBEq, Nat.reduceLT, Nat.reduceLeDiff, Nat.reduceAdd, Nat.reduceSub, reduceIte]
        refine callK_i (d13 l[i] n p1 p2 (hs l[i] (List.getElem_mem h3))) ?_
        simp only [TyE, nth_map h3, h4, EV, Nat.reduceEqDiff, Nat.reduceBEq, Nat.reduceLT, Nat.reduceLeDiff, Nat.reduceAdd, Nat.reduceSub, reduceIte]
        refine cK_cut (fun h => ?_) (fun h => ?_)
        · have h5 : szTy l[i] n < 0 := by simpa using h
          rw [if_pos h5] at p3
          simp only [EV, Nat.reduceEqDiff, Nat.reduceBEq, Nat.reduceLT, Nat.reduceLeDiff, Nat.reduceAdd, Nat.reduceSub, reduceIte]
          simp only [← p3, EV, Nat.reduceEqDiff, Nat.reduceBEq, Nat.reduceLT, Nat.reduceLeDiff, Nat.reduceAdd, Nat.reduceSub, reduceIte, evRE, retVC, cellV', evR, nfz, nfzs, nfzss, List.contains_nil, List.contains_cons, Bool.or_false, or_true]
        · have h5 : ¬ szTy l[i] n < 0 := by simpa using h
          rw [if_neg h5] at p3
          have w2 := w64 ((i : Int) + 1) (by omega)
          simp only [w2, EV, Nat.reduceEqDiff, Nat.reduceBEq, Nat.reduceLT, Nat.reduceLeDiff, Nat.reduceAdd, Nat.reduceSub, reduceIte]
          exact ⟨(i + 1, szTy l[i] n), ⟨by simp only; omega, by simp only; omega, by simp only; omega, p3⟩, by simp only; omega, rfl⟩
      · have h3 : i = l.length := by have : ¬ (i : Int) < l.length := by simpa using h
                                     omega
        subst h3
        rw [List.drop_length] at p3
        simp only [szTys] at p3
        simp only [EV, Nat.reduceEqDiff, Nat.reduceBEq, Nat.reduceLT, Nat.reduceLeDiff, Nat.reduceAdd, Nat.reduceSub, reduceIte]
        simp only [← p3, EV, Nat.reduceEqDiff, Nat.reduceBEq, Nat.reduceLT, Nat.reduceLeDiff, Nat.reduceAdd, Nat.reduceSub, reduceIte, evRE, retVC, cellV', evR, nfz, nfzs, nfzss, List.contains_nil, List.contains_cons, Bool.or_false, or_true]

/-- loop.example/g00837/laws.toType -/
def m17 : MC :=
  (.seq
   (.reg [⟨(some 1), none, .a (.box 37 (.t 0))⟩,
     ⟨(some 2), none, .a (.alloc 43 [.v (.int .i64 0), .v (.int .i64 0), .v (.int .i64 0), .s 54 3, .v (.string ({ data := #[] })), .v (.string ({ data := #[] }))])⟩])
   (.seq
    (.reg [⟨(some 3), none, .a (.alloc 43 [.v (.int .i64 0), .v (.int .i64 0), .v (.int .i64 0), .s 54 3, .v (.string ({ data := #[] })), .v (.string ({ data := #[] }))])⟩])
    (.seq
     (.reg [⟨(some 4), none, .q (.fad 0 (.t 1))⟩,
       ⟨(some 5), none, .q (.load false 1 (.t 4))⟩,
       ⟨(some 6), none, .q (.fad 0 (.t 3))⟩,
       ⟨none, none, .a (.store 1 (.t 6) (.t 5))⟩])
     (.seq
      (.reg [⟨(some 7), none, .q (.fad 1 (.t 1))⟩,
        ⟨(some 8), none, .q (.load false 1 (.t 7))⟩,
        ⟨(some 9), none, .q (.fad 1 (.t 3))⟩,
        ⟨none, none, .a (.store 1 (.t 9) (.t 8))⟩])
      (.seq
       (.reg [⟨(some 10), none, .q (.fad 2 (.t 1))⟩,
         ⟨(some 11), none, .q (.load false 1 (.t 10))⟩,
         ⟨(some 12), none, .q (.fad 2 (.t 3))⟩,
         ⟨none, none, .a (.store 1 (.t 12) (.t 11))⟩])
       (.seq
        (.reg [⟨(some 13), none, .q (.fad 3 (.t 1))⟩,
          ⟨(some 14), none, .q (.load false 1 (.t 13))⟩,
          ⟨(some 15), none, .a (.call (.fn 30) false [.lend (.t 14)])⟩,
          ⟨(some 16), none, .q (.fad 3 (.t 3))⟩,
          ⟨none, none, .a (.store 1 (.t 16) (.t 15))⟩])
        (.seq
         (.reg [⟨(some 17), none, .q (.fad 4 (.t 1))⟩,
           ⟨(some 18), none, .q (.load false 1 (.t 17))⟩,
           ⟨(some 19), none, .q (.fad 4 (.t 3))⟩,
           ⟨none, none, .a (.store 1 (.t 19) (.t 18))⟩])
         (.seq
          (.reg [⟨(some 20), none, .q (.fad 5 (.t 1))⟩,
            ⟨(some 21), none, .q (.load false 1 (.t 20))⟩,
            ⟨(some 22), none, .q (.fad 5 (.t 3))⟩,
            ⟨none, none, .a (.store 1 (.t 22) (.t 21))⟩])
          (.seq
           (.reg [⟨(some 23), none, .q (.load true 6 (.t 3))⟩,
             ⟨none, none, .a (.store 6 (.t 2) (.t 23))⟩])
           .ret)))))))))

set_option maxRecDepth 100000 in
theorem d17 (s : Ty) (hs : s.sm) : Does Go.Proofs.Try.prog 17 [.agg s.z] false (.agg s.o) [.dead] := by
  unfold Ty.sm at hs
  refine does_introC (mc := m17) (N := 24) (r := 2) (ty := 43) (agg := true) (sz := 6) (fx := []) 1 rfl (by decide +kernel) ?_
  simp only [m17, Ty.z, Ty.o, EV, Nat.reduceEqDiff, Nat.reduceBEq, Nat.reduceLT, Nat.reduceLeDiff, Nat.reduceAdd, Nat.reduceSub, reduceIte]
  refine callK_i (d30 s.fields (hs.2.2.2.1).1 (hs.2.2.2.1).2) ?_
  simp only [Ty.z, Ty.o, EV, Nat.reduceEqDiff, Nat.reduceBEq, Nat.reduceLT, Nat.reduceLeDiff, Nat.reduceAdd, Nat.reduceSub, reduceIte]
  simp only [Fd.nfz, EV, Nat.reduceEqDiff, Nat.reduceBEq, Nat.reduceLT, Nat.reduceLeDiff, Nat.reduceAdd, Nat.reduceSub, reduceIte, evRE, retVC, cellV', evR, nfz, nfzs, nfzss, List.contains_nil, List.contains_cons, Bool.or_false, or_true]

/-- loop.example/g00837/laws.toTypeS -/
def m6 : MC :=
  (.seq
   (.reg [⟨(some 2), none, .a (.asg (.nils 43 6))⟩])
   (.seq
    (.reg [⟨(some 5), none, .q (.mov (.t 0))⟩,
      ⟨(some 6), none, .q (.len false (.t 5))⟩,
      ⟨(some 7), none, .a (.mks 43 6 80 [.v (.int .i64 0), .v (.int .i64 0), .v (.int .i64 0), .s 54 3, .v (.string ({ data := #[] })), .v (.string ({ data := #[] }))] (.t 6) (.t 6))⟩,
      ⟨(some 3), none, .a (.asg (.t 7))⟩])
    (.seq
     (.seq
      (.reg [⟨(some 4), none, .a (.asg (.c (.int .i64 0)))⟩])
      (.block 0
       (.loop [0, 3, 4, 7]
        (.seq
         (.seq
          (.reg [⟨(some 8), none, .q (.mov (.t 4))⟩,
            ⟨(some 9), none, .q (.mov (.t 0))⟩,
            ⟨(some 10), none, .q (.len false (.t 9))⟩,
            ⟨(some 11), none, .q (.bin false .lss (.t 8) (.t 10))⟩])
          (.cond (.t 11)
           .skip
           (.exit 0)))
         (.seq
          (.block 1
           (.reg [⟨(some 14), none, .q (.mov (.t 3))⟩,
             ⟨(some 15), none, .q (.mov (.t 4))⟩,
             ⟨(some 16), none, .q (.mov (.t 0))⟩,
             ⟨(some 17), none, .q (.mov (.t 4))⟩,
             ⟨(some 18), none, .q (.iad 6 (.t 16) (.t 17))⟩,
             ⟨(some 19), none, .q (.load true 6 (.t 18))⟩,
             ⟨(some 20), none, .a (.call (.fn 17) false [.lend (.t 19)])⟩,
             ⟨(some 21), none, .q (.iad 6 (.t 14) (.t 15))⟩,
             ⟨none, none, .a (.store 6 (.t 21) (.t 20))⟩]))
          (.reg [⟨(some 12), none, .q (.mov (.t 4))⟩,
            ⟨(some 13), none, .q (.bin false .add (.t 12) (.c (.int .i64 1)))⟩,
            ⟨(some 4), none, .a (.asg (.t 13))⟩]))))))
     (.seq
      (.reg [⟨(some 22), none, .q (.mov (.t 3))⟩,
        ⟨(some 2), none, .a (.asg (.t 22))⟩])
      .ret))))

theorem d6 (l : List Ty) (hl : (l.length : Int) ≤ 1048576) (hs : ∀ s ∈ l, s.sm) : Does Go.Proofs.Try.prog 6 [.fsl 6 (l.map Ty.z)] false (.usl 43 6 (l.map Ty.o)) [.dead] := by
  refine does_intro (mc := m6) (N := 23) (rs := [2]) (fx := []) 1 rfl (by decide +kernel) ?_
  simp only [m6, EV, Nat.reduceEqDiff, Nat.reduceBEq, Nat.reduceLT, Nat.reduceLeDiff, Nat.reduceAdd, Nat.reduceSub, reduceIte]
  refine ⟨by omega, by omega, ?_⟩
  refine awp_loop (fun i : Nat => i ≤ l.length) (fun i => stl [(0, .fsl 6 (l.map Ty.z)), (3, .usl 43 6 ((l.take i).map Ty.o ++ List.replicate (l.length - i) Ty.zr)), (4, .v (.int .i64 (i : Int))), (7, .dead)]) (fun i => l.length - i) 0 (Nat.zero_le _) ?_ ?_
  · simp only [EV, Nat.reduceEqDiff, Nat.reduceBEq, Nat.reduceLT, Nat.reduceLeDiff, Nat.reduceAdd, Nat.reduceSub, reduceIte]
    rfl
  · intro i hi
    simp only [EV, Nat.reduceEqDiff, Nat.reduceBEq, Nat.reduceLT, Nat.reduceLeDiff, Nat.reduceAdd, Nat.reduceSub, reduceIte]
    refine cK_cut (fun h => ?_) (fun h => ?_)
    · have h1 : i < l.length := by simpa using h
      have h2 : (i : Int) < (l.length : Int) := by omega
      have h3 : ((l.take i).map Ty.o ++ List.replicate (l.length - i) Ty.zr).length = l.length := by simp; omega
      simp only [TyE, nth_map h1, h2, EV, Nat.reduceEqDiff, Nat.reduceBEq, Nat.reduceLT, Nat.reduceLeDiff, Nat.reduceAdd, Nat.reduceSub, reduceIte]
      refine callK_i (d17 l[i] (hs l[i] (List.getElem_mem h1))) ?_
      simp only [TyE, h2, h3, EV, Nat.reduceEqDiff, Nat.reduceBEq, Nat.reduceLT, Nat.reduceLeDiff, Nat.reduceAdd, Nat.reduceSub, reduceIte]
      refine ⟨h1, i + 1, by omega, by omega, ?_⟩
      have ez : l[i].o ++ List.drop 6 Ty.zr = l[i].o := List.append_nil _
      rw [fill_nth h1, w64 _ (by omega), ez, fill_set h1]
      rfl
    · have h1 : i = l.length := by have : ¬ (i : Int) < l.length := by simpa using h
                                   omega
      subst h1
      simp only [EV, Nat.reduceEqDiff, Nat.reduceBEq, Nat.reduceLT, Nat.reduceLeDiff, Nat.reduceAdd, Nat.reduceSub, reduceIte]
      simp only [Nat.sub_self, List.replicate_zero, Ty.nfz, EV, Nat.reduceEqDiff, Nat.reduceBEq, Nat.reduceLT, Nat.reduceLeDiff, Nat.reduceAdd, Nat.reduceSub, reduceIte, evRE, retVC, cellV', evR, nfz, nfzs, nfzss, List.contains_nil, List.contains_cons, Bool.or_false, or_true]

/-- loop.example/g00837/laws.eqType -/
def m21 : MC :=
  (.seq
   (.reg [⟨(some 2), none, .a (.box 43 (.t 0))⟩,
     ⟨(some 3), none, .a (.box 43 (.t 1))⟩,
     ⟨(some 4), none, .a (.asg (.c (.bool false)))⟩])
   (.seq
    (.seq
     (.reg [⟨(some 5), none, .q (.fad 0 (.t 2))⟩,
       ⟨(some 6), none, .q (.load false 1 (.t 5))⟩,
       ⟨(some 7), none, .q (.fad 0 (.t 3))⟩,
       ⟨(some 8), none, .q (.load false 1 (.t 7))⟩,
       ⟨(some 9), none, .q (.bin false .neq (.t 6) (.t 8))⟩])
     (.cond (.t 9)
      (.seq
       (.reg [⟨(some 4), none, .a (.asg (.c (.bool false)))⟩])
       .ret)
      .skip))
    (.seq
     (.seq
      (.reg [⟨(some 10), none, .q (.fad 1 (.t 2))⟩,
        ⟨(some 11), none, .q (.load false 1 (.t 10))⟩,
        ⟨(some 12), none, .q (.fad 1 (.t 3))⟩,
        ⟨(some 13), none, .q (.load false 1 (.t 12))⟩,
        ⟨(some 14), none, .q (.bin false .neq (.t 11) (.t 13))⟩])
      (.cond (.t 14)
       (.seq
        (.reg [⟨(some 4), none, .a (.asg (.c (.bool false)))⟩])
        .ret)
       .skip))
     (.seq
      (.seq
       (.reg [⟨(some 15), none, .q (.fad 2 (.t 2))⟩,
         ⟨(some 16), none, .q (.load false 1 (.t 15))⟩,
         ⟨(some 17), none, .q (.fad 2 (.t 3))⟩,
         ⟨(some 18), none, .q (.load false 1 (.t 17))⟩,
         ⟨(some 19), none, .q (.bin false .neq (.t 16) (.t 18))⟩])
       (.cond (.t 19)
        (.seq
         (.reg [⟨(some 4), none, .a (.asg (.c (.bool false)))⟩])
         .ret)
        .skip))
      (.seq
       (.seq
        (.reg [⟨(some 20), none, .q (.fad 3 (.t 2))⟩,
          ⟨(some 21), none, .q (.load false 1 (.t 20))⟩,
          ⟨(some 22), none, .q (.fad 3 (.t 3))⟩,
          ⟨(some 23), none, .q (.load false 1 (.t 22))⟩,
          ⟨(some 24), none, .a (.call (.fn 35) false [.lend (.t 21), .lend (.t 23)])⟩,
          ⟨(some 25), none, .q (.un .not (.t 24))⟩])
        (.cond (.t 25)
         (.seq
          (.reg [⟨(some 4), none, .a (.asg (.c (.bool false)))⟩])
          .ret)
         .skip))
       (.seq
        (.seq
         (.reg [⟨(some 26), none, .q (.fad 4 (.t 2))⟩,
           ⟨(some 27), none, .q (.load false 1 (.t 26))⟩,
           ⟨(some 28), none, .q (.fad 4 (.t 3))⟩,
           ⟨(some 29), none, .q (.load false 1 (.t 28))⟩,
           ⟨(some 30), none, .q (.bin false .neq (.t 27) (.t 29))⟩])
         (.cond (.t 30)
          (.seq
           (.reg [⟨(some 4), none, .a (.asg (.c (.bool false)))⟩])
           .ret)
          .skip))
        (.seq
         (.seq
          (.reg [⟨(some 31), none, .q (.fad 5 (.t 2))⟩,
            ⟨(some 32), none, .q (.load false 1 (.t 31))⟩,
            ⟨(some 33), none, .q (.fad 5 (.t 3))⟩,
            ⟨(some 34), none, .q (.load false 1 (.t 33))⟩,
            ⟨(some 35), none, .q (.bin false .neq (.t 32) (.t 34))⟩])
          (.cond (.t 35)
           (.seq
            (.reg [⟨(some 4), none, .a (.asg (.c (.bool false)))⟩])
            .ret)
           .skip))
         (.seq
          (.reg [⟨(some 4), none, .a (.asg (.c (.bool true)))⟩])
          .ret))))))))

set_option maxRecDepth 100000 in
theorem d21 (s : Ty) (hs : s.sm) : Does Go.Proofs.Try.prog 21 [.agg s.z, .agg s.z] false (.v (.bool true)) [.dead, .dead] := by
  unfold Ty.sm at hs
  refine does_intro (mc := m21) (N := 36) (rs := [4]) (fx := []) 2 rfl (by decide +kernel) ?_
  simp only [m21, Ty.z, EV, Nat.reduceEqDiff, Nat.reduceBEq, Nat.reduceLT, Nat.reduceLeDiff, Nat.reduceAdd, Nat.reduceSub, reduceIte]
  refine callK_i (d35 s.fields (hs.2.2.2.1).1 (hs.2.2.2.1).2) ?_
  simp only [Ty.z, EV, Nat.reduceEqDiff, Nat.reduceBEq, Nat.reduceLT, Nat.reduceLeDiff, Nat.reduceAdd, Nat.reduceSub, reduceIte]
  simp only [EV, Nat.reduceEqDiff, Nat.reduceBEq, Nat.reduceLT, Nat.reduceLeDiff, Nat.reduceAdd, Nat.reduceSub, reduceIte, evRE, retVC, cellV', evR, nfz, nfzs, nfzss, List.contains_nil, List.contains_cons, Bool.or_false, or_true]

/-- loop.example/g00837/laws.eqTypeS -/
def m9 : MC :=
  (.seq
   (.reg [⟨(some 4), none, .a (.asg (.c (.bool false)))⟩])
   (.seq
    (.seq
     (.reg [⟨(some 6), none, .q (.mov (.t 0))⟩,
       ⟨(some 7), none, .q (.len false (.t 6))⟩,
       ⟨(some 8), none, .q (.mov (.t 1))⟩,
       ⟨(some 9), none, .q (.len false (.t 8))⟩,
       ⟨(some 10), none, .q (.bin false .neq (.t 7) (.t 9))⟩])
     (.cond (.t 10)
      (.seq
       (.reg [⟨(some 4), none, .a (.asg (.c (.bool false)))⟩])
       .ret)
      .skip))
    (.seq
     (.seq
      (.reg [⟨(some 5), none, .a (.asg (.c (.int .i64 0)))⟩])
      (.block 0
       (.loop [0, 1, 5]
        (.seq
         (.seq
          (.reg [⟨(some 11), none, .q (.mov (.t 5))⟩,
            ⟨(some 12), none, .q (.mov (.t 0))⟩,
            ⟨(some 13), none, .q (.len false (.t 12))⟩,
            ⟨(some 14), none, .q (.bin false .lss (.t 11) (.t 13))⟩])
          (.cond (.t 14)
           .skip
           (.exit 0)))
         (.seq
          (.block 1
           (.seq
            (.dreg [⟨(some 17), none, .q (.mov (.t 0))⟩,
              ⟨(some 18), none, .q (.mov (.t 5))⟩,
              ⟨(some 19), none, .q (.iad 6 (.t 17) (.t 18))⟩,
              ⟨(some 20), none, .q (.load true 6 (.t 19))⟩,
              ⟨(some 21), none, .q (.mov (.t 1))⟩,
              ⟨(some 22), none, .q (.mov (.t 5))⟩,
              ⟨(some 23), none, .q (.iad 6 (.t 21) (.t 22))⟩,
              ⟨(some 24), none, .q (.load true 6 (.t 23))⟩,
              ⟨(some 25), none, .a (.call (.fn 21) false [.lend (.t 20), .lend (.t 24)])⟩,
              ⟨(some 26), none, .q (.un .not (.t 25))⟩])
            (.cond (.t 26)
             (.seq
              (.reg [⟨(some 4), none, .a (.asg (.c (.bool false)))⟩])
              .ret)
             .skip)))
          (.reg [⟨(some 15), none, .q (.mov (.t 5))⟩,
            ⟨(some 16), none, .q (.bin false .add (.t 15) (.c (.int .i64 1)))⟩,
            ⟨(some 5), none, .a (.asg (.t 16))⟩]))))))
     (.seq
      (.reg [⟨(some 4), none, .a (.asg (.c (.bool true)))⟩])
      .ret))))

theorem d9 (l : List Ty) (hl : (l.length : Int) ≤ 1048576) (hs : ∀ s ∈ l, s.sm) : Does Go.Proofs.Try.prog 9 [.fsl 6 (l.map Ty.z), .fsl 6 (l.map Ty.z)] false (.v (.bool true)) [.dead, .dead] := by
  refine does_intro (mc := m9) (N := 27) (rs := [4]) (fx := []) 2 rfl (by decide +kernel) ?_
  simp only [m9, EV, Nat.reduceEqDiff, Nat.reduceBEq, Nat.reduceLT, Nat.reduceLeDiff, Nat.reduceAdd, Nat.reduceSub, reduceIte]
  refine awp_loop (fun i : Nat => i ≤ l.length) (fun i => stl [(0, .fsl 6 (l.map Ty.z)), (1, .fsl 6 (l.map Ty.z)), (5, .v (.int .i64 (i : Int)))]) (fun i => l.length - i) 0 (Nat.zero_le _) ?_ ?_
  · simp only [EV, Nat.reduceEqDiff, Nat.reduceBEq, Nat.reduceLT, Nat.reduceLeDiff, Nat.reduceAdd, Nat.reduceSub, reduceIte]
    rfl
  · intro i hi
    simp only [EV, Nat.reduceEqDiff, Nat.reduceBEq, Nat.reduceLT, Nat.reduceLeDiff, Nat.reduceAdd, Nat.reduceSub, reduceIte]
    refine cK_cut (fun h => ?_) (fun h => ?_)
    · have h1 : i < l.length := by simpa using h
      have h2 : (i : Int) < (l.length : Int) := by omega
      simp only [TyE, nth_map h1, h2, EV, Nat.reduceEqDiff, Nat.reduceBEq, Nat.reduceLT, Nat.reduceLeDiff, Nat.reduceAdd, Nat.reduceSub, reduceIte]
      refine callD_i (d21 l[i] (hs l[i] (List.getElem_mem h1))) rfl ?_
      simp only [EV, Nat.reduceEqDiff, Nat.reduceBEq, Nat.reduceLT, Nat.reduceLeDiff, Nat.reduceAdd, Nat.reduceSub, reduceIte]
      refine ⟨i + 1, by omega, by omega, ?_⟩
      rw [w64 _ (by omega)]
      rfl
    · have h1 : i = l.length := by have : ¬ (i : Int) < l.length := by simpa using h
                                   omega
      simp only [EV, Nat.reduceEqDiff, Nat.reduceBEq, Nat.reduceLT, Nat.reduceLeDiff, Nat.reduceAdd, Nat.reduceSub, reduceIte]
      simp only [EV, Nat.reduceEqDiff, Nat.reduceBEq, Nat.reduceLT, Nat.reduceLeDiff, Nat.reduceAdd, Nat.reduceSub, reduceIte, evRE, retVC, cellV', evR, nfz, nfzs, nfzss, List.contains_nil, List.contains_cons, Bool.or_false, or_true]

end Go.AM
namespace Go.AM
set_option linter.unusedVariables false
set_option linter.unusedSimpArgs false
structure Par where
  name : ByteArray
  byvar : Bool
  typ : Int

def Par.z (s : Par) : List AV := [.v (.string s.name), .v (.bool s.byvar), .v (.int .i64 s.typ)]

def Par.o (s : Par) : List AV := [.v (.string s.name), .v (.bool s.byvar), .v (.int .i64 s.typ)]

def Par.zr : List AV := [.v (.string ⟨#[]⟩), .v (.bool false), .v (.int .i64 0)]

theorem Par.fr (s : Par) : frzRow s.o = s.z := by
  simp only [Par.o, Par.z, frzRow, frzL, List.cons_append, List.nil_append]

theorem Par.frz : ∀ l : List Par, frzRows (l.map Par.o) = l.map Par.z
  | [] => rfl
  | s :: l => by simp only [List.map_cons, frzRows, Par.fr, Par.frz l]

theorem Par.nf (s : Par) : nfzs s.o = true := by
  simp only [Par.o, nfzs, nfz, List.cons_append, List.nil_append, Bool.and_self]

theorem Par.nfz : ∀ l : List Par, nfzss (l.map Par.o) = true
  | [] => rfl
  | s :: l => by simp only [List.map_cons, nfzss, Par.nf, Par.nfz l, Bool.and_self]

def Par.ok (s : Par) : Prop := (s.name.size : Int) ≤ 9223372036854775807 ∧ True ∧ (-9223372036854775808 ≤ s.typ ∧ s.typ ≤ 9223372036854775807)

def Par.sm (s : Par) : Prop := (s.name.size : Int) ≤ 1048576 ∧ True ∧ True

def totPar (s : Par) : Int := (s.name.size : Int)

theorem Par.sm_of (s : Par) (h : totPar s ≤ 1048576) : s.sm := by
  unfold totPar at h
  exact ⟨by omega, trivial, trivial⟩

end Go.AM
namespace Go.AM
set_option linter.unusedVariables false
set_option linter.unusedSimpArgs false
structure Ob where
  name : ByteArray
  kind : Int
  mark : Int
  typ : Int
  value : Int
  params : List Par

def Ob.z (s : Ob) : List AV := [.v (.string s.name), .v (.int .i64 s.kind), .v (.int .i64 s.mark), .v (.int .i64 s.typ), .v (.int .i64 s.value), .fsl 3 (s.params.map Par.z)]

end Go.AM
namespace Go.AM
set_option linter.unusedVariables false
set_option linter.unusedSimpArgs false
structure Us where
  mod : ByteArray
  name : ByteArray

def Us.z (s : Us) : List AV := [.v (.string s.mod), .v (.string s.name)]

def Us.o (s : Us) : List AV := [.v (.string s.mod), .v (.string s.name)]

def Us.zr : List AV := [.v (.string ⟨#[]⟩), .v (.string ⟨#[]⟩)]

theorem Us.fr (s : Us) : frzRow s.o = s.z := by
  simp only [Us.o, Us.z, frzRow, frzL, List.cons_append, List.nil_append]

theorem Us.frz : ∀ l : List Us, frzRows (l.map Us.o) = l.map Us.z
  | [] => rfl
  | s :: l => by simp only [List.map_cons, frzRows, Us.fr, Us.frz l]

theorem Us.nf (s : Us) : nfzs s.o = true := by
  simp only [Us.o, nfzs, nfz, List.cons_append, List.nil_append, Bool.and_self]

theorem Us.nfz : ∀ l : List Us, nfzss (l.map Us.o) = true
  | [] => rfl
  | s :: l => by simp only [List.map_cons, nfzss, Us.nf, Us.nfz l, Bool.and_self]

def Us.ok (s : Us) : Prop := (s.mod.size : Int) ≤ 9223372036854775807 ∧ (s.name.size : Int) ≤ 9223372036854775807

def Us.sm (s : Us) : Prop := (s.mod.size : Int) ≤ 1048576 ∧ (s.name.size : Int) ≤ 1048576

def totUs (s : Us) : Int := (s.mod.size : Int) + (s.name.size : Int)

theorem Us.sm_of (s : Us) (h : totUs s ≤ 1048576) : s.sm := by
  unfold totUs at h
  exact ⟨by omega, by omega⟩

structure Seen where
  mod : ByteArray
  name : ByteArray
  sum : Int

def Seen.z (s : Seen) : List AV := [.v (.string s.mod), .v (.string s.name), .v (.int .i64 s.sum)]

def Seen.o (s : Seen) : List AV := [.v (.string s.mod), .v (.string s.name), .v (.int .i64 s.sum)]

def Seen.zr : List AV := [.v (.string ⟨#[]⟩), .v (.string ⟨#[]⟩), .v (.int .i64 0)]

theorem Seen.fr (s : Seen) : frzRow s.o = s.z := by
  simp only [Seen.o, Seen.z, frzRow, frzL, List.cons_append, List.nil_append]

theorem Seen.frz : ∀ l : List Seen, frzRows (l.map Seen.o) = l.map Seen.z
  | [] => rfl
  | s :: l => by simp only [List.map_cons, frzRows, Seen.fr, Seen.frz l]

theorem Seen.nf (s : Seen) : nfzs s.o = true := by
  simp only [Seen.o, nfzs, nfz, List.cons_append, List.nil_append, Bool.and_self]

theorem Seen.nfz : ∀ l : List Seen, nfzss (l.map Seen.o) = true
  | [] => rfl
  | s :: l => by simp only [List.map_cons, nfzss, Seen.nf, Seen.nfz l, Bool.and_self]

def Seen.ok (s : Seen) : Prop := (s.mod.size : Int) ≤ 9223372036854775807 ∧ (s.name.size : Int) ≤ 9223372036854775807 ∧ (-9223372036854775808 ≤ s.sum ∧ s.sum ≤ 9223372036854775807)

def Seen.sm (s : Seen) : Prop := (s.mod.size : Int) ≤ 1048576 ∧ (s.name.size : Int) ≤ 1048576 ∧ True

def totSeen (s : Seen) : Int := (s.mod.size : Int) + (s.name.size : Int)

theorem Seen.sm_of (s : Seen) (h : totSeen s ≤ 1048576) : s.sm := by
  unfold totSeen at h
  exact ⟨by omega, by omega, trivial⟩

structure Str where
  s : ByteArray

def Str.z (s : Str) : List AV := [.v (.string s.s)]

def Str.o (s : Str) : List AV := [.v (.string s.s)]

def Str.zr : List AV := [.v (.string ⟨#[]⟩)]

theorem Str.fr (s : Str) : frzRow s.o = s.z := by
  simp only [Str.o, Str.z, frzRow, frzL, List.cons_append, List.nil_append]

theorem Str.frz : ∀ l : List Str, frzRows (l.map Str.o) = l.map Str.z
  | [] => rfl
  | s :: l => by simp only [List.map_cons, frzRows, Str.fr, Str.frz l]

theorem Str.nf (s : Str) : nfzs s.o = true := by
  simp only [Str.o, nfzs, nfz, List.cons_append, List.nil_append, Bool.and_self]

theorem Str.nfz : ∀ l : List Str, nfzss (l.map Str.o) = true
  | [] => rfl
  | s :: l => by simp only [List.map_cons, nfzss, Str.nf, Str.nfz l, Bool.and_self]

def Str.ok (s : Str) : Prop := (s.s.size : Int) ≤ 9223372036854775807

def Str.sm (s : Str) : Prop := (s.s.size : Int) ≤ 1048576

def totStr (s : Str) : Int := (s.s.size : Int)

theorem Str.sm_of (s : Str) (h : totStr s ≤ 1048576) : s.sm := by
  unfold totStr at h
  unfold Str.sm
  omega

end Go.AM
namespace Go.AM
set_option linter.unusedVariables false
set_option linter.unusedSimpArgs false
def eqTo {α : Type} (q : α → α → Bool) (a b : List α) (n : Nat) : Prop := ∀ j (ha : j < a.length) (hb : j < b.length), j < n → q a[j] b[j] = true

open Classical in
noncomputable def eqL {α : Type} (q : α → α → Bool) (a b : List α) : Bool := decide (a.length = b.length ∧ eqTo q a b a.length)

theorem eqTo_succ {α : Type} {q : α → α → Bool} {a b : List α} {i : Nat} {h1 : i < a.length} {h2 : i < b.length} (h : eqTo q a b i) (hq : q a[i] b[i] = true) : eqTo q a b (i + 1) := by
  intro j ha hb hj
  by_cases e : j = i
  · subst e; exact hq
  · exact h j ha hb (by omega)

theorem eqL_ne {α : Type} {q : α → α → Bool} {a b : List α} (h : ¬ a.length = b.length) : eqL q a b = false := by
  simp only [eqL, decide_eq_false_iff_not]
  rintro ⟨h1, _⟩
  exact h h1

theorem eqL_no {α : Type} {q : α → α → Bool} {a b : List α} {i : Nat} (h1 : i < a.length) (h2 : i < b.length) (hq : q a[i] b[i] = false) : eqL q a b = false := by
  simp only [eqL, decide_eq_false_iff_not]
  rintro ⟨_, h⟩
  have := h i h1 h2 h1
  rw [hq] at this; cases this

theorem eqL_yes {α : Type} {q : α → α → Bool} {a b : List α} (h : a.length = b.length) (h2 : eqTo q a b a.length) : eqL q a b = true := by
  simp only [eqL, decide_eq_true_eq]
  exact ⟨h, h2⟩

def qFd (x y : Fd) : Bool := x.name.toList == y.name.toList && (x.mark == y.mark && (x.typ == y.typ))

/-- slices.Equal[[]loop.example/g00837/impl.Field,loop.example/g00837/impl.Field] -/
def m63 : MC :=
  (.seq
   (.reg [⟨(some 4), none, .a (.asg (.c (.bool false)))⟩])
   (.seq
    (.seq
     (.reg [⟨(some 6), none, .q (.mov (.t 0))⟩,
       ⟨(some 7), none, .q (.len false (.t 6))⟩,
       ⟨(some 8), none, .q (.mov (.t 1))⟩,
       ⟨(some 9), none, .q (.len false (.t 8))⟩,
       ⟨(some 10), none, .q (.bin false .neq (.t 7) (.t 9))⟩])
     (.cond (.t 10)
      (.seq
       (.reg [⟨(some 4), none, .a (.asg (.c (.bool false)))⟩])
       .ret)
      .skip))
    (.seq
     (.seq
      (.reg [⟨(some 11), none, .q (.mov (.t 0))⟩,
        ⟨(some 12), none, .q (.len false (.t 11))⟩,
        ⟨(some 13), none, .q (.mov (.c (.int .i64 0)))⟩])
      (.block 0
       (.loop [0, 1, 12, 13]
        (.seq
         (.reg [⟨(some 14), none, .q (.bin false .lss (.t 13) (.t 12))⟩])
         (.seq
          (.cond (.t 14)
           .skip
           (.exit 0))
          (.seq
           (.block 1
            (.seq
             (.reg [⟨(some 15), none, .q (.mov (.t 13))⟩,
               ⟨(some 5), none, .a (.asg (.t 15))⟩])
             (.seq
              (.dreg [⟨(some 16), none, .q (.mov (.t 0))⟩,
                ⟨(some 17), none, .q (.mov (.t 5))⟩,
                ⟨(some 18), none, .q (.iad 3 (.t 16) (.t 17))⟩,
                ⟨(some 19), none, .q (.load true 3 (.t 18))⟩,
                ⟨(some 20), none, .q (.mov (.t 1))⟩,
                ⟨(some 21), none, .q (.mov (.t 5))⟩,
                ⟨(some 22), none, .q (.iad 3 (.t 20) (.t 21))⟩,
                ⟨(some 23), none, .q (.load true 3 (.t 22))⟩,
                ⟨(some 24), none, .q (.eqa true [1, 0, 0] (.t 19) (.t 23))⟩])
              (.cond (.t 24)
               (.seq
                (.reg [⟨(some 4), none, .a (.asg (.c (.bool false)))⟩])
                .ret)
               .skip))))
           (.reg [⟨(some 25), none, .q (.bin false .add (.t 13) (.c (.int .i64 1)))⟩,
             ⟨(some 13), none, .q (.mov (.t 25))⟩])))))))
     (.seq
      (.reg [⟨(some 4), none, .a (.asg (.c (.bool true)))⟩])
      .ret))))

theorem d63 (a b : List Fd) (ha : (a.length : Int) ≤ 1048576) (hb : (b.length : Int) ≤ 1048576) : Does Go.Proofs.Try.prog 63 [.fsl 3 (a.map Fd.z), .fsl 3 (b.map Fd.z)] false (.v (.bool (eqL qFd a b))) [.dead, .dead] := by
  refine does_intro (mc := m63) (N := 26) (rs := [4]) (fx := []) 2 rfl (by decide +kernel) ?_
  simp only [m63, EV, Nat.reduceEqDiff, Nat.reduceBEq, Nat.reduceLT, Nat.reduceLeDiff, Nat.reduceAdd, Nat.reduceSub, reduceIte]
  refine cK_cut (fun h => ?_) (fun h => ?_)
  · have h1 : ¬ a.length = b.length := by
      intro e; simp [e] at h
    simp only [EV, Nat.reduceEqDiff, Nat.reduceBEq, Nat.reduceLT, Nat.reduceLeDiff, Nat.reduceAdd, Nat.reduceSub, reduceIte]
    simp only [eqL_ne h1, EV, Nat.reduceEqDiff, Nat.reduceBEq, Nat.reduceLT, Nat.reduceLeDiff, Nat.reduceAdd, Nat.reduceSub, reduceIte, evRE, retVC, cellV', evR, nfz, nfzs, nfzss, List.contains_nil, List.contains_cons, Bool.or_false, or_true]
  · have hl : a.length = b.length := by
      have : ((a.length : Int) = b.length) := by simpa using h
      omega
    simp only [EV, Nat.reduceEqDiff, Nat.reduceBEq, Nat.reduceLT, Nat.reduceLeDiff, Nat.reduceAdd, Nat.reduceSub, reduceIte]
    refine awp_loop (fun i : Nat => i ≤ a.length ∧ eqTo qFd a b i) (fun i => stl [(0, .fsl 3 (a.map Fd.z)), (1, .fsl 3 (b.map Fd.z)), (12, .v (.int .i64 (a.length : Int))), (13, .v (.int .i64 (i : Int)))]) (fun i => a.length - i) 0 ⟨Nat.zero_le _, fun j _ _ h => absurd h (by omega)⟩ ?_ ?_
    · simp only [EV, Nat.reduceEqDiff, Nat.reduceBEq, Nat.reduceLT, Nat.reduceLeDiff, Nat.reduceAdd, Nat.reduceSub, reduceIte]
      rfl
    · rintro i ⟨hi, hto⟩
      simp only [EV, Nat.reduceEqDiff, Nat.reduceBEq, Nat.reduceLT, Nat.reduceLeDiff, Nat.reduceAdd, Nat.reduceSub, reduceIte]
      refine cK_cut (fun h => ?_) (fun h => ?_)
      · have h1 : i < a.length := by simpa using h
        have h2 : (i : Int) < (a.length : Int) := by omega
        have g1 : i < b.length := by omega
        have g2 : (i : Int) < (b.length : Int) := by omega
        simp only [nth_map h1, nth_map g1, h2, g2, Fd.z, Bool.true_xor, EV, Nat.reduceEqDiff, Nat.reduceBEq, Nat.reduceLT, Nat.reduceLeDiff, Nat.reduceAdd, Nat.reduceSub, reduceIte]
        refine cK_cut (fun h => ?_) (fun h => ?_)
        · have hq : qFd a[i] b[i] = false := by unfold qFd; simp only [Bool.not_eq_true'] at h; exact h
          simp only [EV, Nat.reduceEqDiff, Nat.reduceBEq, Nat.reduceLT, Nat.reduceLeDiff, Nat.reduceAdd, Nat.reduceSub, reduceIte]
          simp only [eqL_no h1 g1 hq, EV, Nat.reduceEqDiff, Nat.reduceBEq, Nat.reduceLT, Nat.reduceLeDiff, Nat.reduceAdd, Nat.reduceSub, reduceIte, evRE, retVC, cellV', evR, nfz, nfzs, nfzss, List.contains_nil, List.contains_cons, Bool.or_false, or_true]
        · have hq : qFd a[i] b[i] = true := by unfold qFd; simp only [Bool.not_eq_false'] at h; exact h
          simp only [EV, Nat.reduceEqDiff, Nat.reduceBEq, Nat.reduceLT, Nat.reduceLeDiff, Nat.reduceAdd, Nat.reduceSub, reduceIte]
          rw [w64 _ (by omega)]
          exact ⟨i + 1, ⟨by omega, eqTo_succ hto hq⟩, by omega, rfl⟩
      · have h1 : i = a.length := by have : ¬ (i : Int) < a.length := by simpa using h
                                     omega
        subst h1
        simp only [EV, Nat.reduceEqDiff, Nat.reduceBEq, Nat.reduceLT, Nat.reduceLeDiff, Nat.reduceAdd, Nat.reduceSub, reduceIte]
        simp only [eqL_yes hl hto, EV, Nat.reduceEqDiff, Nat.reduceBEq, Nat.reduceLT, Nat.reduceLeDiff, Nat.reduceAdd, Nat.reduceSub, reduceIte, evRE, retVC, cellV', evR, nfz, nfzs, nfzss, List.contains_nil, List.contains_cons, Bool.or_false, or_true]

/-- slices.EqualFunc[[]loop.example/g00837/impl.Type,[]loop.example/g00837/impl.Type,loop.example/g00837/impl.Type,loop.example/g00837/impl.Type] -/
def m45 : MC :=
  (.seq
   (.reg [⟨(some 6), none, .a (.asg (.c (.bool false)))⟩])
   (.seq
    (.seq
     (.reg [⟨(some 10), none, .q (.mov (.t 0))⟩,
       ⟨(some 11), none, .q (.len false (.t 10))⟩,
       ⟨(some 12), none, .q (.mov (.t 1))⟩,
       ⟨(some 13), none, .q (.len false (.t 12))⟩,
       ⟨(some 14), none, .q (.bin false .neq (.t 11) (.t 13))⟩])
     (.cond (.t 14)
      (.seq
       (.reg [⟨(some 6), none, .a (.asg (.c (.bool false)))⟩])
       .ret)
      .skip))
    (.seq
     (.seq
      (.reg [⟨(some 15), none, .q (.mov (.t 0))⟩,
        ⟨(some 16), none, .q (.len false (.t 15))⟩,
        ⟨(some 17), none, .q (.mov (.c (.int .i64 0)))⟩])
      (.block 0
       (.loop [0, 1, 2, 15, 16, 17]
        (.seq
         (.reg [⟨(some 18), none, .q (.bin false .lss (.t 17) (.t 16))⟩])
         (.seq
          (.cond (.t 18)
           .skip
           (.exit 0))
          (.seq
           (.block 1
            (.seq
             (.reg [⟨(some 19), none, .q (.mov (.t 17))⟩,
               ⟨(some 20), none, .q (.iad 6 (.t 15) (.t 17))⟩,
               ⟨(some 21), none, .q (.load true 6 (.t 20))⟩,
               ⟨(some 8), none, .a (.alloc 43 [.v (.int .i64 0), .v (.int .i64 0), .v (.int .i64 0), .s 54 3, .v (.string ({ data := #[] })), .v (.string ({ data := #[] }))])⟩,
               ⟨(some 7), none, .a (.asg (.t 19))⟩,
               ⟨none, none, .a (.store 6 (.t 8) (.t 21))⟩])
             (.seq
              (.reg [⟨(some 22), none, .q (.mov (.t 1))⟩,
                ⟨(some 23), none, .q (.mov (.t 7))⟩,
                ⟨(some 24), none, .q (.iad 6 (.t 22) (.t 23))⟩,
                ⟨(some 25), none, .q (.load true 6 (.t 24))⟩,
                ⟨(some 9), none, .a (.alloc 43 [.v (.int .i64 0), .v (.int .i64 0), .v (.int .i64 0), .s 54 3, .v (.string ({ data := #[] })), .v (.string ({ data := #[] }))])⟩,
                ⟨none, none, .a (.store 6 (.t 9) (.t 25))⟩])
              (.seq
               (.reg [⟨(some 26), none, .q (.mov (.t 2))⟩,
                 ⟨(some 27), none, .q (.load true 6 (.t 8))⟩,
                 ⟨(some 28), none, .q (.load true 6 (.t 9))⟩,
                 ⟨(some 29), none, .a (.call (.t 26) false [.lend (.t 27), .lend (.t 28)])⟩,
                 ⟨(some 30), none, .q (.un .not (.t 29))⟩])
               (.cond (.t 30)
                (.seq
                 (.reg [⟨(some 6), none, .a (.asg (.c (.bool false)))⟩])
                 .ret)
                .skip)))))
           (.reg [⟨(some 31), none, .q (.bin false .add (.t 17) (.c (.int .i64 1)))⟩,
             ⟨(some 17), none, .q (.mov (.t 31))⟩])))))))
     (.seq
      (.reg [⟨(some 6), none, .a (.asg (.c (.bool true)))⟩])
      .ret))))

set_option maxRecDepth 100000 in
theorem d45 (a b : List Ty) (ha : (a.length : Int) ≤ 1048576) (hb : (b.length : Int) ≤ 1048576) (f : Nat) (q : Ty → Ty → Bool) (hq : ∀ x ∈ a, ∀ y ∈ b, Does Go.Proofs.Try.prog f [.agg x.z, .agg y.z] false (.v (.bool (q x y))) [.dead, .dead]) :
    Does Go.Proofs.Try.prog 45 [.fsl 6 (a.map Ty.z), .fsl 6 (b.map Ty.z), .clo f []] false (.v (.bool (eqL q a b))) [.dead, .dead, .dead] := by
  refine does_intro (mc := m45) (N := 32) (rs := [6]) (fx := []) 3 rfl (by decide +kernel) ?_
  simp only [m45, EV, Nat.reduceEqDiff, Nat.reduceBEq, Nat.reduceLT, Nat.reduceLeDiff, Nat.reduceAdd, Nat.reduceSub, reduceIte]
  refine cK_cut (fun h => ?_) (fun h => ?_)
  · have h1 : ¬ a.length = b.length := by
      intro e; simp [e] at h
    simp only [EV, Nat.reduceEqDiff, Nat.reduceBEq, Nat.reduceLT, Nat.reduceLeDiff, Nat.reduceAdd, Nat.reduceSub, reduceIte]
    simp only [eqL_ne h1, EV, Nat.reduceEqDiff, Nat.reduceBEq, Nat.reduceLT, Nat.reduceLeDiff, Nat.reduceAdd, Nat.reduceSub, reduceIte, evRE, retVC, cellV', evR, nfz, nfzs, nfzss, List.contains_nil, List.contains_cons, Bool.or_false, or_true]
  · have hl : a.length = b.length := by
      have : ((a.length : Int) = b.length) := by simpa using h
      omega
    simp only [EV, Nat.reduceEqDiff, Nat.reduceBEq, Nat.reduceLT, Nat.reduceLeDiff, Nat.reduceAdd, Nat.reduceSub, reduceIte]
    refine awp_loop (fun i : Nat => i ≤ a.length ∧ eqTo q a b i) (fun i => stl [(0, .fsl 6 (a.map Ty.z)), (1, .fsl 6 (b.map Ty.z)), (2, .clo f []), (15, .fsl 6 (a.map Ty.z)), (16, .v (.int .i64 (a.length : Int))), (17, .v (.int .i64 (i : Int)))]) (fun i => a.length - i) 0 ⟨Nat.zero_le _, fun j _ _ h => absurd h (by omega)⟩ ?_ ?_
    · simp only [EV, Nat.reduceEqDiff, Nat.reduceBEq, Nat.reduceLT, Nat.reduceLeDiff, Nat.reduceAdd, Nat.reduceSub, reduceIte]
      rfl
    · rintro i ⟨hi, hto⟩
      simp only [EV, Nat.reduceEqDiff, Nat.reduceBEq, Nat.reduceLT, Nat.reduceLeDiff, Nat.reduceAdd, Nat.reduceSub, reduceIte]
      refine cK_cut (fun h => ?_) (fun h => ?_)
      · have h1 : i < a.length := by simpa using h
        have h2 : (i : Int) < (a.length : Int) := by omega
        have g1 : i < b.length := by omega
        have g2 : (i : Int) < (b.length : Int) := by omega
        simp only [nth_map h1, nth_map g1, h2, g2, Ty.z, EV, Nat.reduceEqDiff, Nat.reduceBEq, Nat.reduceLT, Nat.reduceLeDiff, Nat.reduceAdd, Nat.reduceSub, reduceIte]
        refine callK_i (hq a[i] (List.getElem_mem h1) b[i] (List.getElem_mem g1)) ?_
        simp only [EV, Nat.reduceEqDiff, Nat.reduceBEq, Nat.reduceLT, Nat.reduceLeDiff, Nat.reduceAdd, Nat.reduceSub, reduceIte]
        refine cK_cut (fun h => ?_) (fun h => ?_)
        · have hq : q a[i] b[i] = false := by simpa using h
          simp only [EV, Nat.reduceEqDiff, Nat.reduceBEq, Nat.reduceLT, Nat.reduceLeDiff, Nat.reduceAdd, Nat.reduceSub, reduceIte]
          simp only [eqL_no h1 g1 hq, EV, Nat.reduceEqDiff, Nat.reduceBEq, Nat.reduceLT, Nat.reduceLeDiff, Nat.reduceAdd, Nat.reduceSub, reduceIte, evRE, retVC, cellV', evR, nfz, nfzs, nfzss, List.contains_nil, List.contains_cons, Bool.or_false, or_true]
        · have hq : q a[i] b[i] = true := by simpa using h
          simp only [EV, Nat.reduceEqDiff, Nat.reduceBEq, Nat.reduceLT, Nat.reduceLeDiff, Nat.reduceAdd, Nat.reduceSub, reduceIte]
          rw [w64 _ (by omega)]
          exact ⟨i + 1, ⟨by omega, eqTo_succ hto hq⟩, by omega, rfl⟩
      · have h1 : i = a.length := by have : ¬ (i : Int) < a.length := by simpa using h
                                     omega
        subst h1
        simp only [EV, Nat.reduceEqDiff, Nat.reduceBEq, Nat.reduceLT, Nat.reduceLeDiff, Nat.reduceAdd, Nat.reduceSub, reduceIte]
        simp only [eqL_yes hl hto, EV, Nat.reduceEqDiff, Nat.reduceBEq, Nat.reduceLT, Nat.reduceLeDiff, Nat.reduceAdd, Nat.reduceSub, reduceIte, evRE, retVC, cellV', evR, nfz, nfzs, nfzss, List.contains_nil, List.contains_cons, Bool.or_false, or_true]

end Go.AM
namespace Go.AM
set_option linter.unusedVariables false
set_option linter.unusedSimpArgs false
noncomputable def sameTy (x y : Ty) : Bool := ((x.kind == y.kind) && ((x.long == y.long) && ((x.base == y.base) && ((eqL qFd x.fields y.fields) && ((x.owner.toList == y.owner.toList) && (x.name.toList == y.name.toList))))))

/-- loop.example/g00837/impl.sameType -/
def m46 : MC :=
  (.seq
   (.reg [⟨(some 2), none, .a (.box 43 (.t 0))⟩,
     ⟨(some 3), none, .a (.box 43 (.t 1))⟩,
     ⟨(some 4), none, .a (.asg (.c (.bool false)))⟩])
   (.seq
    (.reg [⟨(some 5), none, .q (.fad 0 (.t 2))⟩,
      ⟨(some 6), none, .q (.load false 1 (.t 5))⟩,
      ⟨(some 7), none, .q (.fad 0 (.t 3))⟩,
      ⟨(some 8), none, .q (.load false 1 (.t 7))⟩,
      ⟨(some 9), none, .q (.bin false .eql (.t 6) (.t 8))⟩,
      ⟨(some 10), none, .q (.mov (.t 9))⟩,
      ⟨(some 11), (some (10, true)), .q (.fad 1 (.t 2))⟩,
      ⟨(some 12), (some (10, true)), .q (.load false 1 (.t 11))⟩,
      ⟨(some 13), (some (10, true)), .q (.fad 1 (.t 3))⟩,
      ⟨(some 14), (some (10, true)), .q (.load false 1 (.t 13))⟩,
      ⟨(some 15), (some (10, true)), .q (.bin false .eql (.t 12) (.t 14))⟩,
      ⟨(some 16), none, .q (.pick (.t 10) (.t 15) (.c (.bool false)))⟩,
      ⟨(some 17), none, .q (.mov (.t 16))⟩,
      ⟨(some 18), (some (17, true)), .q (.fad 2 (.t 2))⟩,
      ⟨(some 19), (some (17, true)), .q (.load false 1 (.t 18))⟩,
      ⟨(some 20), (some (17, true)), .q (.fad 2 (.t 3))⟩,
      ⟨(some 21), (some (17, true)), .q (.load false 1 (.t 20))⟩,
      ⟨(some 22), (some (17, true)), .q (.bin false .eql (.t 19) (.t 21))⟩,
      ⟨(some 23), none, .q (.pick (.t 17) (.t 22) (.c (.bool false)))⟩,
      ⟨(some 24), none, .q (.mov (.t 23))⟩,
      ⟨(some 25), (some (24, true)), .q (.fad 3 (.t 2))⟩,
      ⟨(some 26), (some (24, true)), .q (.load false 1 (.t 25))⟩,
      ⟨(some 27), (some (24, true)), .q (.fad 3 (.t 3))⟩,
      ⟨(some 28), (some (24, true)), .q (.load false 1 (.t 27))⟩,
      ⟨(some 29), (some (24, true)), .a (.call (.fn 63) false [.lend (.t 26), .lend (.t 28)])⟩,
      ⟨(some 30), none, .q (.pick (.t 24) (.t 29) (.c (.bool false)))⟩,
      ⟨(some 31), none, .q (.mov (.t 30))⟩,
      ⟨(some 32), (some (31, true)), .q (.fad 4 (.t 2))⟩,
      ⟨(some 33), (some (31, true)), .q (.load false 1 (.t 32))⟩,
      ⟨(some 34), (some (31, true)), .q (.fad 4 (.t 3))⟩,
      ⟨(some 35), (some (31, true)), .q (.load false 1 (.t 34))⟩,
      ⟨(some 36), (some (31, true)), .q (.bin false .eql (.t 33) (.t 35))⟩,
      ⟨(some 37), none, .q (.pick (.t 31) (.t 36) (.c (.bool false)))⟩,
      ⟨(some 38), none, .q (.mov (.t 37))⟩,
      ⟨(some 39), (some (38, true)), .q (.fad 5 (.t 2))⟩,
      ⟨(some 40), (some (38, true)), .q (.load false 1 (.t 39))⟩,
      ⟨(some 41), (some (38, true)), .q (.fad 5 (.t 3))⟩,
      ⟨(some 42), (some (38, true)), .q (.load false 1 (.t 41))⟩,
      ⟨(some 43), (some (38, true)), .q (.bin false .eql (.t 40) (.t 42))⟩,
      ⟨(some 44), none, .q (.pick (.t 38) (.t 43) (.c (.bool false)))⟩,
      ⟨(some 4), none, .a (.asg (.t 44))⟩])
    .ret))

set_option maxRecDepth 100000 in
theorem d46 (x y : Ty) (hx : x.sm) (hy : y.sm) : Does Go.Proofs.Try.prog 46 [.agg x.z, .agg y.z] false (.v (.bool (sameTy x y))) [.dead, .dead] := by
  unfold Ty.sm at hx hy
  refine does_intro (mc := m46) (N := 45) (rs := [4]) (fx := []) 2 rfl (by decide +kernel) ?_
  simp only [m46, Ty.z, EV, Nat.reduceEqDiff, Nat.reduceBEq, Nat.reduceLT, Nat.reduceLeDiff, Nat.reduceAdd, Nat.reduceSub, reduceIte]
  repeat' (first
    | (refine gK_cut (fun h => ?_) (fun h => ?_) <;> simp only [h, EV, Nat.reduceEqDiff, Nat.reduceBEq, Nat.reduceLT, Nat.reduceLeDiff, Nat.reduceAdd, Nat.reduceSub, reduceIte])
    | (refine cK_cut (fun h => ?_) (fun h => ?_) <;> simp only [h, EV, Nat.reduceEqDiff, Nat.reduceBEq, Nat.reduceLT, Nat.reduceLeDiff, Nat.reduceAdd, Nat.reduceSub, reduceIte])
    | (refine callK_i (d63 _ _ (by omega) (by omega)) ?_ <;> simp only [h, EV, Nat.reduceEqDiff, Nat.reduceBEq, Nat.reduceLT, Nat.reduceLeDiff, Nat.reduceAdd, Nat.reduceSub, reduceIte]))
  all_goals simp only [sameTy, *, Bool.true_and, Bool.false_and, Bool.and_true, Bool.and_false, Bool.and_self, EV, Nat.reduceEqDiff, Nat.reduceBEq, Nat.reduceLT, Nat.reduceLeDiff, Nat.reduceAdd, Nat.reduceSub, reduceIte, evRE, retVC, cellV', evR, nfz, nfzs, nfzss, List.contains_nil, List.contains_cons, Bool.or_false, or_true]

end Go.AM
namespace Go.AM
set_option linter.unusedVariables false
set_option linter.unusedSimpArgs false
def findI {α : Type} (q : α → Bool) (l : List α) : Int := match l.findIdx? q with | some i => i | none => -1

theorem findI_at {α : Type} {q : α → Bool} {l : List α} {i : Nat} (h : i < l.length) (h1 : q l[i] = true) (h2 : ∀ j (hj : j < l.length), j < i → q l[j] = false) : findI q l = i := by
  have : l.findIdx? q = some i := by
    rw [List.findIdx?_eq_some_iff_getElem]
    exact ⟨h, h1, fun j hj => by simp [h2 j (by omega) hj]⟩
  simp [findI, this]

theorem findI_no {α : Type} {q : α → Bool} {l : List α} (h2 : ∀ j (hj : j < l.length), q l[j] = false) : findI q l = -1 := by
  have : l.findIdx? q = none := by
    rw [List.findIdx?_eq_none_iff]
    intro x hx
    obtain ⟨j, hj, rfl⟩ := List.getElem_of_mem hx
    exact h2 j hj
  simp [findI, this]

theorem findI_any {α : Type} {q : α → Bool} {l : List α} : decide (0 ≤ findI q l) = l.any q := by
  unfold findI
  cases h : l.findIdx? q with
  | none =>
    rw [List.findIdx?_eq_none_iff] at h
    have : l.any q = false := by simp only [List.any_eq_false]; intro x hx; simp [h x hx]
    simp [this]
  | some i =>
    rw [List.findIdx?_eq_some_iff_getElem] at h
    obtain ⟨hi, h1, _⟩ := h
    have : l.any q = true := by rw [List.any_eq_true]; exact ⟨l[i], List.getElem_mem hi, h1⟩
    simp only [this]
    simp

/-- slices.IndexFunc[[]loop.example/g00837/impl.Type,loop.example/g00837/impl.Type] -/
def m64 : MC :=
  (.seq
   (.reg [⟨(some 4), none, .a (.asg (.c (.int .i64 0)))⟩])
   (.seq
    (.seq
     (.reg [⟨(some 6), none, .q (.mov (.t 0))⟩,
       ⟨(some 7), none, .q (.len false (.t 6))⟩,
       ⟨(some 8), none, .q (.mov (.c (.int .i64 0)))⟩])
     (.block 0
      (.loop [0, 1, 7, 8]
       (.seq
        (.reg [⟨(some 9), none, .q (.bin false .lss (.t 8) (.t 7))⟩])
        (.seq
         (.cond (.t 9)
          .skip
          (.exit 0))
         (.seq
          (.block 1
           (.seq
            (.reg [⟨(some 10), none, .q (.mov (.t 8))⟩,
              ⟨(some 5), none, .a (.asg (.t 10))⟩])
            (.seq
             (.reg [⟨(some 11), none, .q (.mov (.t 1))⟩,
               ⟨(some 12), none, .q (.mov (.t 0))⟩,
               ⟨(some 13), none, .q (.mov (.t 5))⟩,
               ⟨(some 14), none, .q (.iad 6 (.t 12) (.t 13))⟩,
               ⟨(some 15), none, .q (.load true 6 (.t 14))⟩,
               ⟨(some 16), none, .a (.call (.t 11) false [.lend (.t 15)])⟩])
             (.cond (.t 16)
              (.seq
               (.reg [⟨(some 17), none, .q (.mov (.t 5))⟩,
                 ⟨(some 4), none, .a (.asg (.t 17))⟩])
               .ret)
              .skip))))
          (.reg [⟨(some 18), none, .q (.bin false .add (.t 8) (.c (.int .i64 1)))⟩,
            ⟨(some 8), none, .q (.mov (.t 18))⟩])))))))
    (.seq
     (.reg [⟨(some 4), none, .a (.asg (.c (.int .i64 (-1))))⟩])
     .ret)))

theorem d64 (l : List Ty) (hl : l.length < 9223372036854775807) (f : Nat) (caps : List AV) (q : Ty → Bool) (hp : plains caps = true) (hb : bares caps = true) (hk : ∀ K, killVs K caps = caps) (hf : ∀ (st : St), frzBs st caps = caps)
    (hq : ∀ s ∈ l, Does Go.Proofs.Try.prog f (.agg s.z :: caps) false (.v (.bool (q s))) (.dead :: caps.map fun _ => .dead)) :
    Does Go.Proofs.Try.prog 64 [.fsl 6 (l.map Ty.z), .clo f caps] false (.v (.int .i64 (findI q l))) [.dead, .dead] := by
  refine does_intro (mc := m64) (N := 19) (rs := [4]) (fx := []) 2 rfl (by decide +kernel) ?_
  simp only [m64, EV, Nat.reduceEqDiff, Nat.reduceBEq, Nat.reduceLT, Nat.reduceLeDiff, Nat.reduceAdd, Nat.reduceSub, reduceIte]
  refine awp_loop (fun i : Nat => i ≤ l.length ∧ ∀ j (hj : j < l.length), j < i → q l[j] = false) (fun i => stl [(0, .fsl 6 (l.map Ty.z)), (1, .clo f caps), (7, .v (.int .i64 (l.length : Int))), (8, .v (.int .i64 (i : Int)))]) (fun i => l.length - i) 0 ⟨Nat.zero_le _, fun j hj h => absurd h (by omega)⟩ ?_ ?_
  · simp only [hp, hb, hk, EV, Nat.reduceEqDiff, Nat.reduceBEq, Nat.reduceLT, Nat.reduceLeDiff, Nat.reduceAdd, Nat.reduceSub, reduceIte]
    rfl
  · rintro i ⟨hi, hno⟩
    simp only [EV, Nat.reduceEqDiff, Nat.reduceBEq, Nat.reduceLT, Nat.reduceLeDiff, Nat.reduceAdd, Nat.reduceSub, reduceIte]
    refine cK_cut (fun h => ?_) (fun h => ?_)
    · have h1 : i < l.length := by simpa using h
      have h2 : (i : Int) < (l.length : Int) := by omega
      simp only [TyE, nth_map h1, h2, hp, hb, EV, Nat.reduceEqDiff, Nat.reduceBEq, Nat.reduceLT, Nat.reduceLeDiff, Nat.reduceAdd, Nat.reduceSub, reduceIte]
      refine callK_i (hq l[i] (List.getElem_mem h1)) ?_
      simp only [EV, Nat.reduceEqDiff, Nat.reduceBEq, Nat.reduceLT, Nat.reduceLeDiff, Nat.reduceAdd, Nat.reduceSub, reduceIte]
      refine cK_cut (fun h => ?_) (fun h => ?_)
      · simp only [EV, Nat.reduceEqDiff, Nat.reduceBEq, Nat.reduceLT, Nat.reduceLeDiff, Nat.reduceAdd, Nat.reduceSub, reduceIte]
        simp only [findI_at h1 h hno, EV, Nat.reduceEqDiff, Nat.reduceBEq, Nat.reduceLT, Nat.reduceLeDiff, Nat.reduceAdd, Nat.reduceSub, reduceIte, evRE, retVC, cellV', evR, nfz, nfzs, nfzss, List.contains_nil, List.contains_cons, Bool.or_false, or_true]
      · simp only [hp, hb, hk, EV, Nat.reduceEqDiff, Nat.reduceBEq, Nat.reduceLT, Nat.reduceLeDiff, Nat.reduceAdd, Nat.reduceSub, reduceIte]
        rw [w64 _ (by omega)]
        refine ⟨i + 1, ⟨by omega, ?_⟩, by omega, rfl⟩
        intro j hj hji
        by_cases e : j = i
        · subst e; exact h
        · exact hno j hj (by omega)
    · have h1 : i = l.length := by have : ¬ (i : Int) < l.length := by simpa using h
                                   omega
      subst h1
      simp only [EV, Nat.reduceEqDiff, Nat.reduceBEq, Nat.reduceLT, Nat.reduceLeDiff, Nat.reduceAdd, Nat.reduceSub, reduceIte]
      simp only [findI_no (fun j hj => hno j hj hj), EV, Nat.reduceEqDiff, Nat.reduceBEq, Nat.reduceLT, Nat.reduceLeDiff, Nat.reduceAdd, Nat.reduceSub, reduceIte, evRE, retVC, cellV', evR, nfz, nfzs, nfzss, List.contains_nil, List.contains_cons, Bool.or_false, or_true]

/-- slices.ContainsFunc[[]loop.example/g00837/impl.Type,loop.example/g00837/impl.Type] -/
def m47 : MC :=
  (.seq
   (.reg [⟨(some 4), none, .a (.asg (.c (.bool false)))⟩])
   (.seq
    (.reg [⟨(some 5), none, .q (.mov (.t 0))⟩,
      ⟨(some 6), none, .q (.mov (.t 1))⟩,
      ⟨(some 7), none, .a (.call (.fn 64) false [.lend (.t 5), .lend (.t 6)])⟩,
      ⟨(some 8), none, .q (.bin false .geq (.t 7) (.c (.int .i64 0)))⟩,
      ⟨(some 4), none, .a (.asg (.t 8))⟩])
    .ret))

theorem d47 (l : List Ty) (hl : l.length < 9223372036854775807) (f : Nat) (caps : List AV) (q : Ty → Bool) (hp : plains caps = true) (hb : bares caps = true) (hk : ∀ K, killVs K caps = caps) (hf : ∀ (st : St), frzBs st caps = caps)
    (hq : ∀ s ∈ l, Does Go.Proofs.Try.prog f (.agg s.z :: caps) false (.v (.bool (q s))) (.dead :: caps.map fun _ => .dead)) :
    Does Go.Proofs.Try.prog 47 [.fsl 6 (l.map Ty.z), .clo f caps] false (.v (.bool (l.any q))) [.dead, .dead] := by
  refine does_intro (mc := m47) (N := 9) (rs := [4]) (fx := []) 2 rfl (by decide +kernel) ?_
  simp only [m47, hp, hb, hk, hf, EV, Nat.reduceEqDiff, Nat.reduceBEq, Nat.reduceLT, Nat.reduceLeDiff, Nat.reduceAdd, Nat.reduceSub, reduceIte]
  refine callK_i (d64 l hl f caps q hp hb hk hf hq) ?_
  simp only [EV, Nat.reduceEqDiff, Nat.reduceBEq, Nat.reduceLT, Nat.reduceLeDiff, Nat.reduceAdd, Nat.reduceSub, reduceIte]
  simp only [findI_any, EV, Nat.reduceEqDiff, Nat.reduceBEq, Nat.reduceLT, Nat.reduceLeDiff, Nat.reduceAdd, Nat.reduceSub, reduceIte, evRE, retVC, cellV', evR, nfz, nfzs, nfzss, List.contains_nil, List.contains_cons, Bool.or_false, or_true]

/-- slices.IndexFunc[[]loop.example/g00837/impl.Field,loop.example/g00837/impl.Field] -/
def m89 : MC :=
  (.seq
   (.reg [⟨(some 4), none, .a (.asg (.c (.int .i64 0)))⟩])
   (.seq
    (.seq
     (.reg [⟨(some 6), none, .q (.mov (.t 0))⟩,
       ⟨(some 7), none, .q (.len false (.t 6))⟩,
       ⟨(some 8), none, .q (.mov (.c (.int .i64 0)))⟩])
     (.block 0
      (.loop [0, 1, 7, 8]
       (.seq
        (.reg [⟨(some 9), none, .q (.bin false .lss (.t 8) (.t 7))⟩])
        (.seq
         (.cond (.t 9)
          .skip
          (.exit 0))
         (.seq
          (.block 1
           (.seq
            (.reg [⟨(some 10), none, .q (.mov (.t 8))⟩,
              ⟨(some 5), none, .a (.asg (.t 10))⟩])
            (.seq
             (.reg [⟨(some 11), none, .q (.mov (.t 1))⟩,
               ⟨(some 12), none, .q (.mov (.t 0))⟩,
               ⟨(some 13), none, .q (.mov (.t 5))⟩,
               ⟨(some 14), none, .q (.iad 3 (.t 12) (.t 13))⟩,
               ⟨(some 15), none, .q (.load true 3 (.t 14))⟩,
               ⟨(some 16), none, .a (.call (.t 11) false [.lend (.t 15)])⟩])
             (.cond (.t 16)
              (.seq
               (.reg [⟨(some 17), none, .q (.mov (.t 5))⟩,
                 ⟨(some 4), none, .a (.asg (.t 17))⟩])
               .ret)
              .skip))))
          (.reg [⟨(some 18), none, .q (.bin false .add (.t 8) (.c (.int .i64 1)))⟩,
            ⟨(some 8), none, .q (.mov (.t 18))⟩])))))))
    (.seq
     (.reg [⟨(some 4), none, .a (.asg (.c (.int .i64 (-1))))⟩])
     .ret)))

theorem d89 (l : List Fd) (hl : l.length < 9223372036854775807) (f : Nat) (caps : List AV) (q : Fd → Bool) (hp : plains caps = true) (hb : bares caps = true) (hk : ∀ K, killVs K caps = caps) (hf : ∀ (st : St), frzBs st caps = caps)
    (hq : ∀ s ∈ l, Does Go.Proofs.Try.prog f (.agg s.z :: caps) false (.v (.bool (q s))) (.dead :: caps.map fun _ => .dead)) :
    Does Go.Proofs.Try.prog 89 [.fsl 3 (l.map Fd.z), .clo f caps] false (.v (.int .i64 (findI q l))) [.dead, .dead] := by
  refine does_intro (mc := m89) (N := 19) (rs := [4]) (fx := []) 2 rfl (by decide +kernel) ?_
  simp only [m89, EV, Nat.reduceEqDiff, Nat.reduceBEq, Nat.reduceLT, Nat.reduceLeDiff, Nat.reduceAdd, Nat.reduceSub, reduceIte]
  refine awp_loop (fun i : Nat => i ≤ l.length ∧ ∀ j (hj : j < l.length), j < i → q l[j] = false) (fun i => stl [(0, .fsl 3 (l.map Fd.z)), (1, .clo f caps), (7, .v (.int .i64 (l.length : Int))), (8, .v (.int .i64 (i : Int)))]) (fun i => l.length - i) 0 ⟨Nat.zero_le _, fun j hj h => absurd h (by omega)⟩ ?_ ?_
  · simp only [hp, hb, hk, EV, Nat.reduceEqDiff, Nat.reduceBEq, Nat.reduceLT, Nat.reduceLeDiff, Nat.reduceAdd, Nat.reduceSub, reduceIte]
    rfl
  · rintro i ⟨hi, hno⟩
    simp only [EV, Nat.reduceEqDiff, Nat.reduceBEq, Nat.reduceLT, Nat.reduceLeDiff, Nat.reduceAdd, Nat.reduceSub, reduceIte]
    refine cK_cut (fun h => ?_) (fun h => ?_)
    · have h1 : i < l.length := by simpa using h
      have h2 : (i : Int) < (l.length : Int) := by omega
      simp only [FdE, nth_map h1, h2, hp, hb, EV, Nat.reduceEqDiff, Nat.reduceBEq, Nat.reduceLT, Nat.reduceLeDiff, Nat.reduceAdd, Nat.reduceSub, reduceIte]
      refine callK_i (hq l[i] (List.getElem_mem h1)) ?_
      simp only [EV, Nat.reduceEqDiff, Nat.reduceBEq, Nat.reduceLT, Nat.reduceLeDiff, Nat.reduceAdd, Nat.reduceSub, reduceIte]
      refine cK_cut (fun h => ?_) (fun h => ?_)
      · simp only [EV, Nat.reduceEqDiff, Nat.reduceBEq, Nat.reduceLT, Nat.reduceLeDiff, Nat.reduceAdd, Nat.reduceSub, reduceIte]
        simp only [findI_at h1 h hno, EV, Nat.reduceEqDiff, Nat.reduceBEq, Nat.reduceLT, Nat.reduceLeDiff, Nat.reduceAdd, Nat.reduceSub, reduceIte, evRE, retVC, cellV', evR, nfz, nfzs, nfzss, List.contains_nil, List.contains_cons, Bool.or_false, or_true]
      · simp only [hp, hb, hk, EV, Nat.reduceEqDiff, Nat.reduceBEq, Nat.reduceLT, Nat.reduceLeDiff, Nat.reduceAdd, Nat.reduceSub, reduceIte]
        rw [w64 _ (by omega)]
        refine ⟨i + 1, ⟨by omega, ?_⟩, by omega, rfl⟩
        intro j hj hji
        by_cases e : j = i
        · subst e; exact h
        · exact hno j hj (by omega)
    · have h1 : i = l.length := by have : ¬ (i : Int) < l.length := by simpa using h
                                   omega
      subst h1
      simp only [EV, Nat.reduceEqDiff, Nat.reduceBEq, Nat.reduceLT, Nat.reduceLeDiff, Nat.reduceAdd, Nat.reduceSub, reduceIte]
      simp only [findI_no (fun j hj => hno j hj hj), EV, Nat.reduceEqDiff, Nat.reduceBEq, Nat.reduceLT, Nat.reduceLeDiff, Nat.reduceAdd, Nat.reduceSub, reduceIte, evRE, retVC, cellV', evR, nfz, nfzs, nfzss, List.contains_nil, List.contains_cons, Bool.or_false, or_true]

/-- slices.ContainsFunc[[]loop.example/g00837/impl.Field,loop.example/g00837/impl.Field] -/
def m74 : MC :=
  (.seq
   (.reg [⟨(some 4), none, .a (.asg (.c (.bool false)))⟩])
   (.seq
    (.reg [⟨(some 5), none, .q (.mov (.t 0))⟩,
      ⟨(some 6), none, .q (.mov (.t 1))⟩,
      ⟨(some 7), none, .a (.call (.fn 89) false [.lend (.t 5), .lend (.t 6)])⟩,
      ⟨(some 8), none, .q (.bin false .geq (.t 7) (.c (.int .i64 0)))⟩,
      ⟨(some 4), none, .a (.asg (.t 8))⟩])
    .ret))

theorem d74 (l : List Fd) (hl : l.length < 9223372036854775807) (f : Nat) (caps : List AV) (q : Fd → Bool) (hp : plains caps = true) (hb : bares caps = true) (hk : ∀ K, killVs K caps = caps) (hf : ∀ (st : St), frzBs st caps = caps)
    (hq : ∀ s ∈ l, Does Go.Proofs.Try.prog f (.agg s.z :: caps) false (.v (.bool (q s))) (.dead :: caps.map fun _ => .dead)) :
    Does Go.Proofs.Try.prog 74 [.fsl 3 (l.map Fd.z), .clo f caps] false (.v (.bool (l.any q))) [.dead, .dead] := by
  refine does_intro (mc := m74) (N := 9) (rs := [4]) (fx := []) 2 rfl (by decide +kernel) ?_
  simp only [m74, hp, hb, hk, hf, EV, Nat.reduceEqDiff, Nat.reduceBEq, Nat.reduceLT, Nat.reduceLeDiff, Nat.reduceAdd, Nat.reduceSub, reduceIte]
  refine callK_i (d89 l hl f caps q hp hb hk hf hq) ?_
  simp only [EV, Nat.reduceEqDiff, Nat.reduceBEq, Nat.reduceLT, Nat.reduceLeDiff, Nat.reduceAdd, Nat.reduceSub, reduceIte]
  simp only [findI_any, EV, Nat.reduceEqDiff, Nat.reduceBEq, Nat.reduceLT, Nat.reduceLeDiff, Nat.reduceAdd, Nat.reduceSub, reduceIte, evRE, retVC, cellV', evR, nfz, nfzs, nfzss, List.contains_nil, List.contains_cons, Bool.or_false, or_true]

/-- Are these of one name? -/
def tyNm (x o : Ty) : Bool := o.name.toList == x.name.toList && o.owner.toList == x.owner.toList

def fdNm (x o : Fd) : Bool := o.name.toList == x.name.toList

/-- loop.example/g00837/impl.areTypes$1 -/
def m48 : MC :=
  (.seq
   (.reg [⟨(some 2), none, .a (.box 43 (.t 0))⟩,
     ⟨(some 3), none, .a (.asg (.c (.bool false)))⟩])
   (.seq
    (.reg [⟨(some 4), none, .q (.fad 5 (.t 2))⟩,
      ⟨(some 5), none, .q (.load false 1 (.t 4))⟩,
      ⟨(some 6), none, .q (.fad 5 (.t 1))⟩,
      ⟨(some 7), none, .q (.load false 1 (.t 6))⟩,
      ⟨(some 8), none, .q (.bin false .eql (.t 5) (.t 7))⟩,
      ⟨(some 9), none, .q (.mov (.t 8))⟩,
      ⟨(some 10), (some (9, true)), .q (.fad 4 (.t 2))⟩,
      ⟨(some 11), (some (9, true)), .q (.load false 1 (.t 10))⟩,
      ⟨(some 12), (some (9, true)), .q (.fad 4 (.t 1))⟩,
      ⟨(some 13), (some (9, true)), .q (.load false 1 (.t 12))⟩,
      ⟨(some 14), (some (9, true)), .q (.bin false .eql (.t 11) (.t 13))⟩,
      ⟨(some 15), none, .q (.pick (.t 9) (.t 14) (.c (.bool false)))⟩,
      ⟨(some 3), none, .a (.asg (.t 15))⟩])
    .ret))

theorem d48 (o x : Ty) : Does Go.Proofs.Try.prog 48 [.agg o.z, .fptr x.z] false (.v (.bool (tyNm x o))) [.dead, .dead] := by
  refine does_intro (mc := m48) (N := 16) (rs := [3]) (fx := []) 2 rfl (by decide +kernel) ?_
  simp only [m48, Ty.z, EV, Nat.reduceEqDiff, Nat.reduceBEq, Nat.reduceLT, Nat.reduceLeDiff, Nat.reduceAdd, Nat.reduceSub, reduceIte]
  repeat' (first
    | (refine gK_cut (fun h => ?_) (fun h => ?_) <;> simp only [h, EV, Nat.reduceEqDiff, Nat.reduceBEq, Nat.reduceLT, Nat.reduceLeDiff, Nat.reduceAdd, Nat.reduceSub, reduceIte])
    | (refine cK_cut (fun h => ?_) (fun h => ?_) <;> simp only [h, EV, Nat.reduceEqDiff, Nat.reduceBEq, Nat.reduceLT, Nat.reduceLeDiff, Nat.reduceAdd, Nat.reduceSub, reduceIte]))
  all_goals simp only [tyNm, h, Bool.true_and, Bool.false_and, EV, Nat.reduceEqDiff, Nat.reduceBEq, Nat.reduceLT, Nat.reduceLeDiff, Nat.reduceAdd, Nat.reduceSub, reduceIte, evRE, retVC, cellV', evR, nfz, nfzs, nfzss, List.contains_nil, List.contains_cons, Bool.or_false, or_true]

/-- loop.example/g00837/impl.areFields$1 -/
def m75 : MC :=
  (.seq
   (.reg [⟨(some 2), none, .a (.box 54 (.t 0))⟩,
     ⟨(some 3), none, .a (.asg (.c (.bool false)))⟩])
   (.seq
    (.reg [⟨(some 4), none, .q (.fad 0 (.t 2))⟩,
      ⟨(some 5), none, .q (.load false 1 (.t 4))⟩,
      ⟨(some 6), none, .q (.fad 0 (.t 1))⟩,
      ⟨(some 7), none, .q (.load false 1 (.t 6))⟩,
      ⟨(some 8), none, .q (.bin false .eql (.t 5) (.t 7))⟩,
      ⟨(some 3), none, .a (.asg (.t 8))⟩])
    .ret))

theorem d75 (o x : Fd) : Does Go.Proofs.Try.prog 75 [.agg o.z, .fptr x.z] false (.v (.bool (fdNm x o))) [.dead, .dead] := by
  refine does_intro (mc := m75) (N := 9) (rs := [3]) (fx := []) 2 rfl (by decide +kernel) ?_
  simp only [m75, Fd.z, EV, Nat.reduceEqDiff, Nat.reduceBEq, Nat.reduceLT, Nat.reduceLeDiff, Nat.reduceAdd, Nat.reduceSub, reduceIte]
  simp only [fdNm, EV, Nat.reduceEqDiff, Nat.reduceBEq, Nat.reduceLT, Nat.reduceLeDiff, Nat.reduceAdd, Nat.reduceSub, reduceIte, evRE, retVC, cellV', evR, nfz, nfzs, nfzss, List.contains_nil, List.contains_cons, Bool.or_false, or_true]

def baseTs : List Ty := [⟨1, 0, -1, [], ⟨#[]⟩, ⟨#[73, 78, 84]⟩⟩, ⟨2, 0, -1, [], ⟨#[]⟩, ⟨#[66, 79, 79, 76]⟩⟩, ⟨3, 0, -1, [], ⟨#[]⟩, ⟨#[67, 72, 65, 82]⟩⟩]

/-- loop.example/g00837/impl.BaseTypes -/
def m44 : MC :=
  (.seq
   (.reg [⟨(some 0), none, .a (.asg (.nils 43 6))⟩])
   (.seq
    (.reg [⟨(some 1), none, .a (.build [0, 2, 5] [0, 2, 5] [1, 1, 1] [.v (.int .i64 0), .v (.int .i64 0), .v (.int .i64 0), .s 54 3, .v (.string ({ data := #[] })), .v (.string ({ data := #[] }))] [.c (.int .i64 1), .c (.int .i64 (-1)), .c (.string ({ data := #[73, 78, 84] }))])⟩,
      ⟨(some 2), none, .a (.build [0, 2, 5] [0, 2, 5] [1, 1, 1] [.v (.int .i64 0), .v (.int .i64 0), .v (.int .i64 0), .s 54 3, .v (.string ({ data := #[] })), .v (.string ({ data := #[] }))] [.c (.int .i64 2), .c (.int .i64 (-1)), .c (.string ({ data := #[66, 79, 79, 76] }))])⟩,
      ⟨(some 3), none, .a (.build [0, 2, 5] [0, 2, 5] [1, 1, 1] [.v (.int .i64 0), .v (.int .i64 0), .v (.int .i64 0), .s 54 3, .v (.string ({ data := #[] })), .v (.string ({ data := #[] }))] [.c (.int .i64 3), .c (.int .i64 (-1)), .c (.string ({ data := #[67, 72, 65, 82] }))])⟩,
      ⟨(some 4), none, .a (.bsl 43 6 [.t 1, .t 2, .t 3])⟩,
      ⟨(some 0), none, .a (.asg (.t 4))⟩])
    .ret))

theorem d44 : Does Go.Proofs.Try.prog 44 [] false (.usl 43 6 (baseTs.map Ty.o)) [] := by
  refine does_intro (mc := m44) (N := 5) (rs := [0]) (fx := []) 0 rfl (by decide +kernel) ?_
  simp only [m44, baseTs, Ty.o, EV, Nat.reduceEqDiff, Nat.reduceBEq, Nat.reduceLT, Nat.reduceLeDiff, Nat.reduceAdd, Nat.reduceSub, reduceIte]
  simp only [EV, Nat.reduceEqDiff, Nat.reduceBEq, Nat.reduceLT, Nat.reduceLeDiff, Nat.reduceAdd, Nat.reduceSub, reduceIte, evRE, retVC, cellV', evR, nfz, nfzs, nfzss, List.contains_nil, List.contains_cons, Bool.or_false, or_true]

/-- loop.example/g00837/spec.BaseTypes -/
def m58 : MC :=
  (.seq
   (.reg [⟨(some 0), none, .a (.asg (.nils 43 6))⟩])
   (.seq
    (.reg [⟨(some 1), none, .a (.build [0, 2, 5] [0, 2, 5] [1, 1, 1] [.v (.int .i64 0), .v (.int .i64 0), .v (.int .i64 0), .s 54 3, .v (.string ({ data := #[] })), .v (.string ({ data := #[] }))] [.c (.int .i64 1), .c (.int .i64 (-1)), .c (.string ({ data := #[73, 78, 84] }))])⟩,
      ⟨(some 2), none, .a (.build [0, 2, 5] [0, 2, 5] [1, 1, 1] [.v (.int .i64 0), .v (.int .i64 0), .v (.int .i64 0), .s 54 3, .v (.string ({ data := #[] })), .v (.string ({ data := #[] }))] [.c (.int .i64 2), .c (.int .i64 (-1)), .c (.string ({ data := #[66, 79, 79, 76] }))])⟩,
      ⟨(some 3), none, .a (.build [0, 2, 5] [0, 2, 5] [1, 1, 1] [.v (.int .i64 0), .v (.int .i64 0), .v (.int .i64 0), .s 54 3, .v (.string ({ data := #[] })), .v (.string ({ data := #[] }))] [.c (.int .i64 3), .c (.int .i64 (-1)), .c (.string ({ data := #[67, 72, 65, 82] }))])⟩,
      ⟨(some 4), none, .a (.bsl 43 6 [.t 1, .t 2, .t 3])⟩,
      ⟨(some 0), none, .a (.asg (.t 4))⟩])
    .ret))

theorem d58 : Does Go.Proofs.Try.prog 58 [] false (.usl 43 6 (baseTs.map Ty.o)) [] := by
  refine does_intro (mc := m58) (N := 5) (rs := [0]) (fx := []) 0 rfl (by decide +kernel) ?_
  simp only [m58, baseTs, Ty.o, EV, Nat.reduceEqDiff, Nat.reduceBEq, Nat.reduceLT, Nat.reduceLeDiff, Nat.reduceAdd, Nat.reduceSub, reduceIte]
  simp only [EV, Nat.reduceEqDiff, Nat.reduceBEq, Nat.reduceLT, Nat.reduceLeDiff, Nat.reduceAdd, Nat.reduceSub, reduceIte, evRE, retVC, cellV', evR, nfz, nfzs, nfzss, List.contains_nil, List.contains_cons, Bool.or_false, or_true]

def isNum (l : List Ty) (n : Int) : Bool := decide (0 ≤ n) && decide (n ≤ (l.length : Int) - 1)

def kd (l : List Ty) (n : Int) : Int := match l[n.toNat]? with
  | some t => t.kind
  | none => 0

theorem isNum_lt {l : List Ty} {n : Int} (h : isNum l n = true) : 0 ≤ n ∧ n < l.length ∧ ∃ hn : n.toNat < l.length, kd l n = l[n.toNat].kind := by
  simp only [isNum, Bool.and_eq_true, decide_eq_true_eq] at h
  have hn : n.toNat < l.length := by omega
  exact ⟨h.1, by omega, hn, by simp [kd, hn]⟩

/-- loop.example/g00837/impl.isNumber -/
def m66 : MC :=
  (.seq
   (.reg [⟨(some 4), none, .a (.asg (.c (.bool false)))⟩])
   (.seq
    (.reg [⟨(some 5), none, .q (.mov (.t 1))⟩,
      ⟨(some 6), none, .q (.mov (.t 0))⟩,
      ⟨(some 7), none, .q (.len false (.t 6))⟩,
      ⟨(some 8), none, .q (.bin false .sub (.t 7) (.c (.int .i64 1)))⟩,
      ⟨(some 9), none, .a (.call (.fn 19) false [.lend (.t 5), .lend (.c (.int .i64 0)), .lend (.t 8)])⟩,
      ⟨(some 4), none, .a (.asg (.t 9))⟩])
    .ret))

theorem d66 (l : List Ty) (n : Int) (hl : (l.length : Int) ≤ 1048576) : Does Go.Proofs.Try.prog 66 [.fsl 6 (l.map Ty.z), .v (.int .i64 n)] false (.v (.bool (isNum l n))) [.dead, .dead] := by
  refine does_intro (mc := m66) (N := 10) (rs := [4]) (fx := []) 2 rfl (by decide +kernel) ?_
  simp only [m66, EV, Nat.reduceEqDiff, Nat.reduceBEq, Nat.reduceLT, Nat.reduceLeDiff, Nat.reduceAdd, Nat.reduceSub, reduceIte]
  rw [w64 _ (by omega)]
  refine callK_i (d19 _ _ _) ?_
  simp only [EV, Nat.reduceEqDiff, Nat.reduceBEq, Nat.reduceLT, Nat.reduceLeDiff, Nat.reduceAdd, Nat.reduceSub, reduceIte]
  simp only [isNum, EV, Nat.reduceEqDiff, Nat.reduceBEq, Nat.reduceLT, Nat.reduceLeDiff, Nat.reduceAdd, Nat.reduceSub, reduceIte, evRE, retVC, cellV', evR, nfz, nfzs, nfzss, List.contains_nil, List.contains_cons, Bool.or_false, or_true]

def isRec (l : List Ty) (n : Int) : Bool := isNum l n && kd l n == 5

/-- loop.example/g00837/impl.isRecord -/
def m67 : MC :=
  (.seq
   (.reg [⟨(some 4), none, .a (.asg (.c (.bool false)))⟩])
   (.seq
    (.reg [⟨(some 5), none, .q (.mov (.t 0))⟩,
      ⟨(some 6), none, .q (.mov (.t 1))⟩,
      ⟨(some 7), none, .a (.call (.fn 66) false [.lend (.t 5), .lend (.t 6)])⟩,
      ⟨(some 8), none, .q (.mov (.t 7))⟩,
      ⟨(some 9), (some (8, true)), .q (.mov (.t 0))⟩,
      ⟨(some 10), (some (8, true)), .q (.mov (.t 1))⟩,
      ⟨(some 11), (some (8, true)), .q (.iad 6 (.t 9) (.t 10))⟩,
      ⟨(some 12), (some (8, true)), .q (.fad 0 (.t 11))⟩,
      ⟨(some 13), (some (8, true)), .q (.load false 1 (.t 12))⟩,
      ⟨(some 14), (some (8, true)), .q (.bin false .eql (.t 13) (.c (.int .i64 5)))⟩,
      ⟨(some 15), none, .q (.pick (.t 8) (.t 14) (.c (.bool false)))⟩,
      ⟨(some 4), none, .a (.asg (.t 15))⟩])
    .ret))

set_option maxRecDepth 100000 in
theorem d67 (l : List Ty) (n : Int) (hl : (l.length : Int) ≤ 1048576) : Does Go.Proofs.Try.prog 67 [.fsl 6 (l.map Ty.z), .v (.int .i64 n)] false (.v (.bool (isRec l n))) [.dead, .dead] := by
  refine does_intro (mc := m67) (N := 16) (rs := [4]) (fx := []) 2 rfl (by decide +kernel) ?_
  simp only [m67, EV, Nat.reduceEqDiff, Nat.reduceBEq, Nat.reduceLT, Nat.reduceLeDiff, Nat.reduceAdd, Nat.reduceSub, reduceIte]
  refine callK_i (d66 l n hl) ?_
  simp only [EV, Nat.reduceEqDiff, Nat.reduceBEq, Nat.reduceLT, Nat.reduceLeDiff, Nat.reduceAdd, Nat.reduceSub, reduceIte]
  rcases e : isNum l n with _ | _
  · simp only [EV, Nat.reduceEqDiff, Nat.reduceBEq, Nat.reduceLT, Nat.reduceLeDiff, Nat.reduceAdd, Nat.reduceSub, reduceIte]
    simp only [isRec, e, Bool.false_and, EV, Nat.reduceEqDiff, Nat.reduceBEq, Nat.reduceLT, Nat.reduceLeDiff, Nat.reduceAdd, Nat.reduceSub, reduceIte, evRE, retVC, cellV', evR, nfz, nfzs, nfzss, List.contains_nil, List.contains_cons, Bool.or_false, or_true]
  · obtain ⟨h0, h1, hn, hk⟩ := isNum_lt e
    simp only [h0, h1, nth_map hn, Ty.z, EV, Nat.reduceEqDiff, Nat.reduceBEq, Nat.reduceLT, Nat.reduceLeDiff, Nat.reduceAdd, Nat.reduceSub, reduceIte]
    simp only [isRec, e, hk, Bool.true_and, EV, Nat.reduceEqDiff, Nat.reduceBEq, Nat.reduceLT, Nat.reduceLeDiff, Nat.reduceAdd, Nat.reduceSub, reduceIte, evRE, retVC, cellV', evR, nfz, nfzs, nfzss, List.contains_nil, List.contains_cons, Bool.or_false, or_true]

def kindIn (l : List Ty) (n a b : Int) : Bool := isNum l n && (kd l n == a || kd l n == b)

/-- loop.example/g00837/spec.l3Kind -/
def m60 : MC :=
  (.seq
   (.reg [⟨(some 8), none, .a (.asg (.c (.bool false)))⟩])
   (.seq
    (.reg [⟨(some 9), none, .q (.mov (.t 1))⟩,
      ⟨(some 10), none, .q (.mov (.t 0))⟩,
      ⟨(some 11), none, .q (.len false (.t 10))⟩,
      ⟨(some 12), none, .q (.bin false .sub (.t 11) (.c (.int .i64 1)))⟩,
      ⟨(some 13), none, .a (.call (.fn 15) false [.lend (.t 9), .lend (.c (.int .i64 0)), .lend (.t 12)])⟩,
      ⟨(some 14), none, .q (.mov (.t 13))⟩,
      ⟨(some 15), (some (14, true)), .q (.mov (.t 0))⟩,
      ⟨(some 16), (some (14, true)), .q (.mov (.t 1))⟩,
      ⟨(some 17), (some (14, true)), .q (.iad 6 (.t 15) (.t 16))⟩,
      ⟨(some 18), (some (14, true)), .q (.fad 0 (.t 17))⟩,
      ⟨(some 19), (some (14, true)), .q (.load false 1 (.t 18))⟩,
      ⟨(some 20), (some (14, true)), .q (.mov (.t 2))⟩,
      ⟨(some 21), (some (14, true)), .q (.bin false .eql (.t 19) (.t 20))⟩,
      ⟨(some 22), (some (14, true)), .q (.mov (.t 21))⟩,
      ⟨(some 23), (some (22, false)), .q (.mov (.t 0))⟩,
      ⟨(some 24), (some (22, false)), .q (.mov (.t 1))⟩,
      ⟨(some 25), (some (22, false)), .q (.iad 6 (.t 23) (.t 24))⟩,
      ⟨(some 26), (some (22, false)), .q (.fad 0 (.t 25))⟩,
      ⟨(some 27), (some (22, false)), .q (.load false 1 (.t 26))⟩,
      ⟨(some 28), (some (22, false)), .q (.mov (.t 3))⟩,
      ⟨(some 29), (some (22, false)), .q (.bin false .eql (.t 27) (.t 28))⟩,
      ⟨(some 30), (some (14, true)), .q (.pick (.t 22) (.c (.bool true)) (.t 29))⟩,
      ⟨(some 31), none, .q (.pick (.t 14) (.t 30) (.c (.bool false)))⟩,
      ⟨(some 8), none, .a (.asg (.t 31))⟩])
    .ret))

set_option maxRecDepth 100000 in
theorem d60 (l : List Ty) (n a b : Int) (hl : (l.length : Int) ≤ 1048576) : Does Go.Proofs.Try.prog 60 [.fsl 6 (l.map Ty.z), .v (.int .i64 n), .v (.int .i64 a), .v (.int .i64 b)] false (.v (.bool (kindIn l n a b))) [.dead, .dead, .dead, .dead] := by
  refine does_intro (mc := m60) (N := 32) (rs := [8]) (fx := []) 4 rfl (by decide +kernel) ?_
  simp only [m60, EV, Nat.reduceEqDiff, Nat.reduceBEq, Nat.reduceLT, Nat.reduceLeDiff, Nat.reduceAdd, Nat.reduceSub, reduceIte]
  rw [w64 _ (by omega)]
  refine callK_i (d15 _ _ _) ?_
  have en : isNum l n = (decide (0 ≤ n) && decide (n ≤ (l.length : Int) - 1)) := rfl
  rw [← en]
  simp only [EV, Nat.reduceEqDiff, Nat.reduceBEq, Nat.reduceLT, Nat.reduceLeDiff, Nat.reduceAdd, Nat.reduceSub, reduceIte]
  rcases e : isNum l n with _ | _
  · simp only [EV, Nat.reduceEqDiff, Nat.reduceBEq, Nat.reduceLT, Nat.reduceLeDiff, Nat.reduceAdd, Nat.reduceSub, reduceIte]
    simp only [kindIn, e, Bool.false_and, EV, Nat.reduceEqDiff, Nat.reduceBEq, Nat.reduceLT, Nat.reduceLeDiff, Nat.reduceAdd, Nat.reduceSub, reduceIte, evRE, retVC, cellV', evR, nfz, nfzs, nfzss, List.contains_nil, List.contains_cons, Bool.or_false, or_true]
  · obtain ⟨h0, h1, hn, hk⟩ := isNum_lt e
    simp only [h0, h1, nth_map hn, Ty.z, EV, Nat.reduceEqDiff, Nat.reduceBEq, Nat.reduceLT, Nat.reduceLeDiff, Nat.reduceAdd, Nat.reduceSub, reduceIte]
    refine gK_cut (fun h => ?_) (fun h => ?_)
    · simp only [h, EV, Nat.reduceEqDiff, Nat.reduceBEq, Nat.reduceLT, Nat.reduceLeDiff, Nat.reduceAdd, Nat.reduceSub, reduceIte]
      simp only [kindIn, e, hk, h, Bool.true_and, Bool.true_or, EV, Nat.reduceEqDiff, Nat.reduceBEq, Nat.reduceLT, Nat.reduceLeDiff, Nat.reduceAdd, Nat.reduceSub, reduceIte, evRE, retVC, cellV', evR, nfz, nfzs, nfzss, List.contains_nil, List.contains_cons, Bool.or_false, or_true]
    · simp only [h, h0, h1, nth_map hn, Ty.z, EV, Nat.reduceEqDiff, Nat.reduceBEq, Nat.reduceLT, Nat.reduceLeDiff, Nat.reduceAdd, Nat.reduceSub, reduceIte]
      simp only [kindIn, e, hk, h, Bool.true_and, Bool.false_or, EV, Nat.reduceEqDiff, Nat.reduceBEq, Nat.reduceLT, Nat.reduceLeDiff, Nat.reduceAdd, Nat.reduceSub, reduceIte, evRE, retVC, cellV', evR, nfz, nfzs, nfzss, List.contains_nil, List.contains_cons, Bool.or_false, or_true]

noncomputable def named (t : Ty) : Bool := nameOk t.name && nameOk t.owner || (t.name.toList == (⟨#[]⟩ : ByteArray).toList && t.owner.toList == (⟨#[]⟩ : ByteArray).toList)

/-- (loop.example/g00837/impl.Type).isNamed -/
def m65 : MC :=
  (.seq
   (.reg [⟨(some 1), none, .a (.box 43 (.t 0))⟩,
     ⟨(some 2), none, .a (.asg (.c (.bool false)))⟩])
   (.seq
    (.reg [⟨(some 3), none, .q (.fad 5 (.t 1))⟩,
      ⟨(some 4), none, .q (.load false 1 (.t 3))⟩,
      ⟨(some 5), none, .a (.call (.fn 73) false [.lend (.t 4)])⟩,
      ⟨(some 6), none, .q (.mov (.t 5))⟩,
      ⟨(some 7), (some (6, true)), .q (.fad 4 (.t 1))⟩,
      ⟨(some 8), (some (6, true)), .q (.load false 1 (.t 7))⟩,
      ⟨(some 9), (some (6, true)), .a (.call (.fn 73) false [.lend (.t 8)])⟩,
      ⟨(some 10), none, .q (.pick (.t 6) (.t 9) (.c (.bool false)))⟩,
      ⟨(some 11), none, .q (.mov (.t 10))⟩,
      ⟨(some 12), (some (11, false)), .q (.fad 5 (.t 1))⟩,
      ⟨(some 13), (some (11, false)), .q (.load false 1 (.t 12))⟩,
      ⟨(some 14), (some (11, false)), .q (.bin false .eql (.t 13) (.c (.string ({ data := #[] }))))⟩,
      ⟨(some 15), (some (11, false)), .q (.mov (.t 14))⟩,
      ⟨(some 16), (some (15, true)), .q (.fad 4 (.t 1))⟩,
      ⟨(some 17), (some (15, true)), .q (.load false 1 (.t 16))⟩,
      ⟨(some 18), (some (15, true)), .q (.bin false .eql (.t 17) (.c (.string ({ data := #[] }))))⟩,
      ⟨(some 19), (some (11, false)), .q (.pick (.t 15) (.t 18) (.c (.bool false)))⟩,
      ⟨(some 20), none, .q (.pick (.t 11) (.c (.bool true)) (.t 19))⟩,
      ⟨(some 2), none, .a (.asg (.t 20))⟩])
    .ret))

set_option maxRecDepth 100000 in
theorem d65 (t : Ty) (ht : t.sm) : Does Go.Proofs.Try.prog 65 [.agg t.z] false (.v (.bool (named t))) [.dead] := by
  unfold Ty.sm at ht
  refine does_intro (mc := m65) (N := 21) (rs := [2]) (fx := []) 1 rfl (by decide +kernel) ?_
  simp only [m65, Ty.z, EV, Nat.reduceEqDiff, Nat.reduceBEq, Nat.reduceLT, Nat.reduceLeDiff, Nat.reduceAdd, Nat.reduceSub, reduceIte]
  refine callK_i (d73 _ (by omega)) ?_
  simp only [EV, Nat.reduceEqDiff, Nat.reduceBEq, Nat.reduceLT, Nat.reduceLeDiff, Nat.reduceAdd, Nat.reduceSub, reduceIte]
  repeat' (first
    | (refine gK_cut (fun h => ?_) (fun h => ?_) <;> simp only [h, EV, Nat.reduceEqDiff, Nat.reduceBEq, Nat.reduceLT, Nat.reduceLeDiff, Nat.reduceAdd, Nat.reduceSub, reduceIte])
    | (refine cK_cut (fun h => ?_) (fun h => ?_) <;> simp only [h, EV, Nat.reduceEqDiff, Nat.reduceBEq, Nat.reduceLT, Nat.reduceLeDiff, Nat.reduceAdd, Nat.reduceSub, reduceIte])
    | (refine callK_i (d73 _ (by omega)) ?_ <;> simp only [h, EV, Nat.reduceEqDiff, Nat.reduceBEq, Nat.reduceLT, Nat.reduceLeDiff, Nat.reduceAdd, Nat.reduceSub, reduceIte]))
  all_goals simp only [named, *, Bool.true_and, Bool.false_and, Bool.and_true, Bool.and_false, Bool.true_or, Bool.false_or, Bool.or_false, Bool.or_true, EV, Nat.reduceEqDiff, Nat.reduceBEq, Nat.reduceLT, Nat.reduceLeDiff, Nat.reduceAdd, Nat.reduceSub, reduceIte, evRE, retVC, cellV', evR, nfz, nfzs, nfzss, List.contains_nil, List.contains_cons, Bool.or_false, or_true]

end Go.AM
namespace Go.AM
set_option linter.unusedVariables false
set_option linter.unusedSimpArgs false
/-- A whole number as a row of one cell. -/
def iv (n : Int) : List AV := [.v (.int .i64 n)]

theorem iv_frz : ∀ l : List Int, frzRows (l.map iv) = l.map iv
  | [] => rfl
  | n :: l => by simp only [List.map_cons, frzRows, iv_frz l]; rfl

theorem iv_nfz : ∀ l : List Int, nfzss (l.map iv) = true
  | [] => rfl
  | n :: l => by simp only [List.map_cons, nfzss, iv_nfz l, Bool.and_true]; rfl

theorem iv_stor {l : List Int} {a b : Nat} : ∀ c ∈ ((l.map iv).drop a).take b, ∀ u ∈ c, storP u = true := by
  intro c hc u hu
  have := List.mem_of_mem_drop (List.mem_of_mem_take hc)
  obtain ⟨n, _, rfl⟩ := List.mem_map.1 this
  simp only [iv, List.mem_singleton] at hu
  subst hu
  rfl

theorem iv_stor1 {l : List Int} : ∀ c ∈ l.map iv, ∀ u ∈ c, storP u = true := by
  intro c hc
  obtain ⟨n, _, rfl⟩ := List.mem_map.1 hc
  intro u hu
  simp only [iv, List.mem_singleton] at hu
  subst hu
  rfl

theorem iv_stor0 {l : List Int} {k : Nat} : ∀ c ∈ (l.map iv).take k, ∀ u ∈ c, storP u = true := fun c hc => iv_stor1 c (List.mem_of_mem_take hc)

/-- slices.Index[[]int,int] -/
def m71 : MC :=
  (.seq
   (.reg [⟨(some 4), none, .a (.asg (.c (.int .i64 0)))⟩])
   (.seq
    (.seq
     (.reg [⟨(some 6), none, .q (.mov (.t 0))⟩,
       ⟨(some 7), none, .q (.len false (.t 6))⟩,
       ⟨(some 8), none, .q (.mov (.c (.int .i64 0)))⟩])
     (.block 0
      (.loop [0, 1, 7, 8]
       (.seq
        (.reg [⟨(some 9), none, .q (.bin false .lss (.t 8) (.t 7))⟩])
        (.seq
         (.cond (.t 9)
          .skip
          (.exit 0))
         (.seq
          (.block 1
           (.seq
            (.reg [⟨(some 10), none, .q (.mov (.t 8))⟩,
              ⟨(some 5), none, .a (.asg (.t 10))⟩])
            (.seq
             (.reg [⟨(some 11), none, .q (.mov (.t 1))⟩,
               ⟨(some 12), none, .q (.mov (.t 0))⟩,
               ⟨(some 13), none, .q (.mov (.t 5))⟩,
               ⟨(some 14), none, .q (.iad 1 (.t 12) (.t 13))⟩,
               ⟨(some 15), none, .q (.load false 1 (.t 14))⟩,
               ⟨(some 16), none, .q (.bin false .eql (.t 11) (.t 15))⟩])
             (.cond (.t 16)
              (.seq
               (.reg [⟨(some 17), none, .q (.mov (.t 5))⟩,
                 ⟨(some 4), none, .a (.asg (.t 17))⟩])
               .ret)
              .skip))))
          (.reg [⟨(some 18), none, .q (.bin false .add (.t 8) (.c (.int .i64 1)))⟩,
            ⟨(some 8), none, .q (.mov (.t 18))⟩])))))))
    (.seq
     (.reg [⟨(some 4), none, .a (.asg (.c (.int .i64 (-1))))⟩])
     .ret)))

theorem d71 (l : List Int) (n : Int) (hl : l.length < 9223372036854775807) : Does Go.Proofs.Try.prog 71 [.fsl 1 (l.map iv), .v (.int .i64 n)] false (.v (.int .i64 (findI (fun x => n == x) l))) [.dead, .dead] := by
  refine does_intro (mc := m71) (N := 19) (rs := [4]) (fx := []) 2 rfl (by decide +kernel) ?_
  simp only [m71, EV, Nat.reduceEqDiff, Nat.reduceBEq, Nat.reduceLT, Nat.reduceLeDiff, Nat.reduceAdd, Nat.reduceSub, reduceIte]
  refine awp_loop (fun i : Nat => i ≤ l.length ∧ ∀ j (hj : j < l.length), j < i → (n == l[j]) = false) (fun i => stl [(0, .fsl 1 (l.map iv)), (1, .v (.int .i64 n)), (7, .v (.int .i64 (l.length : Int))), (8, .v (.int .i64 (i : Int)))]) (fun i => l.length - i) 0 ⟨Nat.zero_le _, fun j hj h => absurd h (by omega)⟩ ?_ ?_
  · simp only [EV, Nat.reduceEqDiff, Nat.reduceBEq, Nat.reduceLT, Nat.reduceLeDiff, Nat.reduceAdd, Nat.reduceSub, reduceIte]
    rfl
  · rintro i ⟨hi, hno⟩
    simp only [EV, Nat.reduceEqDiff, Nat.reduceBEq, Nat.reduceLT, Nat.reduceLeDiff, Nat.reduceAdd, Nat.reduceSub, reduceIte]
    refine cK_cut (fun h => ?_) (fun h => ?_)
    · have h1 : i < l.length := by simpa using h
      have h2 : (i : Int) < (l.length : Int) := by omega
      simp only [nth_map h1, h2, iv, EV, Nat.reduceEqDiff, Nat.reduceBEq, Nat.reduceLT, Nat.reduceLeDiff, Nat.reduceAdd, Nat.reduceSub, reduceIte]
      refine cK_cut (fun h => ?_) (fun h => ?_)
      · simp only [EV, Nat.reduceEqDiff, Nat.reduceBEq, Nat.reduceLT, Nat.reduceLeDiff, Nat.reduceAdd, Nat.reduceSub, reduceIte]
        simp only [findI_at h1 h hno, EV, Nat.reduceEqDiff, Nat.reduceBEq, Nat.reduceLT, Nat.reduceLeDiff, Nat.reduceAdd, Nat.reduceSub, reduceIte, evRE, retVC, cellV', evR, nfz, nfzs, nfzss, List.contains_nil, List.contains_cons, Bool.or_false, or_true]
      · simp only [EV, Nat.reduceEqDiff, Nat.reduceBEq, Nat.reduceLT, Nat.reduceLeDiff, Nat.reduceAdd, Nat.reduceSub, reduceIte]
        rw [w64 _ (by omega)]
        refine ⟨i + 1, ⟨by omega, ?_⟩, by omega, rfl⟩
        intro j hj hji
        by_cases e : j = i
        · subst e; exact h
        · exact hno j hj (by omega)
    · have h1 : i = l.length := by have : ¬ (i : Int) < l.length := by simpa using h
                                   omega
      subst h1
      simp only [EV, Nat.reduceEqDiff, Nat.reduceBEq, Nat.reduceLT, Nat.reduceLeDiff, Nat.reduceAdd, Nat.reduceSub, reduceIte]
      simp only [findI_no (fun j hj => hno j hj hj), EV, Nat.reduceEqDiff, Nat.reduceBEq, Nat.reduceLT, Nat.reduceLeDiff, Nat.reduceAdd, Nat.reduceSub, reduceIte, evRE, retVC, cellV', evR, nfz, nfzs, nfzss, List.contains_nil, List.contains_cons, Bool.or_false, or_true]

theorem any_contains (l : List Int) (n : Int) : (l.any fun x => n == x) = l.contains n := by rw [List.contains_eq_any_beq]

/-- slices.Contains[[]int,int] -/
def m52 : MC :=
  (.seq
   (.reg [⟨(some 4), none, .a (.asg (.c (.bool false)))⟩])
   (.seq
    (.reg [⟨(some 5), none, .q (.mov (.t 0))⟩,
      ⟨(some 6), none, .q (.mov (.t 1))⟩,
      ⟨(some 7), none, .a (.call (.fn 71) false [.lend (.t 5), .lend (.t 6)])⟩,
      ⟨(some 8), none, .q (.bin false .geq (.t 7) (.c (.int .i64 0)))⟩,
      ⟨(some 4), none, .a (.asg (.t 8))⟩])
    .ret))

theorem d52 (l : List Int) (n : Int) (hl : l.length < 9223372036854775807) : Does Go.Proofs.Try.prog 52 [.fsl 1 (l.map iv), .v (.int .i64 n)] false (.v (.bool (l.contains n))) [.dead, .dead] := by
  refine does_intro (mc := m52) (N := 9) (rs := [4]) (fx := []) 2 rfl (by decide +kernel) ?_
  simp only [m52, EV, Nat.reduceEqDiff, Nat.reduceBEq, Nat.reduceLT, Nat.reduceLeDiff, Nat.reduceAdd, Nat.reduceSub, reduceIte]
  refine callK_i (d71 l n hl) ?_
  simp only [EV, Nat.reduceEqDiff, Nat.reduceBEq, Nat.reduceLT, Nat.reduceLeDiff, Nat.reduceAdd, Nat.reduceSub, reduceIte]
  simp only [findI_any, any_contains, EV, Nat.reduceEqDiff, Nat.reduceBEq, Nat.reduceLT, Nat.reduceLeDiff, Nat.reduceAdd, Nat.reduceSub, reduceIte, evRE, retVC, cellV', evR, nfz, nfzs, nfzss, List.contains_nil, List.contains_cons, Bool.or_false, or_true]

/-- loop.example/g00837/spec.l1Has -/
def m39 : MC :=
  (.seq
   (.reg [⟨(some 4), none, .a (.asg (.c (.bool false)))⟩])
   (.seq
    (.seq
     (.reg [⟨(some 7), none, .q (.mov (.t 0))⟩,
       ⟨(some 8), none, .q (.len false (.t 7))⟩,
       ⟨(some 9), none, .q (.mov (.c (.int .i64 0)))⟩])
     (.block 0
      (.loop [0, 1, 7, 8, 9]
       (.seq
        (.reg [⟨(some 10), none, .q (.bin false .lss (.t 9) (.t 8))⟩])
        (.seq
         (.cond (.t 10)
          .skip
          (.exit 0))
         (.seq
          (.block 1
           (.seq
            (.reg [⟨(some 11), none, .q (.iad 1 (.t 7) (.t 9))⟩,
              ⟨(some 12), none, .q (.load false 1 (.t 11))⟩,
              ⟨(some 6), none, .a (.asg (.t 12))⟩])
            (.seq
             (.reg [⟨(some 13), none, .q (.mov (.t 6))⟩,
               ⟨(some 14), none, .q (.mov (.t 1))⟩,
               ⟨(some 15), none, .q (.bin false .eql (.t 13) (.t 14))⟩])
             (.cond (.t 15)
              (.seq
               (.reg [⟨(some 4), none, .a (.asg (.c (.bool true)))⟩])
               .ret)
              .skip))))
          (.reg [⟨(some 16), none, .q (.bin false .add (.t 9) (.c (.int .i64 1)))⟩,
            ⟨(some 9), none, .q (.mov (.t 16))⟩])))))))
    (.seq
     (.reg [⟨(some 4), none, .a (.asg (.c (.bool false)))⟩])
     .ret)))

theorem d39 (l : List Int) (n : Int) (hl : l.length < 9223372036854775807) : Does Go.Proofs.Try.prog 39 [.fsl 1 (l.map iv), .v (.int .i64 n)] false (.v (.bool (l.contains n))) [.dead, .dead] := by
  refine does_intro (mc := m39) (N := 17) (rs := [4]) (fx := []) 2 rfl (by decide +kernel) ?_
  simp only [m39, EV, Nat.reduceEqDiff, Nat.reduceBEq, Nat.reduceLT, Nat.reduceLeDiff, Nat.reduceAdd, Nat.reduceSub, reduceIte]
  refine awp_loop (fun i : Nat => i ≤ l.length ∧ ∀ j (hj : j < l.length), j < i → (l[j] == n) = false) (fun i => stl [(0, .fsl 1 (l.map iv)), (1, .v (.int .i64 n)), (7, .fsl 1 (l.map iv)), (8, .v (.int .i64 (l.length : Int))), (9, .v (.int .i64 (i : Int)))]) (fun i => l.length - i) 0 ⟨Nat.zero_le _, fun j hj h => absurd h (by omega)⟩ ?_ ?_
  · simp only [EV, Nat.reduceEqDiff, Nat.reduceBEq, Nat.reduceLT, Nat.reduceLeDiff, Nat.reduceAdd, Nat.reduceSub, reduceIte]
    rfl
  · rintro i ⟨hi, hno⟩
    simp only [EV, Nat.reduceEqDiff, Nat.reduceBEq, Nat.reduceLT, Nat.reduceLeDiff, Nat.reduceAdd, Nat.reduceSub, reduceIte]
    refine cK_cut (fun h => ?_) (fun h => ?_)
    · have h1 : i < l.length := by simpa using h
      have h2 : (i : Int) < (l.length : Int) := by omega
      simp only [nth_map h1, h2, iv, EV, Nat.reduceEqDiff, Nat.reduceBEq, Nat.reduceLT, Nat.reduceLeDiff, Nat.reduceAdd, Nat.reduceSub, reduceIte]
      refine cK_cut (fun h => ?_) (fun h => ?_)
      · have e : l.contains n = true := by
          rw [List.contains_iff_mem]
          have : l[i] = n := by simpa using h
          rw [← this]; exact List.getElem_mem h1
        simp only [EV, Nat.reduceEqDiff, Nat.reduceBEq, Nat.reduceLT, Nat.reduceLeDiff, Nat.reduceAdd, Nat.reduceSub, reduceIte]
        simp only [e, EV, Nat.reduceEqDiff, Nat.reduceBEq, Nat.reduceLT, Nat.reduceLeDiff, Nat.reduceAdd, Nat.reduceSub, reduceIte, evRE, retVC, cellV', evR, nfz, nfzs, nfzss, List.contains_nil, List.contains_cons, Bool.or_false, or_true]
      · simp only [EV, Nat.reduceEqDiff, Nat.reduceBEq, Nat.reduceLT, Nat.reduceLeDiff, Nat.reduceAdd, Nat.reduceSub, reduceIte]
        rw [w64 _ (by omega)]
        refine ⟨i + 1, ⟨by omega, ?_⟩, by omega, rfl⟩
        intro j hj hji
        by_cases e : j = i
        · subst e; exact h
        · exact hno j hj (by omega)
    · have h1 : i = l.length := by have : ¬ (i : Int) < l.length := by simpa using h
                                   omega
      subst h1
      have e : l.contains n = false := by
        rw [Bool.eq_false_iff]
        intro hc
        rw [List.contains_iff_mem] at hc
        obtain ⟨j, hj, hjn⟩ := List.mem_iff_getElem.1 hc
        have := hno j hj hj
        simp [hjn] at this
      simp only [EV, Nat.reduceEqDiff, Nat.reduceBEq, Nat.reduceLT, Nat.reduceLeDiff, Nat.reduceAdd, Nat.reduceSub, reduceIte]
      simp only [e, EV, Nat.reduceEqDiff, Nat.reduceBEq, Nat.reduceLT, Nat.reduceLeDiff, Nat.reduceAdd, Nat.reduceSub, reduceIte, evRE, retVC, cellV', evR, nfz, nfzs, nfzss, List.contains_nil, List.contains_cons, Bool.or_false, or_true]

/-- loop.example/g00837/spec.l1Own -/
def m29 : MC :=
  (.seq
   (.reg [⟨(some 2), none, .a (.asg (.nils 3 1))⟩])
   (.seq
    (.reg [⟨(some 3), none, .a (.bsl 3 1 [])⟩,
      ⟨(some 4), none, .q (.mov (.t 0))⟩,
      ⟨(some 5), none, .a (.app false 3 1 8 (.t 3) (.t 4))⟩,
      ⟨(some 2), none, .a (.asg (.t 5))⟩])
    .ret))

theorem d29 (l : List Int) (hl : (l.length : Int) ≤ 1048576) : Does Go.Proofs.Try.prog 29 [.fsl 1 (l.map iv)] false (.usl 3 1 (l.map iv)) [.dead] := by
  refine does_intro (mc := m29) (N := 6) (rs := [2]) (fx := []) 1 rfl (by decide +kernel) ?_
  simp only [m29, EV, Nat.reduceEqDiff, Nat.reduceBEq, Nat.reduceLT, Nat.reduceLeDiff, Nat.reduceAdd, Nat.reduceSub, reduceIte]
  refine ⟨.inl trivial, by omega, by omega, ?_⟩
  simp only [iv_nfz, EV, Nat.reduceEqDiff, Nat.reduceBEq, Nat.reduceLT, Nat.reduceLeDiff, Nat.reduceAdd, Nat.reduceSub, reduceIte, evRE, retVC, cellV', evR, nfz, nfzs, nfzss, List.contains_nil, List.contains_cons, Bool.or_false, or_true]

/-- slices.Clone[[]int,int] -/
def m72 : MC :=
  (.seq
   (.reg [⟨(some 2), none, .a (.asg (.nils 3 1))⟩])
   (.seq
    (.seq
     (.reg [⟨(some 3), none, .q (.mov (.t 0))⟩,
       ⟨(some 4), none, .q (.isnil false (.t 3))⟩])
     (.cond (.t 4)
      (.seq
       (.reg [⟨(some 2), none, .a (.asg (.nils 3 1))⟩])
       .ret)
      .skip))
    (.seq
     (.reg [⟨(some 5), none, .a (.bsl 3 1 [])⟩,
       ⟨(some 6), none, .q (.mov (.t 0))⟩,
       ⟨(some 7), none, .a (.app false 3 1 8 (.t 5) (.t 6))⟩,
       ⟨(some 2), none, .a (.asg (.t 7))⟩])
     .ret)))

theorem d72 (l : List Int) (hl : (l.length : Int) ≤ 1048576) : Does Go.Proofs.Try.prog 72 [.fsl 1 (l.map iv)] false (.usl 3 1 (l.map iv)) [.dead] := by
  refine does_intro (mc := m72) (N := 8) (rs := [2]) (fx := []) 1 rfl (by decide +kernel) ?_
  simp only [m72, EV, Nat.reduceEqDiff, Nat.reduceBEq, Nat.reduceLT, Nat.reduceLeDiff, Nat.reduceAdd, Nat.reduceSub, reduceIte]
  refine ⟨fun h b => ?_, fun h => ⟨.inl trivial, by omega, by omega, ?_⟩⟩
  · have h0 : l = [] := by simpa using h
    subst h0
    cases b
    · simp only [List.map_nil, EV, Nat.reduceEqDiff, Nat.reduceBEq, Nat.reduceLT, Nat.reduceLeDiff, Nat.reduceAdd, Nat.reduceSub, reduceIte]
      refine ⟨.inl trivial, by omega, ?_⟩
      simp only [EV, Nat.reduceEqDiff, Nat.reduceBEq, Nat.reduceLT, Nat.reduceLeDiff, Nat.reduceAdd, Nat.reduceSub, reduceIte, evRE, retVC, cellV', evR, nfz, nfzs, nfzss, List.contains_nil, List.contains_cons, Bool.or_false, or_true]
    · simp only [List.map_nil, EV, Nat.reduceEqDiff, Nat.reduceBEq, Nat.reduceLT, Nat.reduceLeDiff, Nat.reduceAdd, Nat.reduceSub, reduceIte]
      simp only [EV, Nat.reduceEqDiff, Nat.reduceBEq, Nat.reduceLT, Nat.reduceLeDiff, Nat.reduceAdd, Nat.reduceSub, reduceIte, evRE, retVC, cellV', evR, nfz, nfzs, nfzss, List.contains_nil, List.contains_cons, Bool.or_false, or_true]
  · simp only [iv_nfz, EV, Nat.reduceEqDiff, Nat.reduceBEq, Nat.reduceLT, Nat.reduceLeDiff, Nat.reduceAdd, Nat.reduceSub, reduceIte, evRE, retVC, cellV', evR, nfz, nfzs, nfzss, List.contains_nil, List.contains_cons, Bool.or_false, or_true]

def cut (l : List Int) (n : Int) : Nat := (l.takeWhile fun x => decide (x < n)).length

theorem cut_at {n : Int} : ∀ {l : List Int} {k : Nat}, k ≤ l.length → (∀ j (h : j < l.length), j < k → l[j] < n) → (∀ h : k < l.length, ¬ l[k] < n) → cut l n = k
  | [], k, h0, _, _ => by simp at h0; simp [cut, h0]
  | x :: l, 0, h0, h1, h2 => by
    have : ¬ x < n := h2 (by simp)
    simp [cut, List.takeWhile_cons, this]
  | x :: l, k + 1, h0, h1, h2 => by
    have hx : x < n := h1 0 (by simp) (by omega)
    have ih := cut_at (n := n) (l := l) (k := k) (by simpa using h0) (fun j hj hjk => by have := h1 (j + 1) (by simpa using hj) (by omega); simpa using this) (fun h => by have := h2 (by simpa using h); simpa using this)
    unfold cut at ih ⊢
    rw [List.takeWhile_cons, if_pos (by simpa using hx), List.length_cons, ih]

def putUp (l : List Int) (n : Int) : List Int := if l[cut l n]? = some n then l else (l.take (cut l n) ++ [n]) ++ l.drop (cut l n)

theorem cut_spec (l : List Int) (n : Int) : cut l n ≤ l.length ∧ (∀ x ∈ l.take (cut l n), x < n) ∧ (∀ h : cut l n < l.length, ¬ l[cut l n] < n) := by
  induction l with
  | nil => simp [cut]
  | cons x l ih =>
    unfold cut at ih ⊢
    rw [List.takeWhile_cons]
    by_cases hx : x < n
    · rw [if_pos (by simpa using hx)]
      simp only [List.length_cons, List.take_succ_cons, List.mem_cons, List.getElem_cons_succ]
      refine ⟨by omega, ?_, fun h => ih.2.2 (by omega)⟩
      rintro y (rfl | hy)
      · exact hx
      · exact ih.2.1 y hy
    · rw [if_neg (by simpa using hx)]
      simp [hx]

/-- A number is put to its place, once. -/
theorem putUp_spec {l : List Int} {n : Int} (h : l.Pairwise (· < ·)) : (putUp l n).Pairwise (· < ·) ∧ (∀ x, x ∈ putUp l n ↔ x = n ∨ x ∈ l) ∧ (n ∉ l → (putUp l n).length = l.length + 1) := by
  obtain ⟨c1, c2, c3⟩ := cut_spec l n
  unfold putUp
  split
  · rename_i hc
    have hm : n ∈ l := List.mem_of_getElem? hc
    exact ⟨h, fun x => ⟨.inr, fun h => h.elim (fun e => e ▸ hm) id⟩, fun hn => absurd hm hn⟩
  · rename_i hc
    have hd : ∀ x ∈ l.drop (cut l n), n < x := by
      intro x hx
      rcases Nat.lt_or_ge (cut l n) l.length with hlt | hge
      · have h0 := c3 hlt
        have e : l[cut l n] ≠ n := by intro e; exact hc (by rw [List.getElem?_eq_getElem hlt, e])
        have hp : (l.drop (cut l n)).Pairwise (· < ·) := h.sublist (List.drop_sublist _ _)
        rw [List.drop_eq_getElem_cons hlt] at hx hp
        rcases List.mem_cons.1 hx with rfl | hx
        · omega
        · have := (List.pairwise_cons.1 hp).1 x hx; omega
      · rw [List.drop_eq_nil_of_le hge] at hx; simp at hx
    have hmem : ∀ x, x ∈ l ↔ x ∈ l.take (cut l n) ∨ x ∈ l.drop (cut l n) := by
      intro x
      rw [← List.mem_append, List.take_append_drop]
    refine ⟨?_, ?_, ?_⟩
    · rw [List.append_assoc, List.pairwise_append]
      refine ⟨h.sublist (List.take_sublist _ _), ?_, ?_⟩
      · rw [List.singleton_append, List.pairwise_cons]
        exact ⟨hd, h.sublist (List.drop_sublist _ _)⟩
      · intro a ha b hb
        have h1 := c2 a ha
        rw [List.singleton_append, List.mem_cons] at hb
        rcases hb with rfl | hb
        · exact h1
        · have := hd b hb; omega
    · intro x
      rw [hmem x]
      simp only [List.mem_append, List.mem_singleton]
      constructor
      · rintro ((h | h) | h)
        · exact .inr (.inl h)
        · exact .inl h
        · exact .inr (.inr h)
      · rintro (h | h | h)
        · exact .inl (.inr h)
        · exact .inl (.inl h)
        · exact .inr h
    · intro _
      simp only [List.length_append, List.length_take, List.length_drop, List.length_singleton]
      omega

/-- loop.example/g00837/spec.l1Put -/
def m62 : MC :=
  (.seq
   (.reg [⟨(some 4), none, .a (.asg (.nils 3 1))⟩])
   (.seq
    (.reg [⟨(some 5), none, .a (.asg (.c (.int .i64 0)))⟩])
    (.seq
     (.block 0
      (.loop [0, 1, 5]
       (.seq
        (.seq
         (.reg [⟨(some 7), none, .q (.mov (.t 5))⟩,
           ⟨(some 8), none, .q (.mov (.t 0))⟩,
           ⟨(some 9), none, .q (.len false (.t 8))⟩,
           ⟨(some 10), none, .q (.bin false .lss (.t 7) (.t 9))⟩,
           ⟨(some 11), none, .q (.mov (.t 10))⟩,
           ⟨(some 12), (some (11, true)), .q (.mov (.t 0))⟩,
           ⟨(some 13), (some (11, true)), .q (.mov (.t 5))⟩,
           ⟨(some 14), (some (11, true)), .q (.iad 1 (.t 12) (.t 13))⟩,
           ⟨(some 15), (some (11, true)), .q (.load false 1 (.t 14))⟩,
           ⟨(some 16), (some (11, true)), .q (.mov (.t 1))⟩,
           ⟨(some 17), (some (11, true)), .q (.bin false .lss (.t 15) (.t 16))⟩,
           ⟨(some 18), none, .q (.pick (.t 11) (.t 17) (.c (.bool false)))⟩])
         (.cond (.t 18)
          .skip
          (.exit 0)))
        (.block 1
         (.reg [⟨(some 19), none, .q (.mov (.t 5))⟩,
           ⟨(some 20), none, .q (.bin false .add (.t 19) (.c (.int .i64 1)))⟩,
           ⟨(some 5), none, .a (.asg (.t 20))⟩])))))
     (.seq
      (.seq
       (.reg [⟨(some 21), none, .q (.mov (.t 5))⟩,
         ⟨(some 22), none, .q (.mov (.t 0))⟩,
         ⟨(some 23), none, .q (.len false (.t 22))⟩,
         ⟨(some 24), none, .q (.bin false .lss (.t 21) (.t 23))⟩,
         ⟨(some 25), none, .q (.mov (.t 24))⟩,
         ⟨(some 26), (some (25, true)), .q (.mov (.t 0))⟩,
         ⟨(some 27), (some (25, true)), .q (.mov (.t 5))⟩,
         ⟨(some 28), (some (25, true)), .q (.iad 1 (.t 26) (.t 27))⟩,
         ⟨(some 29), (some (25, true)), .q (.load false 1 (.t 28))⟩,
         ⟨(some 30), (some (25, true)), .q (.mov (.t 1))⟩,
         ⟨(some 31), (some (25, true)), .q (.bin false .eql (.t 29) (.t 30))⟩,
         ⟨(some 32), none, .q (.pick (.t 25) (.t 31) (.c (.bool false)))⟩])
       (.cond (.t 32)
        (.seq
         (.reg [⟨(some 33), none, .q (.mov (.t 0))⟩,
           ⟨(some 4), none, .a (.asg (.t 33))⟩])
         .ret)
        .skip))
      (.seq
       (.reg [⟨(some 34), none, .a (.bsl 3 1 [])⟩,
         ⟨(some 35), none, .q (.mov (.t 0))⟩,
         ⟨(some 36), none, .q (.mov (.t 5))⟩,
         ⟨(some 37), none, .q (.slc false 1 (.t 35) none (some (.t 36)))⟩,
         ⟨(some 38), none, .a (.app false 3 1 8 (.t 34) (.t 37))⟩,
         ⟨(some 6), none, .a (.asg (.t 38))⟩])
       (.seq
        (.reg [⟨(some 39), none, .q (.mov (.t 6))⟩,
          ⟨(some 40), none, .q (.mov (.t 1))⟩,
          ⟨(some 41), none, .a (.bsl 3 1 [.t 40])⟩,
          ⟨(some 42), none, .a (.app true 3 1 8 (.t 39) (.t 41))⟩,
          ⟨(some 6), none, .a (.asg (.t 42))⟩])
        (.seq
         (.reg [⟨(some 43), none, .q (.mov (.t 6))⟩,
           ⟨(some 44), none, .q (.mov (.t 0))⟩,
           ⟨(some 45), none, .q (.mov (.t 5))⟩,
           ⟨(some 46), none, .q (.slc false 1 (.t 44) (some (.t 45)) none)⟩,
           ⟨(some 47), none, .a (.app false 3 1 8 (.t 43) (.t 46))⟩,
           ⟨(some 4), none, .a (.asg (.t 47))⟩])
         .ret)))))))

set_option maxRecDepth 100000 in
theorem d62 (l : List Int) (n : Int) (hl : (l.length : Int) ≤ 1048576) : Does Go.Proofs.Try.prog 62 [.usl 3 1 (l.map iv), .v (.int .i64 n)] false (.usl 3 1 ((putUp l n).map iv)) [.dead, .dead] := by
  refine does_intro (mc := m62) (N := 48) (rs := [4]) (fx := []) 2 rfl (by decide +kernel) ?_
  simp only [m62, EV, Nat.reduceEqDiff, Nat.reduceBEq, Nat.reduceLT, Nat.reduceLeDiff, Nat.reduceAdd, Nat.reduceSub, reduceIte]
  refine awp_loop (fun k : Nat => k ≤ l.length ∧ ∀ j (h : j < l.length), j < k → l[j] < n) (fun k => stl [(0, .usl 3 1 (l.map iv)), (1, .v (.int .i64 n)), (5, .v (.int .i64 (k : Int)))]) (fun k => l.length - k) 0 ⟨Nat.zero_le _, fun j hj h => absurd h (by omega)⟩ ?_ ?_
  · simp only [EV, Nat.reduceEqDiff, Nat.reduceBEq, Nat.reduceLT, Nat.reduceLeDiff, Nat.reduceAdd, Nat.reduceSub, reduceIte]
    rfl
  · rintro k ⟨hk, hlt⟩
    simp only [EV, Nat.reduceEqDiff, Nat.reduceBEq, Nat.reduceLT, Nat.reduceLeDiff, Nat.reduceAdd, Nat.reduceSub, reduceIte]
    refine gK_cut (fun h => ?_) (fun h => ?_)
    · have h1 : k < l.length := by simpa using h
      have h2 : (k : Int) < (l.length : Int) := by omega
      simp only [decide_true, nth_map h1, h1, h2, iv, EV, Nat.reduceEqDiff, Nat.reduceBEq, Nat.reduceLT, Nat.reduceLeDiff, Nat.reduceAdd, Nat.reduceSub, reduceIte]
      refine cK_cut (fun h3 => ?_) (fun h3 => ?_)
      · have h4 : l[k] < n := by simpa using h3
        simp only [EV, Nat.reduceEqDiff, Nat.reduceBEq, Nat.reduceLT, Nat.reduceLeDiff, Nat.reduceAdd, Nat.reduceSub, reduceIte]
        rw [w64 _ (by omega)]
        refine ⟨k + 1, ⟨h1, ?_⟩, by omega, rfl⟩
        intro j hj hjk
        by_cases e : j = k
        · subst e; exact h4
        · exact hlt j hj (by omega)
      · have h4 : ¬ l[k] < n := by simpa using h3
        have hc : cut l n = k := cut_at hk hlt fun _ => h4
        have h1' : decide ((k : Int) < (l.length : Int)) = true := by simpa using h2
        simp only [decide_true, nth_map h1, h1, h2, iv, EV, Nat.reduceEqDiff, Nat.reduceBEq, Nat.reduceLT, Nat.reduceLeDiff, Nat.reduceAdd, Nat.reduceSub, reduceIte]
        refine cK_cut (fun h5 => ?_) (fun h5 => ?_)
        · have e : putUp l n = l := by
            unfold putUp
            rw [hc, List.getElem?_eq_getElem h1, if_pos (by simpa using h5)]
          simp only [EV, Nat.reduceEqDiff, Nat.reduceBEq, Nat.reduceLT, Nat.reduceLeDiff, Nat.reduceAdd, Nat.reduceSub, reduceIte]
          simp only [e, iv_nfz, EV, Nat.reduceEqDiff, Nat.reduceBEq, Nat.reduceLT, Nat.reduceLeDiff, Nat.reduceAdd, Nat.reduceSub, reduceIte, evRE, retVC, cellV', evR, nfz, nfzs, nfzss, List.contains_nil, List.contains_cons, Bool.or_false, or_true]
        · have e : putUp l n = (l.take k ++ [n]) ++ l.drop k := by
            unfold putUp
            rw [hc, List.getElem?_eq_getElem h1, if_neg (by simpa using h5)]
          have el : List.map iv (putUp l n) = (l.map iv).take k ++ [[AV.v (.int .i64 n)]] ++ ((l.map iv).drop k).take (l.length - k) := by
            have ed : List.take (l.length - k) (List.drop k (l.map iv)) = List.drop k (l.map iv) := List.take_of_length_le (by simp)
            rw [e, List.map_append, List.map_append, List.map_take, List.map_drop, ed]
            rfl
          simp only [EV, Nat.reduceEqDiff, Nat.reduceBEq, Nat.reduceLT, Nat.reduceLeDiff, Nat.reduceAdd, Nat.reduceSub, reduceIte]
          refine ⟨by omega, by omega, iv_stor0, by omega, by omega, by simp; omega, by simp; omega, by omega, by omega, iv_stor, by simp; omega, by simp; omega, ?_⟩
          rw [← el]
          simp only [iv_nfz, EV, Nat.reduceEqDiff, Nat.reduceBEq, Nat.reduceLT, Nat.reduceLeDiff, Nat.reduceAdd, Nat.reduceSub, reduceIte, evRE, retVC, cellV', evR, nfz, nfzs, nfzss, List.contains_nil, List.contains_cons, Bool.or_false, or_true]
    · have h1 : k = l.length := by have : ¬ (k : Int) < l.length := by simpa using h
                                   omega
      subst h1
      have hc : cut l n = l.length := cut_at hk hlt fun h => absurd h (by omega)
      have e : putUp l n = (l.take l.length ++ [n]) ++ l.drop l.length := by
        unfold putUp
        rw [hc, List.getElem?_eq_none (by omega), if_neg (by simp)]
      have el : List.map iv (putUp l n) = l.map iv ++ [[AV.v (.int .i64 n)]] ++ ((l.map iv).drop l.length).take (l.length - l.length) := by
        rw [e, List.map_append, List.map_append, List.take_length, List.map_drop, Nat.sub_self, List.take_zero, List.drop_eq_nil_of_le (by simp)]
        rfl
      simp only [h, EV, Nat.reduceEqDiff, Nat.reduceBEq, Nat.reduceLT, Nat.reduceLeDiff, Nat.reduceAdd, Nat.reduceSub, reduceIte]
      refine ⟨by omega, by omega, iv_stor1, by omega, by omega, by omega, by omega, by omega, by omega, iv_stor, by simp; omega, by simp; omega, ?_⟩
      rw [← el]
      simp only [iv_nfz, EV, Nat.reduceEqDiff, Nat.reduceBEq, Nat.reduceLT, Nat.reduceLeDiff, Nat.reduceAdd, Nat.reduceSub, reduceIte, evRE, retVC, cellV', evR, nfz, nfzs, nfzss, List.contains_nil, List.contains_cons, Bool.or_false, or_true]

end Go.AM
namespace Go.AM
set_option linter.unusedVariables false
set_option linter.unusedSimpArgs false
/-- A byte as a row of one cell. -/
def bv (n : Int) : List AV := [.v (.int .u8 n)]

structure Cur where
  code : List Int
  pos : Int
  seed : Int

def Cur.z (c : Cur) : List AV := [.fsl 1 (c.code.map bv), .v (.int .i64 c.pos), .v (.int .u64 c.seed)]

def Cur.ok (c : Cur) (n : Int) : Prop := (c.code.length : Int) ≤ 1048576 ∧ (∀ b ∈ c.code, 0 ≤ b ∧ b ≤ 255) ∧ 0 ≤ c.pos ∧ c.pos ≤ n

theorem Cur.ok.up {c : Cur} {n m : Int} (h : c.ok n) (hm : n ≤ m) : c.ok m := ⟨h.1, h.2.1, h.2.2.1, by have := h.2.2.2; omega⟩

def andK (kd : IntKind) (a b : Int) : Int := kd.wrap (BitVec.ofInt kd.bits a &&& BitVec.ofInt kd.bits b).toNat

def shrK (kd : IntKind) (a b : Int) : Int := a.fdiv (2 ^ (min b.toNat kd.bits))

theorem evB2 :
    (∀ (kd ky : IntKind) (a b : Int) (K : AV → Prop), (binV .shr (.v (.int kd a)) (.v (.int ky b)) K = (0 ≤ b ∧ K (.v (.int kd (shrK kd a b)))))) ∧
    (∀ (kd : IntKind) (a b : Int) (K : AV → Prop), (binV .and (.v (.int kd a)) (.v (.int kd b)) K = K (.v (.int kd (andK kd a b))))) := by
  refine ⟨?_, ?_⟩ <;> intros <;> simp [binV, binC, binR, andK, shrK]

end Go.AM
