/- Contracts of functions of the given program, for the law FnLarger: what they return and what they write, under the bounds that each theorem states. -/
import Derived.Test.YtmacgaechjiecaaGreatF3
import Derived.Test.YtmacgaechjiecaaGreatProg
namespace Go.AM
set_option linter.unusedVariables false
set_option linter.unusedSimpArgs false
/-- loop.example/g00837/spec.l1In -/
def m72 : MC :=
  (.seq
   (.reg [⟨(some 6), none, .a (.asg (.c (.bool false)))⟩])
   (.seq
    (.reg [⟨(some 7), none, .q (.mov (.t 0))⟩,
      ⟨(some 8), none, .q (.mov (.t 1))⟩,
      ⟨(some 9), none, .q (.bin false .geq (.t 7) (.t 8))⟩,
      ⟨(some 10), none, .q (.mov (.t 9))⟩,
      ⟨(some 11), (some (10, true)), .q (.mov (.t 0))⟩,
      ⟨(some 12), (some (10, true)), .q (.mov (.t 2))⟩,
      ⟨(some 13), (some (10, true)), .q (.bin false .leq (.t 11) (.t 12))⟩,
      ⟨(some 14), none, .q (.pick (.t 10) (.t 13) (.c (.bool false)))⟩,
      ⟨(some 6), none, .a (.asg (.t 14))⟩])
    .ret))

theorem d72 (x lo hi : Int) : Does Go.Proofs.Tryz.prog 72 [.v (.int .i64 x), .v (.int .i64 lo), .v (.int .i64 hi)] false (.v (.bool (decide (lo ≤ x) && decide (x ≤ hi)))) [.dead, .dead, .dead] := by
  refine does_intro (mc := m72) (N := 15) (rs := [6]) (fx := []) 3 rfl (by decide +kernel) ?_
  simp only [m72, EV, Nat.reduceEqDiff, Nat.reduceBEq, Nat.reduceLT, Nat.reduceLeDiff, Nat.reduceAdd, Nat.reduceSub, reduceIte]
  repeat' (first
    | (refine gK_cut (fun h => ?_) (fun h => ?_) <;> simp only [h, EV, Nat.reduceEqDiff, Nat.reduceBEq, Nat.reduceLT, Nat.reduceLeDiff, Nat.reduceAdd, Nat.reduceSub, reduceIte])
    | (refine cK_cut (fun h => ?_) (fun h => ?_) <;> simp only [h, EV, Nat.reduceEqDiff, Nat.reduceBEq, Nat.reduceLT, Nat.reduceLeDiff, Nat.reduceAdd, Nat.reduceSub, reduceIte]))
  all_goals simp only [h, EV, Nat.reduceEqDiff, Nat.reduceBEq, Nat.reduceLT, Nat.reduceLeDiff, Nat.reduceAdd, Nat.reduceSub, reduceIte, evRE, retVC, cellV', evR, nfz, nfzs, nfzss, List.contains_nil, List.contains_cons, Bool.or_false, or_true]

/-- loop.example/g00837/impl.in -/
def m78 : MC :=
  (.seq
   (.reg [⟨(some 6), none, .a (.asg (.c (.bool false)))⟩])
   (.seq
    (.reg [⟨(some 7), none, .q (.mov (.t 0))⟩,
      ⟨(some 8), none, .q (.mov (.t 1))⟩,
      ⟨(some 9), none, .q (.bin false .geq (.t 7) (.t 8))⟩,
      ⟨(some 10), none, .q (.mov (.t 9))⟩,
      ⟨(some 11), (some (10, true)), .q (.mov (.t 0))⟩,
      ⟨(some 12), (some (10, true)), .q (.mov (.t 2))⟩,
      ⟨(some 13), (some (10, true)), .q (.bin false .leq (.t 11) (.t 12))⟩,
      ⟨(some 14), none, .q (.pick (.t 10) (.t 13) (.c (.bool false)))⟩,
      ⟨(some 6), none, .a (.asg (.t 14))⟩])
    .ret))

theorem d78 (x lo hi : Int) : Does Go.Proofs.Tryz.prog 78 [.v (.int .i64 x), .v (.int .i64 lo), .v (.int .i64 hi)] false (.v (.bool (decide (lo ≤ x) && decide (x ≤ hi)))) [.dead, .dead, .dead] := by
  refine does_intro (mc := m78) (N := 15) (rs := [6]) (fx := []) 3 rfl (by decide +kernel) ?_
  simp only [m78, EV, Nat.reduceEqDiff, Nat.reduceBEq, Nat.reduceLT, Nat.reduceLeDiff, Nat.reduceAdd, Nat.reduceSub, reduceIte]
  repeat' (first
    | (refine gK_cut (fun h => ?_) (fun h => ?_) <;> simp only [h, EV, Nat.reduceEqDiff, Nat.reduceBEq, Nat.reduceLT, Nat.reduceLeDiff, Nat.reduceAdd, Nat.reduceSub, reduceIte])
    | (refine cK_cut (fun h => ?_) (fun h => ?_) <;> simp only [h, EV, Nat.reduceEqDiff, Nat.reduceBEq, Nat.reduceLT, Nat.reduceLeDiff, Nat.reduceAdd, Nat.reduceSub, reduceIte]))
  all_goals simp only [h, EV, Nat.reduceEqDiff, Nat.reduceBEq, Nat.reduceLT, Nat.reduceLeDiff, Nat.reduceAdd, Nat.reduceSub, reduceIte, evRE, retVC, cellV', evR, nfz, nfzs, nfzss, List.contains_nil, List.contains_cons, Bool.or_false, or_true]

def lett (b : Int) : Bool := decide (65 ≤ b) && decide (b ≤ 90) || decide (97 ≤ b) && decide (b ≤ 122)

def digt (b : Int) : Bool := decide (48 ≤ b) && decide (b ≤ 57)

/-- loop.example/g00837/impl.isLetter -/
def m203 : MC :=
  (.seq
   (.reg [⟨(some 2), none, .a (.asg (.c (.bool false)))⟩])
   (.seq
    (.reg [⟨(some 3), none, .q (.mov (.t 0))⟩,
      ⟨(some 4), none, .q (.bin false .geq (.t 3) (.c (.int .u8 65)))⟩,
      ⟨(some 5), none, .q (.mov (.t 4))⟩,
      ⟨(some 6), (some (5, true)), .q (.mov (.t 0))⟩,
      ⟨(some 7), (some (5, true)), .q (.bin false .leq (.t 6) (.c (.int .u8 90)))⟩,
      ⟨(some 8), none, .q (.pick (.t 5) (.t 7) (.c (.bool false)))⟩,
      ⟨(some 9), none, .q (.mov (.t 8))⟩,
      ⟨(some 10), (some (9, false)), .q (.mov (.t 0))⟩,
      ⟨(some 11), (some (9, false)), .q (.bin false .geq (.t 10) (.c (.int .u8 97)))⟩,
      ⟨(some 12), (some (9, false)), .q (.mov (.t 11))⟩,
      ⟨(some 13), (some (12, true)), .q (.mov (.t 0))⟩,
      ⟨(some 14), (some (12, true)), .q (.bin false .leq (.t 13) (.c (.int .u8 122)))⟩,
      ⟨(some 15), (some (9, false)), .q (.pick (.t 12) (.t 14) (.c (.bool false)))⟩,
      ⟨(some 16), none, .q (.pick (.t 9) (.c (.bool true)) (.t 15))⟩,
      ⟨(some 2), none, .a (.asg (.t 16))⟩])
    .ret))

theorem d203 (b : Int) : Does Go.Proofs.Tryz.prog 203 [.v (.int .u8 b)] false (.v (.bool (lett b))) [.dead] := by
  refine does_intro (mc := m203) (N := 17) (rs := [2]) (fx := []) 1 rfl (by decide +kernel) ?_
  simp only [m203, EV, Nat.reduceEqDiff, Nat.reduceBEq, Nat.reduceLT, Nat.reduceLeDiff, Nat.reduceAdd, Nat.reduceSub, reduceIte]
  repeat' (first
    | (refine gK_cut (fun h => ?_) (fun h => ?_) <;> simp only [h, EV, Nat.reduceEqDiff, Nat.reduceBEq, Nat.reduceLT, Nat.reduceLeDiff, Nat.reduceAdd, Nat.reduceSub, reduceIte])
    | (refine cK_cut (fun h => ?_) (fun h => ?_) <;> simp only [h, EV, Nat.reduceEqDiff, Nat.reduceBEq, Nat.reduceLT, Nat.reduceLeDiff, Nat.reduceAdd, Nat.reduceSub, reduceIte]))
  all_goals simp only [lett, *, Bool.or_true, Bool.true_or, Bool.false_or, Bool.or_false, EV, Nat.reduceEqDiff, Nat.reduceBEq, Nat.reduceLT, Nat.reduceLeDiff, Nat.reduceAdd, Nat.reduceSub, reduceIte, evRE, retVC, cellV', evR, nfz, nfzs, nfzss, List.contains_nil, List.contains_cons, Bool.or_false, or_true]

/-- loop.example/g00837/impl.isDigit -/
def m204 : MC :=
  (.seq
   (.reg [⟨(some 2), none, .a (.asg (.c (.bool false)))⟩])
   (.seq
    (.reg [⟨(some 3), none, .q (.mov (.t 0))⟩,
      ⟨(some 4), none, .q (.bin false .geq (.t 3) (.c (.int .u8 48)))⟩,
      ⟨(some 5), none, .q (.mov (.t 4))⟩,
      ⟨(some 6), (some (5, true)), .q (.mov (.t 0))⟩,
      ⟨(some 7), (some (5, true)), .q (.bin false .leq (.t 6) (.c (.int .u8 57)))⟩,
      ⟨(some 8), none, .q (.pick (.t 5) (.t 7) (.c (.bool false)))⟩,
      ⟨(some 2), none, .a (.asg (.t 8))⟩])
    .ret))

theorem d204 (b : Int) : Does Go.Proofs.Tryz.prog 204 [.v (.int .u8 b)] false (.v (.bool (digt b))) [.dead] := by
  refine does_intro (mc := m204) (N := 9) (rs := [2]) (fx := []) 1 rfl (by decide +kernel) ?_
  simp only [m204, EV, Nat.reduceEqDiff, Nat.reduceBEq, Nat.reduceLT, Nat.reduceLeDiff, Nat.reduceAdd, Nat.reduceSub, reduceIte]
  repeat' (first
    | (refine gK_cut (fun h => ?_) (fun h => ?_) <;> simp only [h, EV, Nat.reduceEqDiff, Nat.reduceBEq, Nat.reduceLT, Nat.reduceLeDiff, Nat.reduceAdd, Nat.reduceSub, reduceIte])
    | (refine cK_cut (fun h => ?_) (fun h => ?_) <;> simp only [h, EV, Nat.reduceEqDiff, Nat.reduceBEq, Nat.reduceLT, Nat.reduceLeDiff, Nat.reduceAdd, Nat.reduceSub, reduceIte]))
  all_goals simp only [digt, *, EV, Nat.reduceEqDiff, Nat.reduceBEq, Nat.reduceLT, Nat.reduceLeDiff, Nat.reduceAdd, Nat.reduceSub, reduceIte, evRE, retVC, cellV', evR, nfz, nfzs, nfzss, List.contains_nil, List.contains_cons, Bool.or_false, or_true]

def chOk (s : ByteArray) (i : Nat) : Bool := lett (sAt s i) || (i != 0 && digt (sAt s i))

def chsOk (s : ByteArray) (i : Nat) : Prop := ∀ j, j < i → chOk s j = true

open Classical in
noncomputable def nameOk (s : ByteArray) : Bool := decide (chsOk s s.size ∧ 1 ≤ s.size ∧ s.size ≤ 10)

theorem chsOk_succ {s : ByteArray} {i : Nat} (h : chsOk s i) (h2 : chOk s i = true) : chsOk s (i + 1) := by
  intro j hj
  by_cases e : j = i
  · subst e; exact h2
  · exact h j (by omega)

theorem nameOk_no {s : ByteArray} {i : Nat} (hi : i < s.size) (h : chOk s i = false) : nameOk s = false := by
  simp only [nameOk, decide_eq_false_iff_not]
  rintro ⟨h1, _⟩
  have := h1 i hi
  rw [h] at this; cases this

theorem nameOk_yes {s : ByteArray} (h : chsOk s s.size) : nameOk s = (decide ((1 : Int) ≤ s.size) && decide ((s.size : Int) ≤ 10)) := by
  have e1 : decide ((1 : Int) ≤ s.size) = decide (1 ≤ s.size) := by congr 1; apply propext; omega
  have e2 : decide ((s.size : Int) ≤ 10) = decide (s.size ≤ 10) := by congr 1; apply propext; omega
  simp [nameOk, h, e1, e2]

/-- loop.example/g00837/spec.l1Name -/
def m148 : MC :=
  (.seq
   (.reg [⟨(some 2), none, .a (.asg (.c (.bool false)))⟩])
   (.seq
    (.seq
     (.reg [⟨(some 3), none, .a (.asg (.c (.int .i64 0)))⟩])
     (.block 0
      (.loop [0, 3]
       (.seq
        (.seq
         (.reg [⟨(some 6), none, .q (.mov (.t 3))⟩,
           ⟨(some 7), none, .q (.mov (.t 0))⟩,
           ⟨(some 8), none, .q (.len true (.t 7))⟩,
           ⟨(some 9), none, .q (.bin false .lss (.t 6) (.t 8))⟩])
         (.cond (.t 9)
          .skip
          (.exit 0)))
        (.seq
         (.block 1
          (.seq
           (.reg [⟨(some 12), none, .q (.mov (.t 0))⟩,
             ⟨(some 13), none, .q (.mov (.t 3))⟩,
             ⟨(some 14), none, .q (.idx (.t 12) (.t 13))⟩,
             ⟨(some 4), none, .a (.asg (.t 14))⟩])
           (.join [0, 3, 4, 5]
            (.reg [⟨(some 15), none, .q (.mov (.t 4))⟩,
              ⟨(some 16), none, .q (.bin false .geq (.t 15) (.c (.int .u8 65)))⟩,
              ⟨(some 17), none, .q (.mov (.t 16))⟩,
              ⟨(some 18), (some (17, true)), .q (.mov (.t 4))⟩,
              ⟨(some 19), (some (17, true)), .q (.bin false .leq (.t 18) (.c (.int .u8 90)))⟩,
              ⟨(some 20), none, .q (.pick (.t 17) (.t 19) (.c (.bool false)))⟩,
              ⟨(some 21), none, .q (.mov (.t 20))⟩,
              ⟨(some 22), (some (21, false)), .q (.mov (.t 4))⟩,
              ⟨(some 23), (some (21, false)), .q (.bin false .geq (.t 22) (.c (.int .u8 97)))⟩,
              ⟨(some 24), (some (21, false)), .q (.mov (.t 23))⟩,
              ⟨(some 25), (some (24, true)), .q (.mov (.t 4))⟩,
              ⟨(some 26), (some (24, true)), .q (.bin false .leq (.t 25) (.c (.int .u8 122)))⟩,
              ⟨(some 27), (some (21, false)), .q (.pick (.t 24) (.t 26) (.c (.bool false)))⟩,
              ⟨(some 28), none, .q (.pick (.t 21) (.c (.bool true)) (.t 27))⟩,
              ⟨(some 5), none, .a (.asg (.t 28))⟩])
            (.seq
             (.reg [⟨(some 29), none, .q (.mov (.t 5))⟩,
               ⟨(some 30), none, .q (.un .not (.t 29))⟩,
               ⟨(some 31), none, .q (.mov (.t 30))⟩,
               ⟨(some 32), (some (31, true)), .q (.mov (.t 3))⟩,
               ⟨(some 33), (some (31, true)), .q (.bin false .eql (.t 32) (.c (.int .i64 0)))⟩,
               ⟨(some 34), (some (31, true)), .q (.mov (.t 33))⟩,
               ⟨(some 35), (some (34, false)), .q (.mov (.t 4))⟩,
               ⟨(some 36), (some (34, false)), .q (.bin false .lss (.t 35) (.c (.int .u8 48)))⟩,
               ⟨(some 37), (some (31, true)), .q (.pick (.t 34) (.c (.bool true)) (.t 36))⟩,
               ⟨(some 38), (some (31, true)), .q (.mov (.t 37))⟩,
               ⟨(some 39), (some (38, false)), .q (.mov (.t 4))⟩,
               ⟨(some 40), (some (38, false)), .q (.bin false .gtr (.t 39) (.c (.int .u8 57)))⟩,
               ⟨(some 41), (some (31, true)), .q (.pick (.t 38) (.c (.bool true)) (.t 40))⟩,
               ⟨(some 42), none, .q (.pick (.t 31) (.t 41) (.c (.bool false)))⟩])
             (.cond (.t 42)
              (.seq
               (.reg [⟨(some 2), none, .a (.asg (.c (.bool false)))⟩])
               .ret)
              .skip)))))
         (.reg [⟨(some 10), none, .q (.mov (.t 3))⟩,
           ⟨(some 11), none, .q (.bin false .add (.t 10) (.c (.int .i64 1)))⟩,
           ⟨(some 3), none, .a (.asg (.t 11))⟩]))))))
    (.seq
     (.reg [⟨(some 43), none, .q (.mov (.t 0))⟩,
       ⟨(some 44), none, .q (.len true (.t 43))⟩,
       ⟨(some 45), none, .a (.call (.fn 72) false [.lend (.t 44), .lend (.c (.int .i64 1)), .lend (.c (.int .i64 10))])⟩,
       ⟨(some 2), none, .a (.asg (.t 45))⟩])
     .ret)))

theorem d148 (s : ByteArray) (hs : (s.size : Int) ≤ 9223372036854775807) : Does Go.Proofs.Tryz.prog 148 [.v (.string s)] false (.v (.bool (nameOk s))) [.dead] := by
  refine does_intro (mc := m148) (N := 46) (rs := [2]) (fx := []) 1 rfl (by decide +kernel) ?_
  simp only [m148, EV, Nat.reduceEqDiff, Nat.reduceBEq, Nat.reduceLT, Nat.reduceLeDiff, Nat.reduceAdd, Nat.reduceSub, reduceIte]
  refine awp_loop (fun i : Nat => i ≤ s.size ∧ chsOk s i) (fun i => stl [(0, .v (.string s)), (3, .v (.int .i64 (i : Int)))]) (fun i => s.size - i) 0 ⟨by omega, fun j hj => absurd hj (by omega)⟩ ?_ ?_
  · simp only [EV, Nat.reduceEqDiff, Nat.reduceBEq, Nat.reduceLT, Nat.reduceLeDiff, Nat.reduceAdd, Nat.reduceSub, reduceIte]
    rfl
  · rintro i ⟨h0, h1⟩
    simp only [EV, Nat.reduceEqDiff, Nat.reduceBEq, Nat.reduceLT, Nat.reduceLeDiff, Nat.reduceAdd, Nat.reduceSub, reduceIte]
    refine cK_cut (fun h => ?_) (fun h => ?_)
    · have h2 : (i : Int) < s.size := by simpa using h
      simp only [h2, EV, Nat.reduceEqDiff, Nat.reduceBEq, Nat.reduceLT, Nat.reduceLeDiff, Nat.reduceAdd, Nat.reduceSub, reduceIte]
      refine awp_join (fun _ : Unit => True) (fun _ => stl [(0, .v (.string s)), (3, .v (.int .i64 (i : Int))), (4, .v (.int .u8 (sAt s i))), (5, .v (.bool (lett (sAt s i))))]) ?_ ?_
      · simp only [EV, Nat.reduceEqDiff, Nat.reduceBEq, Nat.reduceLT, Nat.reduceLeDiff, Nat.reduceAdd, Nat.reduceSub, reduceIte]
        repeat' (first
    | (refine gK_cut (fun h => ?_) (fun h => ?_) <;> simp only [h, EV, Nat.reduceEqDiff, Nat.reduceBEq, Nat.reduceLT, Nat.reduceLeDiff, Nat.reduceAdd, Nat.reduceSub, reduceIte])
    | (refine cK_cut (fun h => ?_) (fun h => ?_) <;> simp only [h, EV, Nat.reduceEqDiff, Nat.reduceBEq, Nat.reduceLT, Nat.reduceLeDiff, Nat.reduceAdd, Nat.reduceSub, reduceIte]))
        all_goals refine ⟨(), ?_⟩
        all_goals simp only [lett, *, Bool.or_true, Bool.true_or, Bool.false_or, Bool.or_false, EV, Nat.reduceEqDiff, Nat.reduceBEq, Nat.reduceLT, Nat.reduceLeDiff, Nat.reduceAdd, Nat.reduceSub, reduceIte]
      · rintro _ _
        simp only [EV, Nat.reduceEqDiff, Nat.reduceBEq, Nat.reduceLT, Nat.reduceLeDiff, Nat.reduceAdd, Nat.reduceSub, reduceIte]
        repeat' (first
    | (refine gK_cut (fun h => ?_) (fun h => ?_) <;> simp only [h, EV, Nat.reduceEqDiff, Nat.reduceBEq, Nat.reduceLT, Nat.reduceLeDiff, Nat.reduceAdd, Nat.reduceSub, reduceIte])
    | (refine cK_cut (fun h => ?_) (fun h => ?_) <;> simp only [h, EV, Nat.reduceEqDiff, Nat.reduceBEq, Nat.reduceLT, Nat.reduceLeDiff, Nat.reduceAdd, Nat.reduceSub, reduceIte]))
        all_goals first
          | (have hc : chOk s i = false := by
               simp_all [chOk, digt] <;> omega
             simp only [nameOk_no (by omega) hc, EV, Nat.reduceEqDiff, Nat.reduceBEq, Nat.reduceLT, Nat.reduceLeDiff, Nat.reduceAdd, Nat.reduceSub, reduceIte, evRE, retVC, cellV', evR, nfz, nfzs, nfzss, List.contains_nil, List.contains_cons, Bool.or_false, or_true]
             done)
          | (have hc : chOk s i = true := by
               simp_all [chOk, digt] <;> omega
             rw [w64 _ (by omega)]
             exact ⟨i + 1, ⟨by omega, chsOk_succ h1 hc⟩, by omega, rfl⟩)
    · have h2 : i = s.size := by have : ¬ (i : Int) < s.size := by simpa using h
                                 omega
      subst h2
      simp only [EV, Nat.reduceEqDiff, Nat.reduceBEq, Nat.reduceLT, Nat.reduceLeDiff, Nat.reduceAdd, Nat.reduceSub, reduceIte]
      refine callK_i (d72 _ _ _) ?_
      simp only [EV, Nat.reduceEqDiff, Nat.reduceBEq, Nat.reduceLT, Nat.reduceLeDiff, Nat.reduceAdd, Nat.reduceSub, reduceIte]
      simp only [nameOk_yes h1, EV, Nat.reduceEqDiff, Nat.reduceBEq, Nat.reduceLT, Nat.reduceLeDiff, Nat.reduceAdd, Nat.reduceSub, reduceIte, evRE, retVC, cellV', evR, nfz, nfzs, nfzss, List.contains_nil, List.contains_cons, Bool.or_false, or_true]

/-- loop.example/g00837/impl.isName -/
def m141 : MC :=
  (.seq
   (.reg [⟨(some 2), none, .a (.asg (.c (.bool false)))⟩])
   (.seq
    (.seq
     (.reg [⟨(some 4), none, .q (.mov (.t 0))⟩,
       ⟨(some 5), none, .q (.len true (.t 4))⟩,
       ⟨(some 6), none, .q (.mov (.c (.int .i64 0)))⟩])
     (.block 0
      (.loop [0, 5, 6]
       (.seq
        (.reg [⟨(some 7), none, .q (.bin false .lss (.t 6) (.t 5))⟩])
        (.seq
         (.cond (.t 7)
          .skip
          (.exit 0))
         (.seq
          (.block 1
           (.seq
            (.reg [⟨(some 8), none, .q (.mov (.t 6))⟩,
              ⟨(some 3), none, .a (.asg (.t 8))⟩])
            (.seq
             (.reg [⟨(some 9), none, .q (.mov (.t 0))⟩,
               ⟨(some 10), none, .q (.mov (.t 3))⟩,
               ⟨(some 11), none, .q (.idx (.t 9) (.t 10))⟩,
               ⟨(some 12), none, .a (.call (.fn 203) false [.lend (.t 11)])⟩,
               ⟨(some 13), none, .q (.un .not (.t 12))⟩,
               ⟨(some 14), none, .q (.mov (.t 13))⟩,
               ⟨(some 15), (some (14, true)), .q (.mov (.t 3))⟩,
               ⟨(some 16), (some (14, true)), .q (.bin false .eql (.t 15) (.c (.int .i64 0)))⟩,
               ⟨(some 17), (some (14, true)), .q (.mov (.t 16))⟩,
               ⟨(some 18), (some (17, false)), .q (.mov (.t 0))⟩,
               ⟨(some 19), (some (17, false)), .q (.mov (.t 3))⟩,
               ⟨(some 20), (some (17, false)), .q (.idx (.t 18) (.t 19))⟩,
               ⟨(some 21), (some (17, false)), .a (.call (.fn 204) false [.lend (.t 20)])⟩,
               ⟨(some 22), (some (17, false)), .q (.un .not (.t 21))⟩,
               ⟨(some 23), (some (14, true)), .q (.pick (.t 17) (.c (.bool true)) (.t 22))⟩,
               ⟨(some 24), none, .q (.pick (.t 14) (.t 23) (.c (.bool false)))⟩])
             (.cond (.t 24)
              (.seq
               (.reg [⟨(some 2), none, .a (.asg (.c (.bool false)))⟩])
               .ret)
              .skip))))
          (.reg [⟨(some 25), none, .q (.bin false .add (.t 6) (.c (.int .i64 1)))⟩,
            ⟨(some 6), none, .q (.mov (.t 25))⟩])))))))
    (.seq
     (.reg [⟨(some 26), none, .q (.mov (.t 0))⟩,
       ⟨(some 27), none, .q (.len true (.t 26))⟩,
       ⟨(some 28), none, .a (.call (.fn 78) false [.lend (.t 27), .lend (.c (.int .i64 1)), .lend (.c (.int .i64 10))])⟩,
       ⟨(some 2), none, .a (.asg (.t 28))⟩])
     .ret)))

theorem d141 (s : ByteArray) (hs : (s.size : Int) ≤ 9223372036854775807) : Does Go.Proofs.Tryz.prog 141 [.v (.string s)] false (.v (.bool (nameOk s))) [.dead] := by
  refine does_intro (mc := m141) (N := 29) (rs := [2]) (fx := []) 1 rfl (by decide +kernel) ?_
  simp only [m141, EV, Nat.reduceEqDiff, Nat.reduceBEq, Nat.reduceLT, Nat.reduceLeDiff, Nat.reduceAdd, Nat.reduceSub, reduceIte]
  refine awp_loop (fun i : Nat => i ≤ s.size ∧ chsOk s i) (fun i => stl [(0, .v (.string s)), (5, .v (.int .i64 (s.size : Int))), (6, .v (.int .i64 (i : Int)))]) (fun i => s.size - i) 0 ⟨by omega, fun j hj => absurd hj (by omega)⟩ ?_ ?_
  · simp only [EV, Nat.reduceEqDiff, Nat.reduceBEq, Nat.reduceLT, Nat.reduceLeDiff, Nat.reduceAdd, Nat.reduceSub, reduceIte]
    rfl
  · rintro i ⟨h0, h1⟩
    simp only [EV, Nat.reduceEqDiff, Nat.reduceBEq, Nat.reduceLT, Nat.reduceLeDiff, Nat.reduceAdd, Nat.reduceSub, reduceIte]
    refine cK_cut (fun h => ?_) (fun h => ?_)
    · have h2 : (i : Int) < s.size := by simpa using h
      simp only [h2, EV, Nat.reduceEqDiff, Nat.reduceBEq, Nat.reduceLT, Nat.reduceLeDiff, Nat.reduceAdd, Nat.reduceSub, reduceIte]
      refine callK_i (d203 _) ?_
      simp only [EV, Nat.reduceEqDiff, Nat.reduceBEq, Nat.reduceLT, Nat.reduceLeDiff, Nat.reduceAdd, Nat.reduceSub, reduceIte]
      repeat' (first
    | (refine gK_cut (fun h => ?_) (fun h => ?_) <;> simp only [h, h2, EV, Nat.reduceEqDiff, Nat.reduceBEq, Nat.reduceLT, Nat.reduceLeDiff, Nat.reduceAdd, Nat.reduceSub, reduceIte])
    | (refine cK_cut (fun h => ?_) (fun h => ?_) <;> simp only [h, h2, EV, Nat.reduceEqDiff, Nat.reduceBEq, Nat.reduceLT, Nat.reduceLeDiff, Nat.reduceAdd, Nat.reduceSub, reduceIte])
    | (refine callK_i (d204 _) ?_ <;> simp only [h, h2, EV, Nat.reduceEqDiff, Nat.reduceBEq, Nat.reduceLT, Nat.reduceLeDiff, Nat.reduceAdd, Nat.reduceSub, reduceIte]))
      all_goals first
          | (have hc : chOk s i = false := by
               simp_all [chOk]
             simp only [nameOk_no (by omega) hc, EV, Nat.reduceEqDiff, Nat.reduceBEq, Nat.reduceLT, Nat.reduceLeDiff, Nat.reduceAdd, Nat.reduceSub, reduceIte, evRE, retVC, cellV', evR, nfz, nfzs, nfzss, List.contains_nil, List.contains_cons, Bool.or_false, or_true]
             done)
          | (have hc : chOk s i = true := by
               simp_all [chOk] <;> omega
             rw [w64 _ (by omega)]
             exact ⟨i + 1, ⟨by omega, chsOk_succ h1 hc⟩, by omega, rfl⟩)
    · have h2 : i = s.size := by have : ¬ (i : Int) < s.size := by simpa using h
                                 omega
      subst h2
      simp only [EV, Nat.reduceEqDiff, Nat.reduceBEq, Nat.reduceLT, Nat.reduceLeDiff, Nat.reduceAdd, Nat.reduceSub, reduceIte]
      refine callK_i (d78 _ _ _) ?_
      simp only [EV, Nat.reduceEqDiff, Nat.reduceBEq, Nat.reduceLT, Nat.reduceLeDiff, Nat.reduceAdd, Nat.reduceSub, reduceIte]
      simp only [nameOk_yes h1, EV, Nat.reduceEqDiff, Nat.reduceBEq, Nat.reduceLT, Nat.reduceLeDiff, Nat.reduceAdd, Nat.reduceSub, reduceIte, evRE, retVC, cellV', evR, nfz, nfzs, nfzss, List.contains_nil, List.contains_cons, Bool.or_false, or_true]

end Go.AM
namespace Go.AM
set_option linter.unusedVariables false
set_option linter.unusedSimpArgs false
structure Fd where
  name : ByteArray
  mark : Int
  typ : Int

def Fd.z (s : Fd) : List AV := [.v (.string s.name), .v (.int .i64 s.mark), .v (.int .i64 s.typ)]

def Fd.o (s : Fd) : List AV := [.v (.string s.name), .v (.int .i64 s.mark), .v (.int .i64 s.typ)]

theorem Fd.fr (s : Fd) : frzRow s.o = s.z := by
  simp only [Fd.o, Fd.z, frzRow, frzL, List.cons_append, List.nil_append]

theorem Fd.frz : ∀ l : List Fd, frzRows (l.map Fd.o) = l.map Fd.z
  | [] => rfl
  | s :: l => by simp only [List.map_cons, frzRows, Fd.fr, Fd.frz l]

theorem Fd.nf (s : Fd) : nfzs s.o = true := by
  simp only [Fd.o, nfzs, nfz, List.cons_append, List.nil_append, Bool.and_self]

theorem Fd.nfz : ∀ l : List Fd, nfzss (l.map Fd.o) = true
  | [] => rfl
  | s :: l => by simp only [List.map_cons, nfzss, Fd.nf, Fd.nfz l, Bool.and_self]

theorem FdE : (∀ f : Fd, f.z.length = 3) ∧ (∀ f : Fd, f.z.take 3 = f.z) ∧ (∀ (st : St) (f : Fd), frzBs st f.z = f.z) ∧ (∀ f : Fd, bares f.z = true) ∧ (∀ f : Fd, plains f.z = true) ∧
    (∀ (f : Fd) (K : Nat → List (Nat × Nat) → Bool), killVs K f.z = f.z) ∧ (∀ f : Fd, f.z.all storL = true) ∧ (∀ f : Fd, f.o.length = 3) ∧ (∀ f : Fd, f.o.take 3 = f.o) ∧ (∀ f : Fd, bares f.o = true) ∧
    (∀ f : Fd, plains f.o = true) ∧ (∀ (f : Fd) (K : Nat → List (Nat × Nat) → Bool), killVs K f.o = f.o) ∧ (∀ f : Fd, f.o.all storL = true) :=
  ⟨fun _ => rfl, fun _ => rfl, fun _ _ => rfl, fun _ => rfl, fun _ => rfl, fun _ _ => rfl, fun _ => rfl, fun _ => rfl, fun _ => rfl, fun _ => rfl, fun _ => rfl, fun _ _ => rfl, fun _ => rfl⟩

def Fd.ok (s : Fd) : Prop := (s.name.size : Int) ≤ 9223372036854775807 ∧ (-9223372036854775808 ≤ s.mark ∧ s.mark ≤ 9223372036854775807) ∧ (-9223372036854775808 ≤ s.typ ∧ s.typ ≤ 9223372036854775807)

def Fd.sm (s : Fd) : Prop := (s.name.size : Int) ≤ 1048576 ∧ True ∧ True

end Go.AM
namespace Go.AM
set_option linter.unusedVariables false
set_option linter.unusedSimpArgs false
structure Ty where
  kind : Int
  long : Int
  base : Int
  fields : List Fd
  owner : ByteArray
  name : ByteArray

def Ty.z (s : Ty) : List AV := [.v (.int .i64 s.kind), .v (.int .i64 s.long), .v (.int .i64 s.base), .fsl 3 (s.fields.map Fd.z), .v (.string s.owner), .v (.string s.name)]

def Ty.o (s : Ty) : List AV := [.v (.int .i64 s.kind), .v (.int .i64 s.long), .v (.int .i64 s.base), .usl 97 3 (s.fields.map Fd.o), .v (.string s.owner), .v (.string s.name)]

theorem Ty.fr (s : Ty) : frzRow s.o = s.z := by
  simp only [Ty.o, Ty.z, frzRow, frzL, List.cons_append, List.nil_append, Fd.frz]

theorem Ty.frz : ∀ l : List Ty, frzRows (l.map Ty.o) = l.map Ty.z
  | [] => rfl
  | s :: l => by simp only [List.map_cons, frzRows, Ty.fr, Ty.frz l]

theorem Ty.nf (s : Ty) : nfzs s.o = true := by
  simp only [Ty.o, nfzs, nfz, List.cons_append, List.nil_append, Bool.and_self, Fd.nfz]

theorem Ty.nfz : ∀ l : List Ty, nfzss (l.map Ty.o) = true
  | [] => rfl
  | s :: l => by simp only [List.map_cons, nfzss, Ty.nf, Ty.nfz l, Bool.and_self]

theorem TyE : (∀ f : Ty, f.z.length = 6) ∧ (∀ f : Ty, f.z.take 6 = f.z) ∧ (∀ (st : St) (f : Ty), frzBs st f.z = f.z) ∧ (∀ f : Ty, bares f.z = true) ∧ (∀ f : Ty, plains f.z = true) ∧
    (∀ (f : Ty) (K : Nat → List (Nat × Nat) → Bool), killVs K f.z = f.z) ∧ (∀ f : Ty, f.z.all storL = true) ∧ (∀ f : Ty, f.o.length = 6) ∧ (∀ f : Ty, f.o.take 6 = f.o) ∧ (∀ f : Ty, bares f.o = false) ∧
    (∀ f : Ty, plains f.o = false) ∧ (∀ (f : Ty) (K : Nat → List (Nat × Nat) → Bool), killVs K f.o = f.o) ∧ (∀ f : Ty, f.o.all storL = true) :=
  ⟨fun _ => rfl, fun _ => rfl, fun _ _ => rfl, fun _ => rfl, fun _ => rfl, fun _ _ => rfl, fun _ => rfl, fun _ => rfl, fun _ => rfl, fun _ => rfl, fun _ => rfl, fun _ _ => rfl, fun _ => rfl⟩

def Ty.ok (s : Ty) : Prop := (-9223372036854775808 ≤ s.kind ∧ s.kind ≤ 9223372036854775807) ∧ (-9223372036854775808 ≤ s.long ∧ s.long ≤ 9223372036854775807) ∧ (-9223372036854775808 ≤ s.base ∧ s.base ≤ 9223372036854775807) ∧ ((s.fields.length : Int) ≤ 9223372036854775807 ∧ ∀ y ∈ s.fields, y.ok) ∧ (s.owner.size : Int) ≤ 9223372036854775807 ∧ (s.name.size : Int) ≤ 9223372036854775807

def Ty.sm (s : Ty) : Prop := True ∧ True ∧ True ∧ ((s.fields.length : Int) ≤ 1048576 ∧ ∀ y ∈ s.fields, y.sm) ∧ (s.owner.size : Int) ≤ 1048576 ∧ (s.name.size : Int) ≤ 1048576

end Go.AM
namespace Go.AM
set_option linter.unusedVariables false
set_option linter.unusedSimpArgs false
structure Par where
  name : ByteArray
  byvar : Bool
  typ : Int

def Par.z (s : Par) : List AV := [.v (.string s.name), .v (.bool s.byvar), .v (.int .i64 s.typ)]

def Par.o (s : Par) : List AV := [.v (.string s.name), .v (.bool s.byvar), .v (.int .i64 s.typ)]

theorem Par.fr (s : Par) : frzRow s.o = s.z := by
  simp only [Par.o, Par.z, frzRow, frzL, List.cons_append, List.nil_append]

theorem Par.frz : ∀ l : List Par, frzRows (l.map Par.o) = l.map Par.z
  | [] => rfl
  | s :: l => by simp only [List.map_cons, frzRows, Par.fr, Par.frz l]

theorem Par.nf (s : Par) : nfzs s.o = true := by
  simp only [Par.o, nfzs, nfz, List.cons_append, List.nil_append, Bool.and_self]

theorem Par.nfz : ∀ l : List Par, nfzss (l.map Par.o) = true
  | [] => rfl
  | s :: l => by simp only [List.map_cons, nfzss, Par.nf, Par.nfz l, Bool.and_self]

def Par.ok (s : Par) : Prop := (s.name.size : Int) ≤ 9223372036854775807 ∧ True ∧ (-9223372036854775808 ≤ s.typ ∧ s.typ ≤ 9223372036854775807)

def Par.sm (s : Par) : Prop := (s.name.size : Int) ≤ 1048576 ∧ True ∧ True

end Go.AM
namespace Go.AM
set_option linter.unusedVariables false
set_option linter.unusedSimpArgs false
structure Ob where
  name : ByteArray
  kind : Int
  mark : Int
  typ : Int
  value : Int
  params : List Par

def Ob.z (s : Ob) : List AV := [.v (.string s.name), .v (.int .i64 s.kind), .v (.int .i64 s.mark), .v (.int .i64 s.typ), .v (.int .i64 s.value), .fsl 3 (s.params.map Par.z)]

def Ob.o (s : Ob) : List AV := [.v (.string s.name), .v (.int .i64 s.kind), .v (.int .i64 s.mark), .v (.int .i64 s.typ), .v (.int .i64 s.value), .usl 54 3 (s.params.map Par.o)]

theorem Ob.fr (s : Ob) : frzRow s.o = s.z := by
  simp only [Ob.o, Ob.z, frzRow, frzL, List.cons_append, List.nil_append, Par.frz]

theorem Ob.frz : ∀ l : List Ob, frzRows (l.map Ob.o) = l.map Ob.z
  | [] => rfl
  | s :: l => by simp only [List.map_cons, frzRows, Ob.fr, Ob.frz l]

theorem Ob.nf (s : Ob) : nfzs s.o = true := by
  simp only [Ob.o, nfzs, nfz, List.cons_append, List.nil_append, Bool.and_self, Par.nfz]

theorem Ob.nfz : ∀ l : List Ob, nfzss (l.map Ob.o) = true
  | [] => rfl
  | s :: l => by simp only [List.map_cons, nfzss, Ob.nf, Ob.nfz l, Bool.and_self]

def Ob.ok (s : Ob) : Prop := (s.name.size : Int) ≤ 9223372036854775807 ∧ (-9223372036854775808 ≤ s.kind ∧ s.kind ≤ 9223372036854775807) ∧ (-9223372036854775808 ≤ s.mark ∧ s.mark ≤ 9223372036854775807) ∧ (-9223372036854775808 ≤ s.typ ∧ s.typ ≤ 9223372036854775807) ∧ (-9223372036854775808 ≤ s.value ∧ s.value ≤ 9223372036854775807) ∧ ((s.params.length : Int) ≤ 9223372036854775807 ∧ ∀ y ∈ s.params, y.ok)

def Ob.sm (s : Ob) : Prop := (s.name.size : Int) ≤ 1048576 ∧ True ∧ True ∧ True ∧ True ∧ ((s.params.length : Int) ≤ 1048576 ∧ ∀ y ∈ s.params, y.sm)

end Go.AM
namespace Go.AM
set_option linter.unusedVariables false
set_option linter.unusedSimpArgs false
structure Us where
  mod : ByteArray
  name : ByteArray

def Us.z (s : Us) : List AV := [.v (.string s.mod), .v (.string s.name)]

def Us.o (s : Us) : List AV := [.v (.string s.mod), .v (.string s.name)]

theorem Us.fr (s : Us) : frzRow s.o = s.z := by
  simp only [Us.o, Us.z, frzRow, frzL, List.cons_append, List.nil_append]

theorem Us.frz : ∀ l : List Us, frzRows (l.map Us.o) = l.map Us.z
  | [] => rfl
  | s :: l => by simp only [List.map_cons, frzRows, Us.fr, Us.frz l]

theorem Us.nf (s : Us) : nfzs s.o = true := by
  simp only [Us.o, nfzs, nfz, List.cons_append, List.nil_append, Bool.and_self]

theorem Us.nfz : ∀ l : List Us, nfzss (l.map Us.o) = true
  | [] => rfl
  | s :: l => by simp only [List.map_cons, nfzss, Us.nf, Us.nfz l, Bool.and_self]

def Us.ok (s : Us) : Prop := (s.mod.size : Int) ≤ 9223372036854775807 ∧ (s.name.size : Int) ≤ 9223372036854775807

def Us.sm (s : Us) : Prop := (s.mod.size : Int) ≤ 1048576 ∧ (s.name.size : Int) ≤ 1048576

structure Seen where
  mod : ByteArray
  name : ByteArray
  sum : Int

def Seen.z (s : Seen) : List AV := [.v (.string s.mod), .v (.string s.name), .v (.int .i64 s.sum)]

def Seen.o (s : Seen) : List AV := [.v (.string s.mod), .v (.string s.name), .v (.int .i64 s.sum)]

theorem Seen.fr (s : Seen) : frzRow s.o = s.z := by
  simp only [Seen.o, Seen.z, frzRow, frzL, List.cons_append, List.nil_append]

theorem Seen.frz : ∀ l : List Seen, frzRows (l.map Seen.o) = l.map Seen.z
  | [] => rfl
  | s :: l => by simp only [List.map_cons, frzRows, Seen.fr, Seen.frz l]

theorem Seen.nf (s : Seen) : nfzs s.o = true := by
  simp only [Seen.o, nfzs, nfz, List.cons_append, List.nil_append, Bool.and_self]

theorem Seen.nfz : ∀ l : List Seen, nfzss (l.map Seen.o) = true
  | [] => rfl
  | s :: l => by simp only [List.map_cons, nfzss, Seen.nf, Seen.nfz l, Bool.and_self]

def Seen.ok (s : Seen) : Prop := (s.mod.size : Int) ≤ 9223372036854775807 ∧ (s.name.size : Int) ≤ 9223372036854775807 ∧ (-9223372036854775808 ≤ s.sum ∧ s.sum ≤ 9223372036854775807)

def Seen.sm (s : Seen) : Prop := (s.mod.size : Int) ≤ 1048576 ∧ (s.name.size : Int) ≤ 1048576 ∧ True

structure Str where
  s : ByteArray

def Str.z (s : Str) : List AV := [.v (.string s.s)]

def Str.o (s : Str) : List AV := [.v (.string s.s)]

theorem Str.fr (s : Str) : frzRow s.o = s.z := by
  simp only [Str.o, Str.z, frzRow, frzL, List.cons_append, List.nil_append]

theorem Str.frz : ∀ l : List Str, frzRows (l.map Str.o) = l.map Str.z
  | [] => rfl
  | s :: l => by simp only [List.map_cons, frzRows, Str.fr, Str.frz l]

theorem Str.nf (s : Str) : nfzs s.o = true := by
  simp only [Str.o, nfzs, nfz, List.cons_append, List.nil_append, Bool.and_self]

theorem Str.nfz : ∀ l : List Str, nfzss (l.map Str.o) = true
  | [] => rfl
  | s :: l => by simp only [List.map_cons, nfzss, Str.nf, Str.nfz l, Bool.and_self]

def Str.ok (s : Str) : Prop := (s.s.size : Int) ≤ 9223372036854775807

def Str.sm (s : Str) : Prop := (s.s.size : Int) ≤ 1048576

end Go.AM
namespace Go.AM
set_option linter.unusedVariables false
set_option linter.unusedSimpArgs false
theorem pbeq (a b c d : Nat) : ((a, b) == (c, d)) = (a == c && b == d) := rfl

structure Scope where
  name : ByteArray
  imports : List Str
  types : List Ty
  objects : List Ob
  uses : List Us

def Scope.z (s : Scope) : List AV := [.v (.string s.name), .fsl 1 (s.imports.map Str.z), .fsl 6 (s.types.map Ty.z), .fsl 6 (s.objects.map Ob.z), .fsl 2 (s.uses.map Us.z)]

def Scope.o (s : Scope) : List AV := [.v (.string s.name), .usl 9 1 (s.imports.map Str.o), .usl 40 6 (s.types.map Ty.o), .usl 52 6 (s.objects.map Ob.o), .usl 155 2 (s.uses.map Us.o)]

theorem Scope.fr (s : Scope) : frzRow s.o = s.z := by
  simp only [Scope.o, Scope.z, frzRow, frzL, List.cons_append, List.nil_append, Str.frz, Ty.frz, Fd.frz, Ob.frz, Par.frz, Us.frz]

theorem Scope.frz : ∀ l : List Scope, frzRows (l.map Scope.o) = l.map Scope.z
  | [] => rfl
  | s :: l => by simp only [List.map_cons, frzRows, Scope.fr, Scope.frz l]

theorem Scope.nf (s : Scope) : nfzs s.o = true := by
  simp only [Scope.o, nfzs, nfz, List.cons_append, List.nil_append, Bool.and_self, Str.nfz, Ty.nfz, Fd.nfz, Ob.nfz, Par.nfz, Us.nfz]

theorem Scope.nfz : ∀ l : List Scope, nfzss (l.map Scope.o) = true
  | [] => rfl
  | s :: l => by simp only [List.map_cons, nfzss, Scope.nf, Scope.nfz l, Bool.and_self]

def Scope.ok (s : Scope) : Prop := (s.name.size : Int) ≤ 9223372036854775807 ∧ ((s.imports.length : Int) ≤ 9223372036854775807 ∧ ∀ y ∈ s.imports, y.ok) ∧ ((s.types.length : Int) ≤ 9223372036854775807 ∧ ∀ y ∈ s.types, y.ok) ∧ ((s.objects.length : Int) ≤ 9223372036854775807 ∧ ∀ y ∈ s.objects, y.ok) ∧ ((s.uses.length : Int) ≤ 9223372036854775807 ∧ ∀ y ∈ s.uses, y.ok)

def Scope.sm (s : Scope) : Prop := (s.name.size : Int) ≤ 1048576 ∧ ((s.imports.length : Int) ≤ 1048576 ∧ ∀ y ∈ s.imports, y.sm) ∧ ((s.types.length : Int) ≤ 1048576 ∧ ∀ y ∈ s.types, y.sm) ∧ ((s.objects.length : Int) ≤ 1048576 ∧ ∀ y ∈ s.objects, y.sm) ∧ ((s.uses.length : Int) ≤ 1048576 ∧ ∀ y ∈ s.uses, y.sm)

end Go.AM
namespace Go.AM
set_option linter.unusedVariables false
set_option linter.unusedSimpArgs false
structure Modu where
  scope : Scope
  seen : List Seen

def Modu.z (s : Modu) : List AV := s.scope.z ++ [.fsl 3 (s.seen.map Seen.z)]

end Go.AM
namespace Go.AM
set_option linter.unusedVariables false
set_option linter.unusedSimpArgs false
def eqTo {α : Type} (q : α → α → Bool) (a b : List α) (n : Nat) : Prop := ∀ j (ha : j < a.length) (hb : j < b.length), j < n → q a[j] b[j] = true

open Classical in
noncomputable def eqL {α : Type} (q : α → α → Bool) (a b : List α) : Bool := decide (a.length = b.length ∧ eqTo q a b a.length)

theorem eqTo_succ {α : Type} {q : α → α → Bool} {a b : List α} {i : Nat} {h1 : i < a.length} {h2 : i < b.length} (h : eqTo q a b i) (hq : q a[i] b[i] = true) : eqTo q a b (i + 1) := by
  intro j ha hb hj
  by_cases e : j = i
  · subst e; exact hq
  · exact h j ha hb (by omega)

theorem eqL_ne {α : Type} {q : α → α → Bool} {a b : List α} (h : ¬ a.length = b.length) : eqL q a b = false := by
  simp only [eqL, decide_eq_false_iff_not]
  rintro ⟨h1, _⟩
  exact h h1

theorem eqL_no {α : Type} {q : α → α → Bool} {a b : List α} {i : Nat} (h1 : i < a.length) (h2 : i < b.length) (hq : q a[i] b[i] = false) : eqL q a b = false := by
  simp only [eqL, decide_eq_false_iff_not]
  rintro ⟨_, h⟩
  have := h i h1 h2 h1
  rw [hq] at this; cases this

theorem eqL_yes {α : Type} {q : α → α → Bool} {a b : List α} (h : a.length = b.length) (h2 : eqTo q a b a.length) : eqL q a b = true := by
  simp only [eqL, decide_eq_true_eq]
  exact ⟨h, h2⟩

def qFd (x y : Fd) : Bool := x.name.toList == y.name.toList && (x.mark == y.mark && (x.typ == y.typ))

/-- slices.Equal[[]loop.example/g00837/impl.Field,loop.example/g00837/impl.Field] -/
def m226 : MC :=
  (.seq
   (.reg [⟨(some 4), none, .a (.asg (.c (.bool false)))⟩])
   (.seq
    (.seq
     (.reg [⟨(some 6), none, .q (.mov (.t 0))⟩,
       ⟨(some 7), none, .q (.len false (.t 6))⟩,
       ⟨(some 8), none, .q (.mov (.t 1))⟩,
       ⟨(some 9), none, .q (.len false (.t 8))⟩,
       ⟨(some 10), none, .q (.bin false .neq (.t 7) (.t 9))⟩])
     (.cond (.t 10)
      (.seq
       (.reg [⟨(some 4), none, .a (.asg (.c (.bool false)))⟩])
       .ret)
      .skip))
    (.seq
     (.seq
      (.reg [⟨(some 11), none, .q (.mov (.t 0))⟩,
        ⟨(some 12), none, .q (.len false (.t 11))⟩,
        ⟨(some 13), none, .q (.mov (.c (.int .i64 0)))⟩])
      (.block 0
       (.loop [0, 1, 12, 13]
        (.seq
         (.reg [⟨(some 14), none, .q (.bin false .lss (.t 13) (.t 12))⟩])
         (.seq
          (.cond (.t 14)
           .skip
           (.exit 0))
          (.seq
           (.block 1
            (.seq
             (.reg [⟨(some 15), none, .q (.mov (.t 13))⟩,
               ⟨(some 5), none, .a (.asg (.t 15))⟩])
             (.seq
              (.dreg [⟨(some 16), none, .q (.mov (.t 0))⟩,
                ⟨(some 17), none, .q (.mov (.t 5))⟩,
                ⟨(some 18), none, .q (.iad 3 (.t 16) (.t 17))⟩,
                ⟨(some 19), none, .q (.load true 3 (.t 18))⟩,
                ⟨(some 20), none, .q (.mov (.t 1))⟩,
                ⟨(some 21), none, .q (.mov (.t 5))⟩,
                ⟨(some 22), none, .q (.iad 3 (.t 20) (.t 21))⟩,
                ⟨(some 23), none, .q (.load true 3 (.t 22))⟩,
                ⟨(some 24), none, .q (.eqa true [1, 0, 0] (.t 19) (.t 23))⟩])
              (.cond (.t 24)
               (.seq
                (.reg [⟨(some 4), none, .a (.asg (.c (.bool false)))⟩])
                .ret)
               .skip))))
           (.reg [⟨(some 25), none, .q (.bin false .add (.t 13) (.c (.int .i64 1)))⟩,
             ⟨(some 13), none, .q (.mov (.t 25))⟩])))))))
     (.seq
      (.reg [⟨(some 4), none, .a (.asg (.c (.bool true)))⟩])
      .ret))))

theorem d226 (a b : List Fd) (ha : (a.length : Int) ≤ 1048576) (hb : (b.length : Int) ≤ 1048576) : Does Go.Proofs.Tryz.prog 226 [.fsl 3 (a.map Fd.z), .fsl 3 (b.map Fd.z)] false (.v (.bool (eqL qFd a b))) [.dead, .dead] := by
  refine does_intro (mc := m226) (N := 26) (rs := [4]) (fx := []) 2 rfl (by decide +kernel) ?_
  simp only [m226, EV, Nat.reduceEqDiff, Nat.reduceBEq, Nat.reduceLT, Nat.reduceLeDiff, Nat.reduceAdd, Nat.reduceSub, reduceIte]
  refine cK_cut (fun h => ?_) (fun h => ?_)
  · have h1 : ¬ a.length = b.length := by
      intro e; simp [e] at h
    simp only [EV, Nat.reduceEqDiff, Nat.reduceBEq, Nat.reduceLT, Nat.reduceLeDiff, Nat.reduceAdd, Nat.reduceSub, reduceIte]
    simp only [eqL_ne h1, EV, Nat.reduceEqDiff, Nat.reduceBEq, Nat.reduceLT, Nat.reduceLeDiff, Nat.reduceAdd, Nat.reduceSub, reduceIte, evRE, retVC, cellV', evR, nfz, nfzs, nfzss, List.contains_nil, List.contains_cons, Bool.or_false, or_true]
  · have hl : a.length = b.length := by
      have : ((a.length : Int) = b.length) := by simpa using h
      omega
    simp only [EV, Nat.reduceEqDiff, Nat.reduceBEq, Nat.reduceLT, Nat.reduceLeDiff, Nat.reduceAdd, Nat.reduceSub, reduceIte]
    refine awp_loop (fun i : Nat => i ≤ a.length ∧ eqTo qFd a b i) (fun i => stl [(0, .fsl 3 (a.map Fd.z)), (1, .fsl 3 (b.map Fd.z)), (12, .v (.int .i64 (a.length : Int))), (13, .v (.int .i64 (i : Int)))]) (fun i => a.length - i) 0 ⟨Nat.zero_le _, fun j _ _ h => absurd h (by omega)⟩ ?_ ?_
    · simp only [EV, Nat.reduceEqDiff, Nat.reduceBEq, Nat.reduceLT, Nat.reduceLeDiff, Nat.reduceAdd, Nat.reduceSub, reduceIte]
      rfl
    · rintro i ⟨hi, hto⟩
      simp only [EV, Nat.reduceEqDiff, Nat.reduceBEq, Nat.reduceLT, Nat.reduceLeDiff, Nat.reduceAdd, Nat.reduceSub, reduceIte]
      refine cK_cut (fun h => ?_) (fun h => ?_)
      · have h1 : i < a.length := by simpa using h
        have h2 : (i : Int) < (a.length : Int) := by omega
        have g1 : i < b.length := by omega
        have g2 : (i : Int) < (b.length : Int) := by omega
        simp only [nth_map h1, nth_map g1, h2, g2, Fd.z, Bool.true_xor, EV, Nat.reduceEqDiff, Nat.reduceBEq, Nat.reduceLT, Nat.reduceLeDiff, Nat.reduceAdd, Nat.reduceSub, reduceIte]
        refine cK_cut (fun h => ?_) (fun h => ?_)
        · have hq : qFd a[i] b[i] = false := by unfold qFd; simp only [Bool.not_eq_true'] at h; exact h
          simp only [EV, Nat.reduceEqDiff, Nat.reduceBEq, Nat.reduceLT, Nat.reduceLeDiff, Nat.reduceAdd, Nat.reduceSub, reduceIte]
          simp only [eqL_no h1 g1 hq, EV, Nat.reduceEqDiff, Nat.reduceBEq, Nat.reduceLT, Nat.reduceLeDiff, Nat.reduceAdd, Nat.reduceSub, reduceIte, evRE, retVC, cellV', evR, nfz, nfzs, nfzss, List.contains_nil, List.contains_cons, Bool.or_false, or_true]
        · have hq : qFd a[i] b[i] = true := by unfold qFd; simp only [Bool.not_eq_false'] at h; exact h
          simp only [EV, Nat.reduceEqDiff, Nat.reduceBEq, Nat.reduceLT, Nat.reduceLeDiff, Nat.reduceAdd, Nat.reduceSub, reduceIte]
          rw [w64 _ (by omega)]
          exact ⟨i + 1, ⟨by omega, eqTo_succ hto hq⟩, by omega, rfl⟩
      · have h1 : i = a.length := by have : ¬ (i : Int) < a.length := by simpa using h
                                     omega
        subst h1
        simp only [EV, Nat.reduceEqDiff, Nat.reduceBEq, Nat.reduceLT, Nat.reduceLeDiff, Nat.reduceAdd, Nat.reduceSub, reduceIte]
        simp only [eqL_yes hl hto, EV, Nat.reduceEqDiff, Nat.reduceBEq, Nat.reduceLT, Nat.reduceLeDiff, Nat.reduceAdd, Nat.reduceSub, reduceIte, evRE, retVC, cellV', evR, nfz, nfzs, nfzss, List.contains_nil, List.contains_cons, Bool.or_false, or_true]

/-- slices.EqualFunc[[]loop.example/g00837/impl.Type,[]loop.example/g00837/impl.Type,loop.example/g00837/impl.Type,loop.example/g00837/impl.Type] -/
def m185 : MC :=
  (.seq
   (.reg [⟨(some 6), none, .a (.asg (.c (.bool false)))⟩])
   (.seq
    (.seq
     (.reg [⟨(some 10), none, .q (.mov (.t 0))⟩,
       ⟨(some 11), none, .q (.len false (.t 10))⟩,
       ⟨(some 12), none, .q (.mov (.t 1))⟩,
       ⟨(some 13), none, .q (.len false (.t 12))⟩,
       ⟨(some 14), none, .q (.bin false .neq (.t 11) (.t 13))⟩])
     (.cond (.t 14)
      (.seq
       (.reg [⟨(some 6), none, .a (.asg (.c (.bool false)))⟩])
       .ret)
      .skip))
    (.seq
     (.seq
      (.reg [⟨(some 15), none, .q (.mov (.t 0))⟩,
        ⟨(some 16), none, .q (.len false (.t 15))⟩,
        ⟨(some 17), none, .q (.mov (.c (.int .i64 0)))⟩])
      (.block 0
       (.loop [0, 1, 2, 15, 16, 17]
        (.seq
         (.reg [⟨(some 18), none, .q (.bin false .lss (.t 17) (.t 16))⟩])
         (.seq
          (.cond (.t 18)
           .skip
           (.exit 0))
          (.seq
           (.block 1
            (.seq
             (.reg [⟨(some 19), none, .q (.mov (.t 17))⟩,
               ⟨(some 20), none, .q (.iad 6 (.t 15) (.t 17))⟩,
               ⟨(some 21), none, .q (.load true 6 (.t 20))⟩,
               ⟨(some 8), none, .a (.alloc 40 [.v (.int .i64 0), .v (.int .i64 0), .v (.int .i64 0), .s 97 3, .v (.string ({ data := #[] })), .v (.string ({ data := #[] }))])⟩,
               ⟨(some 7), none, .a (.asg (.t 19))⟩,
               ⟨none, none, .a (.store 6 (.t 8) (.t 21))⟩])
             (.seq
              (.reg [⟨(some 22), none, .q (.mov (.t 1))⟩,
                ⟨(some 23), none, .q (.mov (.t 7))⟩,
                ⟨(some 24), none, .q (.iad 6 (.t 22) (.t 23))⟩,
                ⟨(some 25), none, .q (.load true 6 (.t 24))⟩,
                ⟨(some 9), none, .a (.alloc 40 [.v (.int .i64 0), .v (.int .i64 0), .v (.int .i64 0), .s 97 3, .v (.string ({ data := #[] })), .v (.string ({ data := #[] }))])⟩,
                ⟨none, none, .a (.store 6 (.t 9) (.t 25))⟩])
              (.seq
               (.reg [⟨(some 26), none, .q (.mov (.t 2))⟩,
                 ⟨(some 27), none, .q (.load true 6 (.t 8))⟩,
                 ⟨(some 28), none, .q (.load true 6 (.t 9))⟩,
                 ⟨(some 29), none, .a (.call (.t 26) false [.lend (.t 27), .lend (.t 28)])⟩,
                 ⟨(some 30), none, .q (.un .not (.t 29))⟩])
               (.cond (.t 30)
                (.seq
                 (.reg [⟨(some 6), none, .a (.asg (.c (.bool false)))⟩])
                 .ret)
                .skip)))))
           (.reg [⟨(some 31), none, .q (.bin false .add (.t 17) (.c (.int .i64 1)))⟩,
             ⟨(some 17), none, .q (.mov (.t 31))⟩])))))))
     (.seq
      (.reg [⟨(some 6), none, .a (.asg (.c (.bool true)))⟩])
      .ret))))

set_option maxRecDepth 100000 in
theorem d185 (a b : List Ty) (ha : (a.length : Int) ≤ 1048576) (hb : (b.length : Int) ≤ 1048576) (f : Nat) (q : Ty → Ty → Bool) (hq : ∀ x ∈ a, ∀ y ∈ b, Does Go.Proofs.Tryz.prog f [.agg x.z, .agg y.z] false (.v (.bool (q x y))) [.dead, .dead]) :
    Does Go.Proofs.Tryz.prog 185 [.fsl 6 (a.map Ty.z), .fsl 6 (b.map Ty.z), .clo f []] false (.v (.bool (eqL q a b))) [.dead, .dead, .dead] := by
  refine does_intro (mc := m185) (N := 32) (rs := [6]) (fx := []) 3 rfl (by decide +kernel) ?_
  simp only [m185, EV, Nat.reduceEqDiff, Nat.reduceBEq, Nat.reduceLT, Nat.reduceLeDiff, Nat.reduceAdd, Nat.reduceSub, reduceIte]
  refine cK_cut (fun h => ?_) (fun h => ?_)
  · have h1 : ¬ a.length = b.length := by
      intro e; simp [e] at h
    simp only [EV, Nat.reduceEqDiff, Nat.reduceBEq, Nat.reduceLT, Nat.reduceLeDiff, Nat.reduceAdd, Nat.reduceSub, reduceIte]
    simp only [eqL_ne h1, EV, Nat.reduceEqDiff, Nat.reduceBEq, Nat.reduceLT, Nat.reduceLeDiff, Nat.reduceAdd, Nat.reduceSub, reduceIte, evRE, retVC, cellV', evR, nfz, nfzs, nfzss, List.contains_nil, List.contains_cons, Bool.or_false, or_true]
  · have hl : a.length = b.length := by
      have : ((a.length : Int) = b.length) := by simpa using h
      omega
    simp only [EV, Nat.reduceEqDiff, Nat.reduceBEq, Nat.reduceLT, Nat.reduceLeDiff, Nat.reduceAdd, Nat.reduceSub, reduceIte]
    refine awp_loop (fun i : Nat => i ≤ a.length ∧ eqTo q a b i) (fun i => stl [(0, .fsl 6 (a.map Ty.z)), (1, .fsl 6 (b.map Ty.z)), (2, .clo f []), (15, .fsl 6 (a.map Ty.z)), (16, .v (.int .i64 (a.length : Int))), (17, .v (.int .i64 (i : Int)))]) (fun i => a.length - i) 0 ⟨Nat.zero_le _, fun j _ _ h => absurd h (by omega)⟩ ?_ ?_
    · simp only [EV, Nat.reduceEqDiff, Nat.reduceBEq, Nat.reduceLT, Nat.reduceLeDiff, Nat.reduceAdd, Nat.reduceSub, reduceIte]
      rfl
    · rintro i ⟨hi, hto⟩
      simp only [EV, Nat.reduceEqDiff, Nat.reduceBEq, Nat.reduceLT, Nat.reduceLeDiff, Nat.reduceAdd, Nat.reduceSub, reduceIte]
      refine cK_cut (fun h => ?_) (fun h => ?_)
      · have h1 : i < a.length := by simpa using h
        have h2 : (i : Int) < (a.length : Int) := by omega
        have g1 : i < b.length := by omega
        have g2 : (i : Int) < (b.length : Int) := by omega
        simp only [nth_map h1, nth_map g1, h2, g2, Ty.z, EV, Nat.reduceEqDiff, Nat.reduceBEq, Nat.reduceLT, Nat.reduceLeDiff, Nat.reduceAdd, Nat.reduceSub, reduceIte]
        refine callK_i (hq a[i] (List.getElem_mem h1) b[i] (List.getElem_mem g1)) ?_
        simp only [EV, Nat.reduceEqDiff, Nat.reduceBEq, Nat.reduceLT, Nat.reduceLeDiff, Nat.reduceAdd, Nat.reduceSub, reduceIte]
        refine cK_cut (fun h => ?_) (fun h => ?_)
        · have hq : q a[i] b[i] = false := by simpa using h
          simp only [EV, Nat.reduceEqDiff, Nat.reduceBEq, Nat.reduceLT, Nat.reduceLeDiff, Nat.reduceAdd, Nat.reduceSub, reduceIte]
          simp only [eqL_no h1 g1 hq, EV, Nat.reduceEqDiff, Nat.reduceBEq, Nat.reduceLT, Nat.reduceLeDiff, Nat.reduceAdd, Nat.reduceSub, reduceIte, evRE, retVC, cellV', evR, nfz, nfzs, nfzss, List.contains_nil, List.contains_cons, Bool.or_false, or_true]
        · have hq : q a[i] b[i] = true := by simpa using h
          simp only [EV, Nat.reduceEqDiff, Nat.reduceBEq, Nat.reduceLT, Nat.reduceLeDiff, Nat.reduceAdd, Nat.reduceSub, reduceIte]
          rw [w64 _ (by omega)]
          exact ⟨i + 1, ⟨by omega, eqTo_succ hto hq⟩, by omega, rfl⟩
      · have h1 : i = a.length := by have : ¬ (i : Int) < a.length := by simpa using h
                                     omega
        subst h1
        simp only [EV, Nat.reduceEqDiff, Nat.reduceBEq, Nat.reduceLT, Nat.reduceLeDiff, Nat.reduceAdd, Nat.reduceSub, reduceIte]
        simp only [eqL_yes hl hto, EV, Nat.reduceEqDiff, Nat.reduceBEq, Nat.reduceLT, Nat.reduceLeDiff, Nat.reduceAdd, Nat.reduceSub, reduceIte, evRE, retVC, cellV', evR, nfz, nfzs, nfzss, List.contains_nil, List.contains_cons, Bool.or_false, or_true]

end Go.AM
namespace Go.AM
set_option linter.unusedVariables false
set_option linter.unusedSimpArgs false
noncomputable def sameTy (x y : Ty) : Bool := ((x.kind == y.kind) && ((x.long == y.long) && ((x.base == y.base) && ((eqL qFd x.fields y.fields) && ((x.owner.toList == y.owner.toList) && (x.name.toList == y.name.toList))))))

/-- loop.example/g00837/impl.sameType -/
def m186 : MC :=
  (.seq
   (.reg [⟨(some 2), none, .a (.box 40 (.t 0))⟩,
     ⟨(some 3), none, .a (.box 40 (.t 1))⟩,
     ⟨(some 4), none, .a (.asg (.c (.bool false)))⟩])
   (.seq
    (.reg [⟨(some 5), none, .q (.fad 0 (.t 2))⟩,
      ⟨(some 6), none, .q (.load false 1 (.t 5))⟩,
      ⟨(some 7), none, .q (.fad 0 (.t 3))⟩,
      ⟨(some 8), none, .q (.load false 1 (.t 7))⟩,
      ⟨(some 9), none, .q (.bin false .eql (.t 6) (.t 8))⟩,
      ⟨(some 10), none, .q (.mov (.t 9))⟩,
      ⟨(some 11), (some (10, true)), .q (.fad 1 (.t 2))⟩,
      ⟨(some 12), (some (10, true)), .q (.load false 1 (.t 11))⟩,
      ⟨(some 13), (some (10, true)), .q (.fad 1 (.t 3))⟩,
      ⟨(some 14), (some (10, true)), .q (.load false 1 (.t 13))⟩,
      ⟨(some 15), (some (10, true)), .q (.bin false .eql (.t 12) (.t 14))⟩,
      ⟨(some 16), none, .q (.pick (.t 10) (.t 15) (.c (.bool false)))⟩,
      ⟨(some 17), none, .q (.mov (.t 16))⟩,
      ⟨(some 18), (some (17, true)), .q (.fad 2 (.t 2))⟩,
      ⟨(some 19), (some (17, true)), .q (.load false 1 (.t 18))⟩,
      ⟨(some 20), (some (17, true)), .q (.fad 2 (.t 3))⟩,
      ⟨(some 21), (some (17, true)), .q (.load false 1 (.t 20))⟩,
      ⟨(some 22), (some (17, true)), .q (.bin false .eql (.t 19) (.t 21))⟩,
      ⟨(some 23), none, .q (.pick (.t 17) (.t 22) (.c (.bool false)))⟩,
      ⟨(some 24), none, .q (.mov (.t 23))⟩,
      ⟨(some 25), (some (24, true)), .q (.fad 3 (.t 2))⟩,
      ⟨(some 26), (some (24, true)), .q (.load false 1 (.t 25))⟩,
      ⟨(some 27), (some (24, true)), .q (.fad 3 (.t 3))⟩,
      ⟨(some 28), (some (24, true)), .q (.load false 1 (.t 27))⟩,
      ⟨(some 29), (some (24, true)), .a (.call (.fn 226) false [.lend (.t 26), .lend (.t 28)])⟩,
      ⟨(some 30), none, .q (.pick (.t 24) (.t 29) (.c (.bool false)))⟩,
      ⟨(some 31), none, .q (.mov (.t 30))⟩,
      ⟨(some 32), (some (31, true)), .q (.fad 4 (.t 2))⟩,
      ⟨(some 33), (some (31, true)), .q (.load false 1 (.t 32))⟩,
      ⟨(some 34), (some (31, true)), .q (.fad 4 (.t 3))⟩,
      ⟨(some 35), (some (31, true)), .q (.load false 1 (.t 34))⟩,
      ⟨(some 36), (some (31, true)), .q (.bin false .eql (.t 33) (.t 35))⟩,
      ⟨(some 37), none, .q (.pick (.t 31) (.t 36) (.c (.bool false)))⟩,
      ⟨(some 38), none, .q (.mov (.t 37))⟩,
      ⟨(some 39), (some (38, true)), .q (.fad 5 (.t 2))⟩,
      ⟨(some 40), (some (38, true)), .q (.load false 1 (.t 39))⟩,
      ⟨(some 41), (some (38, true)), .q (.fad 5 (.t 3))⟩,
      ⟨(some 42), (some (38, true)), .q (.load false 1 (.t 41))⟩,
      ⟨(some 43), (some (38, true)), .q (.bin false .eql (.t 40) (.t 42))⟩,
      ⟨(some 44), none, .q (.pick (.t 38) (.t 43) (.c (.bool false)))⟩,
      ⟨(some 4), none, .a (.asg (.t 44))⟩])
    .ret))

set_option maxRecDepth 100000 in
theorem d186 (x y : Ty) (hx : x.sm) (hy : y.sm) : Does Go.Proofs.Tryz.prog 186 [.agg x.z, .agg y.z] false (.v (.bool (sameTy x y))) [.dead, .dead] := by
  unfold Ty.sm at hx hy
  refine does_intro (mc := m186) (N := 45) (rs := [4]) (fx := []) 2 rfl (by decide +kernel) ?_
  simp only [m186, Ty.z, EV, Nat.reduceEqDiff, Nat.reduceBEq, Nat.reduceLT, Nat.reduceLeDiff, Nat.reduceAdd, Nat.reduceSub, reduceIte]
  repeat' (first
    | (refine gK_cut (fun h => ?_) (fun h => ?_) <;> simp only [h, EV, Nat.reduceEqDiff, Nat.reduceBEq, Nat.reduceLT, Nat.reduceLeDiff, Nat.reduceAdd, Nat.reduceSub, reduceIte])
    | (refine cK_cut (fun h => ?_) (fun h => ?_) <;> simp only [h, EV, Nat.reduceEqDiff, Nat.reduceBEq, Nat.reduceLT, Nat.reduceLeDiff, Nat.reduceAdd, Nat.reduceSub, reduceIte])
    | (refine callK_i (d226 _ _ (by omega) (by omega)) ?_ <;> simp only [h, EV, Nat.reduceEqDiff, Nat.reduceBEq, Nat.reduceLT, Nat.reduceLeDiff, Nat.reduceAdd, Nat.reduceSub, reduceIte]))
  all_goals simp only [sameTy, *, Bool.true_and, Bool.false_and, Bool.and_true, Bool.and_false, Bool.and_self, EV, Nat.reduceEqDiff, Nat.reduceBEq, Nat.reduceLT, Nat.reduceLeDiff, Nat.reduceAdd, Nat.reduceSub, reduceIte, evRE, retVC, cellV', evR, nfz, nfzs, nfzss, List.contains_nil, List.contains_cons, Bool.or_false, or_true]

end Go.AM
namespace Go.AM
set_option linter.unusedVariables false
set_option linter.unusedSimpArgs false
def findI {α : Type} (q : α → Bool) (l : List α) : Int := match l.findIdx? q with | some i => i | none => -1

theorem findI_at {α : Type} {q : α → Bool} {l : List α} {i : Nat} (h : i < l.length) (h1 : q l[i] = true) (h2 : ∀ j (hj : j < l.length), j < i → q l[j] = false) : findI q l = i := by
  have : l.findIdx? q = some i := by
    rw [List.findIdx?_eq_some_iff_getElem]
    exact ⟨h, h1, fun j hj => by simp [h2 j (by omega) hj]⟩
  simp [findI, this]

theorem findI_no {α : Type} {q : α → Bool} {l : List α} (h2 : ∀ j (hj : j < l.length), q l[j] = false) : findI q l = -1 := by
  have : l.findIdx? q = none := by
    rw [List.findIdx?_eq_none_iff]
    intro x hx
    obtain ⟨j, hj, rfl⟩ := List.getElem_of_mem hx
    exact h2 j hj
  simp [findI, this]

theorem findI_any {α : Type} {q : α → Bool} {l : List α} : decide (0 ≤ findI q l) = l.any q := by
  unfold findI
  cases h : l.findIdx? q with
  | none =>
    rw [List.findIdx?_eq_none_iff] at h
    have : l.any q = false := by simp only [List.any_eq_false]; intro x hx; simp [h x hx]
    simp [this]
  | some i =>
    rw [List.findIdx?_eq_some_iff_getElem] at h
    obtain ⟨hi, h1, _⟩ := h
    have : l.any q = true := by rw [List.any_eq_true]; exact ⟨l[i], List.getElem_mem hi, h1⟩
    simp only [this]
    simp

/-- slices.IndexFunc[[]loop.example/g00837/impl.Type,loop.example/g00837/impl.Type] -/
def m227 : MC :=
  (.seq
   (.reg [⟨(some 4), none, .a (.asg (.c (.int .i64 0)))⟩])
   (.seq
    (.seq
     (.reg [⟨(some 6), none, .q (.mov (.t 0))⟩,
       ⟨(some 7), none, .q (.len false (.t 6))⟩,
       ⟨(some 8), none, .q (.mov (.c (.int .i64 0)))⟩])
     (.block 0
      (.loop [0, 1, 7, 8]
       (.seq
        (.reg [⟨(some 9), none, .q (.bin false .lss (.t 8) (.t 7))⟩])
        (.seq
         (.cond (.t 9)
          .skip
          (.exit 0))
         (.seq
          (.block 1
           (.seq
            (.reg [⟨(some 10), none, .q (.mov (.t 8))⟩,
              ⟨(some 5), none, .a (.asg (.t 10))⟩])
            (.seq
             (.reg [⟨(some 11), none, .q (.mov (.t 1))⟩,
               ⟨(some 12), none, .q (.mov (.t 0))⟩,
               ⟨(some 13), none, .q (.mov (.t 5))⟩,
               ⟨(some 14), none, .q (.iad 6 (.t 12) (.t 13))⟩,
               ⟨(some 15), none, .q (.load true 6 (.t 14))⟩,
               ⟨(some 16), none, .a (.call (.t 11) false [.lend (.t 15)])⟩])
             (.cond (.t 16)
              (.seq
               (.reg [⟨(some 17), none, .q (.mov (.t 5))⟩,
                 ⟨(some 4), none, .a (.asg (.t 17))⟩])
               .ret)
              .skip))))
          (.reg [⟨(some 18), none, .q (.bin false .add (.t 8) (.c (.int .i64 1)))⟩,
            ⟨(some 8), none, .q (.mov (.t 18))⟩])))))))
    (.seq
     (.reg [⟨(some 4), none, .a (.asg (.c (.int .i64 (-1))))⟩])
     .ret)))

theorem d227 (l : List Ty) (hl : l.length < 9223372036854775807) (f : Nat) (caps : List AV) (q : Ty → Bool) (hp : plains caps = true) (hb : bares caps = true) (hk : ∀ K, killVs K caps = caps) (hf : ∀ (st : St), frzBs st caps = caps)
    (hq : ∀ s ∈ l, Does Go.Proofs.Tryz.prog f (.agg s.z :: caps) false (.v (.bool (q s))) (.dead :: caps.map fun _ => .dead)) :
    Does Go.Proofs.Tryz.prog 227 [.fsl 6 (l.map Ty.z), .clo f caps] false (.v (.int .i64 (findI q l))) [.dead, .dead] := by
  refine does_intro (mc := m227) (N := 19) (rs := [4]) (fx := []) 2 rfl (by decide +kernel) ?_
  simp only [m227, EV, Nat.reduceEqDiff, Nat.reduceBEq, Nat.reduceLT, Nat.reduceLeDiff, Nat.reduceAdd, Nat.reduceSub, reduceIte]
  refine awp_loop (fun i : Nat => i ≤ l.length ∧ ∀ j (hj : j < l.length), j < i → q l[j] = false) (fun i => stl [(0, .fsl 6 (l.map Ty.z)), (1, .clo f caps), (7, .v (.int .i64 (l.length : Int))), (8, .v (.int .i64 (i : Int)))]) (fun i => l.length - i) 0 ⟨Nat.zero_le _, fun j hj h => absurd h (by omega)⟩ ?_ ?_
  · simp only [hp, hb, hk, EV, Nat.reduceEqDiff, Nat.reduceBEq, Nat.reduceLT, Nat.reduceLeDiff, Nat.reduceAdd, Nat.reduceSub, reduceIte]
    rfl
  · rintro i ⟨hi, hno⟩
    simp only [EV, Nat.reduceEqDiff, Nat.reduceBEq, Nat.reduceLT, Nat.reduceLeDiff, Nat.reduceAdd, Nat.reduceSub, reduceIte]
    refine cK_cut (fun h => ?_) (fun h => ?_)
    · have h1 : i < l.length := by simpa using h
      have h2 : (i : Int) < (l.length : Int) := by omega
      simp only [TyE, nth_map h1, h2, hp, hb, EV, Nat.reduceEqDiff, Nat.reduceBEq, Nat.reduceLT, Nat.reduceLeDiff, Nat.reduceAdd, Nat.reduceSub, reduceIte]
      refine callK_i (hq l[i] (List.getElem_mem h1)) ?_
      simp only [EV, Nat.reduceEqDiff, Nat.reduceBEq, Nat.reduceLT, Nat.reduceLeDiff, Nat.reduceAdd, Nat.reduceSub, reduceIte]
      refine cK_cut (fun h => ?_) (fun h => ?_)
      · simp only [EV, Nat.reduceEqDiff, Nat.reduceBEq, Nat.reduceLT, Nat.reduceLeDiff, Nat.reduceAdd, Nat.reduceSub, reduceIte]
        simp only [findI_at h1 h hno, EV, Nat.reduceEqDiff, Nat.reduceBEq, Nat.reduceLT, Nat.reduceLeDiff, Nat.reduceAdd, Nat.reduceSub, reduceIte, evRE, retVC, cellV', evR, nfz, nfzs, nfzss, List.contains_nil, List.contains_cons, Bool.or_false, or_true]
      · simp only [hp, hb, hk, EV, Nat.reduceEqDiff, Nat.reduceBEq, Nat.reduceLT, Nat.reduceLeDiff, Nat.reduceAdd, Nat.reduceSub, reduceIte]
        rw [w64 _ (by omega)]
        refine ⟨i + 1, ⟨by omega, ?_⟩, by omega, rfl⟩
        intro j hj hji
        by_cases e : j = i
        · subst e; exact h
        · exact hno j hj (by omega)
    · have h1 : i = l.length := by have : ¬ (i : Int) < l.length := by simpa using h
                                   omega
      subst h1
      simp only [EV, Nat.reduceEqDiff, Nat.reduceBEq, Nat.reduceLT, Nat.reduceLeDiff, Nat.reduceAdd, Nat.reduceSub, reduceIte]
      simp only [findI_no (fun j hj => hno j hj hj), EV, Nat.reduceEqDiff, Nat.reduceBEq, Nat.reduceLT, Nat.reduceLeDiff, Nat.reduceAdd, Nat.reduceSub, reduceIte, evRE, retVC, cellV', evR, nfz, nfzs, nfzss, List.contains_nil, List.contains_cons, Bool.or_false, or_true]

/-- slices.ContainsFunc[[]loop.example/g00837/impl.Type,loop.example/g00837/impl.Type] -/
def m187 : MC :=
  (.seq
   (.reg [⟨(some 4), none, .a (.asg (.c (.bool false)))⟩])
   (.seq
    (.reg [⟨(some 5), none, .q (.mov (.t 0))⟩,
      ⟨(some 6), none, .q (.mov (.t 1))⟩,
      ⟨(some 7), none, .a (.call (.fn 227) false [.lend (.t 5), .lend (.t 6)])⟩,
      ⟨(some 8), none, .q (.bin false .geq (.t 7) (.c (.int .i64 0)))⟩,
      ⟨(some 4), none, .a (.asg (.t 8))⟩])
    .ret))

theorem d187 (l : List Ty) (hl : l.length < 9223372036854775807) (f : Nat) (caps : List AV) (q : Ty → Bool) (hp : plains caps = true) (hb : bares caps = true) (hk : ∀ K, killVs K caps = caps) (hf : ∀ (st : St), frzBs st caps = caps)
    (hq : ∀ s ∈ l, Does Go.Proofs.Tryz.prog f (.agg s.z :: caps) false (.v (.bool (q s))) (.dead :: caps.map fun _ => .dead)) :
    Does Go.Proofs.Tryz.prog 187 [.fsl 6 (l.map Ty.z), .clo f caps] false (.v (.bool (l.any q))) [.dead, .dead] := by
  refine does_intro (mc := m187) (N := 9) (rs := [4]) (fx := []) 2 rfl (by decide +kernel) ?_
  simp only [m187, hp, hb, hk, hf, EV, Nat.reduceEqDiff, Nat.reduceBEq, Nat.reduceLT, Nat.reduceLeDiff, Nat.reduceAdd, Nat.reduceSub, reduceIte]
  refine callK_i (d227 l hl f caps q hp hb hk hf hq) ?_
  simp only [EV, Nat.reduceEqDiff, Nat.reduceBEq, Nat.reduceLT, Nat.reduceLeDiff, Nat.reduceAdd, Nat.reduceSub, reduceIte]
  simp only [findI_any, EV, Nat.reduceEqDiff, Nat.reduceBEq, Nat.reduceLT, Nat.reduceLeDiff, Nat.reduceAdd, Nat.reduceSub, reduceIte, evRE, retVC, cellV', evR, nfz, nfzs, nfzss, List.contains_nil, List.contains_cons, Bool.or_false, or_true]

/-- slices.IndexFunc[[]loop.example/g00837/impl.Field,loop.example/g00837/impl.Field] -/
def m285 : MC :=
  (.seq
   (.reg [⟨(some 4), none, .a (.asg (.c (.int .i64 0)))⟩])
   (.seq
    (.seq
     (.reg [⟨(some 6), none, .q (.mov (.t 0))⟩,
       ⟨(some 7), none, .q (.len false (.t 6))⟩,
       ⟨(some 8), none, .q (.mov (.c (.int .i64 0)))⟩])
     (.block 0
      (.loop [0, 1, 7, 8]
       (.seq
        (.reg [⟨(some 9), none, .q (.bin false .lss (.t 8) (.t 7))⟩])
        (.seq
         (.cond (.t 9)
          .skip
          (.exit 0))
         (.seq
          (.block 1
           (.seq
            (.reg [⟨(some 10), none, .q (.mov (.t 8))⟩,
              ⟨(some 5), none, .a (.asg (.t 10))⟩])
            (.seq
             (.reg [⟨(some 11), none, .q (.mov (.t 1))⟩,
               ⟨(some 12), none, .q (.mov (.t 0))⟩,
               ⟨(some 13), none, .q (.mov (.t 5))⟩,
               ⟨(some 14), none, .q (.iad 3 (.t 12) (.t 13))⟩,
               ⟨(some 15), none, .q (.load true 3 (.t 14))⟩,
               ⟨(some 16), none, .a (.call (.t 11) false [.lend (.t 15)])⟩])
             (.cond (.t 16)
              (.seq
               (.reg [⟨(some 17), none, .q (.mov (.t 5))⟩,
                 ⟨(some 4), none, .a (.asg (.t 17))⟩])
               .ret)
              .skip))))
          (.reg [⟨(some 18), none, .q (.bin false .add (.t 8) (.c (.int .i64 1)))⟩,
            ⟨(some 8), none, .q (.mov (.t 18))⟩])))))))
    (.seq
     (.reg [⟨(some 4), none, .a (.asg (.c (.int .i64 (-1))))⟩])
     .ret)))

theorem d285 (l : List Fd) (hl : l.length < 9223372036854775807) (f : Nat) (caps : List AV) (q : Fd → Bool) (hp : plains caps = true) (hb : bares caps = true) (hk : ∀ K, killVs K caps = caps) (hf : ∀ (st : St), frzBs st caps = caps)
    (hq : ∀ s ∈ l, Does Go.Proofs.Tryz.prog f (.agg s.z :: caps) false (.v (.bool (q s))) (.dead :: caps.map fun _ => .dead)) :
    Does Go.Proofs.Tryz.prog 285 [.fsl 3 (l.map Fd.z), .clo f caps] false (.v (.int .i64 (findI q l))) [.dead, .dead] := by
  refine does_intro (mc := m285) (N := 19) (rs := [4]) (fx := []) 2 rfl (by decide +kernel) ?_
  simp only [m285, EV, Nat.reduceEqDiff, Nat.reduceBEq, Nat.reduceLT, Nat.reduceLeDiff, Nat.reduceAdd, Nat.reduceSub, reduceIte]
  refine awp_loop (fun i : Nat => i ≤ l.length ∧ ∀ j (hj : j < l.length), j < i → q l[j] = false) (fun i => stl [(0, .fsl 3 (l.map Fd.z)), (1, .clo f caps), (7, .v (.int .i64 (l.length : Int))), (8, .v (.int .i64 (i : Int)))]) (fun i => l.length - i) 0 ⟨Nat.zero_le _, fun j hj h => absurd h (by omega)⟩ ?_ ?_
  · simp only [hp, hb, hk, EV, Nat.reduceEqDiff, Nat.reduceBEq, Nat.reduceLT, Nat.reduceLeDiff, Nat.reduceAdd, Nat.reduceSub, reduceIte]
    rfl
  · rintro i ⟨hi, hno⟩
    simp only [EV, Nat.reduceEqDiff, Nat.reduceBEq, Nat.reduceLT, Nat.reduceLeDiff, Nat.reduceAdd, Nat.reduceSub, reduceIte]
    refine cK_cut (fun h => ?_) (fun h => ?_)
    · have h1 : i < l.length := by simpa using h
      have h2 : (i : Int) < (l.length : Int) := by omega
      simp only [FdE, nth_map h1, h2, hp, hb, EV, Nat.reduceEqDiff, Nat.reduceBEq, Nat.reduceLT, Nat.reduceLeDiff, Nat.reduceAdd, Nat.reduceSub, reduceIte]
      refine callK_i (hq l[i] (List.getElem_mem h1)) ?_
      simp only [EV, Nat.reduceEqDiff, Nat.reduceBEq, Nat.reduceLT, Nat.reduceLeDiff, Nat.reduceAdd, Nat.reduceSub, reduceIte]
      refine cK_cut (fun h => ?_) (fun h => ?_)
      · simp only [EV, Nat.reduceEqDiff, Nat.reduceBEq, Nat.reduceLT, Nat.reduceLeDiff, Nat.reduceAdd, Nat.reduceSub, reduceIte]
        simp only [findI_at h1 h hno, EV, Nat.reduceEqDiff, Nat.reduceBEq, Nat.reduceLT, Nat.reduceLeDiff, Nat.reduceAdd, Nat.reduceSub, reduceIte, evRE, retVC, cellV', evR, nfz, nfzs, nfzss, List.contains_nil, List.contains_cons, Bool.or_false, or_true]
      · simp only [hp, hb, hk, EV, Nat.reduceEqDiff, Nat.reduceBEq, Nat.reduceLT, Nat.reduceLeDiff, Nat.reduceAdd, Nat.reduceSub, reduceIte]
        rw [w64 _ (by omega)]
        refine ⟨i + 1, ⟨by omega, ?_⟩, by omega, rfl⟩
        intro j hj hji
        by_cases e : j = i
        · subst e; exact h
        · exact hno j hj (by omega)
    · have h1 : i = l.length := by have : ¬ (i : Int) < l.length := by simpa using h
                                   omega
      subst h1
      simp only [EV, Nat.reduceEqDiff, Nat.reduceBEq, Nat.reduceLT, Nat.reduceLeDiff, Nat.reduceAdd, Nat.reduceSub, reduceIte]
      simp only [findI_no (fun j hj => hno j hj hj), EV, Nat.reduceEqDiff, Nat.reduceBEq, Nat.reduceLT, Nat.reduceLeDiff, Nat.reduceAdd, Nat.reduceSub, reduceIte, evRE, retVC, cellV', evR, nfz, nfzs, nfzss, List.contains_nil, List.contains_cons, Bool.or_false, or_true]

/-- slices.ContainsFunc[[]loop.example/g00837/impl.Field,loop.example/g00837/impl.Field] -/
def m266 : MC :=
  (.seq
   (.reg [⟨(some 4), none, .a (.asg (.c (.bool false)))⟩])
   (.seq
    (.reg [⟨(some 5), none, .q (.mov (.t 0))⟩,
      ⟨(some 6), none, .q (.mov (.t 1))⟩,
      ⟨(some 7), none, .a (.call (.fn 285) false [.lend (.t 5), .lend (.t 6)])⟩,
      ⟨(some 8), none, .q (.bin false .geq (.t 7) (.c (.int .i64 0)))⟩,
      ⟨(some 4), none, .a (.asg (.t 8))⟩])
    .ret))

theorem d266 (l : List Fd) (hl : l.length < 9223372036854775807) (f : Nat) (caps : List AV) (q : Fd → Bool) (hp : plains caps = true) (hb : bares caps = true) (hk : ∀ K, killVs K caps = caps) (hf : ∀ (st : St), frzBs st caps = caps)
    (hq : ∀ s ∈ l, Does Go.Proofs.Tryz.prog f (.agg s.z :: caps) false (.v (.bool (q s))) (.dead :: caps.map fun _ => .dead)) :
    Does Go.Proofs.Tryz.prog 266 [.fsl 3 (l.map Fd.z), .clo f caps] false (.v (.bool (l.any q))) [.dead, .dead] := by
  refine does_intro (mc := m266) (N := 9) (rs := [4]) (fx := []) 2 rfl (by decide +kernel) ?_
  simp only [m266, hp, hb, hk, hf, EV, Nat.reduceEqDiff, Nat.reduceBEq, Nat.reduceLT, Nat.reduceLeDiff, Nat.reduceAdd, Nat.reduceSub, reduceIte]
  refine callK_i (d285 l hl f caps q hp hb hk hf hq) ?_
  simp only [EV, Nat.reduceEqDiff, Nat.reduceBEq, Nat.reduceLT, Nat.reduceLeDiff, Nat.reduceAdd, Nat.reduceSub, reduceIte]
  simp only [findI_any, EV, Nat.reduceEqDiff, Nat.reduceBEq, Nat.reduceLT, Nat.reduceLeDiff, Nat.reduceAdd, Nat.reduceSub, reduceIte, evRE, retVC, cellV', evR, nfz, nfzs, nfzss, List.contains_nil, List.contains_cons, Bool.or_false, or_true]

/-- Are these of one name? -/
def tyNm (x o : Ty) : Bool := o.name.toList == x.name.toList && o.owner.toList == x.owner.toList

def fdNm (x o : Fd) : Bool := o.name.toList == x.name.toList

/-- loop.example/g00837/impl.areTypes$1 -/
def m188 : MC :=
  (.seq
   (.reg [⟨(some 2), none, .a (.box 40 (.t 0))⟩,
     ⟨(some 3), none, .a (.asg (.c (.bool false)))⟩])
   (.seq
    (.reg [⟨(some 4), none, .q (.fad 5 (.t 2))⟩,
      ⟨(some 5), none, .q (.load false 1 (.t 4))⟩,
      ⟨(some 6), none, .q (.fad 5 (.t 1))⟩,
      ⟨(some 7), none, .q (.load false 1 (.t 6))⟩,
      ⟨(some 8), none, .q (.bin false .eql (.t 5) (.t 7))⟩,
      ⟨(some 9), none, .q (.mov (.t 8))⟩,
      ⟨(some 10), (some (9, true)), .q (.fad 4 (.t 2))⟩,
      ⟨(some 11), (some (9, true)), .q (.load false 1 (.t 10))⟩,
      ⟨(some 12), (some (9, true)), .q (.fad 4 (.t 1))⟩,
      ⟨(some 13), (some (9, true)), .q (.load false 1 (.t 12))⟩,
      ⟨(some 14), (some (9, true)), .q (.bin false .eql (.t 11) (.t 13))⟩,
      ⟨(some 15), none, .q (.pick (.t 9) (.t 14) (.c (.bool false)))⟩,
      ⟨(some 3), none, .a (.asg (.t 15))⟩])
    .ret))

theorem d188 (o x : Ty) : Does Go.Proofs.Tryz.prog 188 [.agg o.z, .fptr x.z] false (.v (.bool (tyNm x o))) [.dead, .dead] := by
  refine does_intro (mc := m188) (N := 16) (rs := [3]) (fx := []) 2 rfl (by decide +kernel) ?_
  simp only [m188, Ty.z, EV, Nat.reduceEqDiff, Nat.reduceBEq, Nat.reduceLT, Nat.reduceLeDiff, Nat.reduceAdd, Nat.reduceSub, reduceIte]
  repeat' (first
    | (refine gK_cut (fun h => ?_) (fun h => ?_) <;> simp only [h, EV, Nat.reduceEqDiff, Nat.reduceBEq, Nat.reduceLT, Nat.reduceLeDiff, Nat.reduceAdd, Nat.reduceSub, reduceIte])
    | (refine cK_cut (fun h => ?_) (fun h => ?_) <;> simp only [h, EV, Nat.reduceEqDiff, Nat.reduceBEq, Nat.reduceLT, Nat.reduceLeDiff, Nat.reduceAdd, Nat.reduceSub, reduceIte]))
  all_goals simp only [tyNm, h, Bool.true_and, Bool.false_and, EV, Nat.reduceEqDiff, Nat.reduceBEq, Nat.reduceLT, Nat.reduceLeDiff, Nat.reduceAdd, Nat.reduceSub, reduceIte, evRE, retVC, cellV', evR, nfz, nfzs, nfzss, List.contains_nil, List.contains_cons, Bool.or_false, or_true]

/-- loop.example/g00837/impl.areFields$1 -/
def m267 : MC :=
  (.seq
   (.reg [⟨(some 2), none, .a (.box 97 (.t 0))⟩,
     ⟨(some 3), none, .a (.asg (.c (.bool false)))⟩])
   (.seq
    (.reg [⟨(some 4), none, .q (.fad 0 (.t 2))⟩,
      ⟨(some 5), none, .q (.load false 1 (.t 4))⟩,
      ⟨(some 6), none, .q (.fad 0 (.t 1))⟩,
      ⟨(some 7), none, .q (.load false 1 (.t 6))⟩,
      ⟨(some 8), none, .q (.bin false .eql (.t 5) (.t 7))⟩,
      ⟨(some 3), none, .a (.asg (.t 8))⟩])
    .ret))

theorem d267 (o x : Fd) : Does Go.Proofs.Tryz.prog 267 [.agg o.z, .fptr x.z] false (.v (.bool (fdNm x o))) [.dead, .dead] := by
  refine does_intro (mc := m267) (N := 9) (rs := [3]) (fx := []) 2 rfl (by decide +kernel) ?_
  simp only [m267, Fd.z, EV, Nat.reduceEqDiff, Nat.reduceBEq, Nat.reduceLT, Nat.reduceLeDiff, Nat.reduceAdd, Nat.reduceSub, reduceIte]
  simp only [fdNm, EV, Nat.reduceEqDiff, Nat.reduceBEq, Nat.reduceLT, Nat.reduceLeDiff, Nat.reduceAdd, Nat.reduceSub, reduceIte, evRE, retVC, cellV', evR, nfz, nfzs, nfzss, List.contains_nil, List.contains_cons, Bool.or_false, or_true]

def baseTs : List Ty := [⟨1, 0, -1, [], ⟨#[]⟩, ⟨#[73, 78, 84]⟩⟩, ⟨2, 0, -1, [], ⟨#[]⟩, ⟨#[66, 79, 79, 76]⟩⟩, ⟨3, 0, -1, [], ⟨#[]⟩, ⟨#[67, 72, 65, 82]⟩⟩]

/-- loop.example/g00837/impl.BaseTypes -/
def m184 : MC :=
  (.seq
   (.reg [⟨(some 0), none, .a (.asg (.nils 40 6))⟩])
   (.seq
    (.reg [⟨(some 1), none, .a (.build [0, 2, 5] [0, 2, 5] [1, 1, 1] [.v (.int .i64 0), .v (.int .i64 0), .v (.int .i64 0), .s 97 3, .v (.string ({ data := #[] })), .v (.string ({ data := #[] }))] [.c (.int .i64 1), .c (.int .i64 (-1)), .c (.string ({ data := #[73, 78, 84] }))])⟩,
      ⟨(some 2), none, .a (.build [0, 2, 5] [0, 2, 5] [1, 1, 1] [.v (.int .i64 0), .v (.int .i64 0), .v (.int .i64 0), .s 97 3, .v (.string ({ data := #[] })), .v (.string ({ data := #[] }))] [.c (.int .i64 2), .c (.int .i64 (-1)), .c (.string ({ data := #[66, 79, 79, 76] }))])⟩,
      ⟨(some 3), none, .a (.build [0, 2, 5] [0, 2, 5] [1, 1, 1] [.v (.int .i64 0), .v (.int .i64 0), .v (.int .i64 0), .s 97 3, .v (.string ({ data := #[] })), .v (.string ({ data := #[] }))] [.c (.int .i64 3), .c (.int .i64 (-1)), .c (.string ({ data := #[67, 72, 65, 82] }))])⟩,
      ⟨(some 4), none, .a (.bsl 40 6 [.t 1, .t 2, .t 3])⟩,
      ⟨(some 0), none, .a (.asg (.t 4))⟩])
    .ret))

theorem d184 : Does Go.Proofs.Tryz.prog 184 [] false (.usl 40 6 (baseTs.map Ty.o)) [] := by
  refine does_intro (mc := m184) (N := 5) (rs := [0]) (fx := []) 0 rfl (by decide +kernel) ?_
  simp only [m184, baseTs, Ty.o, EV, Nat.reduceEqDiff, Nat.reduceBEq, Nat.reduceLT, Nat.reduceLeDiff, Nat.reduceAdd, Nat.reduceSub, reduceIte]
  simp only [EV, Nat.reduceEqDiff, Nat.reduceBEq, Nat.reduceLT, Nat.reduceLeDiff, Nat.reduceAdd, Nat.reduceSub, reduceIte, evRE, retVC, cellV', evR, nfz, nfzs, nfzss, List.contains_nil, List.contains_cons, Bool.or_false, or_true]

/-- loop.example/g00837/spec.BaseTypes -/
def m182 : MC :=
  (.seq
   (.reg [⟨(some 0), none, .a (.asg (.nils 40 6))⟩])
   (.seq
    (.reg [⟨(some 1), none, .a (.build [0, 2, 5] [0, 2, 5] [1, 1, 1] [.v (.int .i64 0), .v (.int .i64 0), .v (.int .i64 0), .s 97 3, .v (.string ({ data := #[] })), .v (.string ({ data := #[] }))] [.c (.int .i64 1), .c (.int .i64 (-1)), .c (.string ({ data := #[73, 78, 84] }))])⟩,
      ⟨(some 2), none, .a (.build [0, 2, 5] [0, 2, 5] [1, 1, 1] [.v (.int .i64 0), .v (.int .i64 0), .v (.int .i64 0), .s 97 3, .v (.string ({ data := #[] })), .v (.string ({ data := #[] }))] [.c (.int .i64 2), .c (.int .i64 (-1)), .c (.string ({ data := #[66, 79, 79, 76] }))])⟩,
      ⟨(some 3), none, .a (.build [0, 2, 5] [0, 2, 5] [1, 1, 1] [.v (.int .i64 0), .v (.int .i64 0), .v (.int .i64 0), .s 97 3, .v (.string ({ data := #[] })), .v (.string ({ data := #[] }))] [.c (.int .i64 3), .c (.int .i64 (-1)), .c (.string ({ data := #[67, 72, 65, 82] }))])⟩,
      ⟨(some 4), none, .a (.bsl 40 6 [.t 1, .t 2, .t 3])⟩,
      ⟨(some 0), none, .a (.asg (.t 4))⟩])
    .ret))

theorem d182 : Does Go.Proofs.Tryz.prog 182 [] false (.usl 40 6 (baseTs.map Ty.o)) [] := by
  refine does_intro (mc := m182) (N := 5) (rs := [0]) (fx := []) 0 rfl (by decide +kernel) ?_
  simp only [m182, baseTs, Ty.o, EV, Nat.reduceEqDiff, Nat.reduceBEq, Nat.reduceLT, Nat.reduceLeDiff, Nat.reduceAdd, Nat.reduceSub, reduceIte]
  simp only [EV, Nat.reduceEqDiff, Nat.reduceBEq, Nat.reduceLT, Nat.reduceLeDiff, Nat.reduceAdd, Nat.reduceSub, reduceIte, evRE, retVC, cellV', evR, nfz, nfzs, nfzss, List.contains_nil, List.contains_cons, Bool.or_false, or_true]

def isNum (l : List Ty) (n : Int) : Bool := decide (0 ≤ n) && decide (n ≤ (l.length : Int) - 1)

def kd (l : List Ty) (n : Int) : Int := match l[n.toNat]? with
  | some t => t.kind
  | none => 0

theorem isNum_lt {l : List Ty} {n : Int} (h : isNum l n = true) : 0 ≤ n ∧ n < l.length ∧ ∃ hn : n.toNat < l.length, kd l n = l[n.toNat].kind := by
  simp only [isNum, Bool.and_eq_true, decide_eq_true_eq] at h
  have hn : n.toNat < l.length := by omega
  exact ⟨h.1, by omega, hn, by simp [kd, hn]⟩

/-- loop.example/g00837/impl.isNumber -/
def m61 : MC :=
  (.seq
   (.reg [⟨(some 4), none, .a (.asg (.c (.bool false)))⟩])
   (.seq
    (.reg [⟨(some 5), none, .q (.mov (.t 1))⟩,
      ⟨(some 6), none, .q (.mov (.t 0))⟩,
      ⟨(some 7), none, .q (.len false (.t 6))⟩,
      ⟨(some 8), none, .q (.bin false .sub (.t 7) (.c (.int .i64 1)))⟩,
      ⟨(some 9), none, .a (.call (.fn 78) false [.lend (.t 5), .lend (.c (.int .i64 0)), .lend (.t 8)])⟩,
      ⟨(some 4), none, .a (.asg (.t 9))⟩])
    .ret))

theorem d61 (l : List Ty) (n : Int) (hl : (l.length : Int) ≤ 1048576) : Does Go.Proofs.Tryz.prog 61 [.fsl 6 (l.map Ty.z), .v (.int .i64 n)] false (.v (.bool (isNum l n))) [.dead, .dead] := by
  refine does_intro (mc := m61) (N := 10) (rs := [4]) (fx := []) 2 rfl (by decide +kernel) ?_
  simp only [m61, EV, Nat.reduceEqDiff, Nat.reduceBEq, Nat.reduceLT, Nat.reduceLeDiff, Nat.reduceAdd, Nat.reduceSub, reduceIte]
  rw [w64 _ (by omega)]
  refine callK_i (d78 _ _ _) ?_
  simp only [EV, Nat.reduceEqDiff, Nat.reduceBEq, Nat.reduceLT, Nat.reduceLeDiff, Nat.reduceAdd, Nat.reduceSub, reduceIte]
  simp only [isNum, EV, Nat.reduceEqDiff, Nat.reduceBEq, Nat.reduceLT, Nat.reduceLeDiff, Nat.reduceAdd, Nat.reduceSub, reduceIte, evRE, retVC, cellV', evR, nfz, nfzs, nfzss, List.contains_nil, List.contains_cons, Bool.or_false, or_true]

def isRec (l : List Ty) (n : Int) : Bool := isNum l n && kd l n == 5

/-- loop.example/g00837/impl.isRecord -/
def m56 : MC :=
  (.seq
   (.reg [⟨(some 4), none, .a (.asg (.c (.bool false)))⟩])
   (.seq
    (.reg [⟨(some 5), none, .q (.mov (.t 0))⟩,
      ⟨(some 6), none, .q (.mov (.t 1))⟩,
      ⟨(some 7), none, .a (.call (.fn 61) false [.lend (.t 5), .lend (.t 6)])⟩,
      ⟨(some 8), none, .q (.mov (.t 7))⟩,
      ⟨(some 9), (some (8, true)), .q (.mov (.t 0))⟩,
      ⟨(some 10), (some (8, true)), .q (.mov (.t 1))⟩,
      ⟨(some 11), (some (8, true)), .q (.iad 6 (.t 9) (.t 10))⟩,
      ⟨(some 12), (some (8, true)), .q (.fad 0 (.t 11))⟩,
      ⟨(some 13), (some (8, true)), .q (.load false 1 (.t 12))⟩,
      ⟨(some 14), (some (8, true)), .q (.bin false .eql (.t 13) (.c (.int .i64 5)))⟩,
      ⟨(some 15), none, .q (.pick (.t 8) (.t 14) (.c (.bool false)))⟩,
      ⟨(some 4), none, .a (.asg (.t 15))⟩])
    .ret))

set_option maxRecDepth 100000 in
theorem d56 (l : List Ty) (n : Int) (hl : (l.length : Int) ≤ 1048576) : Does Go.Proofs.Tryz.prog 56 [.fsl 6 (l.map Ty.z), .v (.int .i64 n)] false (.v (.bool (isRec l n))) [.dead, .dead] := by
  refine does_intro (mc := m56) (N := 16) (rs := [4]) (fx := []) 2 rfl (by decide +kernel) ?_
  simp only [m56, EV, Nat.reduceEqDiff, Nat.reduceBEq, Nat.reduceLT, Nat.reduceLeDiff, Nat.reduceAdd, Nat.reduceSub, reduceIte]
  refine callK_i (d61 l n hl) ?_
  simp only [EV, Nat.reduceEqDiff, Nat.reduceBEq, Nat.reduceLT, Nat.reduceLeDiff, Nat.reduceAdd, Nat.reduceSub, reduceIte]
  rcases e : isNum l n with _ | _
  · simp only [EV, Nat.reduceEqDiff, Nat.reduceBEq, Nat.reduceLT, Nat.reduceLeDiff, Nat.reduceAdd, Nat.reduceSub, reduceIte]
    simp only [isRec, e, Bool.false_and, EV, Nat.reduceEqDiff, Nat.reduceBEq, Nat.reduceLT, Nat.reduceLeDiff, Nat.reduceAdd, Nat.reduceSub, reduceIte, evRE, retVC, cellV', evR, nfz, nfzs, nfzss, List.contains_nil, List.contains_cons, Bool.or_false, or_true]
  · obtain ⟨h0, h1, hn, hk⟩ := isNum_lt e
    simp only [h0, h1, nth_map hn, Ty.z, EV, Nat.reduceEqDiff, Nat.reduceBEq, Nat.reduceLT, Nat.reduceLeDiff, Nat.reduceAdd, Nat.reduceSub, reduceIte]
    simp only [isRec, e, hk, Bool.true_and, EV, Nat.reduceEqDiff, Nat.reduceBEq, Nat.reduceLT, Nat.reduceLeDiff, Nat.reduceAdd, Nat.reduceSub, reduceIte, evRE, retVC, cellV', evR, nfz, nfzs, nfzss, List.contains_nil, List.contains_cons, Bool.or_false, or_true]

def kindIn (l : List Ty) (n a b : Int) : Bool := isNum l n && (kd l n == a || kd l n == b)

/-- loop.example/g00837/spec.l3Kind -/
def m59 : MC :=
  (.seq
   (.reg [⟨(some 8), none, .a (.asg (.c (.bool false)))⟩])
   (.seq
    (.reg [⟨(some 9), none, .q (.mov (.t 1))⟩,
      ⟨(some 10), none, .q (.mov (.t 0))⟩,
      ⟨(some 11), none, .q (.len false (.t 10))⟩,
      ⟨(some 12), none, .q (.bin false .sub (.t 11) (.c (.int .i64 1)))⟩,
      ⟨(some 13), none, .a (.call (.fn 72) false [.lend (.t 9), .lend (.c (.int .i64 0)), .lend (.t 12)])⟩,
      ⟨(some 14), none, .q (.mov (.t 13))⟩,
      ⟨(some 15), (some (14, true)), .q (.mov (.t 0))⟩,
      ⟨(some 16), (some (14, true)), .q (.mov (.t 1))⟩,
      ⟨(some 17), (some (14, true)), .q (.iad 6 (.t 15) (.t 16))⟩,
      ⟨(some 18), (some (14, true)), .q (.fad 0 (.t 17))⟩,
      ⟨(some 19), (some (14, true)), .q (.load false 1 (.t 18))⟩,
      ⟨(some 20), (some (14, true)), .q (.mov (.t 2))⟩,
      ⟨(some 21), (some (14, true)), .q (.bin false .eql (.t 19) (.t 20))⟩,
      ⟨(some 22), (some (14, true)), .q (.mov (.t 21))⟩,
      ⟨(some 23), (some (22, false)), .q (.mov (.t 0))⟩,
      ⟨(some 24), (some (22, false)), .q (.mov (.t 1))⟩,
      ⟨(some 25), (some (22, false)), .q (.iad 6 (.t 23) (.t 24))⟩,
      ⟨(some 26), (some (22, false)), .q (.fad 0 (.t 25))⟩,
      ⟨(some 27), (some (22, false)), .q (.load false 1 (.t 26))⟩,
      ⟨(some 28), (some (22, false)), .q (.mov (.t 3))⟩,
      ⟨(some 29), (some (22, false)), .q (.bin false .eql (.t 27) (.t 28))⟩,
      ⟨(some 30), (some (14, true)), .q (.pick (.t 22) (.c (.bool true)) (.t 29))⟩,
      ⟨(some 31), none, .q (.pick (.t 14) (.t 30) (.c (.bool false)))⟩,
      ⟨(some 8), none, .a (.asg (.t 31))⟩])
    .ret))

set_option maxRecDepth 100000 in
theorem d59 (l : List Ty) (n a b : Int) (hl : (l.length : Int) ≤ 1048576) : Does Go.Proofs.Tryz.prog 59 [.fsl 6 (l.map Ty.z), .v (.int .i64 n), .v (.int .i64 a), .v (.int .i64 b)] false (.v (.bool (kindIn l n a b))) [.dead, .dead, .dead, .dead] := by
  refine does_intro (mc := m59) (N := 32) (rs := [8]) (fx := []) 4 rfl (by decide +kernel) ?_
  simp only [m59, EV, Nat.reduceEqDiff, Nat.reduceBEq, Nat.reduceLT, Nat.reduceLeDiff, Nat.reduceAdd, Nat.reduceSub, reduceIte]
  rw [w64 _ (by omega)]
  refine callK_i (d72 _ _ _) ?_
  have en : isNum l n = (decide (0 ≤ n) && decide (n ≤ (l.length : Int) - 1)) := rfl
  rw [← en]
  simp only [EV, Nat.reduceEqDiff, Nat.reduceBEq, Nat.reduceLT, Nat.reduceLeDiff, Nat.reduceAdd, Nat.reduceSub, reduceIte]
  rcases e : isNum l n with _ | _
  · simp only [EV, Nat.reduceEqDiff, Nat.reduceBEq, Nat.reduceLT, Nat.reduceLeDiff, Nat.reduceAdd, Nat.reduceSub, reduceIte]
    simp only [kindIn, e, Bool.false_and, EV, Nat.reduceEqDiff, Nat.reduceBEq, Nat.reduceLT, Nat.reduceLeDiff, Nat.reduceAdd, Nat.reduceSub, reduceIte, evRE, retVC, cellV', evR, nfz, nfzs, nfzss, List.contains_nil, List.contains_cons, Bool.or_false, or_true]
  · obtain ⟨h0, h1, hn, hk⟩ := isNum_lt e
    simp only [h0, h1, nth_map hn, Ty.z, EV, Nat.reduceEqDiff, Nat.reduceBEq, Nat.reduceLT, Nat.reduceLeDiff, Nat.reduceAdd, Nat.reduceSub, reduceIte]
    refine gK_cut (fun h => ?_) (fun h => ?_)
    · simp only [h, EV, Nat.reduceEqDiff, Nat.reduceBEq, Nat.reduceLT, Nat.reduceLeDiff, Nat.reduceAdd, Nat.reduceSub, reduceIte]
      simp only [kindIn, e, hk, h, Bool.true_and, Bool.true_or, EV, Nat.reduceEqDiff, Nat.reduceBEq, Nat.reduceLT, Nat.reduceLeDiff, Nat.reduceAdd, Nat.reduceSub, reduceIte, evRE, retVC, cellV', evR, nfz, nfzs, nfzss, List.contains_nil, List.contains_cons, Bool.or_false, or_true]
    · simp only [h, h0, h1, nth_map hn, Ty.z, EV, Nat.reduceEqDiff, Nat.reduceBEq, Nat.reduceLT, Nat.reduceLeDiff, Nat.reduceAdd, Nat.reduceSub, reduceIte]
      simp only [kindIn, e, hk, h, Bool.true_and, Bool.false_or, EV, Nat.reduceEqDiff, Nat.reduceBEq, Nat.reduceLT, Nat.reduceLeDiff, Nat.reduceAdd, Nat.reduceSub, reduceIte, evRE, retVC, cellV', evR, nfz, nfzs, nfzss, List.contains_nil, List.contains_cons, Bool.or_false, or_true]

noncomputable def named (t : Ty) : Bool := nameOk t.name && nameOk t.owner || (t.name.toList == (⟨#[]⟩ : ByteArray).toList && t.owner.toList == (⟨#[]⟩ : ByteArray).toList)

/-- (loop.example/g00837/impl.Type).isNamed -/
def m228 : MC :=
  (.seq
   (.reg [⟨(some 1), none, .a (.box 40 (.t 0))⟩,
     ⟨(some 2), none, .a (.asg (.c (.bool false)))⟩])
   (.seq
    (.reg [⟨(some 3), none, .q (.fad 5 (.t 1))⟩,
      ⟨(some 4), none, .q (.load false 1 (.t 3))⟩,
      ⟨(some 5), none, .a (.call (.fn 141) false [.lend (.t 4)])⟩,
      ⟨(some 6), none, .q (.mov (.t 5))⟩,
      ⟨(some 7), (some (6, true)), .q (.fad 4 (.t 1))⟩,
      ⟨(some 8), (some (6, true)), .q (.load false 1 (.t 7))⟩,
      ⟨(some 9), (some (6, true)), .a (.call (.fn 141) false [.lend (.t 8)])⟩,
      ⟨(some 10), none, .q (.pick (.t 6) (.t 9) (.c (.bool false)))⟩,
      ⟨(some 11), none, .q (.mov (.t 10))⟩,
      ⟨(some 12), (some (11, false)), .q (.fad 5 (.t 1))⟩,
      ⟨(some 13), (some (11, false)), .q (.load false 1 (.t 12))⟩,
      ⟨(some 14), (some (11, false)), .q (.bin false .eql (.t 13) (.c (.string ({ data := #[] }))))⟩,
      ⟨(some 15), (some (11, false)), .q (.mov (.t 14))⟩,
      ⟨(some 16), (some (15, true)), .q (.fad 4 (.t 1))⟩,
      ⟨(some 17), (some (15, true)), .q (.load false 1 (.t 16))⟩,
      ⟨(some 18), (some (15, true)), .q (.bin false .eql (.t 17) (.c (.string ({ data := #[] }))))⟩,
      ⟨(some 19), (some (11, false)), .q (.pick (.t 15) (.t 18) (.c (.bool false)))⟩,
      ⟨(some 20), none, .q (.pick (.t 11) (.c (.bool true)) (.t 19))⟩,
      ⟨(some 2), none, .a (.asg (.t 20))⟩])
    .ret))

set_option maxRecDepth 100000 in
theorem d228 (t : Ty) (ht : t.sm) : Does Go.Proofs.Tryz.prog 228 [.agg t.z] false (.v (.bool (named t))) [.dead] := by
  unfold Ty.sm at ht
  refine does_intro (mc := m228) (N := 21) (rs := [2]) (fx := []) 1 rfl (by decide +kernel) ?_
  simp only [m228, Ty.z, EV, Nat.reduceEqDiff, Nat.reduceBEq, Nat.reduceLT, Nat.reduceLeDiff, Nat.reduceAdd, Nat.reduceSub, reduceIte]
  refine callK_i (d141 _ (by omega)) ?_
  simp only [EV, Nat.reduceEqDiff, Nat.reduceBEq, Nat.reduceLT, Nat.reduceLeDiff, Nat.reduceAdd, Nat.reduceSub, reduceIte]
  repeat' (first
    | (refine gK_cut (fun h => ?_) (fun h => ?_) <;> simp only [h, EV, Nat.reduceEqDiff, Nat.reduceBEq, Nat.reduceLT, Nat.reduceLeDiff, Nat.reduceAdd, Nat.reduceSub, reduceIte])
    | (refine cK_cut (fun h => ?_) (fun h => ?_) <;> simp only [h, EV, Nat.reduceEqDiff, Nat.reduceBEq, Nat.reduceLT, Nat.reduceLeDiff, Nat.reduceAdd, Nat.reduceSub, reduceIte])
    | (refine callK_i (d141 _ (by omega)) ?_ <;> simp only [h, EV, Nat.reduceEqDiff, Nat.reduceBEq, Nat.reduceLT, Nat.reduceLeDiff, Nat.reduceAdd, Nat.reduceSub, reduceIte]))
  all_goals simp only [named, *, Bool.true_and, Bool.false_and, Bool.and_true, Bool.and_false, Bool.true_or, Bool.false_or, Bool.or_false, Bool.or_true, EV, Nat.reduceEqDiff, Nat.reduceBEq, Nat.reduceLT, Nat.reduceLeDiff, Nat.reduceAdd, Nat.reduceSub, reduceIte, evRE, retVC, cellV', evR, nfz, nfzs, nfzss, List.contains_nil, List.contains_cons, Bool.or_false, or_true]

end Go.AM
namespace Go.AM
set_option linter.unusedVariables false
set_option linter.unusedSimpArgs false
/-- A whole number as a row of one cell. -/
def iv (n : Int) : List AV := [.v (.int .i64 n)]

theorem iv_frz : ∀ l : List Int, frzRows (l.map iv) = l.map iv
  | [] => rfl
  | n :: l => by simp only [List.map_cons, frzRows, iv_frz l]; rfl

theorem iv_nfz : ∀ l : List Int, nfzss (l.map iv) = true
  | [] => rfl
  | n :: l => by simp only [List.map_cons, nfzss, iv_nfz l, Bool.and_true]; rfl

theorem iv_stor {l : List Int} {a b : Nat} : ∀ c ∈ ((l.map iv).drop a).take b, ∀ u ∈ c, storP u = true := by
  intro c hc u hu
  have := List.mem_of_mem_drop (List.mem_of_mem_take hc)
  obtain ⟨n, _, rfl⟩ := List.mem_map.1 this
  simp only [iv, List.mem_singleton] at hu
  subst hu
  rfl

theorem iv_stor1 {l : List Int} : ∀ c ∈ l.map iv, ∀ u ∈ c, storP u = true := by
  intro c hc
  obtain ⟨n, _, rfl⟩ := List.mem_map.1 hc
  intro u hu
  simp only [iv, List.mem_singleton] at hu
  subst hu
  rfl

theorem iv_stor0 {l : List Int} {k : Nat} : ∀ c ∈ (l.map iv).take k, ∀ u ∈ c, storP u = true := fun c hc => iv_stor1 c (List.mem_of_mem_take hc)

/-- slices.Index[[]int,int] -/
def m231 : MC :=
  (.seq
   (.reg [⟨(some 4), none, .a (.asg (.c (.int .i64 0)))⟩])
   (.seq
    (.seq
     (.reg [⟨(some 6), none, .q (.mov (.t 0))⟩,
       ⟨(some 7), none, .q (.len false (.t 6))⟩,
       ⟨(some 8), none, .q (.mov (.c (.int .i64 0)))⟩])
     (.block 0
      (.loop [0, 1, 7, 8]
       (.seq
        (.reg [⟨(some 9), none, .q (.bin false .lss (.t 8) (.t 7))⟩])
        (.seq
         (.cond (.t 9)
          .skip
          (.exit 0))
         (.seq
          (.block 1
           (.seq
            (.reg [⟨(some 10), none, .q (.mov (.t 8))⟩,
              ⟨(some 5), none, .a (.asg (.t 10))⟩])
            (.seq
             (.reg [⟨(some 11), none, .q (.mov (.t 1))⟩,
               ⟨(some 12), none, .q (.mov (.t 0))⟩,
               ⟨(some 13), none, .q (.mov (.t 5))⟩,
               ⟨(some 14), none, .q (.iad 1 (.t 12) (.t 13))⟩,
               ⟨(some 15), none, .q (.load false 1 (.t 14))⟩,
               ⟨(some 16), none, .q (.bin false .eql (.t 11) (.t 15))⟩])
             (.cond (.t 16)
              (.seq
               (.reg [⟨(some 17), none, .q (.mov (.t 5))⟩,
                 ⟨(some 4), none, .a (.asg (.t 17))⟩])
               .ret)
              .skip))))
          (.reg [⟨(some 18), none, .q (.bin false .add (.t 8) (.c (.int .i64 1)))⟩,
            ⟨(some 8), none, .q (.mov (.t 18))⟩])))))))
    (.seq
     (.reg [⟨(some 4), none, .a (.asg (.c (.int .i64 (-1))))⟩])
     .ret)))

theorem d231 (l : List Int) (n : Int) (hl : l.length < 9223372036854775807) : Does Go.Proofs.Tryz.prog 231 [.fsl 1 (l.map iv), .v (.int .i64 n)] false (.v (.int .i64 (findI (fun x => n == x) l))) [.dead, .dead] := by
  refine does_intro (mc := m231) (N := 19) (rs := [4]) (fx := []) 2 rfl (by decide +kernel) ?_
  simp only [m231, EV, Nat.reduceEqDiff, Nat.reduceBEq, Nat.reduceLT, Nat.reduceLeDiff, Nat.reduceAdd, Nat.reduceSub, reduceIte]
  refine awp_loop (fun i : Nat => i ≤ l.length ∧ ∀ j (hj : j < l.length), j < i → (n == l[j]) = false) (fun i => stl [(0, .fsl 1 (l.map iv)), (1, .v (.int .i64 n)), (7, .v (.int .i64 (l.length : Int))), (8, .v (.int .i64 (i : Int)))]) (fun i => l.length - i) 0 ⟨Nat.zero_le _, fun j hj h => absurd h (by omega)⟩ ?_ ?_
  · simp only [EV, Nat.reduceEqDiff, Nat.reduceBEq, Nat.reduceLT, Nat.reduceLeDiff, Nat.reduceAdd, Nat.reduceSub, reduceIte]
    rfl
  · rintro i ⟨hi, hno⟩
    simp only [EV, Nat.reduceEqDiff, Nat.reduceBEq, Nat.reduceLT, Nat.reduceLeDiff, Nat.reduceAdd, Nat.reduceSub, reduceIte]
    refine cK_cut (fun h => ?_) (fun h => ?_)
    · have h1 : i < l.length := by simpa using h
      have h2 : (i : Int) < (l.length : Int) := by omega
      simp only [nth_map h1, h2, iv, EV, Nat.reduceEqDiff, Nat.reduceBEq, Nat.reduceLT, Nat.reduceLeDiff, Nat.reduceAdd, Nat.reduceSub, reduceIte]
      refine cK_cut (fun h => ?_) (fun h => ?_)
      · simp only [EV, Nat.reduceEqDiff, Nat.reduceBEq, Nat.reduceLT, Nat.reduceLeDiff, Nat.reduceAdd, Nat.reduceSub, reduceIte]
        simp only [findI_at h1 h hno, EV, Nat.reduceEqDiff, Nat.reduceBEq, Nat.reduceLT, Nat.reduceLeDiff, Nat.reduceAdd, Nat.reduceSub, reduceIte, evRE, retVC, cellV', evR, nfz, nfzs, nfzss, List.contains_nil, List.contains_cons, Bool.or_false, or_true]
      · simp only [EV, Nat.reduceEqDiff, Nat.reduceBEq, Nat.reduceLT, Nat.reduceLeDiff, Nat.reduceAdd, Nat.reduceSub, reduceIte]
        rw [w64 _ (by omega)]
        refine ⟨i + 1, ⟨by omega, ?_⟩, by omega, rfl⟩
        intro j hj hji
        by_cases e : j = i
        · subst e; exact h
        · exact hno j hj (by omega)
    · have h1 : i = l.length := by have : ¬ (i : Int) < l.length := by simpa using h
                                   omega
      subst h1
      simp only [EV, Nat.reduceEqDiff, Nat.reduceBEq, Nat.reduceLT, Nat.reduceLeDiff, Nat.reduceAdd, Nat.reduceSub, reduceIte]
      simp only [findI_no (fun j hj => hno j hj hj), EV, Nat.reduceEqDiff, Nat.reduceBEq, Nat.reduceLT, Nat.reduceLeDiff, Nat.reduceAdd, Nat.reduceSub, reduceIte, evRE, retVC, cellV', evR, nfz, nfzs, nfzss, List.contains_nil, List.contains_cons, Bool.or_false, or_true]

theorem any_contains (l : List Int) (n : Int) : (l.any fun x => n == x) = l.contains n := by rw [List.contains_eq_any_beq]

/-- slices.Contains[[]int,int] -/
def m191 : MC :=
  (.seq
   (.reg [⟨(some 4), none, .a (.asg (.c (.bool false)))⟩])
   (.seq
    (.reg [⟨(some 5), none, .q (.mov (.t 0))⟩,
      ⟨(some 6), none, .q (.mov (.t 1))⟩,
      ⟨(some 7), none, .a (.call (.fn 231) false [.lend (.t 5), .lend (.t 6)])⟩,
      ⟨(some 8), none, .q (.bin false .geq (.t 7) (.c (.int .i64 0)))⟩,
      ⟨(some 4), none, .a (.asg (.t 8))⟩])
    .ret))

theorem d191 (l : List Int) (n : Int) (hl : l.length < 9223372036854775807) : Does Go.Proofs.Tryz.prog 191 [.fsl 1 (l.map iv), .v (.int .i64 n)] false (.v (.bool (l.contains n))) [.dead, .dead] := by
  refine does_intro (mc := m191) (N := 9) (rs := [4]) (fx := []) 2 rfl (by decide +kernel) ?_
  simp only [m191, EV, Nat.reduceEqDiff, Nat.reduceBEq, Nat.reduceLT, Nat.reduceLeDiff, Nat.reduceAdd, Nat.reduceSub, reduceIte]
  refine callK_i (d231 l n hl) ?_
  simp only [EV, Nat.reduceEqDiff, Nat.reduceBEq, Nat.reduceLT, Nat.reduceLeDiff, Nat.reduceAdd, Nat.reduceSub, reduceIte]
  simp only [findI_any, any_contains, EV, Nat.reduceEqDiff, Nat.reduceBEq, Nat.reduceLT, Nat.reduceLeDiff, Nat.reduceAdd, Nat.reduceSub, reduceIte, evRE, retVC, cellV', evR, nfz, nfzs, nfzss, List.contains_nil, List.contains_cons, Bool.or_false, or_true]

/-- loop.example/g00837/spec.l1Has -/
def m196 : MC :=
  (.seq
   (.reg [⟨(some 4), none, .a (.asg (.c (.bool false)))⟩])
   (.seq
    (.seq
     (.reg [⟨(some 7), none, .q (.mov (.t 0))⟩,
       ⟨(some 8), none, .q (.len false (.t 7))⟩,
       ⟨(some 9), none, .q (.mov (.c (.int .i64 0)))⟩])
     (.block 0
      (.loop [0, 1, 7, 8, 9]
       (.seq
        (.reg [⟨(some 10), none, .q (.bin false .lss (.t 9) (.t 8))⟩])
        (.seq
         (.cond (.t 10)
          .skip
          (.exit 0))
         (.seq
          (.block 1
           (.seq
            (.reg [⟨(some 11), none, .q (.iad 1 (.t 7) (.t 9))⟩,
              ⟨(some 12), none, .q (.load false 1 (.t 11))⟩,
              ⟨(some 6), none, .a (.asg (.t 12))⟩])
            (.seq
             (.reg [⟨(some 13), none, .q (.mov (.t 6))⟩,
               ⟨(some 14), none, .q (.mov (.t 1))⟩,
               ⟨(some 15), none, .q (.bin false .eql (.t 13) (.t 14))⟩])
             (.cond (.t 15)
              (.seq
               (.reg [⟨(some 4), none, .a (.asg (.c (.bool true)))⟩])
               .ret)
              .skip))))
          (.reg [⟨(some 16), none, .q (.bin false .add (.t 9) (.c (.int .i64 1)))⟩,
            ⟨(some 9), none, .q (.mov (.t 16))⟩])))))))
    (.seq
     (.reg [⟨(some 4), none, .a (.asg (.c (.bool false)))⟩])
     .ret)))

theorem d196 (l : List Int) (n : Int) (hl : l.length < 9223372036854775807) : Does Go.Proofs.Tryz.prog 196 [.fsl 1 (l.map iv), .v (.int .i64 n)] false (.v (.bool (l.contains n))) [.dead, .dead] := by
  refine does_intro (mc := m196) (N := 17) (rs := [4]) (fx := []) 2 rfl (by decide +kernel) ?_
  simp only [m196, EV, Nat.reduceEqDiff, Nat.reduceBEq, Nat.reduceLT, Nat.reduceLeDiff, Nat.reduceAdd, Nat.reduceSub, reduceIte]
  refine awp_loop (fun i : Nat => i ≤ l.length ∧ ∀ j (hj : j < l.length), j < i → (l[j] == n) = false) (fun i => stl [(0, .fsl 1 (l.map iv)), (1, .v (.int .i64 n)), (7, .fsl 1 (l.map iv)), (8, .v (.int .i64 (l.length : Int))), (9, .v (.int .i64 (i : Int)))]) (fun i => l.length - i) 0 ⟨Nat.zero_le _, fun j hj h => absurd h (by omega)⟩ ?_ ?_
  · simp only [EV, Nat.reduceEqDiff, Nat.reduceBEq, Nat.reduceLT, Nat.reduceLeDiff, Nat.reduceAdd, Nat.reduceSub, reduceIte]
    rfl
  · rintro i ⟨hi, hno⟩
    simp only [EV, Nat.reduceEqDiff, Nat.reduceBEq, Nat.reduceLT, Nat.reduceLeDiff, Nat.reduceAdd, Nat.reduceSub, reduceIte]
    refine cK_cut (fun h => ?_) (fun h => ?_)
    · have h1 : i < l.length := by simpa using h
      have h2 : (i : Int) < (l.length : Int) := by omega
      simp only [nth_map h1, h2, iv, EV, Nat.reduceEqDiff, Nat.reduceBEq, Nat.reduceLT, Nat.reduceLeDiff, Nat.reduceAdd, Nat.reduceSub, reduceIte]
      refine cK_cut (fun h => ?_) (fun h => ?_)
      · have e : l.contains n = true := by
          rw [List.contains_iff_mem]
          have : l[i] = n := by simpa using h
          rw [← this]; exact List.getElem_mem h1
        simp only [EV, Nat.reduceEqDiff, Nat.reduceBEq, Nat.reduceLT, Nat.reduceLeDiff, Nat.reduceAdd, Nat.reduceSub, reduceIte]
        simp only [e, EV, Nat.reduceEqDiff, Nat.reduceBEq, Nat.reduceLT, Nat.reduceLeDiff, Nat.reduceAdd, Nat.reduceSub, reduceIte, evRE, retVC, cellV', evR, nfz, nfzs, nfzss, List.contains_nil, List.contains_cons, Bool.or_false, or_true]
      · simp only [EV, Nat.reduceEqDiff, Nat.reduceBEq, Nat.reduceLT, Nat.reduceLeDiff, Nat.reduceAdd, Nat.reduceSub, reduceIte]
        rw [w64 _ (by omega)]
        refine ⟨i + 1, ⟨by omega, ?_⟩, by omega, rfl⟩
        intro j hj hji
        by_cases e : j = i
        · subst e; exact h
        · exact hno j hj (by omega)
    · have h1 : i = l.length := by have : ¬ (i : Int) < l.length := by simpa using h
                                   omega
      subst h1
      have e : l.contains n = false := by
        rw [Bool.eq_false_iff]
        intro hc
        rw [List.contains_iff_mem] at hc
        obtain ⟨j, hj, hjn⟩ := List.mem_iff_getElem.1 hc
        have := hno j hj hj
        simp [hjn] at this
      simp only [EV, Nat.reduceEqDiff, Nat.reduceBEq, Nat.reduceLT, Nat.reduceLeDiff, Nat.reduceAdd, Nat.reduceSub, reduceIte]
      simp only [e, EV, Nat.reduceEqDiff, Nat.reduceBEq, Nat.reduceLT, Nat.reduceLeDiff, Nat.reduceAdd, Nat.reduceSub, reduceIte, evRE, retVC, cellV', evR, nfz, nfzs, nfzss, List.contains_nil, List.contains_cons, Bool.or_false, or_true]

/-- loop.example/g00837/spec.l1Own -/
def m162 : MC :=
  (.seq
   (.reg [⟨(some 2), none, .a (.asg (.nils 3 1))⟩])
   (.seq
    (.reg [⟨(some 3), none, .a (.bsl 3 1 [])⟩,
      ⟨(some 4), none, .q (.mov (.t 0))⟩,
      ⟨(some 5), none, .a (.app false 3 1 8 (.t 3) (.t 4))⟩,
      ⟨(some 2), none, .a (.asg (.t 5))⟩])
    .ret))

theorem d162 (l : List Int) (hl : (l.length : Int) ≤ 1048576) : Does Go.Proofs.Tryz.prog 162 [.fsl 1 (l.map iv)] false (.usl 3 1 (l.map iv)) [.dead] := by
  refine does_intro (mc := m162) (N := 6) (rs := [2]) (fx := []) 1 rfl (by decide +kernel) ?_
  simp only [m162, EV, Nat.reduceEqDiff, Nat.reduceBEq, Nat.reduceLT, Nat.reduceLeDiff, Nat.reduceAdd, Nat.reduceSub, reduceIte]
  refine ⟨.inl trivial, by omega, by omega, ?_⟩
  simp only [iv_nfz, EV, Nat.reduceEqDiff, Nat.reduceBEq, Nat.reduceLT, Nat.reduceLeDiff, Nat.reduceAdd, Nat.reduceSub, reduceIte, evRE, retVC, cellV', evR, nfz, nfzs, nfzss, List.contains_nil, List.contains_cons, Bool.or_false, or_true]

/-- slices.Clone[[]int,int] -/
def m232 : MC :=
  (.seq
   (.reg [⟨(some 2), none, .a (.asg (.nils 3 1))⟩])
   (.seq
    (.seq
     (.reg [⟨(some 3), none, .q (.mov (.t 0))⟩,
       ⟨(some 4), none, .q (.isnil false (.t 3))⟩])
     (.cond (.t 4)
      (.seq
       (.reg [⟨(some 2), none, .a (.asg (.nils 3 1))⟩])
       .ret)
      .skip))
    (.seq
     (.reg [⟨(some 5), none, .a (.bsl 3 1 [])⟩,
       ⟨(some 6), none, .q (.mov (.t 0))⟩,
       ⟨(some 7), none, .a (.app false 3 1 8 (.t 5) (.t 6))⟩,
       ⟨(some 2), none, .a (.asg (.t 7))⟩])
     .ret)))

theorem d232 (l : List Int) (hl : (l.length : Int) ≤ 1048576) : Does Go.Proofs.Tryz.prog 232 [.fsl 1 (l.map iv)] false (.usl 3 1 (l.map iv)) [.dead] := by
  refine does_intro (mc := m232) (N := 8) (rs := [2]) (fx := []) 1 rfl (by decide +kernel) ?_
  simp only [m232, EV, Nat.reduceEqDiff, Nat.reduceBEq, Nat.reduceLT, Nat.reduceLeDiff, Nat.reduceAdd, Nat.reduceSub, reduceIte]
  refine ⟨fun h b => ?_, fun h => ⟨.inl trivial, by omega, by omega, ?_⟩⟩
  · have h0 : l = [] := by simpa using h
    subst h0
    cases b
    · simp only [List.map_nil, EV, Nat.reduceEqDiff, Nat.reduceBEq, Nat.reduceLT, Nat.reduceLeDiff, Nat.reduceAdd, Nat.reduceSub, reduceIte]
      refine ⟨.inl trivial, by omega, ?_⟩
      simp only [EV, Nat.reduceEqDiff, Nat.reduceBEq, Nat.reduceLT, Nat.reduceLeDiff, Nat.reduceAdd, Nat.reduceSub, reduceIte, evRE, retVC, cellV', evR, nfz, nfzs, nfzss, List.contains_nil, List.contains_cons, Bool.or_false, or_true]
    · simp only [List.map_nil, EV, Nat.reduceEqDiff, Nat.reduceBEq, Nat.reduceLT, Nat.reduceLeDiff, Nat.reduceAdd, Nat.reduceSub, reduceIte]
      simp only [EV, Nat.reduceEqDiff, Nat.reduceBEq, Nat.reduceLT, Nat.reduceLeDiff, Nat.reduceAdd, Nat.reduceSub, reduceIte, evRE, retVC, cellV', evR, nfz, nfzs, nfzss, List.contains_nil, List.contains_cons, Bool.or_false, or_true]
  · simp only [iv_nfz, EV, Nat.reduceEqDiff, Nat.reduceBEq, Nat.reduceLT, Nat.reduceLeDiff, Nat.reduceAdd, Nat.reduceSub, reduceIte, evRE, retVC, cellV', evR, nfz, nfzs, nfzss, List.contains_nil, List.contains_cons, Bool.or_false, or_true]

def cut (l : List Int) (n : Int) : Nat := (l.takeWhile fun x => decide (x < n)).length

theorem cut_at {n : Int} : ∀ {l : List Int} {k : Nat}, k ≤ l.length → (∀ j (h : j < l.length), j < k → l[j] < n) → (∀ h : k < l.length, ¬ l[k] < n) → cut l n = k
  | [], k, h0, _, _ => by simp at h0; simp [cut, h0]
  | x :: l, 0, h0, h1, h2 => by
    have : ¬ x < n := h2 (by simp)
    simp [cut, List.takeWhile_cons, this]
  | x :: l, k + 1, h0, h1, h2 => by
    have hx : x < n := h1 0 (by simp) (by omega)
    have ih := cut_at (n := n) (l := l) (k := k) (by simpa using h0) (fun j hj hjk => by have := h1 (j + 1) (by simpa using hj) (by omega); simpa using this) (fun h => by have := h2 (by simpa using h); simpa using this)
    unfold cut at ih ⊢
    rw [List.takeWhile_cons, if_pos (by simpa using hx), List.length_cons, ih]

def putUp (l : List Int) (n : Int) : List Int := if l[cut l n]? = some n then l else (l.take (cut l n) ++ [n]) ++ l.drop (cut l n)

theorem cut_spec (l : List Int) (n : Int) : cut l n ≤ l.length ∧ (∀ x ∈ l.take (cut l n), x < n) ∧ (∀ h : cut l n < l.length, ¬ l[cut l n] < n) := by
  induction l with
  | nil => simp [cut]
  | cons x l ih =>
    unfold cut at ih ⊢
    rw [List.takeWhile_cons]
    by_cases hx : x < n
    · rw [if_pos (by simpa using hx)]
      simp only [List.length_cons, List.take_succ_cons, List.mem_cons, List.getElem_cons_succ]
      refine ⟨by omega, ?_, fun h => ih.2.2 (by omega)⟩
      rintro y (rfl | hy)
      · exact hx
      · exact ih.2.1 y hy
    · rw [if_neg (by simpa using hx)]
      simp [hx]

/-- A number is put to its place, once. -/
theorem putUp_spec {l : List Int} {n : Int} (h : l.Pairwise (· < ·)) : (putUp l n).Pairwise (· < ·) ∧ (∀ x, x ∈ putUp l n ↔ x = n ∨ x ∈ l) ∧ (n ∉ l → (putUp l n).length = l.length + 1) := by
  obtain ⟨c1, c2, c3⟩ := cut_spec l n
  unfold putUp
  split
  · rename_i hc
    have hm : n ∈ l := List.mem_of_getElem? hc
    exact ⟨h, fun x => ⟨.inr, fun h => h.elim (fun e => e ▸ hm) id⟩, fun hn => absurd hm hn⟩
  · rename_i hc
    have hd : ∀ x ∈ l.drop (cut l n), n < x := by
      intro x hx
      rcases Nat.lt_or_ge (cut l n) l.length with hlt | hge
      · have h0 := c3 hlt
        have e : l[cut l n] ≠ n := by intro e; exact hc (by rw [List.getElem?_eq_getElem hlt, e])
        have hp : (l.drop (cut l n)).Pairwise (· < ·) := h.sublist (List.drop_sublist _ _)
        rw [List.drop_eq_getElem_cons hlt] at hx hp
        rcases List.mem_cons.1 hx with rfl | hx
        · omega
        · have := (List.pairwise_cons.1 hp).1 x hx; omega
      · rw [List.drop_eq_nil_of_le hge] at hx; simp at hx
    have hmem : ∀ x, x ∈ l ↔ x ∈ l.take (cut l n) ∨ x ∈ l.drop (cut l n) := by
      intro x
      rw [← List.mem_append, List.take_append_drop]
    refine ⟨?_, ?_, ?_⟩
    · rw [List.append_assoc, List.pairwise_append]
      refine ⟨h.sublist (List.take_sublist _ _), ?_, ?_⟩
      · rw [List.singleton_append, List.pairwise_cons]
        exact ⟨hd, h.sublist (List.drop_sublist _ _)⟩
      · intro a ha b hb
        have h1 := c2 a ha
        rw [List.singleton_append, List.mem_cons] at hb
        rcases hb with rfl | hb
        · exact h1
        · have := hd b hb; omega
    · intro x
      rw [hmem x]
      simp only [List.mem_append, List.mem_singleton]
      constructor
      · rintro ((h | h) | h)
        · exact .inr (.inl h)
        · exact .inl h
        · exact .inr (.inr h)
      · rintro (h | h | h)
        · exact .inl (.inr h)
        · exact .inl (.inl h)
        · exact .inr h
    · intro _
      simp only [List.length_append, List.length_take, List.length_drop, List.length_singleton]
      omega

/-- loop.example/g00837/spec.l1Put -/
def m234 : MC :=
  (.seq
   (.reg [⟨(some 4), none, .a (.asg (.nils 3 1))⟩])
   (.seq
    (.reg [⟨(some 5), none, .a (.asg (.c (.int .i64 0)))⟩])
    (.seq
     (.block 0
      (.loop [0, 1, 5]
       (.seq
        (.seq
         (.reg [⟨(some 7), none, .q (.mov (.t 5))⟩,
           ⟨(some 8), none, .q (.mov (.t 0))⟩,
           ⟨(some 9), none, .q (.len false (.t 8))⟩,
           ⟨(some 10), none, .q (.bin false .lss (.t 7) (.t 9))⟩,
           ⟨(some 11), none, .q (.mov (.t 10))⟩,
           ⟨(some 12), (some (11, true)), .q (.mov (.t 0))⟩,
           ⟨(some 13), (some (11, true)), .q (.mov (.t 5))⟩,
           ⟨(some 14), (some (11, true)), .q (.iad 1 (.t 12) (.t 13))⟩,
           ⟨(some 15), (some (11, true)), .q (.load false 1 (.t 14))⟩,
           ⟨(some 16), (some (11, true)), .q (.mov (.t 1))⟩,
           ⟨(some 17), (some (11, true)), .q (.bin false .lss (.t 15) (.t 16))⟩,
           ⟨(some 18), none, .q (.pick (.t 11) (.t 17) (.c (.bool false)))⟩])
         (.cond (.t 18)
          .skip
          (.exit 0)))
        (.block 1
         (.reg [⟨(some 19), none, .q (.mov (.t 5))⟩,
           ⟨(some 20), none, .q (.bin false .add (.t 19) (.c (.int .i64 1)))⟩,
           ⟨(some 5), none, .a (.asg (.t 20))⟩])))))
     (.seq
      (.seq
       (.reg [⟨(some 21), none, .q (.mov (.t 5))⟩,
         ⟨(some 22), none, .q (.mov (.t 0))⟩,
         ⟨(some 23), none, .q (.len false (.t 22))⟩,
         ⟨(some 24), none, .q (.bin false .lss (.t 21) (.t 23))⟩,
         ⟨(some 25), none, .q (.mov (.t 24))⟩,
         ⟨(some 26), (some (25, true)), .q (.mov (.t 0))⟩,
         ⟨(some 27), (some (25, true)), .q (.mov (.t 5))⟩,
         ⟨(some 28), (some (25, true)), .q (.iad 1 (.t 26) (.t 27))⟩,
         ⟨(some 29), (some (25, true)), .q (.load false 1 (.t 28))⟩,
         ⟨(some 30), (some (25, true)), .q (.mov (.t 1))⟩,
         ⟨(some 31), (some (25, true)), .q (.bin false .eql (.t 29) (.t 30))⟩,
         ⟨(some 32), none, .q (.pick (.t 25) (.t 31) (.c (.bool false)))⟩])
       (.cond (.t 32)
        (.seq
         (.reg [⟨(some 33), none, .q (.mov (.t 0))⟩,
           ⟨(some 4), none, .a (.asg (.t 33))⟩])
         .ret)
        .skip))
      (.seq
       (.reg [⟨(some 34), none, .a (.bsl 3 1 [])⟩,
         ⟨(some 35), none, .q (.mov (.t 0))⟩,
         ⟨(some 36), none, .q (.mov (.t 5))⟩,
         ⟨(some 37), none, .q (.slc false 1 (.t 35) none (some (.t 36)))⟩,
         ⟨(some 38), none, .a (.app false 3 1 8 (.t 34) (.t 37))⟩,
         ⟨(some 6), none, .a (.asg (.t 38))⟩])
       (.seq
        (.reg [⟨(some 39), none, .q (.mov (.t 6))⟩,
          ⟨(some 40), none, .q (.mov (.t 1))⟩,
          ⟨(some 41), none, .a (.bsl 3 1 [.t 40])⟩,
          ⟨(some 42), none, .a (.app true 3 1 8 (.t 39) (.t 41))⟩,
          ⟨(some 6), none, .a (.asg (.t 42))⟩])
        (.seq
         (.reg [⟨(some 43), none, .q (.mov (.t 6))⟩,
           ⟨(some 44), none, .q (.mov (.t 0))⟩,
           ⟨(some 45), none, .q (.mov (.t 5))⟩,
           ⟨(some 46), none, .q (.slc false 1 (.t 44) (some (.t 45)) none)⟩,
           ⟨(some 47), none, .a (.app false 3 1 8 (.t 43) (.t 46))⟩,
           ⟨(some 4), none, .a (.asg (.t 47))⟩])
         .ret)))))))

set_option maxRecDepth 100000 in
theorem d234 (l : List Int) (n : Int) (hl : (l.length : Int) ≤ 1048576) : Does Go.Proofs.Tryz.prog 234 [.usl 3 1 (l.map iv), .v (.int .i64 n)] false (.usl 3 1 ((putUp l n).map iv)) [.dead, .dead] := by
  refine does_intro (mc := m234) (N := 48) (rs := [4]) (fx := []) 2 rfl (by decide +kernel) ?_
  simp only [m234, EV, Nat.reduceEqDiff, Nat.reduceBEq, Nat.reduceLT, Nat.reduceLeDiff, Nat.reduceAdd, Nat.reduceSub, reduceIte]
  refine awp_loop (fun k : Nat => k ≤ l.length ∧ ∀ j (h : j < l.length), j < k → l[j] < n) (fun k => stl [(0, .usl 3 1 (l.map iv)), (1, .v (.int .i64 n)), (5, .v (.int .i64 (k : Int)))]) (fun k => l.length - k) 0 ⟨Nat.zero_le _, fun j hj h => absurd h (by omega)⟩ ?_ ?_
  · simp only [EV, Nat.reduceEqDiff, Nat.reduceBEq, Nat.reduceLT, Nat.reduceLeDiff, Nat.reduceAdd, Nat.reduceSub, reduceIte]
    rfl
  · rintro k ⟨hk, hlt⟩
    simp only [EV, Nat.reduceEqDiff, Nat.reduceBEq, Nat.reduceLT, Nat.reduceLeDiff, Nat.reduceAdd, Nat.reduceSub, reduceIte]
    refine gK_cut (fun h => ?_) (fun h => ?_)
    · have h1 : k < l.length := by simpa using h
      have h2 : (k : Int) < (l.length : Int) := by omega
      simp only [decide_true, nth_map h1, h1, h2, iv, EV, Nat.reduceEqDiff, Nat.reduceBEq, Nat.reduceLT, Nat.reduceLeDiff, Nat.reduceAdd, Nat.reduceSub, reduceIte]
      refine cK_cut (fun h3 => ?_) (fun h3 => ?_)
      · have h4 : l[k] < n := by simpa using h3
        simp only [EV, Nat.reduceEqDiff, Nat.reduceBEq, Nat.reduceLT, Nat.reduceLeDiff, Nat.reduceAdd, Nat.reduceSub, reduceIte]
        rw [w64 _ (by omega)]
        refine ⟨k + 1, ⟨h1, ?_⟩, by omega, rfl⟩
        intro j hj hjk
        by_cases e : j = k
        · subst e; exact h4
        · exact hlt j hj (by omega)
      · have h4 : ¬ l[k] < n := by simpa using h3
        have hc : cut l n = k := cut_at hk hlt fun _ => h4
        have h1' : decide ((k : Int) < (l.length : Int)) = true := by simpa using h2
        simp only [decide_true, nth_map h1, h1, h2, iv, EV, Nat.reduceEqDiff, Nat.reduceBEq, Nat.reduceLT, Nat.reduceLeDiff, Nat.reduceAdd, Nat.reduceSub, reduceIte]
        refine cK_cut (fun h5 => ?_) (fun h5 => ?_)
        · have e : putUp l n = l := by
            unfold putUp
            rw [hc, List.getElem?_eq_getElem h1, if_pos (by simpa using h5)]
          simp only [EV, Nat.reduceEqDiff, Nat.reduceBEq, Nat.reduceLT, Nat.reduceLeDiff, Nat.reduceAdd, Nat.reduceSub, reduceIte]
          simp only [e, iv_nfz, EV, Nat.reduceEqDiff, Nat.reduceBEq, Nat.reduceLT, Nat.reduceLeDiff, Nat.reduceAdd, Nat.reduceSub, reduceIte, evRE, retVC, cellV', evR, nfz, nfzs, nfzss, List.contains_nil, List.contains_cons, Bool.or_false, or_true]
        · have e : putUp l n = (l.take k ++ [n]) ++ l.drop k := by
            unfold putUp
            rw [hc, List.getElem?_eq_getElem h1, if_neg (by simpa using h5)]
          have el : List.map iv (putUp l n) = (l.map iv).take k ++ [[AV.v (.int .i64 n)]] ++ ((l.map iv).drop k).take (l.length - k) := by
            have ed : List.take (l.length - k) (List.drop k (l.map iv)) = List.drop k (l.map iv) := List.take_of_length_le (by simp)
            rw [e, List.map_append, List.map_append, List.map_take, List.map_drop, ed]
            rfl
          simp only [EV, Nat.reduceEqDiff, Nat.reduceBEq, Nat.reduceLT, Nat.reduceLeDiff, Nat.reduceAdd, Nat.reduceSub, reduceIte]
          refine ⟨by omega, by omega, iv_stor0, by omega, by omega, by simp; omega, by simp; omega, by omega, by omega, iv_stor, by simp; omega, by simp; omega, ?_⟩
          rw [← el]
          simp only [iv_nfz, EV, Nat.reduceEqDiff, Nat.reduceBEq, Nat.reduceLT, Nat.reduceLeDiff, Nat.reduceAdd, Nat.reduceSub, reduceIte, evRE, retVC, cellV', evR, nfz, nfzs, nfzss, List.contains_nil, List.contains_cons, Bool.or_false, or_true]
    · have h1 : k = l.length := by have : ¬ (k : Int) < l.length := by simpa using h
                                   omega
      subst h1
      have hc : cut l n = l.length := cut_at hk hlt fun h => absurd h (by omega)
      have e : putUp l n = (l.take l.length ++ [n]) ++ l.drop l.length := by
        unfold putUp
        rw [hc, List.getElem?_eq_none (by omega), if_neg (by simp)]
      have el : List.map iv (putUp l n) = l.map iv ++ [[AV.v (.int .i64 n)]] ++ ((l.map iv).drop l.length).take (l.length - l.length) := by
        rw [e, List.map_append, List.map_append, List.take_length, List.map_drop, Nat.sub_self, List.take_zero, List.drop_eq_nil_of_le (by simp)]
        rfl
      simp only [h, EV, Nat.reduceEqDiff, Nat.reduceBEq, Nat.reduceLT, Nat.reduceLeDiff, Nat.reduceAdd, Nat.reduceSub, reduceIte]
      refine ⟨by omega, by omega, iv_stor1, by omega, by omega, by omega, by omega, by omega, by omega, iv_stor, by simp; omega, by simp; omega, ?_⟩
      rw [← el]
      simp only [iv_nfz, EV, Nat.reduceEqDiff, Nat.reduceBEq, Nat.reduceLT, Nat.reduceLeDiff, Nat.reduceAdd, Nat.reduceSub, reduceIte, evRE, retVC, cellV', evR, nfz, nfzs, nfzss, List.contains_nil, List.contains_cons, Bool.or_false, or_true]

end Go.AM
namespace Go.AM
set_option linter.unusedVariables false
set_option linter.unusedSimpArgs false
def nil' (s : ByteArray) : Bool := s.toList == (⟨#[]⟩ : ByteArray).toList

theorem loop_len (bs : ByteArray) : ∀ (n i : Nat) (r : List UInt8), bs.size - i ≤ n → r.length ≤ (ByteArray.toList.loop bs i r).length
  | 0, i, r, h => by
    rw [ByteArray.toList.loop.eq_1, if_neg (by omega)]
    simp
  | n + 1, i, r, h => by
    rw [ByteArray.toList.loop.eq_1]
    split
    · have := loop_len bs n (i + 1) (bs.get! i :: r) (by omega)
      simp only [List.length_cons] at this
      omega
    · simp

theorem nil_size {s : ByteArray} (h : nil' s = true) : s.size = 0 := by
  have e : s.toList = (⟨#[]⟩ : ByteArray).toList := by simpa [nil'] using h
  have e0 : (⟨#[]⟩ : ByteArray).toList = [] := ByteArray.toList_empty
  rw [e0, ByteArray.toList.eq_1, ByteArray.toList.loop.eq_1] at e
  split at e
  · have := loop_len s s.size (0 + 1) [s.get! 0] (by omega)
    rw [e] at this
    simp at this
  · omega

theorem nil_name {s : ByteArray} (h : nil' s = true) : nameOk s = false := by
  have := nil_size h
  simp only [nameOk, decide_eq_false_iff_not]
  rintro ⟨_, h1, _⟩
  omega

noncomputable def fdAt (l : List Ty) (fs : List Fd) (i : Nat) (h : i < fs.length) : Bool :=
  (decide (0 ≤ fs[i].mark) && decide (fs[i].mark ≤ 2)) && (isNum l fs[i].typ && (if nil' fs[i].name = true then fs[i].mark == 0 else nameOk fs[i].name && !((fs.take i).any (fdNm fs[i]))))

def fdTo (l : List Ty) (fs : List Fd) (n : Nat) : Prop := ∀ i (h : i < fs.length), i < n → fdAt l fs i h = true

open Classical in
noncomputable def fdsOk (l : List Ty) (fs : List Fd) : Bool := decide (fdTo l fs fs.length ∧ fs.length ≤ 6)

theorem fdTo_succ {l : List Ty} {fs : List Fd} {i : Nat} (h : i < fs.length) (h1 : fdTo l fs i) (h2 : fdAt l fs i h = true) : fdTo l fs (i + 1) := by
  intro j hj hji
  by_cases e : j = i
  · subst e; exact h2
  · exact h1 j hj (by omega)

theorem fdsOk_no {l : List Ty} {fs : List Fd} {i : Nat} (h : i < fs.length) (h2 : fdAt l fs i h = false) : fdsOk l fs = false := by
  simp only [fdsOk, decide_eq_false_iff_not]
  rintro ⟨h1, _⟩
  have := h1 i h h
  rw [h2] at this; cases this

theorem fdsOk_yes {l : List Ty} {fs : List Fd} (h : fdTo l fs fs.length) : fdsOk l fs = decide ((fs.length : Int) ≤ 6) := by
  have e2 : decide ((fs.length : Int) ≤ 6) = decide (fs.length ≤ 6) := by congr 1; apply propext; omega
  simp [fdsOk, h, e2]

/-- loop.example/g00837/impl.areFields -/
def m229 : MC :=
  (.seq
   (.reg [⟨(some 4), none, .a (.asg (.c (.bool false)))⟩])
   (.seq
    (.seq
     (.reg [⟨(some 7), none, .q (.mov (.t 1))⟩,
       ⟨(some 8), none, .q (.len false (.t 7))⟩,
       ⟨(some 9), none, .q (.mov (.c (.int .i64 0)))⟩])
     (.block 0
      (.loop [0, 1, 7, 8, 9]
       (.seq
        (.reg [⟨(some 10), none, .q (.bin false .lss (.t 9) (.t 8))⟩])
        (.seq
         (.cond (.t 10)
          .skip
          (.exit 0))
         (.join [0, 1, 7, 8, 9]
          (.block 1
           (.seq
            (.reg [⟨(some 11), none, .q (.mov (.t 9))⟩,
              ⟨(some 12), none, .q (.iad 3 (.t 7) (.t 9))⟩,
              ⟨(some 13), none, .q (.load true 3 (.t 12))⟩,
              ⟨(some 6), none, .a (.alloc 97 [.v (.string ({ data := #[] })), .v (.int .i64 0), .v (.int .i64 0)])⟩,
              ⟨(some 5), none, .a (.asg (.t 11))⟩,
              ⟨none, none, .a (.store 3 (.t 6) (.t 13))⟩])
            (.seq
             (.seq
              (.reg [⟨(some 14), none, .q (.fad 1 (.t 6))⟩,
                ⟨(some 15), none, .q (.load false 1 (.t 14))⟩,
                ⟨(some 16), none, .a (.call (.fn 78) false [.lend (.t 15), .lend (.c (.int .i64 0)), .lend (.c (.int .i64 2))])⟩,
                ⟨(some 17), none, .q (.un .not (.t 16))⟩,
                ⟨(some 18), none, .q (.mov (.t 17))⟩,
                ⟨(some 19), (some (18, false)), .q (.mov (.t 0))⟩,
                ⟨(some 20), (some (18, false)), .q (.fad 2 (.t 6))⟩,
                ⟨(some 21), (some (18, false)), .q (.load false 1 (.t 20))⟩,
                ⟨(some 22), (some (18, false)), .a (.call (.fn 61) false [.lend (.t 19), .lend (.t 21)])⟩,
                ⟨(some 23), (some (18, false)), .q (.un .not (.t 22))⟩,
                ⟨(some 24), none, .q (.pick (.t 18) (.c (.bool true)) (.t 23))⟩])
              (.cond (.t 24)
               (.seq
                (.reg [⟨(some 4), none, .a (.asg (.c (.bool false)))⟩])
                .ret)
               .skip))
             (.seq
              (.seq
               (.reg [⟨(some 25), none, .q (.fad 0 (.t 6))⟩,
                 ⟨(some 26), none, .q (.load false 1 (.t 25))⟩,
                 ⟨(some 27), none, .q (.bin false .eql (.t 26) (.c (.string ({ data := #[] }))))⟩])
               (.cond (.t 27)
                (.seq
                 (.seq
                  (.reg [⟨(some 28), none, .q (.fad 1 (.t 6))⟩,
                    ⟨(some 29), none, .q (.load false 1 (.t 28))⟩,
                    ⟨(some 30), none, .q (.bin false .neq (.t 29) (.c (.int .i64 0)))⟩])
                  (.cond (.t 30)
                   (.seq
                    (.reg [⟨(some 4), none, .a (.asg (.c (.bool false)))⟩])
                    .ret)
                   .skip))
                 (.exit 1))
                .skip))
              (.seq
               (.reg [⟨(some 31), none, .q (.fad 0 (.t 6))⟩,
                 ⟨(some 32), none, .q (.load false 1 (.t 31))⟩,
                 ⟨(some 33), none, .a (.call (.fn 141) false [.lend (.t 32)])⟩,
                 ⟨(some 34), none, .q (.un .not (.t 33))⟩,
                 ⟨(some 35), none, .q (.mov (.t 34))⟩,
                 ⟨(some 36), (some (35, false)), .q (.mov (.t 1))⟩,
                 ⟨(some 37), (some (35, false)), .q (.mov (.t 5))⟩,
                 ⟨(some 38), (some (35, false)), .q (.slc false 3 (.t 36) none (some (.t 37)))⟩,
                 ⟨(some 39), (some (35, false)), .q (.mkf 267 [.t 6])⟩,
                 ⟨(some 40), (some (35, false)), .a (.call (.fn 266) false [.lend (.t 38), .lend (.t 39)])⟩,
                 ⟨(some 41), none, .q (.pick (.t 35) (.c (.bool true)) (.t 40))⟩])
               (.cond (.t 41)
                (.seq
                 (.reg [⟨(some 4), none, .a (.asg (.c (.bool false)))⟩])
                 .ret)
                .skip))))))
          (.reg [⟨(some 42), none, .q (.bin false .add (.t 9) (.c (.int .i64 1)))⟩,
            ⟨(some 9), none, .q (.mov (.t 42))⟩])))))))
    (.seq
     (.reg [⟨(some 43), none, .q (.mov (.t 1))⟩,
       ⟨(some 44), none, .q (.len false (.t 43))⟩,
       ⟨(some 45), none, .q (.bin false .leq (.t 44) (.c (.int .i64 6)))⟩,
       ⟨(some 4), none, .a (.asg (.t 45))⟩])
     .ret)))

set_option maxHeartbeats 1000000 in
set_option maxRecDepth 100000 in
theorem d229 (l : List Ty) (fs : List Fd) (hl : (l.length : Int) ≤ 1048576) (hf : (fs.length : Int) ≤ 1048576) (hs : ∀ s ∈ fs, s.sm) :
    Does Go.Proofs.Tryz.prog 229 [.fsl 6 (l.map Ty.z), .fsl 3 (fs.map Fd.z)] false (.v (.bool (fdsOk l fs))) [.dead, .dead] := by
  refine does_intro (mc := m229) (N := 46) (rs := [4]) (fx := []) 2 rfl (by decide +kernel) ?_
  simp only [m229, EV, Nat.reduceEqDiff, Nat.reduceBEq, Nat.reduceLT, Nat.reduceLeDiff, Nat.reduceAdd, Nat.reduceSub, reduceIte]
  refine awp_loop (fun i : Nat => i ≤ fs.length ∧ fdTo l fs i) (fun i => stl [(0, .fsl 6 (l.map Ty.z)), (1, .fsl 3 (fs.map Fd.z)), (7, .fsl 3 (fs.map Fd.z)), (8, .v (.int .i64 (fs.length : Int))), (9, .v (.int .i64 (i : Int)))]) (fun i => fs.length - i) 0 ⟨Nat.zero_le _, fun j hj h => absurd h (by omega)⟩ ?_ ?_
  · simp only [EV, Nat.reduceEqDiff, Nat.reduceBEq, Nat.reduceLT, Nat.reduceLeDiff, Nat.reduceAdd, Nat.reduceSub, reduceIte]
    rfl
  · rintro i ⟨hi, hok⟩
    simp only [EV, Nat.reduceEqDiff, Nat.reduceBEq, Nat.reduceLT, Nat.reduceLeDiff, Nat.reduceAdd, Nat.reduceSub, reduceIte]
    refine cK_cut (fun h => ?_) (fun h => ?_)
    · have h1 : i < fs.length := by simpa using h
      have h2 : (i : Int) < (fs.length : Int) := by omega
      have hso := hs fs[i] (List.getElem_mem h1)
      simp only [Fd.sm] at hso
      clear h
      have p9 : fdAt l fs i h1 = false → fdsOk l fs = false := fdsOk_no h1
      refine awp_join (fun _ : Unit => fdAt l fs i h1 = true) (fun _ => stl [(0, .fsl 6 (l.map Ty.z)), (1, .fsl 3 (fs.map Fd.z)), (7, .fsl 3 (fs.map Fd.z)), (8, .v (.int .i64 (fs.length : Int))), (9, .v (.int .i64 (i : Int)))]) ?_ ?_
      · simp only [FdE, nth_map h1, h2, Fd.z, EV, Nat.reduceEqDiff, Nat.reduceBEq, Nat.reduceLT, Nat.reduceLeDiff, Nat.reduceAdd, Nat.reduceSub, reduceIte]
        refine callK_i (d78 _ _ _) ?_
        simp only [EV, Nat.reduceEqDiff, Nat.reduceBEq, Nat.reduceLT, Nat.reduceLeDiff, Nat.reduceAdd, Nat.reduceSub, reduceIte]
        rcases e1 : (decide (0 ≤ fs[i].mark) && decide (fs[i].mark ≤ 2)) with _ | _
        · have e : fdsOk l fs = false := p9 (by simp only [fdAt, e1, Bool.false_and])
          simp only [EV, Nat.reduceEqDiff, Nat.reduceBEq, Nat.reduceLT, Nat.reduceLeDiff, Nat.reduceAdd, Nat.reduceSub, reduceIte]
          simp only [e, EV, Nat.reduceEqDiff, Nat.reduceBEq, Nat.reduceLT, Nat.reduceLeDiff, Nat.reduceAdd, Nat.reduceSub, reduceIte, evRE, retVC, cellV', evR, nfz, nfzs, nfzss, List.contains_nil, List.contains_cons, Bool.or_false, or_true]
        simp only [EV, Nat.reduceEqDiff, Nat.reduceBEq, Nat.reduceLT, Nat.reduceLeDiff, Nat.reduceAdd, Nat.reduceSub, reduceIte]
        refine callK_i (d61 l _ hl) ?_
        simp only [EV, Nat.reduceEqDiff, Nat.reduceBEq, Nat.reduceLT, Nat.reduceLeDiff, Nat.reduceAdd, Nat.reduceSub, reduceIte]
        rcases e2 : isNum l fs[i].typ with _ | _
        · have e : fdsOk l fs = false := p9 (by simp only [fdAt, e1, e2, Bool.true_and, Bool.false_and])
          simp only [EV, Nat.reduceEqDiff, Nat.reduceBEq, Nat.reduceLT, Nat.reduceLeDiff, Nat.reduceAdd, Nat.reduceSub, reduceIte]
          simp only [e, EV, Nat.reduceEqDiff, Nat.reduceBEq, Nat.reduceLT, Nat.reduceLeDiff, Nat.reduceAdd, Nat.reduceSub, reduceIte, evRE, retVC, cellV', evR, nfz, nfzs, nfzss, List.contains_nil, List.contains_cons, Bool.or_false, or_true]
        simp only [EV, Nat.reduceEqDiff, Nat.reduceBEq, Nat.reduceLT, Nat.reduceLeDiff, Nat.reduceAdd, Nat.reduceSub, reduceIte]
        have en : (fs[i].name.toList == (⟨#[]⟩ : ByteArray).toList) = nil' fs[i].name := rfl
        rw [en]
        rcases e3 : nil' fs[i].name with _ | _
        · simp only [EV, Nat.reduceEqDiff, Nat.reduceBEq, Nat.reduceLT, Nat.reduceLeDiff, Nat.reduceAdd, Nat.reduceSub, reduceIte]
          refine callK_i (d141 _ (by omega)) ?_
          simp only [EV, Nat.reduceEqDiff, Nat.reduceBEq, Nat.reduceLT, Nat.reduceLeDiff, Nat.reduceAdd, Nat.reduceSub, reduceIte]
          rcases e4 : nameOk fs[i].name with _ | _
          · have e : fdsOk l fs = false := p9 (by simp only [fdAt, e1, e2, e3, e4, Bool.true_and, Bool.false_and, Bool.false_eq_true, if_false])
            simp only [EV, Nat.reduceEqDiff, Nat.reduceBEq, Nat.reduceLT, Nat.reduceLeDiff, Nat.reduceAdd, Nat.reduceSub, reduceIte]
            simp only [e, EV, Nat.reduceEqDiff, Nat.reduceBEq, Nat.reduceLT, Nat.reduceLeDiff, Nat.reduceAdd, Nat.reduceSub, reduceIte, evRE, retVC, cellV', evR, nfz, nfzs, nfzss, List.contains_nil, List.contains_cons, Bool.or_false, or_true]
          simp only [FdE, nth_map h1, h2, Fd.z, EV, Nat.reduceEqDiff, Nat.reduceBEq, Nat.reduceLT, Nat.reduceLeDiff, Nat.reduceAdd, Nat.reduceSub, reduceIte]
          refine ⟨by omega, by omega, ?_⟩
          rw [← List.map_take]
          refine callK_i (d266 (fs.take i) (by simp; omega) 267 [.fptr fs[i].z] (fdNm fs[i]) rfl rfl (fun _ => rfl) (fun _ => rfl) (fun s _ => d267 s fs[i])) ?_
          simp only [EV, Nat.reduceEqDiff, Nat.reduceBEq, Nat.reduceLT, Nat.reduceLeDiff, Nat.reduceAdd, Nat.reduceSub, reduceIte]
          rcases e5 : (fs.take i).any (fdNm fs[i]) with _ | _
          · simp only [EV, Nat.reduceEqDiff, Nat.reduceBEq, Nat.reduceLT, Nat.reduceLeDiff, Nat.reduceAdd, Nat.reduceSub, reduceIte]
            exact ⟨(), by simp only [fdAt, e1, e2, e3, e4, e5, Bool.true_and, Bool.false_eq_true, if_false, Bool.not_false]⟩
          · have e : fdsOk l fs = false := p9 (by simp only [fdAt, e1, e2, e3, e4, e5, Bool.true_and, Bool.false_eq_true, if_false, Bool.not_true])
            simp only [EV, Nat.reduceEqDiff, Nat.reduceBEq, Nat.reduceLT, Nat.reduceLeDiff, Nat.reduceAdd, Nat.reduceSub, reduceIte]
            simp only [e, EV, Nat.reduceEqDiff, Nat.reduceBEq, Nat.reduceLT, Nat.reduceLeDiff, Nat.reduceAdd, Nat.reduceSub, reduceIte, evRE, retVC, cellV', evR, nfz, nfzs, nfzss, List.contains_nil, List.contains_cons, Bool.or_false, or_true]
        · simp only [EV, Nat.reduceEqDiff, Nat.reduceBEq, Nat.reduceLT, Nat.reduceLeDiff, Nat.reduceAdd, Nat.reduceSub, reduceIte]
          rcases e4 : (fs[i].mark == 0) with _ | _
          · have e : fdsOk l fs = false := p9 (by simp only [fdAt, e1, e2, e3, e4, Bool.true_and, if_true])
            simp only [bne, e4, EV, Nat.reduceEqDiff, Nat.reduceBEq, Nat.reduceLT, Nat.reduceLeDiff, Nat.reduceAdd, Nat.reduceSub, reduceIte]
            simp only [e, EV, Nat.reduceEqDiff, Nat.reduceBEq, Nat.reduceLT, Nat.reduceLeDiff, Nat.reduceAdd, Nat.reduceSub, reduceIte, evRE, retVC, cellV', evR, nfz, nfzs, nfzss, List.contains_nil, List.contains_cons, Bool.or_false, or_true]
          · simp only [bne, e4, EV, Nat.reduceEqDiff, Nat.reduceBEq, Nat.reduceLT, Nat.reduceLeDiff, Nat.reduceAdd, Nat.reduceSub, reduceIte]
            exact ⟨(), by simp only [fdAt, e1, e2, e3, e4, Bool.true_and, if_true]⟩
      · rintro _ hq
        simp only [EV, Nat.reduceEqDiff, Nat.reduceBEq, Nat.reduceLT, Nat.reduceLeDiff, Nat.reduceAdd, Nat.reduceSub, reduceIte]
        rw [w64 _ (by omega)]
        exact ⟨i + 1, ⟨h1, fdTo_succ h1 hok hq⟩, by omega, rfl⟩
    · have h1 : i = fs.length := by have : ¬ (i : Int) < fs.length := by simpa using h
                                    omega
      subst h1
      simp only [EV, Nat.reduceEqDiff, Nat.reduceBEq, Nat.reduceLT, Nat.reduceLeDiff, Nat.reduceAdd, Nat.reduceSub, reduceIte]
      simp only [fdsOk_yes hok, EV, Nat.reduceEqDiff, Nat.reduceBEq, Nat.reduceLT, Nat.reduceLeDiff, Nat.reduceAdd, Nat.reduceSub, reduceIte, evRE, retVC, cellV', evR, nfz, nfzs, nfzss, List.contains_nil, List.contains_cons, Bool.or_false, or_true]

end Go.AM
namespace Go.AM
set_option linter.unusedVariables false
set_option linter.unusedSimpArgs false
theorem fdNm_comm (x o : Fd) : (x.name.toList == o.name.toList) = fdNm x o := by
  unfold fdNm
  rw [Bool.beq_comm]

theorem any_take {α : Type} {q : α → Bool} {l : List α} {k : Nat} (h : k < l.length) (h1 : (l.take k).any q = false) (h2 : q l[k] = false) : (l.take (k + 1)).any q = false := by
  rw [List.take_succ_eq_append_getElem h, List.any_append, h1]
  simp [h2]

theorem any_at {α : Type} {q : α → Bool} {l : List α} {k : Nat} (h : k < l.length) (h2 : q l[k] = true) : l.any q = true := by
  rw [List.any_eq_true]; exact ⟨l[k], List.getElem_mem h, h2⟩

theorem fdAt_no {l : List Ty} {fs : List Fd} {i : Nat} {h : i < fs.length} (g : (nameOk fs[i].name = false ∧ nil' fs[i].name = false) ∨ (nil' fs[i].name = true ∧ (fs[i].mark == 0) = false) ∨ (decide (0 ≤ fs[i].mark) && decide (fs[i].mark ≤ 2)) = false ∨ isNum l fs[i].typ = false) : fdAt l fs i h = false := by
  unfold fdAt
  rcases g with ⟨g, g2⟩ | ⟨g, g2⟩ | g | g
  · simp only [g, g2, Bool.false_eq_true, if_false, Bool.false_and, Bool.and_false]
  · simp only [g, g2, if_true, Bool.and_false]
  · simp only [g, Bool.false_and]
  · simp only [g, Bool.false_and, Bool.and_false]

/-- loop.example/g00837/spec.l3Fields -/
def m233 : MC :=
  (.seq
   (.reg [⟨(some 4), none, .a (.asg (.c (.bool false)))⟩])
   (.seq
    (.seq
     (.reg [⟨(some 9), none, .q (.mov (.t 1))⟩,
       ⟨(some 10), none, .q (.len false (.t 9))⟩,
       ⟨(some 11), none, .q (.mov (.c (.int .i64 0)))⟩])
     (.block 0
      (.loop [0, 1, 9, 10, 11]
       (.seq
        (.reg [⟨(some 12), none, .q (.bin false .lss (.t 11) (.t 10))⟩])
        (.seq
         (.cond (.t 12)
          .skip
          (.exit 0))
         (.seq
          (.block 1
           (.seq
            (.reg [⟨(some 13), none, .q (.mov (.t 11))⟩,
              ⟨(some 14), none, .q (.iad 3 (.t 9) (.t 11))⟩,
              ⟨(some 15), none, .q (.load true 3 (.t 14))⟩,
              ⟨(some 6), none, .a (.alloc 97 [.v (.string ({ data := #[] })), .v (.int .i64 0), .v (.int .i64 0)])⟩,
              ⟨(some 5), none, .a (.asg (.t 13))⟩,
              ⟨none, none, .a (.store 3 (.t 6) (.t 15))⟩])
            (.seq
             (.seq
              (.reg [⟨(some 16), none, .q (.fad 0 (.t 6))⟩,
                ⟨(some 17), none, .q (.load false 1 (.t 16))⟩,
                ⟨(some 18), none, .a (.call (.fn 148) false [.lend (.t 17)])⟩,
                ⟨(some 19), none, .q (.un .not (.t 18))⟩,
                ⟨(some 20), none, .q (.mov (.t 19))⟩,
                ⟨(some 21), (some (20, true)), .q (.fad 0 (.t 6))⟩,
                ⟨(some 22), (some (20, true)), .q (.load false 1 (.t 21))⟩,
                ⟨(some 23), (some (20, true)), .q (.bin false .neq (.t 22) (.c (.string ({ data := #[] }))))⟩,
                ⟨(some 24), (some (20, true)), .q (.mov (.t 23))⟩,
                ⟨(some 25), (some (24, false)), .q (.fad 1 (.t 6))⟩,
                ⟨(some 26), (some (24, false)), .q (.load false 1 (.t 25))⟩,
                ⟨(some 27), (some (24, false)), .q (.bin false .neq (.t 26) (.c (.int .i64 0)))⟩,
                ⟨(some 28), (some (20, true)), .q (.pick (.t 24) (.c (.bool true)) (.t 27))⟩,
                ⟨(some 29), none, .q (.pick (.t 20) (.t 28) (.c (.bool false)))⟩,
                ⟨(some 30), none, .q (.mov (.t 29))⟩,
                ⟨(some 31), (some (30, false)), .q (.fad 1 (.t 6))⟩,
                ⟨(some 32), (some (30, false)), .q (.load false 1 (.t 31))⟩,
                ⟨(some 33), (some (30, false)), .a (.call (.fn 72) false [.lend (.t 32), .lend (.c (.int .i64 0)), .lend (.c (.int .i64 2))])⟩,
                ⟨(some 34), (some (30, false)), .q (.un .not (.t 33))⟩,
                ⟨(some 35), none, .q (.pick (.t 30) (.c (.bool true)) (.t 34))⟩,
                ⟨(some 36), none, .q (.mov (.t 35))⟩,
                ⟨(some 37), (some (36, false)), .q (.fad 2 (.t 6))⟩,
                ⟨(some 38), (some (36, false)), .q (.load false 1 (.t 37))⟩,
                ⟨(some 39), (some (36, false)), .q (.mov (.t 0))⟩,
                ⟨(some 40), (some (36, false)), .q (.len false (.t 39))⟩,
                ⟨(some 41), (some (36, false)), .q (.bin false .sub (.t 40) (.c (.int .i64 1)))⟩,
                ⟨(some 42), (some (36, false)), .a (.call (.fn 72) false [.lend (.t 38), .lend (.c (.int .i64 0)), .lend (.t 41)])⟩,
                ⟨(some 43), (some (36, false)), .q (.un .not (.t 42))⟩,
                ⟨(some 44), none, .q (.pick (.t 36) (.c (.bool true)) (.t 43))⟩])
              (.cond (.t 44)
               (.seq
                (.reg [⟨(some 4), none, .a (.asg (.c (.bool false)))⟩])
                .ret)
               .skip))
             (.seq
              (.reg [⟨(some 45), none, .q (.mov (.t 1))⟩,
                ⟨(some 46), none, .q (.mov (.t 5))⟩,
                ⟨(some 47), none, .q (.slc false 3 (.t 45) none (some (.t 46)))⟩,
                ⟨(some 48), none, .q (.len false (.t 47))⟩,
                ⟨(some 49), none, .q (.mov (.c (.int .i64 0)))⟩])
              (.block 2
               (.loop [0, 1, 6, 9, 10, 11, 45, 46, 47, 48, 49]
                (.seq
                 (.reg [⟨(some 50), none, .q (.bin false .lss (.t 49) (.t 48))⟩])
                 (.seq
                  (.cond (.t 50)
                   .skip
                   (.exit 2))
                  (.seq
                   (.block 3
                    (.seq
                     (.reg [⟨(some 51), none, .q (.iad 3 (.t 47) (.t 49))⟩,
                       ⟨(some 52), none, .q (.load true 3 (.t 51))⟩,
                       ⟨(some 8), none, .a (.alloc 97 [.v (.string ({ data := #[] })), .v (.int .i64 0), .v (.int .i64 0)])⟩,
                       ⟨none, none, .a (.store 3 (.t 8) (.t 52))⟩])
                     (.seq
                      (.reg [⟨(some 53), none, .q (.fad 0 (.t 6))⟩,
                        ⟨(some 54), none, .q (.load false 1 (.t 53))⟩,
                        ⟨(some 55), none, .q (.bin false .neq (.t 54) (.c (.string ({ data := #[] }))))⟩,
                        ⟨(some 56), none, .q (.mov (.t 55))⟩,
                        ⟨(some 57), (some (56, true)), .q (.fad 0 (.t 6))⟩,
                        ⟨(some 58), (some (56, true)), .q (.load false 1 (.t 57))⟩,
                        ⟨(some 59), (some (56, true)), .q (.fad 0 (.t 8))⟩,
                        ⟨(some 60), (some (56, true)), .q (.load false 1 (.t 59))⟩,
                        ⟨(some 61), (some (56, true)), .q (.bin false .eql (.t 58) (.t 60))⟩,
                        ⟨(some 62), none, .q (.pick (.t 56) (.t 61) (.c (.bool false)))⟩])
                      (.cond (.t 62)
                       (.seq
                        (.reg [⟨(some 4), none, .a (.asg (.c (.bool false)))⟩])
                        .ret)
                       .skip))))
                   (.reg [⟨(some 63), none, .q (.bin false .add (.t 49) (.c (.int .i64 1)))⟩,
                     ⟨(some 49), none, .q (.mov (.t 63))⟩]))))))))))
          (.reg [⟨(some 64), none, .q (.bin false .add (.t 11) (.c (.int .i64 1)))⟩,
            ⟨(some 11), none, .q (.mov (.t 64))⟩])))))))
    (.seq
     (.reg [⟨(some 65), none, .q (.mov (.t 1))⟩,
       ⟨(some 66), none, .q (.len false (.t 65))⟩,
       ⟨(some 67), none, .q (.bin false .leq (.t 66) (.c (.int .i64 6)))⟩,
       ⟨(some 4), none, .a (.asg (.t 67))⟩])
     .ret)))

set_option maxHeartbeats 1000000 in
set_option maxRecDepth 100000 in
theorem d233 (l : List Ty) (fs : List Fd) (hl : (l.length : Int) ≤ 1048576) (hf : (fs.length : Int) ≤ 1048576) (hs : ∀ s ∈ fs, s.sm) :
    Does Go.Proofs.Tryz.prog 233 [.fsl 6 (l.map Ty.z), .fsl 3 (fs.map Fd.z)] false (.v (.bool (fdsOk l fs))) [.dead, .dead] := by
  refine does_intro (mc := m233) (N := 68) (rs := [4]) (fx := []) 2 rfl (by decide +kernel) ?_
  simp only [m233, EV, Nat.reduceEqDiff, Nat.reduceBEq, Nat.reduceLT, Nat.reduceLeDiff, Nat.reduceAdd, Nat.reduceSub, reduceIte]
  refine awp_loop (fun i : Nat => i ≤ fs.length ∧ fdTo l fs i) (fun i => stl [(0, .fsl 6 (l.map Ty.z)), (1, .fsl 3 (fs.map Fd.z)), (9, .fsl 3 (fs.map Fd.z)), (10, .v (.int .i64 (fs.length : Int))), (11, .v (.int .i64 (i : Int)))]) (fun i => fs.length - i) 0 ⟨Nat.zero_le _, fun j hj h => absurd h (by omega)⟩ ?_ ?_
  · simp only [EV, Nat.reduceEqDiff, Nat.reduceBEq, Nat.reduceLT, Nat.reduceLeDiff, Nat.reduceAdd, Nat.reduceSub, reduceIte]
    rfl
  · rintro i ⟨hi, hok⟩
    simp only [EV, Nat.reduceEqDiff, Nat.reduceBEq, Nat.reduceLT, Nat.reduceLeDiff, Nat.reduceAdd, Nat.reduceSub, reduceIte]
    refine cK_cut (fun h => ?_) (fun h => ?_)
    · have h1 : i < fs.length := by simpa using h
      have h2 : (i : Int) < (fs.length : Int) := by omega
      have hso := hs fs[i] (List.getElem_mem h1)
      simp only [Fd.sm] at hso
      clear h
      have p9 : fdAt l fs i h1 = false → fdsOk l fs = false := fdsOk_no h1
      have ht : (fs.take i).length = i := by simp; omega
      have en : (fs[i].name.toList == (⟨#[]⟩ : ByteArray).toList) = nil' fs[i].name := rfl
      have eb : (fs[i].name.toList != (⟨#[]⟩ : ByteArray).toList) = !nil' fs[i].name := rfl
      have rest : nameOk fs[i].name = true ∨ (nil' fs[i].name = true ∧ (fs[i].mark == 0) = true) → (decide (0 ≤ fs[i].mark) && decide (fs[i].mark ≤ 2)) = true → isNum l fs[i].typ = true →
          (nil' fs[i].name = true ∨ (fs.take i).any (fdNm fs[i]) = false) → fdAt l fs i h1 = true := by
        intro q1 q2 q3 q4
        simp only [fdAt, q2, q3, Bool.true_and]
        rcases e3 : nil' fs[i].name with _ | _
        · rw [e3] at q1 q4
          simp only [Bool.false_eq_true, false_and, false_or, or_false] at q1 q4
          simp only [Bool.false_eq_true, if_false, q1, q4, Bool.not_false, Bool.and_self]
        · have := nil_name e3
          rw [this] at q1
          simp only [Bool.false_eq_true, false_or] at q1
          simp only [if_true, q1.2]
      simp only [FdE, nth_map h1, h2, Fd.z, EV, Nat.reduceEqDiff, Nat.reduceBEq, Nat.reduceLT, Nat.reduceLeDiff, Nat.reduceAdd, Nat.reduceSub, reduceIte]
      refine callK_i (d148 _ (by omega)) ?_
      simp only [eb, EV, Nat.reduceEqDiff, Nat.reduceBEq, Nat.reduceLT, Nat.reduceLeDiff, Nat.reduceAdd, Nat.reduceSub, reduceIte]
      have hw : IntKind.i64.wrap ((l.length : Int) - 1) = (l.length : Int) - 1 := w64 _ (by omega)
      repeat' (first
    | (refine gK_cut (fun h => ?_) (fun h => ?_) <;> simp only [h, eb, hw, EV, Nat.reduceEqDiff, Nat.reduceBEq, Nat.reduceLT, Nat.reduceLeDiff, Nat.reduceAdd, Nat.reduceSub, reduceIte])
    | (refine cK_cut (fun h => ?_) (fun h => ?_) <;> simp only [h, eb, hw, EV, Nat.reduceEqDiff, Nat.reduceBEq, Nat.reduceLT, Nat.reduceLeDiff, Nat.reduceAdd, Nat.reduceSub, reduceIte])
    | (refine callK_i (d72 _ _ _) ?_ <;> simp only [h, eb, hw, EV, Nat.reduceEqDiff, Nat.reduceBEq, Nat.reduceLT, Nat.reduceLeDiff, Nat.reduceAdd, Nat.reduceSub, reduceIte]))
      all_goals simp only [en, bne, Bool.not_eq_true', Bool.not_eq_false'] at *
      all_goals first
        | (have e : fdsOk l fs = false := p9 (fdAt_no (by
             first
               | (left; exact ⟨by assumption, by assumption⟩)
               | (right; left; exact ⟨by assumption, by assumption⟩)
               | (right; right; left; assumption)
               | (right; right; right; unfold isNum; assumption)))
           simp only [e, EV, Nat.reduceEqDiff, Nat.reduceBEq, Nat.reduceLT, Nat.reduceLeDiff, Nat.reduceAdd, Nat.reduceSub, reduceIte, evRE, retVC, cellV', evR, nfz, nfzs, nfzss, List.contains_nil, List.contains_cons, Bool.or_false, or_true]
           done)
        | skip
      all_goals refine ⟨by omega, by omega, ?_⟩
      all_goals have q1 : nameOk fs[i].name = true ∨ (nil' fs[i].name = true ∧ (fs[i].mark == 0) = true) := (by first | exact Or.inl (by assumption) | exact Or.inr ⟨by assumption, by assumption⟩)
      all_goals have q2 : (decide (0 ≤ fs[i].mark) && decide (fs[i].mark ≤ 2)) = true := by assumption
      all_goals have q3 : isNum l fs[i].typ = true := by unfold isNum; assumption
      all_goals have q9 := rest q1 q2 q3
      all_goals clear rest q1 q2 q3
      all_goals simp only [← List.map_take]
      all_goals refine awp_loop (fun k : Nat => k ≤ i ∧ (nil' fs[i].name = true ∨ ((fs.take i).take k).any (fdNm fs[i]) = false)) (fun k => stl [(0, .fsl 6 (l.map Ty.z)), (1, .fsl 3 (fs.map Fd.z)), (6, .box 97 fs[i].z), (9, .fsl 3 (fs.map Fd.z)), (10, .v (.int .i64 (fs.length : Int))), (11, .v (.int .i64 (i : Int))), (45, .fsl 3 (fs.map Fd.z)), (46, .v (.int .i64 (i : Int))), (47, .fsl 3 ((fs.take i).map Fd.z)), (48, .v (.int .i64 (i : Int))), (49, .v (.int .i64 (k : Int)))]) (fun k => i - k) 0 ⟨Nat.zero_le _, by simp⟩ ?_ ?_
      all_goals first
        | (simp only [Fd.z, EV, Nat.reduceEqDiff, Nat.reduceBEq, Nat.reduceLT, Nat.reduceLeDiff, Nat.reduceAdd, Nat.reduceSub, reduceIte]
           rw [ht]
           rfl)
        | skip
      all_goals rintro k ⟨hk, hno⟩
      all_goals simp only [Fd.z, EV, Nat.reduceEqDiff, Nat.reduceBEq, Nat.reduceLT, Nat.reduceLeDiff, Nat.reduceAdd, Nat.reduceSub, reduceIte]
      · refine cK_cut (fun h => ?_) (fun h => ?_)
        · have k3 : k < i := by have : (k : Int) < i := by simpa using h
                                omega
          have k1 : k < (fs.take i).length := by rw [ht]; exact k3
          have k2 : (k : Int) < i := by omega
          clear h
          simp only [FdE, nth_map k1, k2, k3, ht, Fd.z, EV, Nat.reduceEqDiff, Nat.reduceBEq, Nat.reduceLT, Nat.reduceLeDiff, Nat.reduceAdd, Nat.reduceSub, reduceIte]
          refine gK_cut (fun h => ?_) (fun h => ?_)
          · have e3 : nil' fs[i].name = false := by unfold nil'; simpa [bne] using h
            have hno' : ((fs.take i).take k).any (fdNm fs[i]) = false := by
              rcases hno with hno | hno
              · rw [e3] at hno; cases hno
              · exact hno
            simp only [h, FdE, nth_map k1, k2, k3, ht, Fd.z, EV, Nat.reduceEqDiff, Nat.reduceBEq, Nat.reduceLT, Nat.reduceLeDiff, Nat.reduceAdd, Nat.reduceSub, reduceIte]
            rw [fdNm_comm]
            rcases e5 : fdNm fs[i] (fs.take i)[k] with _ | _
            · simp only [EV, Nat.reduceEqDiff, Nat.reduceBEq, Nat.reduceLT, Nat.reduceLeDiff, Nat.reduceAdd, Nat.reduceSub, reduceIte]
              rw [w64 _ (by omega)]
              exact ⟨k + 1, ⟨k3, Or.inr (any_take k1 hno' e5)⟩, by omega, rfl⟩
            · have e4 := any_at k1 e5
              have e : fdsOk l fs = false := p9 (by
                unfold fdAt
                rw [e3, e4]
                simp only [Bool.false_eq_true, if_false, Bool.not_true, Bool.and_false])
              simp only [EV, Nat.reduceEqDiff, Nat.reduceBEq, Nat.reduceLT, Nat.reduceLeDiff, Nat.reduceAdd, Nat.reduceSub, reduceIte]
              simp only [e, EV, Nat.reduceEqDiff, Nat.reduceBEq, Nat.reduceLT, Nat.reduceLeDiff, Nat.reduceAdd, Nat.reduceSub, reduceIte, evRE, retVC, cellV', evR, nfz, nfzs, nfzss, List.contains_nil, List.contains_cons, Bool.or_false, or_true]
          · have e3 : nil' fs[i].name = true := by unfold nil'; simpa [bne] using h
            simp only [h, EV, Nat.reduceEqDiff, Nat.reduceBEq, Nat.reduceLT, Nat.reduceLeDiff, Nat.reduceAdd, Nat.reduceSub, reduceIte]
            rw [w64 _ (by omega)]
            exact ⟨k + 1, ⟨k3, Or.inl e3⟩, by omega, rfl⟩
        · have k1 : k = i := by have : ¬ (k : Int) < i := by simpa using h
                                omega
          subst k1
          have hq : fdAt l fs k h1 = true := q9 (by
            rcases hno with hno | hno
            · exact Or.inl hno
            · rw [List.take_take, Nat.min_self] at hno
              exact Or.inr hno)
          simp only [EV, Nat.reduceEqDiff, Nat.reduceBEq, Nat.reduceLT, Nat.reduceLeDiff, Nat.reduceAdd, Nat.reduceSub, reduceIte]
          rw [w64 _ (by omega)]
          exact ⟨k + 1, ⟨h1, fdTo_succ h1 hok hq⟩, by omega, rfl⟩
      · refine cK_cut (fun h => ?_) (fun h => ?_)
        · have k3 : k < i := by have : (k : Int) < i := by simpa using h
                                omega
          have k1 : k < (fs.take i).length := by rw [ht]; exact k3
          have k2 : (k : Int) < i := by omega
          clear h
          simp only [FdE, nth_map k1, k2, k3, ht, Fd.z, EV, Nat.reduceEqDiff, Nat.reduceBEq, Nat.reduceLT, Nat.reduceLeDiff, Nat.reduceAdd, Nat.reduceSub, reduceIte]
          refine gK_cut (fun h => ?_) (fun h => ?_)
          · have e3 : nil' fs[i].name = false := by unfold nil'; simpa [bne] using h
            have hno' : ((fs.take i).take k).any (fdNm fs[i]) = false := by
              rcases hno with hno | hno
              · rw [e3] at hno; cases hno
              · exact hno
            simp only [h, FdE, nth_map k1, k2, k3, ht, Fd.z, EV, Nat.reduceEqDiff, Nat.reduceBEq, Nat.reduceLT, Nat.reduceLeDiff, Nat.reduceAdd, Nat.reduceSub, reduceIte]
            rw [fdNm_comm]
            rcases e5 : fdNm fs[i] (fs.take i)[k] with _ | _
            · simp only [EV, Nat.reduceEqDiff, Nat.reduceBEq, Nat.reduceLT, Nat.reduceLeDiff, Nat.reduceAdd, Nat.reduceSub, reduceIte]
              rw [w64 _ (by omega)]
              exact ⟨k + 1, ⟨k3, Or.inr (any_take k1 hno' e5)⟩, by omega, rfl⟩
            · have e4 := any_at k1 e5
              have e : fdsOk l fs = false := p9 (by
                unfold fdAt
                rw [e3, e4]
                simp only [Bool.false_eq_true, if_false, Bool.not_true, Bool.and_false])
              simp only [EV, Nat.reduceEqDiff, Nat.reduceBEq, Nat.reduceLT, Nat.reduceLeDiff, Nat.reduceAdd, Nat.reduceSub, reduceIte]
              simp only [e, EV, Nat.reduceEqDiff, Nat.reduceBEq, Nat.reduceLT, Nat.reduceLeDiff, Nat.reduceAdd, Nat.reduceSub, reduceIte, evRE, retVC, cellV', evR, nfz, nfzs, nfzss, List.contains_nil, List.contains_cons, Bool.or_false, or_true]
          · have e3 : nil' fs[i].name = true := by unfold nil'; simpa [bne] using h
            simp only [h, EV, Nat.reduceEqDiff, Nat.reduceBEq, Nat.reduceLT, Nat.reduceLeDiff, Nat.reduceAdd, Nat.reduceSub, reduceIte]
            rw [w64 _ (by omega)]
            exact ⟨k + 1, ⟨k3, Or.inl e3⟩, by omega, rfl⟩
        · have k1 : k = i := by have : ¬ (k : Int) < i := by simpa using h
                                omega
          subst k1
          have hq : fdAt l fs k h1 = true := q9 (by
            rcases hno with hno | hno
            · exact Or.inl hno
            · rw [List.take_take, Nat.min_self] at hno
              exact Or.inr hno)
          simp only [EV, Nat.reduceEqDiff, Nat.reduceBEq, Nat.reduceLT, Nat.reduceLeDiff, Nat.reduceAdd, Nat.reduceSub, reduceIte]
          rw [w64 _ (by omega)]
          exact ⟨k + 1, ⟨h1, fdTo_succ h1 hok hq⟩, by omega, rfl⟩
    · have h1 : i = fs.length := by have : ¬ (i : Int) < fs.length := by simpa using h
                                    omega
      subst h1
      simp only [EV, Nat.reduceEqDiff, Nat.reduceBEq, Nat.reduceLT, Nat.reduceLeDiff, Nat.reduceAdd, Nat.reduceSub, reduceIte]
      simp only [fdsOk_yes hok, EV, Nat.reduceEqDiff, Nat.reduceBEq, Nat.reduceLT, Nat.reduceLeDiff, Nat.reduceAdd, Nat.reduceSub, reduceIte, evRE, retVC, cellV', evR, nfz, nfzs, nfzss, List.contains_nil, List.contains_cons, Bool.or_false, or_true]

end Go.AM
namespace Go.AM
set_option linter.unusedVariables false
set_option linter.unusedSimpArgs false
noncomputable def tyOk (l : List Ty) (t : Ty) : Bool :=
  named t && (!((!(t.kind == 5)) && decide (0 < (t.fields.length : Int))) &&
  (if (t.kind == 4) = true then (decide (1 ≤ t.long) && decide (t.long ≤ 1000)) && isNum l t.base
  else if (t.kind == 5) = true then ((t.long == 0) && ((t.base == -1) || isRec l t.base)) && fdsOk l t.fields
  else if (t.kind == 6) = true then (t.long == 0) && (isRec l t.base || (isNum l t.base && kd l t.base == 4))
  else false))

/-- loop.example/g00837/impl.isType -/
def m189 : MC :=
  (.seq
   (.reg [⟨(some 3), none, .a (.box 40 (.t 1))⟩,
     ⟨(some 4), none, .a (.asg (.c (.bool false)))⟩])
   (.seq
    (.seq
     (.reg [⟨(some 5), none, .q (.load true 6 (.t 3))⟩,
       ⟨(some 6), none, .a (.call (.fn 228) false [.lend (.t 5)])⟩,
       ⟨(some 7), none, .q (.un .not (.t 6))⟩,
       ⟨(some 8), none, .q (.mov (.t 7))⟩,
       ⟨(some 9), (some (8, false)), .q (.fad 0 (.t 3))⟩,
       ⟨(some 10), (some (8, false)), .q (.load false 1 (.t 9))⟩,
       ⟨(some 11), (some (8, false)), .q (.bin false .neq (.t 10) (.c (.int .i64 5)))⟩,
       ⟨(some 12), (some (8, false)), .q (.mov (.t 11))⟩,
       ⟨(some 13), (some (12, true)), .q (.fad 3 (.t 3))⟩,
       ⟨(some 14), (some (12, true)), .q (.load false 1 (.t 13))⟩,
       ⟨(some 15), (some (12, true)), .q (.len false (.t 14))⟩,
       ⟨(some 16), (some (12, true)), .q (.bin false .gtr (.t 15) (.c (.int .i64 0)))⟩,
       ⟨(some 17), (some (8, false)), .q (.pick (.t 12) (.t 16) (.c (.bool false)))⟩,
       ⟨(some 18), none, .q (.pick (.t 8) (.c (.bool true)) (.t 17))⟩])
     (.cond (.t 18)
      (.seq
       (.reg [⟨(some 4), none, .a (.asg (.c (.bool false)))⟩])
       .ret)
      .skip))
    (.seq
     (.seq
      (.reg [⟨(some 19), none, .q (.fad 0 (.t 3))⟩,
        ⟨(some 20), none, .q (.load false 1 (.t 19))⟩])
      (.block 0
       (.seq
        (.reg [⟨(some 22), none, .q (.bin false .eql (.t 20) (.c (.int .i64 4)))⟩,
          ⟨(some 21), none, .a (.asg (.t 22))⟩])
        (.cond (.t 21)
         (.seq
          (.reg [⟨(some 23), none, .q (.fad 1 (.t 3))⟩,
            ⟨(some 24), none, .q (.load false 1 (.t 23))⟩,
            ⟨(some 25), none, .a (.call (.fn 78) false [.lend (.t 24), .lend (.c (.int .i64 1)), .lend (.c (.int .i64 1000))])⟩,
            ⟨(some 26), none, .q (.mov (.t 25))⟩,
            ⟨(some 27), (some (26, true)), .q (.mov (.t 0))⟩,
            ⟨(some 28), (some (26, true)), .q (.fad 2 (.t 3))⟩,
            ⟨(some 29), (some (26, true)), .q (.load false 1 (.t 28))⟩,
            ⟨(some 30), (some (26, true)), .a (.call (.fn 61) false [.lend (.t 27), .lend (.t 29)])⟩,
            ⟨(some 31), none, .q (.pick (.t 26) (.t 30) (.c (.bool false)))⟩,
            ⟨(some 4), none, .a (.asg (.t 31))⟩])
          .ret)
         (.seq
          (.reg [⟨(some 33), none, .q (.bin false .eql (.t 20) (.c (.int .i64 5)))⟩,
            ⟨(some 32), none, .a (.asg (.t 33))⟩])
          (.cond (.t 32)
           (.seq
            (.reg [⟨(some 34), none, .q (.fad 1 (.t 3))⟩,
              ⟨(some 35), none, .q (.load false 1 (.t 34))⟩,
              ⟨(some 36), none, .q (.bin false .eql (.t 35) (.c (.int .i64 0)))⟩,
              ⟨(some 37), none, .q (.mov (.t 36))⟩,
              ⟨(some 38), (some (37, true)), .q (.fad 2 (.t 3))⟩,
              ⟨(some 39), (some (37, true)), .q (.load false 1 (.t 38))⟩,
              ⟨(some 40), (some (37, true)), .q (.bin false .eql (.t 39) (.c (.int .i64 (-1))))⟩,
              ⟨(some 41), (some (37, true)), .q (.mov (.t 40))⟩,
              ⟨(some 42), (some (41, false)), .q (.mov (.t 0))⟩,
              ⟨(some 43), (some (41, false)), .q (.fad 2 (.t 3))⟩,
              ⟨(some 44), (some (41, false)), .q (.load false 1 (.t 43))⟩,
              ⟨(some 45), (some (41, false)), .a (.call (.fn 56) false [.lend (.t 42), .lend (.t 44)])⟩,
              ⟨(some 46), (some (37, true)), .q (.pick (.t 41) (.c (.bool true)) (.t 45))⟩,
              ⟨(some 47), none, .q (.pick (.t 37) (.t 46) (.c (.bool false)))⟩,
              ⟨(some 48), none, .q (.mov (.t 47))⟩,
              ⟨(some 49), (some (48, true)), .q (.mov (.t 0))⟩,
              ⟨(some 50), (some (48, true)), .q (.fad 3 (.t 3))⟩,
              ⟨(some 51), (some (48, true)), .q (.load false 1 (.t 50))⟩,
              ⟨(some 52), (some (48, true)), .a (.call (.fn 229) false [.lend (.t 49), .lend (.t 51)])⟩,
              ⟨(some 53), none, .q (.pick (.t 48) (.t 52) (.c (.bool false)))⟩,
              ⟨(some 4), none, .a (.asg (.t 53))⟩])
            .ret)
           (.seq
            (.reg [⟨(some 55), none, .q (.bin false .eql (.t 20) (.c (.int .i64 6)))⟩,
              ⟨(some 54), none, .a (.asg (.t 55))⟩])
            (.cond (.t 54)
             (.seq
              (.reg [⟨(some 56), none, .q (.fad 1 (.t 3))⟩,
                ⟨(some 57), none, .q (.load false 1 (.t 56))⟩,
                ⟨(some 58), none, .q (.bin false .eql (.t 57) (.c (.int .i64 0)))⟩,
                ⟨(some 59), none, .q (.mov (.t 58))⟩,
                ⟨(some 60), (some (59, true)), .q (.mov (.t 0))⟩,
                ⟨(some 61), (some (59, true)), .q (.fad 2 (.t 3))⟩,
                ⟨(some 62), (some (59, true)), .q (.load false 1 (.t 61))⟩,
                ⟨(some 63), (some (59, true)), .a (.call (.fn 56) false [.lend (.t 60), .lend (.t 62)])⟩,
                ⟨(some 64), (some (59, true)), .q (.mov (.t 63))⟩,
                ⟨(some 65), (some (64, false)), .q (.mov (.t 0))⟩,
                ⟨(some 66), (some (64, false)), .q (.fad 2 (.t 3))⟩,
                ⟨(some 67), (some (64, false)), .q (.load false 1 (.t 66))⟩,
                ⟨(some 68), (some (64, false)), .a (.call (.fn 61) false [.lend (.t 65), .lend (.t 67)])⟩,
                ⟨(some 69), (some (64, false)), .q (.mov (.t 68))⟩,
                ⟨(some 70), (some (69, true)), .q (.mov (.t 0))⟩,
                ⟨(some 71), (some (69, true)), .q (.fad 2 (.t 3))⟩,
                ⟨(some 72), (some (69, true)), .q (.load false 1 (.t 71))⟩,
                ⟨(some 73), (some (69, true)), .q (.iad 6 (.t 70) (.t 72))⟩,
                ⟨(some 74), (some (69, true)), .q (.fad 0 (.t 73))⟩,
                ⟨(some 75), (some (69, true)), .q (.load false 1 (.t 74))⟩,
                ⟨(some 76), (some (69, true)), .q (.bin false .eql (.t 75) (.c (.int .i64 4)))⟩,
                ⟨(some 77), (some (64, false)), .q (.pick (.t 69) (.t 76) (.c (.bool false)))⟩,
                ⟨(some 78), (some (59, true)), .q (.pick (.t 64) (.c (.bool true)) (.t 77))⟩,
                ⟨(some 79), none, .q (.pick (.t 59) (.t 78) (.c (.bool false)))⟩,
                ⟨(some 4), none, .a (.asg (.t 79))⟩])
              .ret)
             .skip))))))))
     (.seq
      (.reg [⟨(some 4), none, .a (.asg (.c (.bool false)))⟩])
      .ret))))

set_option maxHeartbeats 1000000 in
set_option maxRecDepth 100000 in
theorem d189 (l : List Ty) (t : Ty) (hl : (l.length : Int) ≤ 1048576) (ht : t.sm) :
    Does Go.Proofs.Tryz.prog 189 [.fsl 6 (l.map Ty.z), .agg t.z] false (.v (.bool (tyOk l t))) [.dead, .dead] := by
  have ht0 := ht
  unfold Ty.sm at ht
  have d7 := d229 l t.fields hl ht.2.2.2.1.1 ht.2.2.2.1.2
  have d6 := d228 t ht0
  have hz : t.z = [.v (.int .i64 t.kind), .v (.int .i64 t.long), .v (.int .i64 t.base), .fsl 3 (t.fields.map Fd.z), .v (.string t.owner), .v (.string t.name)] := rfl
  rw [hz] at d6
  refine does_intro (mc := m189) (N := 80) (rs := [4]) (fx := []) 2 rfl (by decide +kernel) ?_
  simp only [m189, hz, EV, Nat.reduceEqDiff, Nat.reduceBEq, Nat.reduceLT, Nat.reduceLeDiff, Nat.reduceAdd, Nat.reduceSub, reduceIte]
  refine callK_i d6 ?_
  simp only [EV, Nat.reduceEqDiff, Nat.reduceBEq, Nat.reduceLT, Nat.reduceLeDiff, Nat.reduceAdd, Nat.reduceSub, reduceIte]
  repeat' (first
    | (refine gK_cut (fun h => ?_) (fun h => ?_) <;> simp only [h, bne, EV, Nat.reduceEqDiff, Nat.reduceBEq, Nat.reduceLT, Nat.reduceLeDiff, Nat.reduceAdd, Nat.reduceSub, reduceIte])
    | (refine cK_cut (fun h => ?_) (fun h => ?_) <;> simp only [h, bne, EV, Nat.reduceEqDiff, Nat.reduceBEq, Nat.reduceLT, Nat.reduceLeDiff, Nat.reduceAdd, Nat.reduceSub, reduceIte])
    | (refine callK_i d7 ?_ <;> simp only [h, bne, EV, Nat.reduceEqDiff, Nat.reduceBEq, Nat.reduceLT, Nat.reduceLeDiff, Nat.reduceAdd, Nat.reduceSub, reduceIte])
    | (refine callK_i (d78 _ _ _) ?_ <;> simp only [h, bne, EV, Nat.reduceEqDiff, Nat.reduceBEq, Nat.reduceLT, Nat.reduceLeDiff, Nat.reduceAdd, Nat.reduceSub, reduceIte])
    | (refine callK_i (d61 l _ hl) ?_ <;> simp only [h, bne, EV, Nat.reduceEqDiff, Nat.reduceBEq, Nat.reduceLT, Nat.reduceLeDiff, Nat.reduceAdd, Nat.reduceSub, reduceIte])
    | (refine callK_i (d56 l _ hl) ?_ <;> simp only [h, bne, EV, Nat.reduceEqDiff, Nat.reduceBEq, Nat.reduceLT, Nat.reduceLeDiff, Nat.reduceAdd, Nat.reduceSub, reduceIte]))
  all_goals simp only [Bool.not_eq_true', Bool.not_eq_false'] at *
  all_goals first
    | exact absurd ((‹(t.kind == 5) = false›).symm.trans ‹(t.kind == 5) = true›) Bool.false_ne_true
    | (simp only [tyOk, *, Bool.not_true, Bool.not_false, Bool.true_and, Bool.false_and, Bool.and_true, Bool.and_false, Bool.true_or, Bool.false_or, Bool.or_false, Bool.or_true, Bool.false_eq_true, if_true, if_false, EV, Nat.reduceEqDiff, Nat.reduceBEq, Nat.reduceLT, Nat.reduceLeDiff, Nat.reduceAdd, Nat.reduceSub, reduceIte, evRE, retVC, cellV', evR, nfz, nfzs, nfzss, List.contains_nil, List.contains_cons, Bool.or_false, or_true]
       done)
    | (obtain ⟨h0, h1, hn, hk⟩ := isNum_lt ‹isNum l t.base = true›
       simp only [h0, h1, nth_map hn, Ty.z, EV, Nat.reduceEqDiff, Nat.reduceBEq, Nat.reduceLT, Nat.reduceLeDiff, Nat.reduceAdd, Nat.reduceSub, reduceIte]
       simp only [tyOk, *, Bool.not_true, Bool.not_false, Bool.true_and, Bool.false_and, Bool.and_true, Bool.and_false, Bool.true_or, Bool.false_or, Bool.or_false, Bool.or_true, Bool.false_eq_true, if_true, if_false, EV, Nat.reduceEqDiff, Nat.reduceBEq, Nat.reduceLT, Nat.reduceLeDiff, Nat.reduceAdd, Nat.reduceSub, reduceIte, evRE, retVC, cellV', evR, nfz, nfzs, nfzss, List.contains_nil, List.contains_cons, Bool.or_false, or_true]
       done)

end Go.AM
namespace Go.AM
set_option linter.unusedVariables false
set_option linter.unusedSimpArgs false
theorem kindIn_same (l : List Ty) (n a : Int) : kindIn l n a a = (isNum l n && kd l n == a) := by
  unfold kindIn; rw [Bool.or_self]

theorem kindIn_two (l : List Ty) (n a b : Int) : kindIn l n a b = ((isNum l n && kd l n == a) || (isNum l n && kd l n == b)) := by
  unfold kindIn; rw [Bool.and_or_distrib_left]

noncomputable def tyRest (l : List Ty) (t : Ty) : Bool :=
  if (t.kind == 4) = true then (decide (1 ≤ t.long) && decide (t.long ≤ 1000)) && isNum l t.base
  else if (t.kind == 5) = true then ((t.long == 0) && ((t.base == -1) || kindIn l t.base 5 5)) && fdsOk l t.fields
  else if (t.kind == 6) = true then (t.long == 0) && kindIn l t.base 5 4
  else false

noncomputable def tyHead (t : Ty) : Bool := named t && !((!(t.kind == 5)) && decide (0 < (t.fields.length : Int)))

theorem tyOk_eq (l : List Ty) (t : Ty) : tyOk l t = (tyHead t && tyRest l t) := by
  unfold tyOk tyHead tyRest
  rw [kindIn_same, kindIn_two]
  exact (Bool.and_assoc _ _ _).symm

/-- loop.example/g00837/spec.l3Type -/
def m195 : MC :=
  (.seq
   (.reg [⟨(some 3), none, .a (.box 40 (.t 1))⟩,
     ⟨(some 4), none, .a (.asg (.c (.bool false)))⟩])
   (.join [0, 3, 5]
    (.reg [⟨(some 6), none, .q (.fad 5 (.t 3))⟩,
      ⟨(some 7), none, .q (.load false 1 (.t 6))⟩,
      ⟨(some 8), none, .a (.call (.fn 148) false [.lend (.t 7)])⟩,
      ⟨(some 9), none, .q (.mov (.t 8))⟩,
      ⟨(some 10), (some (9, true)), .q (.fad 4 (.t 3))⟩,
      ⟨(some 11), (some (9, true)), .q (.load false 1 (.t 10))⟩,
      ⟨(some 12), (some (9, true)), .a (.call (.fn 148) false [.lend (.t 11)])⟩,
      ⟨(some 13), none, .q (.pick (.t 9) (.t 12) (.c (.bool false)))⟩,
      ⟨(some 5), none, .a (.asg (.t 13))⟩])
    (.seq
     (.join [0, 3, 36]
      (.reg [⟨(some 14), none, .q (.mov (.t 5))⟩,
        ⟨(some 15), none, .q (.un .not (.t 14))⟩,
        ⟨(some 16), none, .q (.mov (.t 15))⟩,
        ⟨(some 17), (some (16, true)), .q (.fad 5 (.t 3))⟩,
        ⟨(some 18), (some (16, true)), .q (.load false 1 (.t 17))⟩,
        ⟨(some 19), (some (16, true)), .q (.bin false .neq (.t 18) (.c (.string ({ data := #[] }))))⟩,
        ⟨(some 20), (some (16, true)), .q (.mov (.t 19))⟩,
        ⟨(some 21), (some (20, false)), .q (.fad 4 (.t 3))⟩,
        ⟨(some 22), (some (20, false)), .q (.load false 1 (.t 21))⟩,
        ⟨(some 23), (some (20, false)), .q (.bin false .neq (.t 22) (.c (.string ({ data := #[] }))))⟩,
        ⟨(some 24), (some (16, true)), .q (.pick (.t 20) (.c (.bool true)) (.t 23))⟩,
        ⟨(some 25), none, .q (.pick (.t 16) (.t 24) (.c (.bool false)))⟩,
        ⟨(some 26), none, .q (.mov (.t 25))⟩,
        ⟨(some 27), (some (26, false)), .q (.fad 0 (.t 3))⟩,
        ⟨(some 28), (some (26, false)), .q (.load false 1 (.t 27))⟩,
        ⟨(some 29), (some (26, false)), .q (.bin false .neq (.t 28) (.c (.int .i64 5)))⟩,
        ⟨(some 30), (some (26, false)), .q (.mov (.t 29))⟩,
        ⟨(some 31), (some (30, true)), .q (.fad 3 (.t 3))⟩,
        ⟨(some 32), (some (30, true)), .q (.load false 1 (.t 31))⟩,
        ⟨(some 33), (some (30, true)), .q (.len false (.t 32))⟩,
        ⟨(some 34), (some (30, true)), .q (.bin false .gtr (.t 33) (.c (.int .i64 0)))⟩,
        ⟨(some 35), (some (26, false)), .q (.pick (.t 30) (.t 34) (.c (.bool false)))⟩,
        ⟨(some 36), none, .q (.pick (.t 26) (.c (.bool true)) (.t 35))⟩])
      (.cond (.t 36)
       (.seq
        (.reg [⟨(some 4), none, .a (.asg (.c (.bool false)))⟩])
        .ret)
       .skip))
     (.seq
      (.seq
       (.reg [⟨(some 37), none, .q (.fad 0 (.t 3))⟩,
         ⟨(some 38), none, .q (.load false 1 (.t 37))⟩])
       (.block 0
        (.seq
         (.reg [⟨(some 40), none, .q (.bin false .eql (.t 38) (.c (.int .i64 4)))⟩,
           ⟨(some 39), none, .a (.asg (.t 40))⟩])
         (.cond (.t 39)
          (.seq
           (.reg [⟨(some 41), none, .q (.fad 1 (.t 3))⟩,
             ⟨(some 42), none, .q (.load false 1 (.t 41))⟩,
             ⟨(some 43), none, .a (.call (.fn 72) false [.lend (.t 42), .lend (.c (.int .i64 1)), .lend (.c (.int .i64 1000))])⟩,
             ⟨(some 44), none, .q (.mov (.t 43))⟩,
             ⟨(some 45), (some (44, true)), .q (.fad 2 (.t 3))⟩,
             ⟨(some 46), (some (44, true)), .q (.load false 1 (.t 45))⟩,
             ⟨(some 47), (some (44, true)), .q (.mov (.t 0))⟩,
             ⟨(some 48), (some (44, true)), .q (.len false (.t 47))⟩,
             ⟨(some 49), (some (44, true)), .q (.bin false .sub (.t 48) (.c (.int .i64 1)))⟩,
             ⟨(some 50), (some (44, true)), .a (.call (.fn 72) false [.lend (.t 46), .lend (.c (.int .i64 0)), .lend (.t 49)])⟩,
             ⟨(some 51), none, .q (.pick (.t 44) (.t 50) (.c (.bool false)))⟩,
             ⟨(some 4), none, .a (.asg (.t 51))⟩])
           .ret)
          (.seq
           (.reg [⟨(some 53), none, .q (.bin false .eql (.t 38) (.c (.int .i64 5)))⟩,
             ⟨(some 52), none, .a (.asg (.t 53))⟩])
           (.cond (.t 52)
            (.seq
             (.reg [⟨(some 54), none, .q (.fad 1 (.t 3))⟩,
               ⟨(some 55), none, .q (.load false 1 (.t 54))⟩,
               ⟨(some 56), none, .q (.bin false .eql (.t 55) (.c (.int .i64 0)))⟩,
               ⟨(some 57), none, .q (.mov (.t 56))⟩,
               ⟨(some 58), (some (57, true)), .q (.fad 2 (.t 3))⟩,
               ⟨(some 59), (some (57, true)), .q (.load false 1 (.t 58))⟩,
               ⟨(some 60), (some (57, true)), .q (.bin false .eql (.t 59) (.c (.int .i64 (-1))))⟩,
               ⟨(some 61), (some (57, true)), .q (.mov (.t 60))⟩,
               ⟨(some 62), (some (61, false)), .q (.mov (.t 0))⟩,
               ⟨(some 63), (some (61, false)), .q (.fad 2 (.t 3))⟩,
               ⟨(some 64), (some (61, false)), .q (.load false 1 (.t 63))⟩,
               ⟨(some 65), (some (61, false)), .a (.call (.fn 59) false [.lend (.t 62), .lend (.t 64), .lend (.c (.int .i64 5)), .lend (.c (.int .i64 5))])⟩,
               ⟨(some 66), (some (57, true)), .q (.pick (.t 61) (.c (.bool true)) (.t 65))⟩,
               ⟨(some 67), none, .q (.pick (.t 57) (.t 66) (.c (.bool false)))⟩,
               ⟨(some 68), none, .q (.mov (.t 67))⟩,
               ⟨(some 69), (some (68, true)), .q (.mov (.t 0))⟩,
               ⟨(some 70), (some (68, true)), .q (.fad 3 (.t 3))⟩,
               ⟨(some 71), (some (68, true)), .q (.load false 1 (.t 70))⟩,
               ⟨(some 72), (some (68, true)), .a (.call (.fn 233) false [.lend (.t 69), .lend (.t 71)])⟩,
               ⟨(some 73), none, .q (.pick (.t 68) (.t 72) (.c (.bool false)))⟩,
               ⟨(some 4), none, .a (.asg (.t 73))⟩])
             .ret)
            .skip))))))
      (.seq
       (.reg [⟨(some 74), none, .q (.fad 0 (.t 3))⟩,
         ⟨(some 75), none, .q (.load false 1 (.t 74))⟩,
         ⟨(some 76), none, .q (.bin false .eql (.t 75) (.c (.int .i64 6)))⟩,
         ⟨(some 77), none, .q (.mov (.t 76))⟩,
         ⟨(some 78), (some (77, true)), .q (.fad 1 (.t 3))⟩,
         ⟨(some 79), (some (77, true)), .q (.load false 1 (.t 78))⟩,
         ⟨(some 80), (some (77, true)), .q (.bin false .eql (.t 79) (.c (.int .i64 0)))⟩,
         ⟨(some 81), none, .q (.pick (.t 77) (.t 80) (.c (.bool false)))⟩,
         ⟨(some 82), none, .q (.mov (.t 81))⟩,
         ⟨(some 83), (some (82, true)), .q (.mov (.t 0))⟩,
         ⟨(some 84), (some (82, true)), .q (.fad 2 (.t 3))⟩,
         ⟨(some 85), (some (82, true)), .q (.load false 1 (.t 84))⟩,
         ⟨(some 86), (some (82, true)), .a (.call (.fn 59) false [.lend (.t 83), .lend (.t 85), .lend (.c (.int .i64 5)), .lend (.c (.int .i64 4))])⟩,
         ⟨(some 87), none, .q (.pick (.t 82) (.t 86) (.c (.bool false)))⟩,
         ⟨(some 4), none, .a (.asg (.t 87))⟩])
       .ret)))))

set_option maxHeartbeats 1000000 in
set_option maxRecDepth 100000 in
theorem d195 (l : List Ty) (t : Ty) (hl : (l.length : Int) ≤ 1048576) (ht : t.sm) :
    Does Go.Proofs.Tryz.prog 195 [.fsl 6 (l.map Ty.z), .agg t.z] false (.v (.bool (tyOk l t))) [.dead, .dead] := by
  have ht0 := ht
  unfold Ty.sm at ht
  have d7 := d233 l t.fields hl ht.2.2.2.1.1 ht.2.2.2.1.2
  have hw : IntKind.i64.wrap ((l.length : Int) - 1) = (l.length : Int) - 1 := w64 _ (by omega)
  refine does_intro (mc := m195) (N := 88) (rs := [4]) (fx := []) 2 rfl (by decide +kernel) ?_
  simp only [m195, Ty.z, EV, Nat.reduceEqDiff, Nat.reduceBEq, Nat.reduceLT, Nat.reduceLeDiff, Nat.reduceAdd, Nat.reduceSub, reduceIte]
  refine awp_join (fun _ : Unit => True) (fun _ => stl [(0, .fsl 6 (l.map Ty.z)), (3, .box 40 t.z), (5, .v (.bool (nameOk t.name && nameOk t.owner)))]) ?_ ?_
  · simp only [EV, Nat.reduceEqDiff, Nat.reduceBEq, Nat.reduceLT, Nat.reduceLeDiff, Nat.reduceAdd, Nat.reduceSub, reduceIte]
    refine callK_i (d148 _ (by omega)) ?_
    simp only [EV, Nat.reduceEqDiff, Nat.reduceBEq, Nat.reduceLT, Nat.reduceLeDiff, Nat.reduceAdd, Nat.reduceSub, reduceIte]
    rcases e1 : nameOk t.name with _ | _
    · simp only [e1, Ty.z, EV, Nat.reduceEqDiff, Nat.reduceBEq, Nat.reduceLT, Nat.reduceLeDiff, Nat.reduceAdd, Nat.reduceSub, reduceIte]
      first | exact ⟨(), rfl⟩ | exact ⟨(), trivial⟩
    · simp only [e1, Ty.z, EV, Nat.reduceEqDiff, Nat.reduceBEq, Nat.reduceLT, Nat.reduceLeDiff, Nat.reduceAdd, Nat.reduceSub, reduceIte]
      refine callK_i (d148 _ (by omega)) ?_
      simp only [e1, Ty.z, EV, Nat.reduceEqDiff, Nat.reduceBEq, Nat.reduceLT, Nat.reduceLeDiff, Nat.reduceAdd, Nat.reduceSub, reduceIte]
      first | exact ⟨(), rfl⟩ | exact ⟨(), trivial⟩
  rintro _ _
  simp only [Ty.z, EV, Nat.reduceEqDiff, Nat.reduceBEq, Nat.reduceLT, Nat.reduceLeDiff, Nat.reduceAdd, Nat.reduceSub, reduceIte]
  refine awp_join (fun _ : Unit => True) (fun _ => stl [(0, .fsl 6 (l.map Ty.z)), (3, .box 40 t.z), (36, .v (.bool (!tyHead t)))]) ?_ ?_
  · simp only [EV, Nat.reduceEqDiff, Nat.reduceBEq, Nat.reduceLT, Nat.reduceLeDiff, Nat.reduceAdd, Nat.reduceSub, reduceIte]
    rcases q : (nameOk t.name && nameOk t.owner) with _ | _ <;> rcases e5 : (t.kind == 5) with _ | _ <;> rcases e0 : decide (0 < (t.fields.length : Int)) with _ | _ <;> rcases en : (t.name.toList == (⟨#[]⟩ : ByteArray).toList) with _ | _ <;> rcases eo : (t.owner.toList == (⟨#[]⟩ : ByteArray).toList) with _ | _
    all_goals simp only [q, e5, e0, en, eo, bne, tyHead, named, Bool.not_not, Bool.not_true, Bool.not_false, Bool.true_and, Bool.false_and, Bool.and_true, Bool.and_false, Bool.true_or, Bool.false_or, Bool.or_false, Bool.or_true, Bool.and_self, Ty.z, EV, Nat.reduceEqDiff, Nat.reduceBEq, Nat.reduceLT, Nat.reduceLeDiff, Nat.reduceAdd, Nat.reduceSub, reduceIte]
    all_goals first | exact ⟨(), rfl⟩ | exact ⟨(), trivial⟩
  rintro _ _
  simp only [Ty.z, EV, Nat.reduceEqDiff, Nat.reduceBEq, Nat.reduceLT, Nat.reduceLeDiff, Nat.reduceAdd, Nat.reduceSub, reduceIte]
  rcases q : tyHead t with _ | _
  · have e : tyOk l t = false := by rw [tyOk_eq, q, Bool.false_and]
    simp only [Bool.not_false, EV, Nat.reduceEqDiff, Nat.reduceBEq, Nat.reduceLT, Nat.reduceLeDiff, Nat.reduceAdd, Nat.reduceSub, reduceIte]
    simp only [e, EV, Nat.reduceEqDiff, Nat.reduceBEq, Nat.reduceLT, Nat.reduceLeDiff, Nat.reduceAdd, Nat.reduceSub, reduceIte, evRE, retVC, cellV', evR, nfz, nfzs, nfzss, List.contains_nil, List.contains_cons, Bool.or_false, or_true]
  have e : tyOk l t = tyRest l t := by rw [tyOk_eq, q, Bool.true_and]
  have hnum : (decide (0 ≤ t.base) && decide (t.base ≤ (l.length : Int) - 1)) = isNum l t.base := rfl
  simp only [Bool.not_true, EV, Nat.reduceEqDiff, Nat.reduceBEq, Nat.reduceLT, Nat.reduceLeDiff, Nat.reduceAdd, Nat.reduceSub, reduceIte]
  repeat' (first
    | (refine gK_cut (fun h => ?_) (fun h => ?_) <;> simp only [h, bne, hw, EV, Nat.reduceEqDiff, Nat.reduceBEq, Nat.reduceLT, Nat.reduceLeDiff, Nat.reduceAdd, Nat.reduceSub, reduceIte])
    | (refine cK_cut (fun h => ?_) (fun h => ?_) <;> simp only [h, bne, hw, EV, Nat.reduceEqDiff, Nat.reduceBEq, Nat.reduceLT, Nat.reduceLeDiff, Nat.reduceAdd, Nat.reduceSub, reduceIte])
    | (refine callK_i d7 ?_ <;> simp only [h, bne, hw, EV, Nat.reduceEqDiff, Nat.reduceBEq, Nat.reduceLT, Nat.reduceLeDiff, Nat.reduceAdd, Nat.reduceSub, reduceIte])
    | (refine callK_i (d72 _ _ _) ?_ <;> simp only [h, bne, hw, EV, Nat.reduceEqDiff, Nat.reduceBEq, Nat.reduceLT, Nat.reduceLeDiff, Nat.reduceAdd, Nat.reduceSub, reduceIte])
    | (refine callK_i (d59 l _ _ _ hl) ?_ <;> simp only [h, bne, hw, EV, Nat.reduceEqDiff, Nat.reduceBEq, Nat.reduceLT, Nat.reduceLeDiff, Nat.reduceAdd, Nat.reduceSub, reduceIte]))
  all_goals (try simp only [Bool.not_eq_true', Bool.not_eq_false'] at *)
  all_goals first
    | exact absurd ((‹(t.kind == 5) = false›).symm.trans ‹(t.kind == 5) = true›) Bool.false_ne_true
    | (simp only [e, tyRest, *, Bool.not_true, Bool.not_false, Bool.true_and, Bool.false_and, Bool.and_true, Bool.and_false, Bool.true_or, Bool.false_or, Bool.or_false, Bool.or_true, Bool.false_eq_true, if_true, if_false, EV, Nat.reduceEqDiff, Nat.reduceBEq, Nat.reduceLT, Nat.reduceLeDiff, Nat.reduceAdd, Nat.reduceSub, reduceIte, evRE, retVC, cellV', evR, nfz, nfzs, nfzss, List.contains_nil, List.contains_cons, Bool.or_false, or_true]
       done)

end Go.AM
